/- Printed by a program of ours: models of functions, and that calls do what they say. -/
import Derived.Test.YtmlmlfghogoadaaProg
import Derived.Test.YtmlmlfghogoadaaCoreMF
import Derived.Test.YtmlmlfghogoadaaGsnY
import Derived.KernelRfl
set_option linter.unusedVariables false
set_option linter.unusedSimpArgs false
set_option linter.unnecessarySimpa false
namespace Go.Proofs.Ytmlmlfghogoadaa
open Go GL
set_option maxRecDepth 100000
set_option maxHeartbeats 2000000
set_option linter.unusedVariables false

structure Config where
  Id : UInt32
  Members : Int
  Chunk : Int
  Rows : Int
  Log : Int
  Heads : Int
  deriving Inhabited, DecidableEq
instance : Rp Config := Rp.via (inferInstance : Rp (UInt32 × Int × Int × Int × Int × Int)) (fun x => (x.Id, x.Members, x.Chunk, x.Rows, x.Log, x.Heads))
theorem chConfig (x : Config) : Ch x [⟨inferInstance, x.Id⟩, ⟨inferInstance, x.Members⟩, ⟨inferInstance, x.Chunk⟩, ⟨inferInstance, x.Rows⟩, ⟨inferInstance, x.Log⟩, ⟨inferInstance, x.Heads⟩] := Ch.via (ChT.cons (ChT.cons (ChT.cons (ChT.cons (ChT.cons (ChT.one _))))))
instance : Lo Config := Lo.via (inferInstance : Rp (UInt32 × Int × Int × Int × Int × Int)) inferInstance (fun x : Config => (x.Id, x.Members, x.Chunk, x.Rows, x.Log, x.Heads))
theorem loConfig_0 (x : Config) : LoAt x 0 x.Id := fun F cs w h => (LoAt.fst : LoAt ((x.Id, x.Members, x.Chunk, x.Rows, x.Log, x.Heads)) 0 x.Id) F cs w h
theorem loConfig_1 (x : Config) : LoAt x 1 x.Members := fun F cs w h => ((LoAt.snd LoAt.fst) : LoAt ((x.Id, x.Members, x.Chunk, x.Rows, x.Log, x.Heads)) 1 x.Members) F cs w h
theorem loConfig_2 (x : Config) : LoAt x 2 x.Chunk := fun F cs w h => ((LoAt.snd (LoAt.snd LoAt.fst)) : LoAt ((x.Id, x.Members, x.Chunk, x.Rows, x.Log, x.Heads)) 2 x.Chunk) F cs w h
theorem loConfig_3 (x : Config) : LoAt x 3 x.Rows := fun F cs w h => ((LoAt.snd (LoAt.snd (LoAt.snd LoAt.fst))) : LoAt ((x.Id, x.Members, x.Chunk, x.Rows, x.Log, x.Heads)) 3 x.Rows) F cs w h
theorem loConfig_4 (x : Config) : LoAt x 4 x.Log := fun F cs w h => ((LoAt.snd (LoAt.snd (LoAt.snd (LoAt.snd LoAt.fst)))) : LoAt ((x.Id, x.Members, x.Chunk, x.Rows, x.Log, x.Heads)) 4 x.Log) F cs w h
theorem loConfig_5 (x : Config) : LoAt x 5 x.Heads := fun F cs w h => ((LoAt.snd (LoAt.snd (LoAt.snd (LoAt.snd (LoAt.snd LoAt.self))))) : LoAt ((x.Id, x.Members, x.Chunk, x.Rows, x.Log, x.Heads)) 5 x.Heads) F cs w h
instance : Flat Config := ⟨fun F F' x cs w w' h => Flat.flat (α := UInt32 × Int × Int × Int × Int × Int) F F' ((x.Id, x.Members, x.Chunk, x.Rows, x.Log, x.Heads)) cs w w' h⟩

structure Loss where
  Events : UInt32
  Lost : Int
  Spare : Bool
  Pos : Int
  Done : Int
  NoLog : Bool
  Broken : Bool
  deriving Inhabited, DecidableEq
instance : Rp Loss := Rp.via (inferInstance : Rp (UInt32 × Int × Bool × Int × Int × Bool × Bool)) (fun x => (x.Events, x.Lost, x.Spare, x.Pos, x.Done, x.NoLog, x.Broken))
theorem chLoss (x : Loss) : Ch x [⟨inferInstance, x.Events⟩, ⟨inferInstance, x.Lost⟩, ⟨inferInstance, x.Spare⟩, ⟨inferInstance, x.Pos⟩, ⟨inferInstance, x.Done⟩, ⟨inferInstance, x.NoLog⟩, ⟨inferInstance, x.Broken⟩] := Ch.via (ChT.cons (ChT.cons (ChT.cons (ChT.cons (ChT.cons (ChT.cons (ChT.one _)))))))
instance : Lo Loss := Lo.via (inferInstance : Rp (UInt32 × Int × Bool × Int × Int × Bool × Bool)) inferInstance (fun x : Loss => (x.Events, x.Lost, x.Spare, x.Pos, x.Done, x.NoLog, x.Broken))
theorem loLoss_0 (x : Loss) : LoAt x 0 x.Events := fun F cs w h => (LoAt.fst : LoAt ((x.Events, x.Lost, x.Spare, x.Pos, x.Done, x.NoLog, x.Broken)) 0 x.Events) F cs w h
theorem loLoss_1 (x : Loss) : LoAt x 1 x.Lost := fun F cs w h => ((LoAt.snd LoAt.fst) : LoAt ((x.Events, x.Lost, x.Spare, x.Pos, x.Done, x.NoLog, x.Broken)) 1 x.Lost) F cs w h
theorem loLoss_2 (x : Loss) : LoAt x 2 x.Spare := fun F cs w h => ((LoAt.snd (LoAt.snd LoAt.fst)) : LoAt ((x.Events, x.Lost, x.Spare, x.Pos, x.Done, x.NoLog, x.Broken)) 2 x.Spare) F cs w h
theorem loLoss_3 (x : Loss) : LoAt x 3 x.Pos := fun F cs w h => ((LoAt.snd (LoAt.snd (LoAt.snd LoAt.fst))) : LoAt ((x.Events, x.Lost, x.Spare, x.Pos, x.Done, x.NoLog, x.Broken)) 3 x.Pos) F cs w h
theorem loLoss_4 (x : Loss) : LoAt x 4 x.Done := fun F cs w h => ((LoAt.snd (LoAt.snd (LoAt.snd (LoAt.snd LoAt.fst)))) : LoAt ((x.Events, x.Lost, x.Spare, x.Pos, x.Done, x.NoLog, x.Broken)) 4 x.Done) F cs w h
theorem loLoss_5 (x : Loss) : LoAt x 5 x.NoLog := fun F cs w h => ((LoAt.snd (LoAt.snd (LoAt.snd (LoAt.snd (LoAt.snd LoAt.fst))))) : LoAt ((x.Events, x.Lost, x.Spare, x.Pos, x.Done, x.NoLog, x.Broken)) 5 x.NoLog) F cs w h
theorem loLoss_6 (x : Loss) : LoAt x 6 x.Broken := fun F cs w h => ((LoAt.snd (LoAt.snd (LoAt.snd (LoAt.snd (LoAt.snd (LoAt.snd LoAt.self)))))) : LoAt ((x.Events, x.Lost, x.Spare, x.Pos, x.Done, x.NoLog, x.Broken)) 6 x.Broken) F cs w h
instance : Flat Loss := ⟨fun F F' x cs w w' h => Flat.flat (α := UInt32 × Int × Bool × Int × Int × Bool × Bool) F F' ((x.Events, x.Lost, x.Spare, x.Pos, x.Done, x.NoLog, x.Broken)) cs w w' h⟩

structure Deal where
  Stripe : Int
  Slots : List Int
  Blocks : List (List UInt8)
  Parity : List UInt8
  deriving Inhabited, DecidableEq
instance : Rp Deal := Rp.via (inferInstance : Rp (Int × (List Int) × (List (List UInt8)) × (List UInt8))) (fun x => (x.Stripe, x.Slots, x.Blocks, x.Parity))
theorem chDeal (x : Deal) : Ch x [⟨inferInstance, x.Stripe⟩, ⟨inferInstance, x.Slots⟩, ⟨inferInstance, x.Blocks⟩, ⟨inferInstance, x.Parity⟩] := Ch.via (ChT.cons (ChT.cons (ChT.cons (ChT.one _))))
instance : Lo Deal := Lo.via (inferInstance : Rp (Int × (List Int) × (List (List UInt8)) × (List UInt8))) inferInstance (fun x : Deal => (x.Stripe, x.Slots, x.Blocks, x.Parity))
theorem loDeal_0 (x : Deal) : LoAt x 0 x.Stripe := fun F cs w h => (LoAt.fst : LoAt ((x.Stripe, x.Slots, x.Blocks, x.Parity)) 0 x.Stripe) F cs w h
theorem loDeal_1 (x : Deal) : LoAt x 1 x.Slots := fun F cs w h => ((LoAt.snd LoAt.fst) : LoAt ((x.Stripe, x.Slots, x.Blocks, x.Parity)) 1 x.Slots) F cs w h
theorem loDeal_2 (x : Deal) : LoAt x 2 x.Blocks := fun F cs w h => ((LoAt.snd (LoAt.snd LoAt.fst)) : LoAt ((x.Stripe, x.Slots, x.Blocks, x.Parity)) 2 x.Blocks) F cs w h
theorem loDeal_3 (x : Deal) : LoAt x 3 x.Parity := fun F cs w h => ((LoAt.snd (LoAt.snd (LoAt.snd LoAt.self))) : LoAt ((x.Stripe, x.Slots, x.Blocks, x.Parity)) 3 x.Parity) F cs w h

structure Found where
  Age : UInt32
  Seq : UInt32
  Deal : Deal
  deriving Inhabited, DecidableEq
instance : Rp Found := Rp.via (inferInstance : Rp (UInt32 × UInt32 × Deal)) (fun x => (x.Age, x.Seq, x.Deal))
theorem chFound (x : Found) : Ch x [⟨inferInstance, x.Age⟩, ⟨inferInstance, x.Seq⟩, ⟨inferInstance, x.Deal⟩] := Ch.via (ChT.cons (ChT.cons (ChT.one _)))
instance : Lo Found := Lo.via (inferInstance : Rp (UInt32 × UInt32 × Deal)) inferInstance (fun x : Found => (x.Age, x.Seq, x.Deal))
theorem loFound_0 (x : Found) : LoAt x 0 x.Age := fun F cs w h => (LoAt.fst : LoAt ((x.Age, x.Seq, x.Deal)) 0 x.Age) F cs w h
theorem loFound_1 (x : Found) : LoAt x 1 x.Seq := fun F cs w h => ((LoAt.snd LoAt.fst) : LoAt ((x.Age, x.Seq, x.Deal)) 1 x.Seq) F cs w h
theorem loFound_2 (x : Found) : LoAt x 2 x.Deal := fun F cs w h => ((LoAt.snd (LoAt.snd LoAt.self)) : LoAt ((x.Age, x.Seq, x.Deal)) 2 x.Deal) F cs w h

structure Write where
  At : Int
  Data : List UInt8
  deriving Inhabited, DecidableEq
instance : Rp Write := Rp.via (inferInstance : Rp (Int × (List UInt8))) (fun x => (x.At, x.Data))
theorem chWrite (x : Write) : Ch x [⟨inferInstance, x.At⟩, ⟨inferInstance, x.Data⟩] := Ch.via (ChT.cons (ChT.one _))
instance : Lo Write := Lo.via (inferInstance : Rp (Int × (List UInt8))) inferInstance (fun x : Write => (x.At, x.Data))
theorem loWrite_0 (x : Write) : LoAt x 0 x.At := fun F cs w h => (LoAt.fst : LoAt ((x.At, x.Data)) 0 x.At) F cs w h
theorem loWrite_1 (x : Write) : LoAt x 1 x.Data := fun F cs w h => ((LoAt.snd LoAt.self) : LoAt ((x.At, x.Data)) 1 x.Data) F cs w h

structure Disk where
  Blocks : List (List UInt8)
  Wait : List Write
  Dead : Bool
  deriving Inhabited, DecidableEq
instance : Rp Disk := Rp.via (inferInstance : Rp ((List (List UInt8)) × (List Write) × Bool)) (fun x => (x.Blocks, x.Wait, x.Dead))
theorem chDisk (x : Disk) : Ch x [⟨inferInstance, x.Blocks⟩, ⟨inferInstance, x.Wait⟩, ⟨inferInstance, x.Dead⟩] := Ch.via (ChT.cons (ChT.cons (ChT.one _)))
instance : Lo Disk := Lo.via (inferInstance : Rp ((List (List UInt8)) × (List Write) × Bool)) inferInstance (fun x : Disk => (x.Blocks, x.Wait, x.Dead))
theorem loDisk_0 (x : Disk) : LoAt x 0 x.Blocks := fun F cs w h => (LoAt.fst : LoAt ((x.Blocks, x.Wait, x.Dead)) 0 x.Blocks) F cs w h
theorem loDisk_1 (x : Disk) : LoAt x 1 x.Wait := fun F cs w h => ((LoAt.snd LoAt.fst) : LoAt ((x.Blocks, x.Wait, x.Dead)) 1 x.Wait) F cs w h
theorem loDisk_2 (x : Disk) : LoAt x 2 x.Dead := fun F cs w h => ((LoAt.snd (LoAt.snd LoAt.self)) : LoAt ((x.Blocks, x.Wait, x.Dead)) 2 x.Dead) F cs w h

structure Act45 where
  Disk : Int
  Kind : UInt8
  At : Int
  Data : List UInt8
  deriving Inhabited, DecidableEq
instance : Rp Act45 := Rp.via (inferInstance : Rp (Int × UInt8 × Int × (List UInt8))) (fun x => (x.Disk, x.Kind, x.At, x.Data))
theorem chAct45 (x : Act45) : Ch x [⟨inferInstance, x.Disk⟩, ⟨inferInstance, x.Kind⟩, ⟨inferInstance, x.At⟩, ⟨inferInstance, x.Data⟩] := Ch.via (ChT.cons (ChT.cons (ChT.cons (ChT.one _))))
instance : Lo Act45 := Lo.via (inferInstance : Rp (Int × UInt8 × Int × (List UInt8))) inferInstance (fun x : Act45 => (x.Disk, x.Kind, x.At, x.Data))
theorem loAct45_0 (x : Act45) : LoAt x 0 x.Disk := fun F cs w h => (LoAt.fst : LoAt ((x.Disk, x.Kind, x.At, x.Data)) 0 x.Disk) F cs w h
theorem loAct45_1 (x : Act45) : LoAt x 1 x.Kind := fun F cs w h => ((LoAt.snd LoAt.fst) : LoAt ((x.Disk, x.Kind, x.At, x.Data)) 1 x.Kind) F cs w h
theorem loAct45_2 (x : Act45) : LoAt x 2 x.At := fun F cs w h => ((LoAt.snd (LoAt.snd LoAt.fst)) : LoAt ((x.Disk, x.Kind, x.At, x.Data)) 2 x.At) F cs w h
theorem loAct45_3 (x : Act45) : LoAt x 3 x.Data := fun F cs w h => ((LoAt.snd (LoAt.snd (LoAt.snd LoAt.self))) : LoAt ((x.Disk, x.Kind, x.At, x.Data)) 3 x.Data) F cs w h

structure Arr3_Int where
  e0 : Int
  e1 : Int
  e2 : Int
  deriving Inhabited, DecidableEq
instance : Rp Arr3_Int := Rp.via (inferInstance : Rp (Int × Int × Int)) (fun x => (x.e0, x.e1, x.e2))
theorem chArr3_Int (x : Arr3_Int) : Ch x [⟨inferInstance, x.e0⟩, ⟨inferInstance, x.e1⟩, ⟨inferInstance, x.e2⟩] := Ch.via (ChT.cons (ChT.cons (ChT.one _)))
instance : Lo Arr3_Int := Lo.via (inferInstance : Rp (Int × Int × Int)) inferInstance (fun x : Arr3_Int => (x.e0, x.e1, x.e2))
theorem loArr3_Int_0 (x : Arr3_Int) : LoAt x 0 x.e0 := fun F cs w h => (LoAt.fst : LoAt ((x.e0, x.e1, x.e2)) 0 x.e0) F cs w h
theorem loArr3_Int_1 (x : Arr3_Int) : LoAt x 1 x.e1 := fun F cs w h => ((LoAt.snd LoAt.fst) : LoAt ((x.e0, x.e1, x.e2)) 1 x.e1) F cs w h
theorem loArr3_Int_2 (x : Arr3_Int) : LoAt x 2 x.e2 := fun F cs w h => ((LoAt.snd (LoAt.snd LoAt.self)) : LoAt ((x.e0, x.e1, x.e2)) 2 x.e2) F cs w h
instance : Flat Arr3_Int := ⟨fun F F' x cs w w' h => Flat.flat (α := Int × Int × Int) F F' ((x.e0, x.e1, x.e2)) cs w w' h⟩

structure Row90 where
  Config : Config
  n : Int
  deriving Inhabited, DecidableEq
instance : Rp Row90 := Rp.via (inferInstance : Rp (Config × Int)) (fun x => (x.Config, x.n))
theorem chRow90 (x : Row90) : Ch x [⟨inferInstance, x.Config⟩, ⟨inferInstance, x.n⟩] := Ch.via (ChT.cons (ChT.one _))
instance : Lo Row90 := Lo.via (inferInstance : Rp (Config × Int)) inferInstance (fun x : Row90 => (x.Config, x.n))
theorem loRow90_0 (x : Row90) : LoAt x 0 x.Config := fun F cs w h => (LoAt.fst : LoAt ((x.Config, x.n)) 0 x.Config) F cs w h
theorem loRow90_1 (x : Row90) : LoAt x 6 x.n := fun F cs w h => ((LoAt.snd LoAt.self) : LoAt ((x.Config, x.n)) 6 x.n) F cs w h
instance : Flat Row90 := ⟨fun F F' x cs w w' h => Flat.flat (α := Config × Int) F F' ((x.Config, x.n)) cs w w' h⟩

structure Arr4_FnI737475 where
  e0 : FnI [73, 74, 75]
  e1 : FnI [73, 74, 75]
  e2 : FnI [73, 74, 75]
  e3 : FnI [73, 74, 75]
  deriving Inhabited, DecidableEq
instance : Rp Arr4_FnI737475 := Rp.via (inferInstance : Rp ((FnI [73, 74, 75]) × (FnI [73, 74, 75]) × (FnI [73, 74, 75]) × (FnI [73, 74, 75]))) (fun x => (x.e0, x.e1, x.e2, x.e3))
theorem chArr4_FnI737475 (x : Arr4_FnI737475) : Ch x [⟨inferInstance, x.e0⟩, ⟨inferInstance, x.e1⟩, ⟨inferInstance, x.e2⟩, ⟨inferInstance, x.e3⟩] := Ch.via (ChT.cons (ChT.cons (ChT.cons (ChT.one _))))
instance : Flat Arr4_FnI737475 := ⟨fun F F' x cs w w' h => Flat.flat (α := (FnI [73, 74, 75]) × (FnI [73, 74, 75]) × (FnI [73, 74, 75]) × (FnI [73, 74, 75])) F F' ((x.e0, x.e1, x.e2, x.e3)) cs w w' h⟩

theorem zl30 : ZeroLs Try.prog 30 [(false, 1, Fact.rep [] ((0 : UInt32) : UInt32)), (false, 1, Fact.rep [] ((0 : Int) : Int)), (false, 1, Fact.rep [] ((0 : Int) : Int)), (false, 1, Fact.rep [] ((0 : Int) : Int)), (false, 1, Fact.rep [] ((0 : Int) : Int)), (false, 1, Fact.rep [] ((0 : Int) : Int))] := ⟨⟨[.int .u32 0, .int .i64 0, .int .i64 0, .int .i64 0, .int .i64 0, .int .i64 0], by kernel_rfl, fun g w => FldRel.zr (fun _ _ => rfl) (FldRel.zr (fun _ _ => rfl) (FldRel.zr (fun _ _ => rfl) (FldRel.zr (fun _ _ => rfl) (FldRel.zr (fun _ _ => rfl) (FldRel.zr (fun _ _ => rfl) (rfl))))))⟩⟩
theorem bd30 : BuildTy Try.prog 30 [(0, 1), (1, 1), (2, 1), (3, 1), (4, 1), (5, 1)] [(false, 1, Fact.rep [] ((0 : UInt32) : UInt32)), (false, 1, Fact.rep [] ((0 : Int) : Int)), (false, 1, Fact.rep [] ((0 : Int) : Int)), (false, 1, Fact.rep [] ((0 : Int) : Int)), (false, 1, Fact.rep [] ((0 : Int) : Int)), (false, 1, Fact.rep [] ((0 : Int) : Int))] := ⟨⟨_, [.int .u32 0, .int .i64 0, .int .i64 0, .int .i64 0, .int .i64 0, .int .i64 0], by kernel_rfl, Try.underlying30, (fun g w => FldRel.zr (fun _ _ => rfl) (FldRel.zr (fun _ _ => rfl) (FldRel.zr (fun _ _ => rfl) (FldRel.zr (fun _ _ => rfl) (FldRel.zr (fun _ _ => rfl) (FldRel.zr (fun _ _ => rfl) (rfl))))))), by kernel_rfl⟩⟩
theorem ty30 : Ty Try.prog 30 (Config) := Ty.of (by kernel_rfl)
theorem en9 : enters Try.prog 9 = true := by kernel_rfl
theorem zl33 : ZeroLs Try.prog 33 [(false, 1, Fact.rep [] ((0 : UInt32) : UInt32)), (false, 1, Fact.rep [] ((0 : Int) : Int)), (false, 1, Fact.rep [] (false : Bool)), (false, 1, Fact.rep [] ((0 : Int) : Int)), (false, 1, Fact.rep [] ((0 : Int) : Int)), (false, 1, Fact.rep [] (false : Bool)), (false, 1, Fact.rep [] (false : Bool))] := ⟨⟨[.int .u32 0, .int .i64 0, .bool false, .int .i64 0, .int .i64 0, .bool false, .bool false], by kernel_rfl, fun g w => FldRel.zr (fun _ _ => rfl) (FldRel.zr (fun _ _ => rfl) (FldRel.zr (fun _ _ => rfl) (FldRel.zr (fun _ _ => rfl) (FldRel.zr (fun _ _ => rfl) (FldRel.zr (fun _ _ => rfl) (FldRel.zr (fun _ _ => rfl) (rfl)))))))⟩⟩
theorem bd33 : BuildTy Try.prog 33 [(0, 1), (1, 1), (2, 1), (3, 1), (4, 1), (5, 1), (6, 1)] [(false, 1, Fact.rep [] ((0 : UInt32) : UInt32)), (false, 1, Fact.rep [] ((0 : Int) : Int)), (false, 1, Fact.rep [] (false : Bool)), (false, 1, Fact.rep [] ((0 : Int) : Int)), (false, 1, Fact.rep [] ((0 : Int) : Int)), (false, 1, Fact.rep [] (false : Bool)), (false, 1, Fact.rep [] (false : Bool))] := ⟨⟨_, [.int .u32 0, .int .i64 0, .bool false, .int .i64 0, .int .i64 0, .bool false, .bool false], by kernel_rfl, Try.underlying33, (fun g w => FldRel.zr (fun _ _ => rfl) (FldRel.zr (fun _ _ => rfl) (FldRel.zr (fun _ _ => rfl) (FldRel.zr (fun _ _ => rfl) (FldRel.zr (fun _ _ => rfl) (FldRel.zr (fun _ _ => rfl) (FldRel.zr (fun _ _ => rfl) (rfl)))))))), by kernel_rfl⟩⟩
theorem ty33 : Ty Try.prog 33 (Loss) := Ty.of (by kernel_rfl)
theorem en10 : enters Try.prog 10 = true := by kernel_rfl
theorem zl41 : ZeroLs Try.prog 41 [(false, 1, Fact.rep [] ((0 : UInt32) : UInt32)), (false, 1, Fact.rep [] ((0 : UInt32) : UInt32)), (false, 1, Fact.rep [] ((0 : Int) : Int)), (false, 1, Fact.nilv), (false, 1, Fact.nilv), (false, 1, Fact.nilv)] := ⟨⟨[.int .u32 0, .int .u32 0, .int .i64 0, .slice none 0 0, .slice none 0 0, .slice none 0 0], by kernel_rfl, fun g w => FldRel.zr (fun _ _ => rfl) (FldRel.zr (fun _ _ => rfl) (FldRel.zr (fun _ _ => rfl) (FldRel.zn (FldRel.zn (FldRel.zn (rfl))))))⟩⟩
theorem ow35 : OwnTy Try.prog 35 3 (Int) := OwnTy.of Try.underlying35 (by kernel_rfl) rfl (by kernel_rfl)
theorem ow37 : OwnTy Try.prog 37 5 (UInt8) := OwnTy.of Try.underlying37 (by kernel_rfl) rfl (by kernel_rfl)
theorem zt5 : ZeroTy Try.prog 5 (0 : UInt8) := ⟨.int .u8 0, by kernel_rfl, fun _ => rfl⟩
theorem ty5 : Ty Try.prog 5 (UInt8) := Ty.of (by kernel_rfl)
theorem en21 : enters Try.prog 21 = true := by kernel_rfl
theorem ow36 : OwnTy Try.prog 36 37 (List UInt8) := OwnTy.of Try.underlying36 (by kernel_rfl) rfl (by kernel_rfl)
theorem bd39 : BuildTy Try.prog 39 [(0, 1), (1, 1), (2, 1), (3, 1)] [(false, 1, Fact.rep [] ((0 : Int) : Int)), (false, 1, Fact.nilv), (false, 1, Fact.nilv), (false, 1, Fact.nilv)] := ⟨⟨_, [.int .i64 0, .slice none 0 0, .slice none 0 0, .slice none 0 0], by kernel_rfl, Try.underlying39, (fun g w => FldRel.zr (fun _ _ => rfl) (FldRel.zn (FldRel.zn (FldRel.zn (rfl))))), by kernel_rfl⟩⟩
theorem bd41 : BuildTy Try.prog 41 [(0, 1), (1, 1), (2, 4)] [(false, 1, Fact.rep [] ((0 : UInt32) : UInt32)), (false, 1, Fact.rep [] ((0 : UInt32) : UInt32)), (true, 4, Fact.flds [(false, 1, Fact.rep [] ((0 : Int) : Int)), (false, 1, Fact.nilv), (false, 1, Fact.nilv), (false, 1, Fact.nilv)])] := ⟨⟨_, [.int .u32 0, .int .u32 0, .int .i64 0, .slice none 0 0, .slice none 0 0, .slice none 0 0], by kernel_rfl, Try.underlying41, (fun g w => FldRel.zr (fun _ _ => rfl) (FldRel.zr (fun _ _ => rfl) (FldRel.zs (c1 := [.int .i64 0, .slice none 0 0, .slice none 0 0, .slice none 0 0]) (FldRel.zr (fun _ _ => rfl) (FldRel.zn (FldRel.zn (FldRel.zn (rfl))))) (rfl)))), by kernel_rfl⟩⟩
theorem ty41 : Ty Try.prog 41 (Found) := Ty.of (by kernel_rfl)
theorem en12 : enters Try.prog 12 = true := by kernel_rfl
theorem en11 : enters Try.prog 11 = true := by kernel_rfl
theorem en26 : enters Try.prog 26 = true := by kernel_rfl
theorem ow43 : OwnTy Try.prog 43 41 (Found) := OwnTy.of Try.underlying43 (by kernel_rfl) rfl (by kernel_rfl)
theorem zl23 : ZeroLs Try.prog 23 [(false, 1, Fact.nilv)] := ⟨⟨[.slice none 0 0], by kernel_rfl, fun g w => FldRel.zn (rfl)⟩⟩
theorem fd30_2 : FieldTy Try.prog 30 2 2 1 := FieldTy.of Try.underlying30 (by kernel_rfl) rfl
theorem ty3 : Ty Try.prog 3 (Int) := Ty.of (by kernel_rfl)
theorem fd30_3 : FieldTy Try.prog 30 3 3 1 := FieldTy.of Try.underlying30 (by kernel_rfl) rfl
theorem fd30_1 : FieldTy Try.prog 30 1 1 1 := FieldTy.of Try.underlying30 (by kernel_rfl) rfl
theorem bd147 : BuildTyA Try.prog 147 [(0, 1), (1, 1), (2, 1)] [(false, 1, Fact.rep [] ((0 : Int) : Int)), (false, 1, Fact.rep [] ((0 : Int) : Int)), (false, 1, Fact.rep [] ((0 : Int) : Int))] := ⟨⟨_, _, 1, [.int .i64 0, .int .i64 0, .int .i64 0], by kernel_rfl, Try.underlying147, by kernel_rfl, (fun g w => FldRel.zr (fun _ _ => rfl) (FldRel.zr (fun _ _ => rfl) (FldRel.zr (fun _ _ => rfl) (rfl)))), rfl⟩⟩
theorem fd30_5 : FieldTy Try.prog 30 5 5 1 := FieldTy.of Try.underlying30 (by kernel_rfl) rfl
theorem ow152 : OwnTy Try.prog 152 147 (Arr3_Int) := OwnTy.of Try.underlying152 (by kernel_rfl) rfl (by kernel_rfl)
theorem sl152 : SlTy Try.prog 152 147 (Arr3_Int) := SlTy.of Try.underlying152 (by kernel_rfl) rfl
theorem ty147 : Ty Try.prog 147 (Arr3_Int) := Ty.of (by kernel_rfl)
theorem zl147 : ZeroLs Try.prog 147 [(false, 1, Fact.rep [] ((0 : Int) : Int)), (false, 1, Fact.rep [] ((0 : Int) : Int)), (false, 1, Fact.rep [] ((0 : Int) : Int))] := ⟨⟨[.int .i64 0, .int .i64 0, .int .i64 0], by kernel_rfl, fun g w => FldRel.zr (fun _ _ => rfl) (FldRel.zr (fun _ _ => rfl) (FldRel.zr (fun _ _ => rfl) (rfl)))⟩⟩
theorem sm147 : SmTy Try.prog 147 3 3 1 := ⟨Try.underlying147, by kernel_rfl⟩
theorem en101 : enters Try.prog 101 = true := by kernel_rfl
theorem fd30_4 : FieldTy Try.prog 30 4 4 1 := FieldTy.of Try.underlying30 (by kernel_rfl) rfl
theorem en93 : enters Try.prog 93 = true := by kernel_rfl
theorem en65 : enters Try.prog 65 = true := by kernel_rfl
theorem en45 : enters Try.prog 45 = true := by kernel_rfl
theorem fd33_0 : FieldTy Try.prog 33 0 0 1 := FieldTy.of Try.underlying33 (by kernel_rfl) rfl
theorem ty28 : Ty Try.prog 28 (UInt32) := Ty.of (by kernel_rfl)
theorem fd33_1 : FieldTy Try.prog 33 1 1 1 := FieldTy.of Try.underlying33 (by kernel_rfl) rfl
theorem fd33_4 : FieldTy Try.prog 33 4 4 1 := FieldTy.of Try.underlying33 (by kernel_rfl) rfl
theorem fd33_3 : FieldTy Try.prog 33 3 3 1 := FieldTy.of Try.underlying33 (by kernel_rfl) rfl
theorem fd33_2 : FieldTy Try.prog 33 2 2 1 := FieldTy.of Try.underlying33 (by kernel_rfl) rfl
theorem ty4 : Ty Try.prog 4 (Bool) := Ty.of (by kernel_rfl)
theorem en28 : enters Try.prog 28 = true := by kernel_rfl
theorem ty23 : Ty Try.prog 23 (List Act45) := Ty.of (by kernel_rfl)
theorem sl43 : SlTy Try.prog 43 41 (Found) := SlTy.of Try.underlying43 (by kernel_rfl) rfl
theorem fd41_2 : FieldTy Try.prog 41 2 2 4 := FieldTy.of Try.underlying41 (by kernel_rfl) rfl
theorem ty39 : Ty Try.prog 39 (Deal) := Ty.of (by kernel_rfl)
theorem fd39_2 : FieldTy Try.prog 39 2 2 1 := FieldTy.of Try.underlying39 (by kernel_rfl) rfl
theorem ty36 : Ty Try.prog 36 (List (List UInt8)) := Ty.of (by kernel_rfl)
theorem sl36 : SlTy Try.prog 36 37 (List UInt8) := SlTy.of Try.underlying36 (by kernel_rfl) rfl
theorem ty37 : Ty Try.prog 37 (List UInt8) := Ty.of (by kernel_rfl)
theorem en83 : enters Try.prog 83 = true := by kernel_rfl
theorem en55 : enters Try.prog 55 = true := by kernel_rfl
theorem en54 : enters Try.prog 54 = true := by kernel_rfl
theorem fd39_0 : FieldTy Try.prog 39 0 0 1 := FieldTy.of Try.underlying39 (by kernel_rfl) rfl
theorem fd39_1 : FieldTy Try.prog 39 1 1 1 := FieldTy.of Try.underlying39 (by kernel_rfl) rfl
theorem ty35 : Ty Try.prog 35 (List Int) := Ty.of (by kernel_rfl)
theorem sl35 : SlTy Try.prog 35 3 (Int) := SlTy.of Try.underlying35 (by kernel_rfl) rfl
theorem en56 : enters Try.prog 56 = true := by kernel_rfl
theorem fd39_3 : FieldTy Try.prog 39 3 3 1 := FieldTy.of Try.underlying39 (by kernel_rfl) rfl
theorem en31 : enters Try.prog 31 = true := by kernel_rfl
theorem en30 : enters Try.prog 30 = true := by kernel_rfl
theorem en29 : enters Try.prog 29 = true := by kernel_rfl
theorem bd78 : BuildTy Try.prog 78 [(0, 1), (1, 1)] [(false, 1, Fact.top), (false, 1, Fact.nilv)] := ⟨⟨_, [.map none, .slice none 0 0], by kernel_rfl, Try.underlying78, (fun g w => FldRel.zp rfl (FldRel.zn (rfl))), by kernel_rfl⟩⟩
theorem zl75 : ZeroLs Try.prog 75 [(false, 1, Fact.top)] := ⟨⟨[.pointer none], by kernel_rfl, fun g w => FldRel.zp rfl (rfl)⟩⟩
theorem tc75 : Ty Try.prog 75 Cell1 := Ty.of (by kernel_rfl)
theorem en32 : enters Try.prog 32 = true := by kernel_rfl
theorem ty75 : Ty Try.prog 75 (Int) := Ty.of (by kernel_rfl)
theorem en33 : enters Try.prog 33 = true := by kernel_rfl
theorem fd78_0 : FieldTy Try.prog 78 0 0 1 := FieldTy.of Try.underlying78 (by kernel_rfl) rfl
theorem ty76 : Ty Try.prog 76 (Int) := Ty.of (by kernel_rfl)
theorem mp76 : MapTy Try.prog 76 3 82 := MapTy.of Try.underlying76 Try.underlying3 (by kernel_rfl)
theorem mixed : Try.prog.follows .mixedOrders = true := by kernel_rfl
theorem fd78_1 : FieldTy Try.prog 78 1 1 1 := FieldTy.of Try.underlying78 (by kernel_rfl) rfl
theorem en84 : enters Try.prog 84 = true := by kernel_rfl
theorem en57 : enters Try.prog 57 = true := by kernel_rfl
theorem en58 : enters Try.prog 58 = true := by kernel_rfl
theorem zt3 : ZeroTy Try.prog 3 (0 : Int) := ⟨.int .i64 0, by kernel_rfl, fun _ => rfl⟩
theorem en98 : enters Try.prog 98 = true := by kernel_rfl
theorem en85 : enters Try.prog 85 = true := by kernel_rfl
theorem en86 : enters Try.prog 86 = true := by kernel_rfl
theorem en59 : enters Try.prog 59 = true := by kernel_rfl
theorem en60 : enters Try.prog 60 = true := by kernel_rfl
theorem iat60_3 : InsAtFn Try.prog 60 3 := fun _ _ _ _ _ _ _ h1 h2 h3 h4 h5 h6 h7 => insI_own h1 h2 h3 h4 h5 h6 h7
theorem en61 : enters Try.prog 61 = true := by kernel_rfl
theorem iat61_37 : InsAtFn Try.prog 61 37 := fun _ _ _ _ _ _ _ h1 h2 h3 h4 h5 h6 h7 => insY_own h1 h2 h3 h4 h5 h6 h7
theorem en62 : enters Try.prog 62 = true := by kernel_rfl
theorem en19 : enters Try.prog 19 = true := by kernel_rfl
theorem en63 : enters Try.prog 63 = true := by kernel_rfl
theorem bd139 : BuildTy Try.prog 139 [(0, 6), (6, 1), (7, 1), (8, 1)] [(true, 6, Fact.flds [(false, 1, Fact.rep [] ((0 : UInt32) : UInt32)), (false, 1, Fact.rep [] ((0 : Int) : Int)), (false, 1, Fact.rep [] ((0 : Int) : Int)), (false, 1, Fact.rep [] ((0 : Int) : Int)), (false, 1, Fact.rep [] ((0 : Int) : Int)), (false, 1, Fact.rep [] ((0 : Int) : Int))]), (false, 1, Fact.rep [] ((0 : Int) : Int)), (false, 1, Fact.rep [] ((0 : Int) : Int)), (false, 1, Fact.nilv)] := ⟨⟨_, [.int .u32 0, .int .i64 0, .int .i64 0, .int .i64 0, .int .i64 0, .int .i64 0, .int .i64 0, .int .i64 0, .slice none 0 0], by kernel_rfl, Try.underlying139, (fun g w => FldRel.zs (c1 := [.int .u32 0, .int .i64 0, .int .i64 0, .int .i64 0, .int .i64 0, .int .i64 0]) (FldRel.zr (fun _ _ => rfl) (FldRel.zr (fun _ _ => rfl) (FldRel.zr (fun _ _ => rfl) (FldRel.zr (fun _ _ => rfl) (FldRel.zr (fun _ _ => rfl) (FldRel.zr (fun _ _ => rfl) (rfl))))))) (FldRel.zr (fun _ _ => rfl) (FldRel.zr (fun _ _ => rfl) (FldRel.zn (rfl))))), by kernel_rfl⟩⟩
theorem en91 : enters Try.prog 91 = true := by kernel_rfl
theorem en92 : enters Try.prog 92 = true := by kernel_rfl
theorem fd139_0 : FieldTy Try.prog 139 0 0 6 := FieldTy.of Try.underlying139 (by kernel_rfl) rfl
theorem fd139_2 : FieldTy Try.prog 139 2 7 1 := FieldTy.of Try.underlying139 (by kernel_rfl) rfl
theorem zl90 : ZeroLs Try.prog 90 [(false, 1, Fact.rep [] ((0 : UInt32) : UInt32)), (false, 1, Fact.rep [] ((0 : Int) : Int)), (false, 1, Fact.rep [] ((0 : Int) : Int)), (false, 1, Fact.rep [] ((0 : Int) : Int)), (false, 1, Fact.rep [] ((0 : Int) : Int)), (false, 1, Fact.rep [] ((0 : Int) : Int)), (false, 1, Fact.rep [] ((0 : Int) : Int))] := ⟨⟨[.int .u32 0, .int .i64 0, .int .i64 0, .int .i64 0, .int .i64 0, .int .i64 0, .int .i64 0], by kernel_rfl, fun g w => FldRel.zr (fun _ _ => rfl) (FldRel.zr (fun _ _ => rfl) (FldRel.zr (fun _ _ => rfl) (FldRel.zr (fun _ _ => rfl) (FldRel.zr (fun _ _ => rfl) (FldRel.zr (fun _ _ => rfl) (FldRel.zr (fun _ _ => rfl) (rfl)))))))⟩⟩
theorem bd90 : BuildTy Try.prog 90 [(0, 6), (6, 1)] [(true, 6, Fact.flds [(false, 1, Fact.rep [] ((0 : UInt32) : UInt32)), (false, 1, Fact.rep [] ((0 : Int) : Int)), (false, 1, Fact.rep [] ((0 : Int) : Int)), (false, 1, Fact.rep [] ((0 : Int) : Int)), (false, 1, Fact.rep [] ((0 : Int) : Int)), (false, 1, Fact.rep [] ((0 : Int) : Int))]), (false, 1, Fact.rep [] ((0 : Int) : Int))] := ⟨⟨_, [.int .u32 0, .int .i64 0, .int .i64 0, .int .i64 0, .int .i64 0, .int .i64 0, .int .i64 0], by kernel_rfl, Try.underlying90, (fun g w => FldRel.zs (c1 := [.int .u32 0, .int .i64 0, .int .i64 0, .int .i64 0, .int .i64 0, .int .i64 0]) (FldRel.zr (fun _ _ => rfl) (FldRel.zr (fun _ _ => rfl) (FldRel.zr (fun _ _ => rfl) (FldRel.zr (fun _ _ => rfl) (FldRel.zr (fun _ _ => rfl) (FldRel.zr (fun _ _ => rfl) (rfl))))))) (FldRel.zr (fun _ _ => rfl) (rfl))), by kernel_rfl⟩⟩
theorem ty90 : Ty Try.prog 90 (Row90) := Ty.of (by kernel_rfl)
theorem en70 : enters Try.prog 70 = true := by kernel_rfl
theorem en40 : enters Try.prog 40 = true := by kernel_rfl
theorem fd90_1 : FieldTy Try.prog 90 1 6 1 := FieldTy.of Try.underlying90 (by kernel_rfl) rfl
theorem fd90_0 : FieldTy Try.prog 90 0 0 6 := FieldTy.of Try.underlying90 (by kernel_rfl) rfl
theorem en71 : enters Try.prog 71 = true := by kernel_rfl
theorem en41 : enters Try.prog 41 = true := by kernel_rfl
theorem en17 : enters Try.prog 17 = true := by kernel_rfl
theorem fd139_1 : FieldTy Try.prog 139 1 6 1 := FieldTy.of Try.underlying139 (by kernel_rfl) rfl
theorem en78 : enters Try.prog 78 = true := by kernel_rfl
theorem fd139_3 : FieldTy Try.prog 139 3 8 1 := FieldTy.of Try.underlying139 (by kernel_rfl) rfl
theorem bd45 : BuildTy Try.prog 45 [(0, 1), (1, 1), (2, 1), (3, 1)] [(false, 1, Fact.rep [] ((0 : Int) : Int)), (false, 1, Fact.rep [] ((0 : UInt8) : UInt8)), (false, 1, Fact.rep [] ((0 : Int) : Int)), (false, 1, Fact.nilv)] := ⟨⟨_, [.int .i64 0, .int .u8 0, .int .i64 0, .slice none 0 0], by kernel_rfl, Try.underlying45, (fun g w => FldRel.zr (fun _ _ => rfl) (FldRel.zr (fun _ _ => rfl) (FldRel.zr (fun _ _ => rfl) (FldRel.zn (rfl))))), by kernel_rfl⟩⟩
theorem ow23 : OwnTy Try.prog 23 45 (Act45) := OwnTy.of Try.underlying23 (by kernel_rfl) rfl (by kernel_rfl)
theorem en64 : enters Try.prog 64 = true := by kernel_rfl
theorem en34 : enters Try.prog 34 = true := by kernel_rfl
theorem ow24 : OwnTy Try.prog 24 39 (Deal) := OwnTy.of Try.underlying24 (by kernel_rfl) rfl (by kernel_rfl)
theorem en8 : enters Try.prog 8 = true := by kernel_rfl
theorem sl23 : SlTy Try.prog 23 45 (Act45) := SlTy.of Try.underlying23 (by kernel_rfl) rfl
theorem fd45_0 : FieldTy Try.prog 45 0 0 1 := FieldTy.of Try.underlying45 (by kernel_rfl) rfl
theorem fd45_2 : FieldTy Try.prog 45 2 2 1 := FieldTy.of Try.underlying45 (by kernel_rfl) rfl
theorem sl24 : SlTy Try.prog 24 39 (Deal) := SlTy.of Try.underlying24 (by kernel_rfl) rfl
theorem fo41_2 : ∃ fs fl, Try.prog.underlying 41 = some (.struct fs) ∧ fs[2]? = some fl ∧ fl.offset = 2 ∧ fl.type = 39 := ⟨_, _, Try.underlying41, rfl, rfl, rfl⟩
theorem sl37 : SlTy Try.prog 37 5 (UInt8) := SlTy.of Try.underlying37 (by kernel_rfl) rfl
theorem en82 : enters Try.prog 82 = true := by kernel_rfl
theorem en53 : enters Try.prog 53 = true := by kernel_rfl
theorem en27 : enters Try.prog 27 = true := by kernel_rfl
theorem en7 : enters Try.prog 7 = true := by kernel_rfl
theorem en35 : enters Try.prog 35 = true := by kernel_rfl
theorem en13 : enters Try.prog 13 = true := by kernel_rfl
theorem sl49 : SlTy Try.prog 49 61 (Disk) := SlTy.of Try.underlying49 (by kernel_rfl) rfl
theorem ty61 : Ty Try.prog 61 (Disk) := Ty.of (by kernel_rfl)
theorem fd61_0 : FieldTy Try.prog 61 0 0 1 := FieldTy.of Try.underlying61 (by kernel_rfl) rfl
theorem fd61_1 : FieldTy Try.prog 61 1 1 1 := FieldTy.of Try.underlying61 (by kernel_rfl) rfl
theorem ty59 : Ty Try.prog 59 (List Write) := Ty.of (by kernel_rfl)
theorem sl59 : SlTy Try.prog 59 86 (Write) := SlTy.of Try.underlying59 (by kernel_rfl) rfl
theorem fd86_1 : FieldTy Try.prog 86 1 1 1 := FieldTy.of Try.underlying86 (by kernel_rfl) rfl
theorem en36 : enters Try.prog 36 = true := by kernel_rfl
theorem en15 : enters Try.prog 15 = true := by kernel_rfl
theorem en37 : enters Try.prog 37 = true := by kernel_rfl
theorem en38 : enters Try.prog 38 = true := by kernel_rfl
theorem zl61 : ZeroLs Try.prog 61 [(false, 1, Fact.nilv), (false, 1, Fact.nilv), (false, 1, Fact.rep [] (false : Bool))] := ⟨⟨[.slice none 0 0, .slice none 0 0, .bool false], by kernel_rfl, fun g w => FldRel.zn (FldRel.zn (FldRel.zr (fun _ _ => rfl) (rfl)))⟩⟩
theorem zl3 : ZeroLs Try.prog 3 [(false, 1, Fact.rep [] ((0 : Int) : Int))] := ⟨⟨[.int .i64 0], by kernel_rfl, fun g w => FldRel.zr (fun _ _ => rfl) (rfl)⟩⟩
theorem en66 : enters Try.prog 66 = true := by kernel_rfl
theorem ty86 : Ty Try.prog 86 (Write) := Ty.of (by kernel_rfl)
theorem en94 : enters Try.prog 94 = true := by kernel_rfl
theorem fd86_0 : FieldTy Try.prog 86 0 0 1 := FieldTy.of Try.underlying86 (by kernel_rfl) rfl
theorem en68 : enters Try.prog 68 = true := by kernel_rfl
theorem en67 : enters Try.prog 67 = true := by kernel_rfl
theorem fd61_2 : FieldTy Try.prog 61 2 2 1 := FieldTy.of Try.underlying61 (by kernel_rfl) rfl
theorem en69 : enters Try.prog 69 = true := by kernel_rfl
theorem en39 : enters Try.prog 39 = true := by kernel_rfl
theorem en16 : enters Try.prog 16 = true := by kernel_rfl
theorem en97 : enters Try.prog 97 = true := by kernel_rfl
theorem en79 : enters Try.prog 79 = true := by kernel_rfl
theorem en80 : enters Try.prog 80 = true := by kernel_rfl
theorem en49 : enters Try.prog 49 = true := by kernel_rfl
theorem en22 : enters Try.prog 22 = true := by kernel_rfl
theorem ty45 : Ty Try.prog 45 (Act45) := Ty.of (by kernel_rfl)
theorem zl45 : ZeroLs Try.prog 45 [(false, 1, Fact.rep [] ((0 : Int) : Int)), (false, 1, Fact.rep [] ((0 : UInt8) : UInt8)), (false, 1, Fact.rep [] ((0 : Int) : Int)), (false, 1, Fact.nilv)] := ⟨⟨[.int .i64 0, .int .u8 0, .int .i64 0, .slice none 0 0], by kernel_rfl, fun g w => FldRel.zr (fun _ _ => rfl) (FldRel.zr (fun _ _ => rfl) (FldRel.zr (fun _ _ => rfl) (FldRel.zn (rfl))))⟩⟩
theorem fd98_0 : FieldTy Try.prog 98 0 0 1 := FieldTy.of Try.underlying98 (by kernel_rfl) rfl
theorem fd98_1 : FieldTy Try.prog 98 1 1 1 := FieldTy.of Try.underlying98 (by kernel_rfl) rfl
theorem bd125 : BuildTyA Try.prog 125 [(0, 1), (1, 1), (2, 1), (3, 1)] [(false, 1, Fact.rep [] ((⟨0⟩ : FnI [73, 74, 75]) : FnI [73, 74, 75])), (false, 1, Fact.rep [] ((⟨0⟩ : FnI [73, 74, 75]) : FnI [73, 74, 75])), (false, 1, Fact.rep [] ((⟨0⟩ : FnI [73, 74, 75]) : FnI [73, 74, 75])), (false, 1, Fact.rep [] ((⟨0⟩ : FnI [73, 74, 75]) : FnI [73, 74, 75]))] := ⟨⟨_, _, 1, [.nilFunc, .nilFunc, .nilFunc, .nilFunc], by kernel_rfl, Try.underlying125, by kernel_rfl, (fun g w => FldRel.zr (fun _ _ => rfl) (FldRel.zr (fun _ _ => rfl) (FldRel.zr (fun _ _ => rfl) (FldRel.zr (fun _ _ => rfl) (rfl))))), rfl⟩⟩
theorem zl125 : ZeroLs Try.prog 125 [(false, 1, Fact.rep [] ((⟨0⟩ : FnI [73, 74, 75]) : FnI [73, 74, 75])), (false, 1, Fact.rep [] ((⟨0⟩ : FnI [73, 74, 75]) : FnI [73, 74, 75])), (false, 1, Fact.rep [] ((⟨0⟩ : FnI [73, 74, 75]) : FnI [73, 74, 75])), (false, 1, Fact.rep [] ((⟨0⟩ : FnI [73, 74, 75]) : FnI [73, 74, 75]))] := ⟨⟨[.nilFunc, .nilFunc, .nilFunc, .nilFunc], by kernel_rfl, fun g w => FldRel.zr (fun _ _ => rfl) (FldRel.zr (fun _ _ => rfl) (FldRel.zr (fun _ _ => rfl) (FldRel.zr (fun _ _ => rfl) (rfl))))⟩⟩
theorem ty125 : Ty Try.prog 125 (Arr4_FnI737475) := Ty.of (by kernel_rfl)
theorem sm125 : SmTy Try.prog 125 96 4 1 := ⟨Try.underlying125, by kernel_rfl⟩
theorem ty96 : Ty Try.prog 96 (FnI [73, 74, 75]) := Ty.of (by kernel_rfl)
theorem en44 : enters Try.prog 44 = true := by kernel_rfl
theorem fd98_2 : FieldTy Try.prog 98 2 2 1 := FieldTy.of Try.underlying98 (by kernel_rfl) rfl
theorem fd98_3 : FieldTy Try.prog 98 3 3 1 := FieldTy.of Try.underlying98 (by kernel_rfl) rfl
theorem en72 : enters Try.prog 72 = true := by kernel_rfl
theorem en42 : enters Try.prog 42 = true := by kernel_rfl
theorem bd61 : BuildTy Try.prog 61 [(0, 1), (1, 1), (2, 1)] [(false, 1, Fact.nilv), (false, 1, Fact.nilv), (false, 1, Fact.rep [] (false : Bool))] := ⟨⟨_, [.slice none 0 0, .slice none 0 0, .bool false], by kernel_rfl, Try.underlying61, (fun g w => FldRel.zn (FldRel.zn (FldRel.zr (fun _ _ => rfl) (rfl)))), by kernel_rfl⟩⟩
theorem zl86 : ZeroLs Try.prog 86 [(false, 1, Fact.rep [] ((0 : Int) : Int)), (false, 1, Fact.nilv)] := ⟨⟨[.int .i64 0, .slice none 0 0], by kernel_rfl, fun g w => FldRel.zr (fun _ _ => rfl) (FldRel.zn (rfl))⟩⟩
theorem bd86 : BuildTy Try.prog 86 [(0, 1), (1, 1)] [(false, 1, Fact.rep [] ((0 : Int) : Int)), (false, 1, Fact.nilv)] := ⟨⟨_, [.int .i64 0, .slice none 0 0], by kernel_rfl, Try.underlying86, (fun g w => FldRel.zr (fun _ _ => rfl) (FldRel.zn (rfl))), by kernel_rfl⟩⟩
theorem ow59 : OwnTy Try.prog 59 86 (Write) := OwnTy.of Try.underlying59 (by kernel_rfl) rfl (by kernel_rfl)
theorem en50 : enters Try.prog 50 = true := by kernel_rfl
theorem ow49 : OwnTy Try.prog 49 61 (Disk) := OwnTy.of Try.underlying49 (by kernel_rfl) rfl (by kernel_rfl)
theorem en43 : enters Try.prog 43 = true := by kernel_rfl
theorem fd45_1 : FieldTy Try.prog 45 1 1 1 := FieldTy.of Try.underlying45 (by kernel_rfl) rfl
theorem en76 : enters Try.prog 76 = true := by kernel_rfl
theorem en102 : enters Try.prog 102 = true := by kernel_rfl
theorem en48 : enters Try.prog 48 = true := by kernel_rfl
theorem en95 : enters Try.prog 95 = true := by kernel_rfl
theorem en103 : enters Try.prog 103 = true := by kernel_rfl
theorem en104 : enters Try.prog 104 = true := by kernel_rfl
theorem zt86 : ZeroTy Try.prog 86 (Write.mk (0 : Int) ([] : List UInt8)) := ⟨.agg #[.int .i64 0, .slice none 0 0], by kernel_rfl, fun _ => ⟨[.int .i64 0], [.slice none 0 0], rfl, rfl, nil_rel⟩⟩
theorem en96 : enters Try.prog 96 = true := by kernel_rfl
theorem en52 : enters Try.prog 52 = true := by kernel_rfl
theorem en73 : enters Try.prog 73 = true := by kernel_rfl
theorem en74 : enters Try.prog 74 = true := by kernel_rfl
theorem en75 : enters Try.prog 75 = true := by kernel_rfl
theorem en18 : enters Try.prog 18 = true := by kernel_rfl
theorem ow64 : OwnTy Try.prog 64 4 (Bool) := OwnTy.of Try.underlying64 (by kernel_rfl) rfl (by kernel_rfl)
theorem zt4 : ZeroTy Try.prog 4 false := ⟨.bool false, by kernel_rfl, fun _ => rfl⟩
theorem sl64 : SlTy Try.prog 64 4 (Bool) := SlTy.of Try.underlying64 (by kernel_rfl) rfl
theorem en23 : enters Try.prog 23 = true := by kernel_rfl
theorem en25 : enters Try.prog 25 = true := by kernel_rfl
theorem en81 : enters Try.prog 81 = true := by kernel_rfl
theorem en51 : enters Try.prog 51 = true := by kernel_rfl
theorem en24 : enters Try.prog 24 = true := by kernel_rfl
def hd61 : HdS Disk (List UInt8) ((List Write) × Bool) := HdS.via (fun x : Disk => (x.Blocks, x.Wait, x.Dead))
theorem hes61 (y : Disk) : ∀ F cs w, (inferInstance : Rp ((List Write) × Bool)).rel F (hd61.tl y) cs w ↔ EntsRel F [⟨inferInstance, y.Wait⟩, ⟨inferInstance, y.Dead⟩] cs w := fun F cs w => (ChT.cons (ChT.one _) : ChT (α := (List Write) × Bool) (y.Wait, y.Dead) [⟨inferInstance, y.Wait⟩, ⟨inferInstance, y.Dead⟩]).rel F cs w

/-- freeboard/freeboardlaw27.two -/
def law27_two : Option (Config) :=
  some (Config.mk (0 : UInt32) (3 : Int) (1 : Int) (2 : Int) (12 : Int) (2 : Int))
theorem law27_two_c {r : Config} (hm : law27_two = some r) : Ctr Try.prog 9 [] (.fl r) [] := by
 refine ctr_of_walk [[]] 2 Try.func9 rfl rfl rfl rfl (fun w0 om => ?_)
 unfold law27_two at hm
 refine CWalk.sub (G' := []) (Sub.nil) ?_
 refine Cs ?_
 refine Cr ?_
 refine ws (Step.allocObj (ls := [(false, 1, Fact.rep [] ((0 : UInt32) : UInt32)), (false, 1, Fact.rep [] ((0 : Int) : Int)), (false, 1, Fact.rep [] ((0 : Int) : Int)), (false, 1, Fact.rep [] ((0 : Int) : Int)), (false, 1, Fact.rep [] ((0 : Int) : Int)), (false, 1, Fact.rep [] ((0 : Int) : Int))]) 10 rfl rfl rfl rfl zl30) ?_
 refine Wn ?_
 refine Lt ?_
 refine Cs ?_
 refine Cr ?_
 refine wo (Spec.build (us := [(1, .const (.int .i64 3)), (2, .const (.int .i64 1)), (3, .const (.int .i64 2)), (4, .const (.int .i64 12)), (5, .const (.int .i64 2))]) (ls' := [(false, 1, Fact.rep [] ((0 : UInt32) : UInt32)), (false, 1, Fact.rep [] ((3 : Int) : Int)), (false, 1, Fact.rep [] ((1 : Int) : Int)), (false, 1, Fact.rep [] ((2 : Int) : Int)), (false, 1, Fact.rep [] ((12 : Int) : Int)), (false, 1, Fact.rep [] ((2 : Int) : Int))]) bd30 rfl (BP.cons rfl rfl Has.int Has.int (BP.cons rfl rfl Has.int Has.int (BP.cons rfl rfl Has.int Has.int (BP.cons rfl rfl Has.int Has.int (BP.cons rfl rfl Has.int Has.int BP.nil)))))) ?_
 refine ws (Step.storeObj (ls := [(false, 1, Fact.rep [] ((0 : UInt32) : UInt32)), (false, 1, Fact.rep [] ((3 : Int) : Int)), (false, 1, Fact.rep [] ((1 : Int) : Int)), (false, 1, Fact.rep [] ((2 : Int) : Int)), (false, 1, Fact.rep [] ((12 : Int) : Int)), (false, 1, Fact.rep [] ((2 : Int) : Int))]) rfl ty30 rfl rfl (Hs rfl) rfl (HasL.flds (Hs rfl)) rfl) ?_
 refine Wn ?_
 refine Lt ?_
 refine CWalk.ret ?_
 obtain rfl := Option.some.inj hm
 exact Leaf.retC1 rfl (HasR.cv (HasR.obj (ls := [(false, 1, Fact.rep [] ((0 : UInt32) : UInt32)), (false, 1, Fact.rep [] ((3 : Int) : Int)), (false, 1, Fact.rep [] ((1 : Int) : Int)), (false, 1, Fact.rep [] ((2 : Int) : Int)), (false, 1, Fact.rep [] ((12 : Int) : Int)), (false, 1, Fact.rep [] ((2 : Int) : Int))]) ty30 rfl rfl (Hs rfl) rfl (Gz rfl (Gz rfl (Gz rfl (Gz rfl (Gz rfl (Gz rfl HasGs.nil))))))) (Cv.trans (Cv.trans (Cv.flds (Vf (Vf (Vf (Vf (Vf (Vf CvL.nil))))))) (Cv.close (T := []) (chConfig (Config.mk (0 : UInt32) (3 : Int) (1 : Int) (2 : Int) (12 : Int) (2 : Int))))) Cv.fl))

/-- freeboard/freeboardlaw27.nobody -/
def law27_nobody : Option (Loss) :=
  some (Loss.mk (0 : UInt32) (-1 : Int) false (0 : Int) (0 : Int) false false)
theorem law27_nobody_c {r : Loss} (hm : law27_nobody = some r) : Ctr Try.prog 10 [] (.fl r) [] := by
 refine ctr_of_walk [[]] 2 Try.func10 rfl rfl rfl rfl (fun w0 om => ?_)
 unfold law27_nobody at hm
 refine CWalk.sub (G' := []) (Sub.nil) ?_
 refine Cs ?_
 refine Cr ?_
 refine ws (Step.allocObj (ls := [(false, 1, Fact.rep [] ((0 : UInt32) : UInt32)), (false, 1, Fact.rep [] ((0 : Int) : Int)), (false, 1, Fact.rep [] (false : Bool)), (false, 1, Fact.rep [] ((0 : Int) : Int)), (false, 1, Fact.rep [] ((0 : Int) : Int)), (false, 1, Fact.rep [] (false : Bool)), (false, 1, Fact.rep [] (false : Bool))]) 10 rfl rfl rfl rfl zl33) ?_
 refine Wn ?_
 refine Lt ?_
 refine Cs ?_
 refine Cr ?_
 refine wo (Spec.build (us := [(1, .const (.int .i64 (-1)))]) (ls' := [(false, 1, Fact.rep [] ((0 : UInt32) : UInt32)), (false, 1, Fact.rep [] ((-1 : Int) : Int)), (false, 1, Fact.rep [] (false : Bool)), (false, 1, Fact.rep [] ((0 : Int) : Int)), (false, 1, Fact.rep [] ((0 : Int) : Int)), (false, 1, Fact.rep [] (false : Bool)), (false, 1, Fact.rep [] (false : Bool))]) bd33 rfl (BP.cons rfl rfl Has.int Has.int BP.nil)) ?_
 refine ws (Step.storeObj (ls := [(false, 1, Fact.rep [] ((0 : UInt32) : UInt32)), (false, 1, Fact.rep [] ((-1 : Int) : Int)), (false, 1, Fact.rep [] (false : Bool)), (false, 1, Fact.rep [] ((0 : Int) : Int)), (false, 1, Fact.rep [] ((0 : Int) : Int)), (false, 1, Fact.rep [] (false : Bool)), (false, 1, Fact.rep [] (false : Bool))]) rfl ty33 rfl rfl (Hs rfl) rfl (HasL.flds (Hs rfl)) rfl) ?_
 refine Wn ?_
 refine Lt ?_
 refine CWalk.ret ?_
 obtain rfl := Option.some.inj hm
 exact Leaf.retC1 rfl (HasR.cv (HasR.obj (ls := [(false, 1, Fact.rep [] ((0 : UInt32) : UInt32)), (false, 1, Fact.rep [] ((-1 : Int) : Int)), (false, 1, Fact.rep [] (false : Bool)), (false, 1, Fact.rep [] ((0 : Int) : Int)), (false, 1, Fact.rep [] ((0 : Int) : Int)), (false, 1, Fact.rep [] (false : Bool)), (false, 1, Fact.rep [] (false : Bool))]) ty33 rfl rfl (Hs rfl) rfl (Gz rfl (Gz rfl (Gz rfl (Gz rfl (Gz rfl (Gz rfl (Gz rfl HasGs.nil)))))))) (Cv.trans (Cv.trans (Cv.flds (Vf (Vf (Vf (Vf (Vf (Vf (Vf CvL.nil)))))))) (Cv.close (T := []) (chLoss (Loss.mk (0 : UInt32) (-1 : Int) false (0 : Int) (0 : Int) false false)))) Cv.fl))

def law27_full_L1 (a0 : UInt8) (s2 : Int) (s3 : List UInt8) : Option (Ctl (Int × (List UInt8)) ((List UInt8))) :=
  (bif (decide (s2 < (128 : Int))) then Option.bind (bnd (s3).length s2) (fun x5 => some (Ctl.next ((wI (s2 + (1 : Int))), (s3).set x5 a0))) else some (Ctl.brk s3))
/-- freeboard/freeboardlaw27.full -/
def law27_full (a0 : UInt8) : Option ((List UInt8)) :=
  Option.bind (makeL (0 : UInt8) (128 : Int)) (fun x1 => Option.bind (loopM (fun s : Int × (List UInt8) => law27_full_L1 a0 s.1 s.2) FUEL ((0 : Int), x1)) (fun b6 => some b6))
theorem law27_full_c (a0 : UInt8) {r : (List UInt8)} (hm : law27_full a0 = some r) : Ctr Try.prog 21 [.rep 0 a0] (.own 0 none 5 r) [] := by
 refine ctr_of_walk [[10]] 15 Try.func21 rfl rfl rfl rfl (fun w0 om => ?_)
 unfold law27_full at hm
 refine CWalk.sub (G' := [.fact 0 (.rep [] (a0 : UInt8))]) (Sub.cons (Has.fl (Hs rfl)) Sub.nil) ?_
 refine Cs ?_
 refine Cr ?_
 refine wo (Spec.assign Has.nilv) ?_
 refine Wn ?_
 refine Lt ?_
 refine Cs ?_
 refine Cr ?_
 obtain ⟨x1, hx1, hm⟩ := bind_some hm
 refine ws (Step.makeOwn 10 hx1 rfl rfl ow37 zt5 Has.int) ?_
 refine wo (Spec.assign (Hs rfl)) ?_
 refine Wn ?_
 refine Lt ?_
 refine Cs ?_
 refine Cs ?_
 refine Cr ?_
 refine wo (Spec.assign Has.int) ?_
 refine Wn ?_
 refine Lt ?_
 refine CWalk.block ?_
 obtain ⟨b6, hb6, hm⟩ := bind_some hm
 refine CWalk.loop (fun s : Int × (List UInt8) => [.fact 0 (.rep [] (a0 : UInt8)), .fact 3 (.isv 10), .fact 4 (.rep [] s.1), .fact 100010 (.own 10 [] 5 (s.2 : List UInt8))]) (fun b : (List UInt8) => (Exit.exit 0, [.fact 3 (.isv 10), .fact 100010 (.own 10 [] 5 (b : List UInt8))])) hb6 (st (sn (st (Sub.cons (Has.ownM (Hs rfl) rfl) Sub.nil)))) ?_ ?_
 ·rintro ⟨s2, s3⟩ c4 hm
  replace hm : law27_full_L1 a0 s2 s3 = some c4 := hm
  unfold law27_full_L1 at hm
  show CWalk _ [.fact 0 (.rep [] (a0 : UInt8)), .fact 3 (.isv 10), .fact 4 (.rep [] (s2 : Int)), .fact 100010 (.own 10 [] 5 (s3 : List UInt8))] _ _
  refine Cs ?_
  refine Cs ?_
  refine Cr ?_
  refine mv ?_
  refine wo (Spec.lssI (Hs rfl) Has.int) ?_
  refine Wn ?_
  refine Lt ?_
  refine CWalk.cond rfl (fun hb => ?_) (fun hb => ?_)
  ·have hm := cond_t hb hm
   refine CWalk.skip ?_
   refine Lt ?_
   refine Cs ?_
   refine CWalk.block ?_
   refine Cr ?_
   refine mv ?_
   refine mv ?_
   refine mv ?_
   obtain ⟨x5, hx5, hm⟩ := bind_some hm
   refine wo (Spec.idxOwn hx5 ow37 (Hs rfl) rfl (Hs rfl)) ?_
   refine ws (Step.storeOwn (te' := []) rfl (bnd_lt hx5 rfl) ty5 (Hs rfl) rfl (Hs rfl) ElKeep.flat ElKeep.flat) ?_
   refine Wn ?_
   refine Leaf.blockN ?_
   refine Lt ?_
   refine Cr ?_
   refine mv ?_
   refine wo (Spec.addI (Hs rfl) Has.int) ?_
   refine wo (Spec.assign (Hs rfl)) ?_
   refine Wn ?_
   exact Leaf.next hm (st (sn (st (Sub.cons (Has.ownM (Hs rfl) rfl) Sub.nil))))
  ·have hm := cond_f hb hm
   refine CWalk.exit ?_
   refine Leaf.thenE ?_
   exact Leaf.brk hm (fun h => nomatch h) rfl (sn (Sub.cons (Has.ownM (Hs rfl) rfl) Sub.nil))
 ·intro _
  refine Leaf.blockE ?_
  refine Lt ?_
  refine Cs ?_
  refine Cr ?_
  refine mv ?_
  refine wo (Spec.assign (Hs rfl)) ?_
  refine Wn ?_
  refine Lt ?_
  refine CWalk.ret ?_
  obtain rfl := Option.some.inj hm
  exact Leaf.retC1 rfl (HasR.cv (HasR.tmp (Hs rfl)) (Cv.trans (Cv.isvOw rfl) (Cv.owF (T := [10]) (te := []) rfl)))

/-- freeboard/freeboardlaw27.a -/
def law27_a : Option (Found) :=
  Option.bind (law27_full (1 : UInt8)) (fun x1 => Option.bind (law27_full (1 : UInt8)) (fun x2 => some (Found.mk (0 : UInt32) (0 : UInt32) (Deal.mk (1 : Int) ([(1 : Int)]) ([x1]) x2))))
theorem law27_a_c {r : Found} (hm : law27_a = some r) : Ctr Try.prog 12 [] (.flds [(false, 1, (.fl r.Age)), (false, 1, (.fl r.Seq)), (true, 4, (.flds [(false, 1, (.fl r.Deal.Stripe)), (false, 1, (.rep 0 r.Deal.Slots)), (false, 1, (.rep 1 r.Deal.Blocks)), (false, 1, (.own 2 none 5 r.Deal.Parity))]))]) [] := by
 refine ctr_of_walk [[17], [18, 19], [20]] 7 Try.func12 rfl rfl rfl rfl (fun w0 om => ?_)
 unfold law27_a at hm
 refine CWalk.sub (G' := []) (Sub.nil) ?_
 refine Cs ?_
 refine Cr ?_
 refine ws (Step.allocObj (ls := [(false, 1, Fact.rep [] ((0 : UInt32) : UInt32)), (false, 1, Fact.rep [] ((0 : UInt32) : UInt32)), (false, 1, Fact.rep [] ((0 : Int) : Int)), (false, 1, Fact.nilv), (false, 1, Fact.nilv), (false, 1, Fact.nilv)]) 10 rfl rfl rfl rfl zl41) ?_
 refine Wn ?_
 refine Lt ?_
 refine Cs ?_
 refine Cr ?_
 refine wo (Spec.lit (xs := [.const (.int .i64 1)]) (T := []) 17 rfl ow35 rfl rfl rfl rfl (HasEach.cons (Has.fl Has.int) HasEach.nil)) ?_
 obtain ⟨x1, hx1, hm⟩ := bind_some hm
 refine wo (f := Fact.ow [18] [] 5 (x1 : List UInt8)) (Spec.callE [] 18 rfl en21 (law27_full_c (1 : UInt8) hx1) (HasAll.cons (Has.fl (Has.u8 1 rfl)) HasAll.nil)) ?_
 refine wo (Spec.lit (xs := [.tmp 2]) (T := [18]) 19 rfl ow36 rfl rfl rfl rfl (HasEach.cons (Has.m (Has.cv (Hs rfl) (Cv.trans Cv.owSl (Cv.slRep (T' := [18]) rfl rfl))) rfl) HasEach.nil)) ?_
 obtain ⟨x2, hx2, hm⟩ := bind_some hm
 refine wo (f := Fact.ow [20] [] 5 (x2 : List UInt8)) (Spec.callE [] 20 rfl en21 (law27_full_c (1 : UInt8) hx2) (HasAll.cons (Has.fl (Has.u8 1 rfl)) HasAll.nil)) ?_
 refine wo (Spec.build (us := [(0, .const (.int .i64 1)), (1, .tmp 1), (2, .tmp 3), (3, .tmp 4)]) (ls' := [(false, 1, Fact.rep [] ((1 : Int) : Int)), (false, 1, Fact.rep [17] ([(1 : Int)] : List Int)), (false, 1, Fact.rep [19, 18] ([x1] : List (List UInt8))), (false, 1, Fact.ow [20] [] 5 (x2 : List UInt8))]) bd39 rfl (BP.cons rfl rfl Has.int Has.int (BP.cons rfl rfl (Hs rfl) (Hs rfl) (BP.cons rfl rfl (Hs rfl) (Hs rfl) (BP.cons rfl rfl (Has.cv (Hs rfl) (Cv.trans Cv.owSl (Cv.slRep (T' := [20]) rfl rfl))) (Hs rfl) BP.nil))))) ?_
 refine wo (Spec.build (us := [(2, .tmp 5)]) (ls' := [(false, 1, Fact.rep [] ((0 : UInt32) : UInt32)), (false, 1, Fact.rep [] ((0 : UInt32) : UInt32)), (true, 4, Fact.flds [(false, 1, Fact.rep [] ((1 : Int) : Int)), (false, 1, Fact.rep [17] ([(1 : Int)] : List Int)), (false, 1, Fact.rep [19, 18] ([x1] : List (List UInt8))), (false, 1, Fact.ow [20] [] 5 (x2 : List UInt8))])]) bd41 rfl (BP.cons rfl rfl (Has.cv (Hs rfl) (Cv.trans (Cv.flds (Vf (CvL.cons (Cv.m rfl) (CvL.cons (Cv.m rfl) (CvL.cons (Cv.trans (Cv.trans Cv.owSl (Cv.slRep (T' := [20]) rfl rfl)) (Cv.m rfl)) CvL.nil))))) (Cv.close (T := [17, 18, 19, 20]) (chDeal (Deal.mk (1 : Int) ([(1 : Int)]) ([x1]) x2))))) (Hs rfl) BP.nil)) ?_
 refine ws (Step.storeObj (ls := [(false, 1, Fact.rep [] ((0 : UInt32) : UInt32)), (false, 1, Fact.rep [] ((0 : UInt32) : UInt32)), (false, 1, Fact.rep [] ((1 : Int) : Int)), (false, 1, Fact.rep [17] ([(1 : Int)] : List Int)), (false, 1, Fact.rep [19, 18] ([x1] : List (List UInt8))), (false, 1, Fact.ow [20] [] 5 (x2 : List UInt8))]) rfl ty41 rfl rfl (Hs rfl) rfl (HasL.flds (Has.cv (Hs rfl) (Cv.flat (FlatR.cons (FlatR.cons (FlatR.sub (FlatR.cons (FlatR.cons (FlatR.cons (FlatR.cons FlatR.nil)))) rfl FlatR.nil)))))) rfl) ?_
 refine Wn ?_
 refine Lt ?_
 refine CWalk.ret ?_
 obtain rfl := Option.some.inj hm
 exact Leaf.retC1 rfl (HasR.cv (HasR.cv (HasR.obj (ls := [(false, 1, Fact.rep [] ((0 : UInt32) : UInt32)), (false, 1, Fact.rep [] ((0 : UInt32) : UInt32)), (false, 1, Fact.rep [] ((1 : Int) : Int)), (false, 1, Fact.rep [17] ([(1 : Int)] : List Int)), (false, 1, Fact.rep [19, 18] ([x1] : List (List UInt8))), (false, 1, Fact.ow [20] [] 5 (x2 : List UInt8))]) ty41 rfl rfl (Hs rfl) rfl (Gz rfl (Gz rfl (Gz rfl (Gz rfl (Gz rfl (Gz rfl HasGs.nil))))))) (Cv.unflat (FlatR.cons (FlatR.cons (FlatR.sub (FlatR.cons (FlatR.cons (FlatR.cons (FlatR.cons FlatR.nil)))) rfl FlatR.nil))))) (Cv.flds (Vf (Vf (CvL.cons (Cv.flds (Vf (CvL.cons (Cv.m rfl) (CvL.cons (Cv.m rfl) (CvL.cons (Cv.owF (T := [20]) (te := []) rfl) CvL.nil))))) CvL.nil)))))

/-- freeboard/freeboardlaw27.b -/
def law27_b : Option (Found) :=
  Option.bind (law27_full (2 : UInt8)) (fun x1 => some (Found.mk (0 : UInt32) (0 : UInt32) (Deal.mk (1 : Int) ([(0 : Int)]) ([x1]) ([] : List UInt8))))
theorem law27_b_c {r : Found} (hm : law27_b = some r) : Ctr Try.prog 11 [] (.flds [(false, 1, (.fl r.Age)), (false, 1, (.fl r.Seq)), (true, 4, (.flds [(false, 1, (.fl r.Deal.Stripe)), (false, 1, (.rep 0 r.Deal.Slots)), (false, 1, (.rep 1 r.Deal.Blocks)), (false, 1, (.own 0 none 5 r.Deal.Parity))]))]) [] := by
 refine ctr_of_walk [[17], [18, 19]] 6 Try.func11 rfl rfl rfl rfl (fun w0 om => ?_)
 unfold law27_b at hm
 refine CWalk.sub (G' := []) (Sub.nil) ?_
 refine Cs ?_
 refine Cr ?_
 refine ws (Step.allocObj (ls := [(false, 1, Fact.rep [] ((0 : UInt32) : UInt32)), (false, 1, Fact.rep [] ((0 : UInt32) : UInt32)), (false, 1, Fact.rep [] ((0 : Int) : Int)), (false, 1, Fact.nilv), (false, 1, Fact.nilv), (false, 1, Fact.nilv)]) 10 rfl rfl rfl rfl zl41) ?_
 refine Wn ?_
 refine Lt ?_
 refine Cs ?_
 refine Cr ?_
 refine wo (Spec.lit (xs := [.const (.int .i64 0)]) (T := []) 17 rfl ow35 rfl rfl rfl rfl (HasEach.cons (Has.fl Has.int) HasEach.nil)) ?_
 obtain ⟨x1, hx1, hm⟩ := bind_some hm
 refine wo (f := Fact.ow [18] [] 5 (x1 : List UInt8)) (Spec.callE [] 18 rfl en21 (law27_full_c (2 : UInt8) hx1) (HasAll.cons (Has.fl (Has.u8 2 rfl)) HasAll.nil)) ?_
 refine wo (Spec.lit (xs := [.tmp 2]) (T := [18]) 19 rfl ow36 rfl rfl rfl rfl (HasEach.cons (Has.m (Has.cv (Hs rfl) (Cv.trans Cv.owSl (Cv.slRep (T' := [18]) rfl rfl))) rfl) HasEach.nil)) ?_
 refine wo (Spec.build (us := [(0, .const (.int .i64 1)), (1, .tmp 1), (2, .tmp 3)]) (ls' := [(false, 1, Fact.rep [] ((1 : Int) : Int)), (false, 1, Fact.rep [17] ([(0 : Int)] : List Int)), (false, 1, Fact.rep [19, 18] ([x1] : List (List UInt8))), (false, 1, Fact.nilv)]) bd39 rfl (BP.cons rfl rfl Has.int Has.int (BP.cons rfl rfl (Hs rfl) (Hs rfl) (BP.cons rfl rfl (Hs rfl) (Hs rfl) BP.nil)))) ?_
 refine wo (Spec.build (us := [(2, .tmp 4)]) (ls' := [(false, 1, Fact.rep [] ((0 : UInt32) : UInt32)), (false, 1, Fact.rep [] ((0 : UInt32) : UInt32)), (true, 4, Fact.flds [(false, 1, Fact.rep [] ((1 : Int) : Int)), (false, 1, Fact.rep [17] ([(0 : Int)] : List Int)), (false, 1, Fact.rep [19, 18] ([x1] : List (List UInt8))), (false, 1, Fact.nilv)])]) bd41 rfl (BP.cons rfl rfl (Has.cv (Hs rfl) (Cv.trans (Cv.flds (Vf (CvL.cons (Cv.m rfl) (CvL.cons (Cv.m rfl) (CvL.cons (Cv.trans (Cv.nil (T := [])) (Cv.m rfl)) CvL.nil))))) (Cv.close (T := [17, 18, 19]) (chDeal (Deal.mk (1 : Int) ([(0 : Int)]) ([x1]) ([] : List UInt8)))))) (Hs rfl) BP.nil)) ?_
 refine ws (Step.storeObj (ls := [(false, 1, Fact.rep [] ((0 : UInt32) : UInt32)), (false, 1, Fact.rep [] ((0 : UInt32) : UInt32)), (false, 1, Fact.rep [] ((1 : Int) : Int)), (false, 1, Fact.rep [17] ([(0 : Int)] : List Int)), (false, 1, Fact.rep [19, 18] ([x1] : List (List UInt8))), (false, 1, Fact.nilv)]) rfl ty41 rfl rfl (Hs rfl) rfl (HasL.flds (Has.cv (Hs rfl) (Cv.flat (FlatR.cons (FlatR.cons (FlatR.sub (FlatR.cons (FlatR.cons (FlatR.cons (FlatR.cons FlatR.nil)))) rfl FlatR.nil)))))) rfl) ?_
 refine Wn ?_
 refine Lt ?_
 refine CWalk.ret ?_
 obtain rfl := Option.some.inj hm
 exact Leaf.retC1 rfl (HasR.cv (HasR.cv (HasR.obj (ls := [(false, 1, Fact.rep [] ((0 : UInt32) : UInt32)), (false, 1, Fact.rep [] ((0 : UInt32) : UInt32)), (false, 1, Fact.rep [] ((1 : Int) : Int)), (false, 1, Fact.rep [17] ([(0 : Int)] : List Int)), (false, 1, Fact.rep [19, 18] ([x1] : List (List UInt8))), (false, 1, Fact.nilv)]) ty41 rfl rfl (Hs rfl) rfl (Gz rfl (Gz rfl (Gz rfl (Gz rfl (Gz rfl (Gz rfl HasGs.nil))))))) (Cv.unflat (FlatR.cons (FlatR.cons (FlatR.sub (FlatR.cons (FlatR.cons (FlatR.cons (FlatR.cons FlatR.nil)))) rfl FlatR.nil))))) (Cv.flds (Vf (Vf (CvL.cons (Cv.flds (Vf (CvL.cons (Cv.m rfl) (CvL.cons (Cv.m rfl) (CvL.cons (Cv.trans Cv.nilOw (Cv.owF (T := []) (te := []) rfl)) CvL.nil))))) CvL.nil)))))

/-- freeboard/freeboardlaw27.c -/
def law27_c : Option (Found) :=
  Option.bind (law27_full (3 : UInt8)) (fun x1 => some (Found.mk (0 : UInt32) (0 : UInt32) (Deal.mk (1 : Int) ([(0 : Int)]) ([x1]) ([] : List UInt8))))
theorem law27_c_c {r : Found} (hm : law27_c = some r) : Ctr Try.prog 26 [] (.flds [(false, 1, (.fl r.Age)), (false, 1, (.fl r.Seq)), (true, 4, (.flds [(false, 1, (.fl r.Deal.Stripe)), (false, 1, (.rep 0 r.Deal.Slots)), (false, 1, (.rep 1 r.Deal.Blocks)), (false, 1, (.own 0 none 5 r.Deal.Parity))]))]) [] := by
 refine ctr_of_walk [[17], [18, 19]] 6 Try.func26 rfl rfl rfl rfl (fun w0 om => ?_)
 unfold law27_c at hm
 refine CWalk.sub (G' := []) (Sub.nil) ?_
 refine Cs ?_
 refine Cr ?_
 refine ws (Step.allocObj (ls := [(false, 1, Fact.rep [] ((0 : UInt32) : UInt32)), (false, 1, Fact.rep [] ((0 : UInt32) : UInt32)), (false, 1, Fact.rep [] ((0 : Int) : Int)), (false, 1, Fact.nilv), (false, 1, Fact.nilv), (false, 1, Fact.nilv)]) 10 rfl rfl rfl rfl zl41) ?_
 refine Wn ?_
 refine Lt ?_
 refine Cs ?_
 refine Cr ?_
 refine wo (Spec.lit (xs := [.const (.int .i64 0)]) (T := []) 17 rfl ow35 rfl rfl rfl rfl (HasEach.cons (Has.fl Has.int) HasEach.nil)) ?_
 obtain ⟨x1, hx1, hm⟩ := bind_some hm
 refine wo (f := Fact.ow [18] [] 5 (x1 : List UInt8)) (Spec.callE [] 18 rfl en21 (law27_full_c (3 : UInt8) hx1) (HasAll.cons (Has.fl (Has.u8 3 rfl)) HasAll.nil)) ?_
 refine wo (Spec.lit (xs := [.tmp 2]) (T := [18]) 19 rfl ow36 rfl rfl rfl rfl (HasEach.cons (Has.m (Has.cv (Hs rfl) (Cv.trans Cv.owSl (Cv.slRep (T' := [18]) rfl rfl))) rfl) HasEach.nil)) ?_
 refine wo (Spec.build (us := [(0, .const (.int .i64 1)), (1, .tmp 1), (2, .tmp 3)]) (ls' := [(false, 1, Fact.rep [] ((1 : Int) : Int)), (false, 1, Fact.rep [17] ([(0 : Int)] : List Int)), (false, 1, Fact.rep [19, 18] ([x1] : List (List UInt8))), (false, 1, Fact.nilv)]) bd39 rfl (BP.cons rfl rfl Has.int Has.int (BP.cons rfl rfl (Hs rfl) (Hs rfl) (BP.cons rfl rfl (Hs rfl) (Hs rfl) BP.nil)))) ?_
 refine wo (Spec.build (us := [(2, .tmp 4)]) (ls' := [(false, 1, Fact.rep [] ((0 : UInt32) : UInt32)), (false, 1, Fact.rep [] ((0 : UInt32) : UInt32)), (true, 4, Fact.flds [(false, 1, Fact.rep [] ((1 : Int) : Int)), (false, 1, Fact.rep [17] ([(0 : Int)] : List Int)), (false, 1, Fact.rep [19, 18] ([x1] : List (List UInt8))), (false, 1, Fact.nilv)])]) bd41 rfl (BP.cons rfl rfl (Has.cv (Hs rfl) (Cv.trans (Cv.flds (Vf (CvL.cons (Cv.m rfl) (CvL.cons (Cv.m rfl) (CvL.cons (Cv.trans (Cv.nil (T := [])) (Cv.m rfl)) CvL.nil))))) (Cv.close (T := [17, 18, 19]) (chDeal (Deal.mk (1 : Int) ([(0 : Int)]) ([x1]) ([] : List UInt8)))))) (Hs rfl) BP.nil)) ?_
 refine ws (Step.storeObj (ls := [(false, 1, Fact.rep [] ((0 : UInt32) : UInt32)), (false, 1, Fact.rep [] ((0 : UInt32) : UInt32)), (false, 1, Fact.rep [] ((1 : Int) : Int)), (false, 1, Fact.rep [17] ([(0 : Int)] : List Int)), (false, 1, Fact.rep [19, 18] ([x1] : List (List UInt8))), (false, 1, Fact.nilv)]) rfl ty41 rfl rfl (Hs rfl) rfl (HasL.flds (Has.cv (Hs rfl) (Cv.flat (FlatR.cons (FlatR.cons (FlatR.sub (FlatR.cons (FlatR.cons (FlatR.cons (FlatR.cons FlatR.nil)))) rfl FlatR.nil)))))) rfl) ?_
 refine Wn ?_
 refine Lt ?_
 refine CWalk.ret ?_
 obtain rfl := Option.some.inj hm
 exact Leaf.retC1 rfl (HasR.cv (HasR.cv (HasR.obj (ls := [(false, 1, Fact.rep [] ((0 : UInt32) : UInt32)), (false, 1, Fact.rep [] ((0 : UInt32) : UInt32)), (false, 1, Fact.rep [] ((1 : Int) : Int)), (false, 1, Fact.rep [17] ([(0 : Int)] : List Int)), (false, 1, Fact.rep [19, 18] ([x1] : List (List UInt8))), (false, 1, Fact.nilv)]) ty41 rfl rfl (Hs rfl) rfl (Gz rfl (Gz rfl (Gz rfl (Gz rfl (Gz rfl (Gz rfl HasGs.nil))))))) (Cv.unflat (FlatR.cons (FlatR.cons (FlatR.sub (FlatR.cons (FlatR.cons (FlatR.cons (FlatR.cons FlatR.nil)))) rfl FlatR.nil))))) (Cv.flds (Vf (Vf (CvL.cons (Cv.flds (Vf (CvL.cons (Cv.m rfl) (CvL.cons (Cv.m rfl) (CvL.cons (Cv.trans Cv.nilOw (Cv.owF (T := []) (te := []) rfl)) CvL.nil))))) CvL.nil)))))

def shape_bounds_L1 (a0 : List Arr3_Int) (s1 : Int) : Option (Ctl (Int) ((Unit) ⊕ (Unit))) :=
  (bif (decide (s1 < ((a0).length : Int))) then Option.bind (idx a0 s1) (fun x3 => (bif ((decide (x3.e0 < x3.e1)) || (decide (x3.e0 > x3.e2))) then some (Ctl.brk (Sum.inr ())) else some (Ctl.next (wI (s1 + (1 : Int)))))) else some (Ctl.brk (Sum.inl ())))
/-- freeboard/shape.bounds -/
def shape_bounds (a0 : List Arr3_Int) : Option (Bool) :=
  Option.bind (loopM (fun s : Int => shape_bounds_L1 a0 s) FUEL (0 : Int)) (fun b4 => Sum.elim (fun b5 => some true) (fun b6 => some false) b4)
theorem shape_bounds_c (a0 : List Arr3_Int) {r : Bool} (hm : shape_bounds a0 = some r) : Ctr Try.prog 101 [.rep 0 a0] (.fl r) [] := by
 refine ctr_of_walk [[]] 24 Try.func101 rfl rfl rfl rfl (fun w0 om => ?_)
 unfold shape_bounds at hm
 refine CWalk.sub (G' := [.fact 0 (.rep [0] (a0 : List Arr3_Int))]) (sn Sub.nil) ?_
 refine Cs ?_
 refine Cr ?_
 refine wo (Spec.assign Has.bool) ?_
 refine Wn ?_
 refine Lt ?_
 refine Cs ?_
 refine Cs ?_
 refine Cr ?_
 refine mv ?_
 refine wo (Spec.len (Hs rfl) Try.underlying152) ?_
 refine wo (Spec.move Has.int) ?_
 refine Wn ?_
 refine Lt ?_
 refine CWalk.block ?_
 obtain ⟨b4, hb4, hm⟩ := bind_some hm
 refine CWalk.loop (fun s : Int => [.fact 5 (.rep [0] (a0 : List Arr3_Int)), .fact 6 (.rep [] (((a0).length : Int) : Int)), .fact 7 (.rep [] (s : Int))]) (fun b : (Unit) ⊕ (Unit) => Sum.elim (fun b => (Exit.exit 0, [])) (fun b => (Exit.ret, [.fact 2 (.rep [] (false : Bool))])) b) hb4 (su (st (st Sub.nil))) ?_ ?_
 ·rintro s1 c2 hm
  replace hm : shape_bounds_L1 a0 s1 = some c2 := hm
  unfold shape_bounds_L1 at hm
  show CWalk _ [.fact 5 (.rep [0] (a0 : List Arr3_Int)), .fact 6 (.rep [] (((a0).length : Int) : Int)), .fact 7 (.rep [] (s1 : Int))] _ _
  refine Cs ?_
  refine Cr ?_
  refine wo (Spec.lssI (Hs rfl) (Hs rfl)) ?_
  refine Wn ?_
  refine Lt ?_
  refine Cs ?_
  refine CWalk.cond rfl (fun hb => ?_) (fun hb => ?_)
  ·have hm := cond_t hb hm
   refine CWalk.skip ?_
   refine Lt ?_
   refine Cs ?_
   refine CWalk.block ?_
   refine Cs ?_
   refine Cr ?_
   obtain ⟨x3, hx3, hm⟩ := bind_some hm
   refine wo (Spec.indexAddr hx3 sl152 (Hs rfl) (Hs rfl)) ?_
   refine wo ((Spec.load ty147 (Hs rfl)).flat (T' := [])) ?_
   refine ws (Step.allocObj (ls := [(false, 1, Fact.rep [] ((0 : Int) : Int)), (false, 1, Fact.rep [] ((0 : Int) : Int)), (false, 1, Fact.rep [] ((0 : Int) : Int))]) 10 rfl rfl rfl rfl zl147) ?_
   refine ws (Step.storeObj (ls := [(false, 1, Fact.rep [] x3.e0), (false, 1, Fact.rep [] x3.e1), (false, 1, Fact.rep [] x3.e2)]) rfl ty147 rfl rfl (Hs rfl) rfl (HasL.flds (Has.cv (Hs rfl) (Cv.trans (Cv.opens (chArr3_Int x3)) (Cv.flds (Vf (Vf (Vf CvL.nil))))))) rfl) ?_
   refine Wn ?_
   refine Lt ?_
   refine Cs ?_
   refine Cr ?_
   refine wo (Spec.idxC (i := 0) sm147 rfl (Has.cv (Hs rfl) (Cv.isvP rfl))) ?_
   refine wo (Spec.loadF (i := 0) ty3 rfl (Hs rfl) rfl (HasG.s rfl)) ?_
   refine wo (Spec.idxC (i := 1) sm147 rfl (Has.cv (Hs rfl) (Cv.isvP rfl))) ?_
   refine wo (Spec.loadF (i := 1) ty3 rfl (Hs rfl) rfl (HasG.s rfl)) ?_
   refine wo (Spec.lssI (Hs rfl) (Hs rfl)) ?_
   refine mv ?_
   refine wg rfl rfl (fun hb => Spec.idxC (i := 0) sm147 rfl (Has.cv (Hs rfl) (Cv.isvP rfl))) ?_
   refine wg rfl rfl (fun hb => Spec.loadF (i := 0) ty3 rfl (Has.u rfl hb) rfl (HasG.s rfl)) ?_
   refine wg rfl rfl (fun hb => Spec.idxC (i := 2) sm147 rfl (Has.cv (Hs rfl) (Cv.isvP rfl))) ?_
   refine wg rfl rfl (fun hb => Spec.loadF (i := 2) ty3 rfl (Has.u rfl hb) rfl (HasG.s rfl)) ?_
   refine wg rfl rfl (fun hb => Spec.gtrI (Has.u rfl hb) (Has.u rfl hb)) ?_
   refine wo (Spec.or (Hs rfl) (fun h => Has.u rfl h)) ?_
   refine Wn ?_
   refine Lt ?_
   refine CWalk.cond rfl (fun hb => ?_) (fun hb => ?_)
   ·have hm := cond_t hb hm
    refine Cs ?_
    refine Cr ?_
    refine wo (Spec.assign Has.bool) ?_
    refine Wn ?_
    refine Lt ?_
    refine CWalk.ret ?_
    refine Leaf.blockR ?_
    refine Leaf.thenR ?_
    exact Leaf.brk hm (fun h => nomatch h) rfl (st Sub.nil)
   ·have hm := cond_f hb hm
    refine CWalk.skip ?_
    refine Leaf.blockN ?_
    refine Lt ?_
    refine Cr ?_
    refine wo (Spec.addI (Hs rfl) Has.int) ?_
    refine mv ?_
    refine Wn ?_
    exact Leaf.next hm (su (st (st Sub.nil)))
  ·have hm := cond_f hb hm
   refine CWalk.exit ?_
   refine Leaf.thenE ?_
   exact Leaf.brk hm (fun h => nomatch h) rfl (Sub.nil)
 ·intro _
  rcases b4 with b5 | b6
  ·have hm := selim_l hm
   refine Leaf.blockE ?_
   refine Lt ?_
   refine Cs ?_
   refine Cr ?_
   refine wo (Spec.assign Has.bool) ?_
   refine Wn ?_
   refine Lt ?_
   refine CWalk.ret ?_
   obtain rfl := Option.some.inj hm
   exact Leaf.retC1 rfl (HasR.cv (HasR.tmp (Hs rfl)) Cv.fl)
  ·have hm := selim_r hm
   refine Leaf.blockR ?_
   refine Leaf.thenR ?_
   obtain rfl := Option.some.inj hm
   exact Leaf.retC1 rfl (HasR.cv (HasR.tmp (Hs rfl)) Cv.fl)

/-- freeboard/shape.Check -/
def shape_Check (a0 : Config) : Option (Int) :=
  Option.bind (shape_bounds ([(Arr3_Int.mk a0.Members (3 : Int) (16 : Int)), (Arr3_Int.mk a0.Chunk (1 : Int) (8 : Int)), (Arr3_Int.mk a0.Rows (1 : Int) (8 : Int)), (Arr3_Int.mk a0.Heads (2 : Int) (8 : Int))])) (fun x1 => Option.bind (gO (!(!x1)) (shape_bounds ([(Arr3_Int.mk a0.Log (wI ((wI (a0.Members + (1 : Int))) * (wI (a0.Heads + (1 : Int))))) (255 : Int))]))) (fun x2 => (bif ((!x1) || (!x2)) then some (8 : Int) else some (0 : Int))))
theorem shape_Check_c (a0 : Config) {r : Int} (hm : shape_Check a0 = some r) : Ctr Try.prog 93 [.rep 0 a0] (.fl r) [] := by
 refine ctr_of_walk [[]] 35 Try.func93 rfl rfl rfl rfl (fun w0 om => ?_)
 unfold shape_Check at hm
 refine CWalk.sub (G' := [.fact 0 (.rep [] (a0 : Config))]) (Sub.cons (Has.fl (Hs rfl)) Sub.nil) ?_
 refine Cs ?_
 refine Cr ?_
 refine ws (Step.boxObj (ls := [(false, 1, Fact.rep [] a0.Id), (false, 1, Fact.rep [] a0.Members), (false, 1, Fact.rep [] a0.Chunk), (false, 1, Fact.rep [] a0.Rows), (false, 1, Fact.rep [] a0.Log), (false, 1, Fact.rep [] a0.Heads)]) 10 rfl rfl rfl rfl (HasL.flds (Has.cv (Hs rfl) (Cv.trans (Cv.opens (chConfig a0)) (Cv.flds (Vf (Vf (Vf (Vf (Vf (Vf CvL.nil))))))))))) ?_
 refine wo (Spec.assign Has.int) ?_
 refine Wn ?_
 refine Lt ?_
 refine Cs ?_
 refine Cr ?_
 refine wo (Spec.fieldAddrO fd30_1 (Has.cv (Hs rfl) (Cv.isvP rfl))) ?_
 refine wo (Spec.loadF (i := 1) ty3 rfl (Hs rfl) rfl (HasG.s rfl)) ?_
 refine wo (Spec.buildA (us := [(0, .tmp 5), (1, .const (.int .i64 3)), (2, .const (.int .i64 16))]) (ls' := [(false, 1, Fact.rep [] a0.Members), (false, 1, Fact.rep [] ((3 : Int) : Int)), (false, 1, Fact.rep [] ((16 : Int) : Int))]) bd147 rfl (BP.cons rfl rfl (Hs rfl) (Hs rfl) (BP.cons rfl rfl Has.int Has.int (BP.cons rfl rfl Has.int Has.int BP.nil)))) ?_
 refine wo (Spec.fieldAddrO fd30_2 (Has.cv (Hs rfl) (Cv.isvP rfl))) ?_
 refine wo (Spec.loadF (i := 2) ty3 rfl (Hs rfl) rfl (HasG.s rfl)) ?_
 refine wo (Spec.buildA (us := [(0, .tmp 8), (1, .const (.int .i64 1)), (2, .const (.int .i64 8))]) (ls' := [(false, 1, Fact.rep [] a0.Chunk), (false, 1, Fact.rep [] ((1 : Int) : Int)), (false, 1, Fact.rep [] ((8 : Int) : Int))]) bd147 rfl (BP.cons rfl rfl (Hs rfl) (Hs rfl) (BP.cons rfl rfl Has.int Has.int (BP.cons rfl rfl Has.int Has.int BP.nil)))) ?_
 refine wo (Spec.fieldAddrO fd30_3 (Has.cv (Hs rfl) (Cv.isvP rfl))) ?_
 refine wo (Spec.loadF (i := 3) ty3 rfl (Hs rfl) rfl (HasG.s rfl)) ?_
 refine wo (Spec.buildA (us := [(0, .tmp 11), (1, .const (.int .i64 1)), (2, .const (.int .i64 8))]) (ls' := [(false, 1, Fact.rep [] a0.Rows), (false, 1, Fact.rep [] ((1 : Int) : Int)), (false, 1, Fact.rep [] ((8 : Int) : Int))]) bd147 rfl (BP.cons rfl rfl (Hs rfl) (Hs rfl) (BP.cons rfl rfl Has.int Has.int (BP.cons rfl rfl Has.int Has.int BP.nil)))) ?_
 refine wo (Spec.fieldAddrO fd30_5 (Has.cv (Hs rfl) (Cv.isvP rfl))) ?_
 refine wo (Spec.loadF (i := 5) ty3 rfl (Hs rfl) rfl (HasG.s rfl)) ?_
 refine wo (Spec.buildA (us := [(0, .tmp 14), (1, .const (.int .i64 2)), (2, .const (.int .i64 8))]) (ls' := [(false, 1, Fact.rep [] a0.Heads), (false, 1, Fact.rep [] ((2 : Int) : Int)), (false, 1, Fact.rep [] ((8 : Int) : Int))]) bd147 rfl (BP.cons rfl rfl (Hs rfl) (Hs rfl) (BP.cons rfl rfl Has.int Has.int (BP.cons rfl rfl Has.int Has.int BP.nil)))) ?_
 refine wo (Spec.lit (xs := [.tmp 6, .tmp 9, .tmp 12, .tmp 15]) (T := []) 17 rfl ow152 rfl rfl rfl rfl (HasEach.cons (Has.fl (Has.cv (Hs rfl) (Cv.trans (Cv.flds (Vf (Vf (Vf CvL.nil)))) (Cv.close (T := []) (chArr3_Int (Arr3_Int.mk a0.Members (3 : Int) (16 : Int))))))) (HasEach.cons (Has.fl (Has.cv (Hs rfl) (Cv.trans (Cv.flds (Vf (Vf (Vf CvL.nil)))) (Cv.close (T := []) (chArr3_Int (Arr3_Int.mk a0.Chunk (1 : Int) (8 : Int))))))) (HasEach.cons (Has.fl (Has.cv (Hs rfl) (Cv.trans (Cv.flds (Vf (Vf (Vf CvL.nil)))) (Cv.close (T := []) (chArr3_Int (Arr3_Int.mk a0.Rows (1 : Int) (8 : Int))))))) (HasEach.cons (Has.fl (Has.cv (Hs rfl) (Cv.trans (Cv.flds (Vf (Vf (Vf CvL.nil)))) (Cv.close (T := []) (chArr3_Int (Arr3_Int.mk a0.Heads (2 : Int) (8 : Int))))))) HasEach.nil))))) ?_
 obtain ⟨x1, hx1, hm⟩ := bind_some hm
 refine wo (f := Fact.rep [] (x1 : Bool)) (Spec.callE [17] 18 rfl en101 (shape_bounds_c ([(Arr3_Int.mk a0.Members (3 : Int) (16 : Int)), (Arr3_Int.mk a0.Chunk (1 : Int) (8 : Int)), (Arr3_Int.mk a0.Rows (1 : Int) (8 : Int)), (Arr3_Int.mk a0.Heads (2 : Int) (8 : Int))]) hx1) (HasAll.cons (Has.m (Hs rfl) rfl) HasAll.nil)) ?_
 refine wo (Spec.assign (Hs rfl)) ?_
 refine Wn ?_
 refine Lt ?_
 refine Cs ?_
 refine Cs ?_
 refine Cr ?_
 refine mv ?_
 refine wo (Spec.not (Hs rfl)) ?_
 refine mv ?_
 refine wg rfl rfl (fun hb => Spec.fieldAddrO fd30_4 (Has.cv (Hs rfl) (Cv.isvP rfl))) ?_
 refine wg rfl rfl (fun hb => Spec.loadF (i := 4) ty3 rfl (Has.u rfl hb) rfl (HasG.s rfl)) ?_
 refine wg rfl rfl (fun hb => Spec.fieldAddrO fd30_1 (Has.cv (Hs rfl) (Cv.isvP rfl))) ?_
 refine wg rfl rfl (fun hb => Spec.loadF (i := 1) ty3 rfl (Has.u rfl hb) rfl (HasG.s rfl)) ?_
 refine wg rfl rfl (fun hb => Spec.addI (Has.u rfl hb) Has.int) ?_
 refine wg rfl rfl (fun hb => Spec.fieldAddrO fd30_5 (Has.cv (Hs rfl) (Cv.isvP rfl))) ?_
 refine wg rfl rfl (fun hb => Spec.loadF (i := 5) ty3 rfl (Has.u rfl hb) rfl (HasG.s rfl)) ?_
 refine wg rfl rfl (fun hb => Spec.addI (Has.u rfl hb) Has.int) ?_
 refine wg rfl rfl (fun hb => Spec.mulI (Has.u rfl hb) (Has.u rfl hb)) ?_
 refine wg rfl rfl (fun hb => Spec.buildA (us := [(0, .tmp 22), (1, .tmp 29), (2, .const (.int .i64 255))]) (ls' := [(false, 1, Fact.rep [] a0.Log), (false, 1, Fact.rep [] ((wI ((wI (a0.Members + (1 : Int))) * (wI (a0.Heads + (1 : Int))))) : Int)), (false, 1, Fact.rep [] ((255 : Int) : Int))]) bd147 rfl (BP.cons rfl rfl (Has.u rfl hb) (Has.u rfl hb) (BP.cons rfl rfl (Has.u rfl hb) (Has.u rfl hb) (BP.cons rfl rfl Has.int Has.int BP.nil)))) ?_
 refine wg rfl rfl (fun hb => Spec.lit (xs := [.tmp 30]) (T := []) 19 rfl ow152 rfl rfl rfl rfl (HasEach.cons (Has.fl (Has.cv (Has.u rfl hb) (Cv.trans (Cv.flds (Vf (Vf (Vf CvL.nil)))) (Cv.close (T := []) (chArr3_Int (Arr3_Int.mk a0.Log (wI ((wI (a0.Members + (1 : Int))) * (wI (a0.Heads + (1 : Int))))) (255 : Int))))))) HasEach.nil)) ?_
 obtain ⟨x2, hx2, hm⟩ := bind_some hm
 refine wg (f := Fact.rep [] (x2 : Bool)) rfl rfl (fun hb => Spec.callE [19] 20 rfl en101 (shape_bounds_c ([(Arr3_Int.mk a0.Log (wI ((wI (a0.Members + (1 : Int))) * (wI (a0.Heads + (1 : Int))))) (255 : Int))]) (gO_t hx2 (not_t hb))) (HasAll.cons (Has.m (Has.u rfl hb) rfl) HasAll.nil)) ?_
 refine wg rfl rfl (fun hb => Spec.not (Has.u rfl hb)) ?_
 refine wo (Spec.or (Hs rfl) (fun h => Has.u rfl h)) ?_
 refine Wn ?_
 refine Lt ?_
 refine CWalk.cond rfl (fun hb => ?_) (fun hb => ?_)
 ·have hm := cond_t hb hm
  refine Cs ?_
  refine Cr ?_
  refine wo (Spec.assign Has.int) ?_
  refine Wn ?_
  refine Lt ?_
  refine CWalk.ret ?_
  refine Leaf.thenR ?_
  obtain rfl := Option.some.inj hm
  exact Leaf.retC1 rfl (HasR.cv (HasR.tmp (Hs rfl)) Cv.fl)
 ·have hm := cond_f hb hm
  refine CWalk.skip ?_
  refine Lt ?_
  refine Cs ?_
  refine Cr ?_
  refine wo (Spec.assign Has.int) ?_
  refine Wn ?_
  refine Lt ?_
  refine CWalk.ret ?_
  obtain rfl := Option.some.inj hm
  exact Leaf.retC1 rfl (HasR.cv (HasR.tmp (Hs rfl)) Cv.fl)

/-- freeboard/shape.told -/
def shape_told (a0 : Config) (a1 : Int) : Option (Int × Int) :=
  Option.bind (shape_Check a0) (fun x1 => (bif (x1 != (0 : Int)) then some ((0 : Int), x1) else some (a1, (0 : Int))))
theorem shape_told_c (a0 : Config) (a1 : Int) {r : Int × Int} (hm : shape_told a0 a1 = some r) : Ctr Try.prog 65 [.rep 0 a0, .rep 0 a1] (.tup2 (.fl r.1) (.fl r.2)) [] := by
 refine ctr_of_walk [[]] 13 Try.func65 rfl rfl rfl rfl (fun w0 om => ?_)
 unfold shape_told at hm
 refine CWalk.sub (G' := [.fact 0 (.rep [] (a0 : Config)), .fact 1 (.rep [] (a1 : Int))]) (Sub.cons (Has.fl (Hs rfl)) (Sub.cons (Has.fl (Hs rfl)) Sub.nil)) ?_
 refine Cs ?_
 refine Cr ?_
 refine ws (Step.boxObj (ls := [(false, 1, Fact.rep [] a0.Id), (false, 1, Fact.rep [] a0.Members), (false, 1, Fact.rep [] a0.Chunk), (false, 1, Fact.rep [] a0.Rows), (false, 1, Fact.rep [] a0.Log), (false, 1, Fact.rep [] a0.Heads)]) 10 rfl rfl rfl rfl (HasL.flds (Has.cv (Hs rfl) (Cv.trans (Cv.opens (chConfig a0)) (Cv.flds (Vf (Vf (Vf (Vf (Vf (Vf CvL.nil))))))))))) ?_
 refine wo (Spec.assign Has.int) ?_
 refine wo (Spec.assign Has.int) ?_
 refine Wn ?_
 refine Lt ?_
 refine Cs ?_
 refine Cs ?_
 refine Cr ?_
 refine wo (Spec.loadObj (ls := [(false, 1, Fact.rep [] a0.Id), (false, 1, Fact.rep [] a0.Members), (false, 1, Fact.rep [] a0.Chunk), (false, 1, Fact.rep [] a0.Rows), (false, 1, Fact.rep [] a0.Log), (false, 1, Fact.rep [] a0.Heads)]) ty30 rfl rfl (Hs rfl) rfl (Gz rfl (Gz rfl (Gz rfl (Gz rfl (Gz rfl (Gz rfl HasGs.nil))))))) ?_
 obtain ⟨x1, hx1, hm⟩ := bind_some hm
 refine wo (f := Fact.rep [] (x1 : Int)) (Spec.callE [] 17 rfl en93 (shape_Check_c a0 hx1) (HasAll.cons (Has.fl (Has.cv (Hs rfl) (Cv.trans (Cv.flds (Vf (Vf (Vf (Vf (Vf (Vf CvL.nil))))))) (Cv.close (T := []) (chConfig a0))))) HasAll.nil)) ?_
 refine wo (Spec.assign (Hs rfl)) ?_
 refine Wn ?_
 refine Lt ?_
 refine Cs ?_
 refine Cr ?_
 refine mv ?_
 refine wo (Spec.neqI (Hs rfl) Has.int) ?_
 refine Wn ?_
 refine Lt ?_
 refine CWalk.cond rfl (fun hb => ?_) (fun hb => ?_)
 ·have hm := cond_t hb hm
  refine Cs ?_
  refine Cr ?_
  refine mv ?_
  refine wo (Spec.assign Has.int) ?_
  refine wo (Spec.assign (Hs rfl)) ?_
  refine Wn ?_
  refine Lt ?_
  refine CWalk.ret ?_
  refine Leaf.thenR ?_
  obtain rfl := Option.some.inj hm
  exact Leaf.retC2 rfl (HasR.cv (HasR.tmp (Hs rfl)) Cv.fl) (HasR.cv (HasR.tmp (Hs rfl)) Cv.fl)
 ·have hm := cond_f hb hm
  refine CWalk.skip ?_
  refine Lt ?_
  refine Cs ?_
  refine Cr ?_
  refine mv ?_
  refine wo (Spec.assign (Hs rfl)) ?_
  refine wo (Spec.assign Has.int) ?_
  refine Wn ?_
  refine Lt ?_
  refine CWalk.ret ?_
  obtain rfl := Option.some.inj hm
  exact Leaf.retC2 rfl (HasR.cv (HasR.tmp (Hs rfl)) Cv.fl) (HasR.cv (HasR.tmp (Hs rfl)) Cv.fl)

/-- freeboard/shape.Stripes -/
def shape_Stripes (a0 : Config) : Option (Int × Int) :=
  Option.bind (shape_told a0 (wI (a0.Chunk * a0.Rows))) (fun x1 => some (x1.1, x1.2))
theorem shape_Stripes_c (a0 : Config) {r : Int × Int} (hm : shape_Stripes a0 = some r) : Ctr Try.prog 45 [.rep 0 a0] (.tup2 (.fl r.1) (.fl r.2)) [] := by
 refine ctr_of_walk [[]] 13 Try.func45 rfl rfl rfl rfl (fun w0 om => ?_)
 unfold shape_Stripes at hm
 refine CWalk.sub (G' := [.fact 0 (.rep [] (a0 : Config))]) (Sub.cons (Has.fl (Hs rfl)) Sub.nil) ?_
 refine Cs ?_
 refine Cr ?_
 refine ws (Step.boxObj (ls := [(false, 1, Fact.rep [] a0.Id), (false, 1, Fact.rep [] a0.Members), (false, 1, Fact.rep [] a0.Chunk), (false, 1, Fact.rep [] a0.Rows), (false, 1, Fact.rep [] a0.Log), (false, 1, Fact.rep [] a0.Heads)]) 10 rfl rfl rfl rfl (HasL.flds (Has.cv (Hs rfl) (Cv.trans (Cv.opens (chConfig a0)) (Cv.flds (Vf (Vf (Vf (Vf (Vf (Vf CvL.nil))))))))))) ?_
 refine wo (Spec.assign Has.int) ?_
 refine wo (Spec.assign Has.int) ?_
 refine Wn ?_
 refine Lt ?_
 refine Cs ?_
 refine Cr ?_
 refine wo (Spec.loadObj (ls := [(false, 1, Fact.rep [] a0.Id), (false, 1, Fact.rep [] a0.Members), (false, 1, Fact.rep [] a0.Chunk), (false, 1, Fact.rep [] a0.Rows), (false, 1, Fact.rep [] a0.Log), (false, 1, Fact.rep [] a0.Heads)]) ty30 rfl rfl (Hs rfl) rfl (Gz rfl (Gz rfl (Gz rfl (Gz rfl (Gz rfl (Gz rfl HasGs.nil))))))) ?_
 refine wo (Spec.fieldAddrO fd30_2 (Has.cv (Hs rfl) (Cv.isvP rfl))) ?_
 refine wo (Spec.loadF (i := 2) ty3 rfl (Hs rfl) rfl (HasG.s rfl)) ?_
 refine wo (Spec.fieldAddrO fd30_3 (Has.cv (Hs rfl) (Cv.isvP rfl))) ?_
 refine wo (Spec.loadF (i := 3) ty3 rfl (Hs rfl) rfl (HasG.s rfl)) ?_
 refine wo (Spec.mulI (Hs rfl) (Hs rfl)) ?_
 obtain ⟨x1, hx1, hm⟩ := bind_some hm
 refine wo (f := Fact.tup2 (Fact.rep [] x1.1) (Fact.rep [] x1.2)) (Spec.callE [] 17 rfl en65 (shape_told_c a0 (wI (a0.Chunk * a0.Rows)) hx1) (HasAll.cons (Has.fl (Has.cv (Hs rfl) (Cv.trans (Cv.flds (Vf (Vf (Vf (Vf (Vf (Vf CvL.nil))))))) (Cv.close (T := []) (chConfig a0))))) (HasAll.cons (Has.fl (Hs rfl)) HasAll.nil))) ?_
 refine wo (Spec.ext0 (Hs rfl)) ?_
 refine wo (Spec.ext1 (Hs rfl)) ?_
 refine wo (Spec.assign (Hs rfl)) ?_
 refine wo (Spec.assign (Hs rfl)) ?_
 refine Wn ?_
 refine Lt ?_
 refine CWalk.ret ?_
 obtain rfl := Option.some.inj hm
 exact Leaf.retC2 rfl (HasR.cv (HasR.tmp (Hs rfl)) Cv.fl) (HasR.cv (HasR.tmp (Hs rfl)) Cv.fl)

/-- freeboard/loss.Check -/
def loss_Check (a0 : Config) (a1 : Loss) : Option (Int) :=
  Option.bind (shape_Stripes a0) (fun x1 => (bif (((((((x1.2 != (0 : Int)) || (decide ((a1.Events.toNat : Int) > ((2147483648 : UInt32).toNat : Int)))) || (decide (a1.Lost < (-1 : Int)))) || (decide (a1.Lost ≥ a0.Members))) || (decide (a1.Done < (0 : Int)))) || (decide (a1.Done > a1.Pos))) || (decide (a1.Pos > x1.1))) then some (8 : Int) else (bif ((a1.Spare && (a1.Lost == (-1 : Int))) || ((!a1.Spare) && (decide (a1.Pos > (0 : Int))))) then some (8 : Int) else some (0 : Int))))
theorem loss_Check_c (a0 : Config) (a1 : Loss) {r : Int} (hm : loss_Check a0 a1 = some r) : Ctr Try.prog 28 [.rep 0 a0, .rep 0 a1] (.fl r) [] := by
 refine ctr_of_walk [[]] 66 Try.func28 rfl rfl rfl rfl (fun w0 om => ?_)
 unfold loss_Check at hm
 refine CWalk.sub (G' := [.fact 0 (.rep [] (a0 : Config)), .fact 1 (.rep [] (a1 : Loss))]) (Sub.cons (Has.fl (Hs rfl)) (Sub.cons (Has.fl (Hs rfl)) Sub.nil)) ?_
 refine Cs ?_
 refine Cr ?_
 refine ws (Step.boxObj (ls := [(false, 1, Fact.rep [] a0.Id), (false, 1, Fact.rep [] a0.Members), (false, 1, Fact.rep [] a0.Chunk), (false, 1, Fact.rep [] a0.Rows), (false, 1, Fact.rep [] a0.Log), (false, 1, Fact.rep [] a0.Heads)]) 10 rfl rfl rfl rfl (HasL.flds (Has.cv (Hs rfl) (Cv.trans (Cv.opens (chConfig a0)) (Cv.flds (Vf (Vf (Vf (Vf (Vf (Vf CvL.nil))))))))))) ?_
 refine ws (Step.boxObj (ls := [(false, 1, Fact.rep [] a1.Events), (false, 1, Fact.rep [] a1.Lost), (false, 1, Fact.rep [] a1.Spare), (false, 1, Fact.rep [] a1.Pos), (false, 1, Fact.rep [] a1.Done), (false, 1, Fact.rep [] a1.NoLog), (false, 1, Fact.rep [] a1.Broken)]) 17 rfl rfl rfl rfl (HasL.flds (Has.cv (Hs rfl) (Cv.trans (Cv.opens (chLoss a1)) (Cv.flds (Vf (Vf (Vf (Vf (Vf (Vf (Vf CvL.nil)))))))))))) ?_
 refine wo (Spec.assign Has.int) ?_
 refine Wn ?_
 refine Lt ?_
 refine Cs ?_
 refine Cr ?_
 refine wo (Spec.loadObj (ls := [(false, 1, Fact.rep [] a0.Id), (false, 1, Fact.rep [] a0.Members), (false, 1, Fact.rep [] a0.Chunk), (false, 1, Fact.rep [] a0.Rows), (false, 1, Fact.rep [] a0.Log), (false, 1, Fact.rep [] a0.Heads)]) ty30 rfl rfl (Hs rfl) rfl (Gz rfl (Gz rfl (Gz rfl (Gz rfl (Gz rfl (Gz rfl HasGs.nil))))))) ?_
 obtain ⟨x1, hx1, hm⟩ := bind_some hm
 refine wo (f := Fact.tup2 (Fact.rep [] x1.1) (Fact.rep [] x1.2)) (Spec.callE [] 25 rfl en45 (shape_Stripes_c a0 hx1) (HasAll.cons (Has.fl (Has.cv (Hs rfl) (Cv.trans (Cv.flds (Vf (Vf (Vf (Vf (Vf (Vf CvL.nil))))))) (Cv.close (T := []) (chConfig a0))))) HasAll.nil)) ?_
 refine mv ?_
 refine wo (Spec.ext0 (Hs rfl)) ?_
 refine wo (Spec.ext1 (Hs rfl)) ?_
 refine wo (Spec.assign (Hs rfl)) ?_
 refine wo (Spec.assign (Hs rfl)) ?_
 refine Wn ?_
 refine Lt ?_
 refine Cs ?_
 refine Cs ?_
 refine Cr ?_
 refine mv ?_
 refine wo (Spec.neqI (Hs rfl) Has.int) ?_
 refine mv ?_
 refine wg rfl rfl (fun hb => Spec.fieldAddrO fd33_0 (Has.cv (Hs rfl) (Cv.isvP rfl))) ?_
 refine wg rfl rfl (fun hb => Spec.loadF (i := 0) ty28 rfl (Has.u rfl hb) rfl (HasG.s rfl)) ?_
 refine wg rfl rfl (fun hb => Spec.gtrN (α := UInt32) (Has.u rfl hb) (Has.u32 2147483648 rfl)) ?_
 refine wo (Spec.or (Hs rfl) (fun h => Has.u rfl h)) ?_
 refine mv ?_
 refine wg rfl rfl (fun hb => Spec.fieldAddrO fd33_1 (Has.cv (Hs rfl) (Cv.isvP rfl))) ?_
 refine wg rfl rfl (fun hb => Spec.loadF (i := 1) ty3 rfl (Has.u rfl hb) rfl (HasG.s rfl)) ?_
 refine wg rfl rfl (fun hb => Spec.lssI (Has.u rfl hb) Has.int) ?_
 refine wo (Spec.or (Hs rfl) (fun h => Has.u rfl h)) ?_
 refine mv ?_
 refine wg rfl rfl (fun hb => Spec.fieldAddrO fd33_1 (Has.cv (Hs rfl) (Cv.isvP rfl))) ?_
 refine wg rfl rfl (fun hb => Spec.loadF (i := 1) ty3 rfl (Has.u rfl hb) rfl (HasG.s rfl)) ?_
 refine wg rfl rfl (fun hb => Spec.fieldAddrO fd30_1 (Has.cv (Hs rfl) (Cv.isvP rfl))) ?_
 refine wg rfl rfl (fun hb => Spec.loadF (i := 1) ty3 rfl (Has.u rfl hb) rfl (HasG.s rfl)) ?_
 refine wg rfl rfl (fun hb => Spec.geqI (Has.u rfl hb) (Has.u rfl hb)) ?_
 refine wo (Spec.or (Hs rfl) (fun h => Has.u rfl h)) ?_
 refine mv ?_
 refine wg rfl rfl (fun hb => Spec.fieldAddrO fd33_4 (Has.cv (Hs rfl) (Cv.isvP rfl))) ?_
 refine wg rfl rfl (fun hb => Spec.loadF (i := 4) ty3 rfl (Has.u rfl hb) rfl (HasG.s rfl)) ?_
 refine wg rfl rfl (fun hb => Spec.lssI (Has.u rfl hb) Has.int) ?_
 refine wo (Spec.or (Hs rfl) (fun h => Has.u rfl h)) ?_
 refine mv ?_
 refine wg rfl rfl (fun hb => Spec.fieldAddrO fd33_4 (Has.cv (Hs rfl) (Cv.isvP rfl))) ?_
 refine wg rfl rfl (fun hb => Spec.loadF (i := 4) ty3 rfl (Has.u rfl hb) rfl (HasG.s rfl)) ?_
 refine wg rfl rfl (fun hb => Spec.fieldAddrO fd33_3 (Has.cv (Hs rfl) (Cv.isvP rfl))) ?_
 refine wg rfl rfl (fun hb => Spec.loadF (i := 3) ty3 rfl (Has.u rfl hb) rfl (HasG.s rfl)) ?_
 refine wg rfl rfl (fun hb => Spec.gtrI (Has.u rfl hb) (Has.u rfl hb)) ?_
 refine wo (Spec.or (Hs rfl) (fun h => Has.u rfl h)) ?_
 refine mv ?_
 refine wg rfl rfl (fun hb => Spec.fieldAddrO fd33_3 (Has.cv (Hs rfl) (Cv.isvP rfl))) ?_
 refine wg rfl rfl (fun hb => Spec.loadF (i := 3) ty3 rfl (Has.u rfl hb) rfl (HasG.s rfl)) ?_
 refine wg rfl rfl (fun hb => Spec.move (Hs rfl)) ?_
 refine wg rfl rfl (fun hb => Spec.gtrI (Has.u rfl hb) (Has.u rfl hb)) ?_
 refine wo (Spec.or (Hs rfl) (fun h => Has.u rfl h)) ?_
 refine Wn ?_
 refine Lt ?_
 refine CWalk.cond rfl (fun hb => ?_) (fun hb => ?_)
 ·have hm := cond_t hb hm
  refine Cs ?_
  refine Cr ?_
  refine wo (Spec.assign Has.int) ?_
  refine Wn ?_
  refine Lt ?_
  refine CWalk.ret ?_
  refine Leaf.thenR ?_
  obtain rfl := Option.some.inj hm
  exact Leaf.retC1 rfl (HasR.cv (HasR.tmp (Hs rfl)) Cv.fl)
 ·have hm := cond_f hb hm
  refine CWalk.skip ?_
  refine Lt ?_
  refine Cs ?_
  refine Cs ?_
  refine Cr ?_
  refine wo (Spec.fieldAddrO fd33_2 (Has.cv (Hs rfl) (Cv.isvP rfl))) ?_
  refine wo (Spec.loadF (i := 2) ty4 rfl (Hs rfl) rfl (HasG.s rfl)) ?_
  refine mv ?_
  refine wg rfl rfl (fun hb => Spec.fieldAddrO fd33_1 (Has.cv (Hs rfl) (Cv.isvP rfl))) ?_
  refine wg rfl rfl (fun hb => Spec.loadF (i := 1) ty3 rfl (Has.u rfl hb) rfl (HasG.s rfl)) ?_
  refine wg rfl rfl (fun hb => Spec.eqlI (Has.u rfl hb) Has.int) ?_
  refine wo (Spec.and (Hs rfl) (fun h => Has.u rfl h)) ?_
  refine mv ?_
  refine wg rfl rfl (fun hb => Spec.fieldAddrO fd33_2 (Has.cv (Hs rfl) (Cv.isvP rfl))) ?_
  refine wg rfl rfl (fun hb => Spec.loadF (i := 2) ty4 rfl (Has.u rfl hb) rfl (HasG.s rfl)) ?_
  refine wg rfl rfl (fun hb => Spec.not (Has.u rfl hb)) ?_
  refine wg rfl rfl (fun hb => Spec.move (Has.u rfl hb)) ?_
  refine Walk.opgu rfl rfl rfl (fun hb => Spec.fieldAddrO fd33_3 (Has.cv (Hs rfl) (Cv.isvP rfl))) ?_
  refine Walk.opgu rfl rfl rfl (fun hb => Spec.loadF (i := 3) ty3 rfl (Has.u rfl hb) rfl (HasG.s rfl)) ?_
  refine Walk.opgu rfl rfl rfl (fun hb => Spec.gtrI (Has.u rfl hb) Has.int) ?_
  refine wg rfl rfl (fun hb => Spec.and (Has.u rfl hb) (fun h => Has.u rfl ⟨hb, h⟩)) ?_
  refine wo (Spec.or (Hs rfl) (fun h => Has.u rfl h)) ?_
  refine Wn ?_
  refine Lt ?_
  refine CWalk.cond rfl (fun hb => ?_) (fun hb => ?_)
  ·have hm := cond_t hb hm
   refine Cs ?_
   refine Cr ?_
   refine wo (Spec.assign Has.int) ?_
   refine Wn ?_
   refine Lt ?_
   refine CWalk.ret ?_
   refine Leaf.thenR ?_
   obtain rfl := Option.some.inj hm
   exact Leaf.retC1 rfl (HasR.cv (HasR.tmp (Hs rfl)) Cv.fl)
  ·have hm := cond_f hb hm
   refine CWalk.skip ?_
   refine Lt ?_
   refine Cs ?_
   refine Cr ?_
   refine wo (Spec.assign Has.int) ?_
   refine Wn ?_
   refine Lt ?_
   refine CWalk.ret ?_
   obtain rfl := Option.some.inj hm
   exact Leaf.retC1 rfl (HasR.cv (HasR.tmp (Hs rfl)) Cv.fl)

def redo_all_api_Found_L1 (a0 : List Found) (a1 : Found → Option Int) (s1 : Int) : Option (Ctl (Int) ((Unit) ⊕ (Int))) :=
  (bif (decide (s1 < ((a0).length : Int))) then Option.bind (idx a0 s1) (fun x3 => Option.bind (a1 x3) (fun x4 => (bif (x4 != (0 : Int)) then some (Ctl.brk (Sum.inr x4)) else some (Ctl.next (wI (s1 + (1 : Int))))))) else some (Ctl.brk (Sum.inl ())))
/-- freeboard/redo.all[freeboard/api.Found] -/
def redo_all_api_Found (a0 : List Found) (a1 : Found → Option Int) : Option (Int) :=
  Option.bind (loopM (fun s : Int => redo_all_api_Found_L1 a0 a1 s) FUEL (0 : Int)) (fun b5 => Sum.elim (fun b6 => some (0 : Int)) (fun b7 => some b7) b5)
theorem redo_all_api_Found_c (a0 : List Found) (a1 : Found → Option Int) {r : Int} (hm : redo_all_api_Found a0 a1 = some r) : Ctr Try.prog 29 [.rep 0 a0, .fn Try.prog pre1 0 a1] (.fl r) [] := by
 refine ctr_of_walk [[]] 21 Try.func29 rfl rfl rfl rfl (fun w0 om => ?_)
 unfold redo_all_api_Found at hm
 refine CWalk.sub (G' := [.fact 0 (.rep [0] (a0 : List Found)), .fact 1 (.fn Try.prog pre1 [0] (a1))]) (sn (sn Sub.nil)) ?_
 refine Cs ?_
 refine Cr ?_
 refine wo (Spec.assign Has.int) ?_
 refine Wn ?_
 refine Lt ?_
 refine Cs ?_
 refine Cs ?_
 refine Cr ?_
 refine mv ?_
 refine wo (Spec.len (Hs rfl) Try.underlying43) ?_
 refine wo (Spec.move Has.int) ?_
 refine Wn ?_
 refine Lt ?_
 refine CWalk.block ?_
 obtain ⟨b5, hb5, hm⟩ := bind_some hm
 refine CWalk.loop (fun s : Int => [.fact 1 (.fn Try.prog pre1 [0] (a1)), .fact 8 (.rep [0] (a0 : List Found)), .fact 9 (.rep [] (((a0).length : Int) : Int)), .fact 10 (.rep [] (s : Int))]) (fun b : (Unit) ⊕ (Int) => Sum.elim (fun b => (Exit.exit 0, [])) (fun b => (Exit.ret, [.fact 4 (.rep [] (b : Int))])) b) hb5 (sn (su (st (st Sub.nil)))) ?_ ?_
 ·rintro s1 c2 hm
  replace hm : redo_all_api_Found_L1 a0 a1 s1 = some c2 := hm
  unfold redo_all_api_Found_L1 at hm
  show CWalk _ [.fact 1 (.fn Try.prog pre1 [0] (a1)), .fact 8 (.rep [0] (a0 : List Found)), .fact 9 (.rep [] (((a0).length : Int) : Int)), .fact 10 (.rep [] (s1 : Int))] _ _
  refine Cs ?_
  refine Cr ?_
  refine wo (Spec.lssI (Hs rfl) (Hs rfl)) ?_
  refine Wn ?_
  refine Lt ?_
  refine Cs ?_
  refine CWalk.cond rfl (fun hb => ?_) (fun hb => ?_)
  ·have hm := cond_t hb hm
   refine CWalk.skip ?_
   refine Lt ?_
   refine Cs ?_
   refine CWalk.block ?_
   refine Cs ?_
   refine Cr ?_
   obtain ⟨x3, hx3, hm⟩ := bind_some hm
   refine wo (Spec.indexAddr hx3 sl43 (Hs rfl) (Hs rfl)) ?_
   refine wo (Spec.load ty41 (Hs rfl)) ?_
   refine ws (Step.allocObj (ls := [(false, 1, Fact.rep [] ((0 : UInt32) : UInt32)), (false, 1, Fact.rep [] ((0 : UInt32) : UInt32)), (false, 1, Fact.rep [] ((0 : Int) : Int)), (false, 1, Fact.nilv), (false, 1, Fact.nilv), (false, 1, Fact.nilv)]) 10 rfl rfl rfl rfl zl41) ?_
   refine ws (Step.storeObj (ls := [(false, 1, Fact.rep [] x3.Age), (false, 1, Fact.rep [] x3.Seq), (false, 1, Fact.rep [] x3.Deal.Stripe), (false, 1, Fact.rep [0] x3.Deal.Slots), (false, 1, Fact.rep [0] x3.Deal.Blocks), (false, 1, Fact.rep [0] x3.Deal.Parity)]) rfl ty41 rfl rfl (Hs rfl) rfl (HasL.flds (Has.cv (Hs rfl) (Cv.trans (Cv.trans (Cv.trans (Cv.opens (chFound x3)) (Cv.flds (Vf (Vf (CvL.cons Cv.refl CvL.nil))))) (Cv.flds (ls := [(false, 1, Fact.rep [] x3.Age), (false, 1, Fact.rep [] x3.Seq), (true, 4, Fact.rep [0] x3.Deal)]) (ms := [(false, 1, Fact.rep [] x3.Age), (false, 1, Fact.rep [] x3.Seq), (true, 4, Fact.flds [(false, 1, Fact.rep [] x3.Deal.Stripe), (false, 1, Fact.rep [0] x3.Deal.Slots), (false, 1, Fact.rep [0] x3.Deal.Blocks), (false, 1, Fact.rep [0] x3.Deal.Parity)])]) (CvL.cons Cv.refl (CvL.cons Cv.refl (CvL.cons (Cv.trans (Cv.opens (chDeal x3.Deal)) (Cv.flds (Vf (CvL.cons Cv.refl (CvL.cons Cv.refl (CvL.cons Cv.refl CvL.nil)))))) CvL.nil))))) (Cv.flat (FlatR.cons (FlatR.cons (FlatR.sub (FlatR.cons (FlatR.cons (FlatR.cons (FlatR.cons FlatR.nil)))) rfl FlatR.nil))))))) rfl) ?_
   refine Wn ?_
   refine Lt ?_
   refine Cs ?_
   refine Cr ?_
   refine mv ?_
   refine wo (Spec.unflat (FlatR.cons (FlatR.cons (FlatR.sub (FlatR.cons (FlatR.cons (FlatR.cons (FlatR.cons FlatR.nil)))) rfl FlatR.nil))) (Spec.loadObj (ls := [(false, 1, Fact.rep [] x3.Age), (false, 1, Fact.rep [] x3.Seq), (false, 1, Fact.rep [] x3.Deal.Stripe), (false, 1, Fact.rep [0] x3.Deal.Slots), (false, 1, Fact.rep [0] x3.Deal.Blocks), (false, 1, Fact.rep [0] x3.Deal.Parity)]) ty41 rfl rfl (Hs rfl) rfl (Gz rfl (Gz rfl (Gz rfl (Gz rfl (Gz rfl (Gz rfl HasGs.nil)))))))) ?_
   obtain ⟨x4, hx4, hm⟩ := bind_some hm
   refine wo (Spec.callFn (xs := [.tmp 15]) (x := x3) [0] 17 rfl hx4 (Hs rfl) (HasAll.cons (Has.m (Has.cv (Hs rfl) (Cv.trans (Cv.flds (Vf (Vf (CvL.cons (Cv.trans (Cv.trans (Cv.flds (Vf (CvL.cons (Cv.m rfl) (CvL.cons (Cv.m rfl) (CvL.cons (Cv.m rfl) CvL.nil))))) (Cv.close (T := [0]) (chDeal x3.Deal))) (Cv.m rfl)) CvL.nil)))) (Cv.close (T := [0]) (chFound x3)))) rfl) HasAll.nil)) ?_
   refine wo (Spec.assign (Hs rfl)) ?_
   refine Wn ?_
   refine Lt ?_
   refine Cs ?_
   refine Cr ?_
   refine mv ?_
   refine wo (Spec.neqI (Hs rfl) Has.int) ?_
   refine Wn ?_
   refine Lt ?_
   refine CWalk.cond rfl (fun hb => ?_) (fun hb => ?_)
   ·have hm := cond_t hb hm
    refine Cs ?_
    refine Cr ?_
    refine mv ?_
    refine wo (Spec.assign (Hs rfl)) ?_
    refine Wn ?_
    refine Lt ?_
    refine CWalk.ret ?_
    refine Leaf.blockR ?_
    refine Leaf.thenR ?_
    exact Leaf.brk hm (fun h => nomatch h) rfl (st Sub.nil)
   ·have hm := cond_f hb hm
    refine CWalk.skip ?_
    refine Leaf.blockN ?_
    refine Lt ?_
    refine Cr ?_
    refine wo (Spec.addI (Hs rfl) Has.int) ?_
    refine mv ?_
    refine Wn ?_
    exact Leaf.next hm (sn (su (st (st Sub.nil))))
  ·have hm := cond_f hb hm
   refine CWalk.exit ?_
   refine Leaf.thenE ?_
   exact Leaf.brk hm (fun h => nomatch h) rfl (Sub.nil)
 ·intro _
  rcases b5 with b6 | b7
  ·have hm := selim_l hm
   refine Leaf.blockE ?_
   refine Lt ?_
   refine Cs ?_
   refine Cr ?_
   refine wo (Spec.assign Has.int) ?_
   refine Wn ?_
   refine Lt ?_
   refine CWalk.ret ?_
   obtain rfl := Option.some.inj hm
   exact Leaf.retC1 rfl (HasR.cv (HasR.tmp (Hs rfl)) Cv.fl)
  ·have hm := selim_r hm
   refine Leaf.blockR ?_
   refine Leaf.thenR ?_
   obtain rfl := Option.some.inj hm
   exact Leaf.retC1 rfl (HasR.cv (HasR.tmp (Hs rfl)) Cv.fl)

def slices_IndexFunc_byte_byte_L1 (a0 : List (List UInt8)) (a1 : (List UInt8) → Option Bool) (s1 : Int) : Option (Ctl (Int) ((Unit) ⊕ (Int))) :=
  (bif (decide (s1 < ((a0).length : Int))) then Option.bind (idx a0 s1) (fun x3 => Option.bind (a1 x3) (fun x4 => (bif x4 then some (Ctl.brk (Sum.inr s1)) else some (Ctl.next (wI (s1 + (1 : Int))))))) else some (Ctl.brk (Sum.inl ())))
/-- slices.IndexFunc[[][]byte,[]byte] -/
def slices_IndexFunc_byte_byte (a0 : List (List UInt8)) (a1 : (List UInt8) → Option Bool) : Option (Int) :=
  Option.bind (loopM (fun s : Int => slices_IndexFunc_byte_byte_L1 a0 a1 s) FUEL (0 : Int)) (fun b5 => Sum.elim (fun b6 => some (-1 : Int)) (fun b7 => some b7) b5)
theorem slices_IndexFunc_byte_byte_c (a0 : List (List UInt8)) (a1 : (List UInt8) → Option Bool) {r : Int} (hm : slices_IndexFunc_byte_byte a0 a1 = some r) : Ctr Try.prog 83 [.rep 0 a0, .fn Try.prog pre1 0 a1] (.fl r) [] := by
 refine ctr_of_walk [[]] 19 Try.func83 rfl rfl rfl rfl (fun w0 om => ?_)
 unfold slices_IndexFunc_byte_byte at hm
 refine CWalk.sub (G' := [.fact 0 (.rep [0] (a0 : List (List UInt8))), .fact 1 (.fn Try.prog pre1 [0] (a1))]) (sn (sn Sub.nil)) ?_
 refine Cs ?_
 refine Cr ?_
 refine wo (Spec.assign Has.int) ?_
 refine Wn ?_
 refine Lt ?_
 refine Cs ?_
 refine Cs ?_
 refine Cr ?_
 refine mv ?_
 refine wo (Spec.len (Hs rfl) Try.underlying36) ?_
 refine wo (Spec.move Has.int) ?_
 refine Wn ?_
 refine Lt ?_
 refine CWalk.block ?_
 obtain ⟨b5, hb5, hm⟩ := bind_some hm
 refine CWalk.loop (fun s : Int => [.fact 0 (.rep [0] (a0 : List (List UInt8))), .fact 1 (.fn Try.prog pre1 [0] (a1)), .fact 7 (.rep [] (((a0).length : Int) : Int)), .fact 8 (.rep [] (s : Int))]) (fun b : (Unit) ⊕ (Int) => Sum.elim (fun b => (Exit.exit 0, [])) (fun b => (Exit.ret, [.fact 4 (.rep [] (b : Int))])) b) hb5 (su (sn (st (st Sub.nil)))) ?_ ?_
 ·rintro s1 c2 hm
  replace hm : slices_IndexFunc_byte_byte_L1 a0 a1 s1 = some c2 := hm
  unfold slices_IndexFunc_byte_byte_L1 at hm
  show CWalk _ [.fact 0 (.rep [0] (a0 : List (List UInt8))), .fact 1 (.fn Try.prog pre1 [0] (a1)), .fact 7 (.rep [] (((a0).length : Int) : Int)), .fact 8 (.rep [] (s1 : Int))] _ _
  refine Cs ?_
  refine Cr ?_
  refine wo (Spec.lssI (Hs rfl) (Hs rfl)) ?_
  refine Wn ?_
  refine Lt ?_
  refine Cs ?_
  refine CWalk.cond rfl (fun hb => ?_) (fun hb => ?_)
  ·have hm := cond_t hb hm
   refine CWalk.skip ?_
   refine Lt ?_
   refine Cs ?_
   refine CWalk.block ?_
   refine Cs ?_
   refine Cr ?_
   refine mv ?_
   refine wo (Spec.assign (Hs rfl)) ?_
   refine Wn ?_
   refine Lt ?_
   refine Cs ?_
   refine Cr ?_
   refine mv ?_
   refine mv ?_
   refine mv ?_
   obtain ⟨x3, hx3, hm⟩ := bind_some hm
   refine wo (Spec.indexAddr hx3 sl36 (Hs rfl) (Hs rfl)) ?_
   refine wo (Spec.load ty37 (Hs rfl)) ?_
   obtain ⟨x4, hx4, hm⟩ := bind_some hm
   refine wo (Spec.callFn (xs := [.tmp 15]) (x := x3) [0] 10 rfl hx4 (Hs rfl) (HasAll.cons (Has.m (Hs rfl) rfl) HasAll.nil)) ?_
   refine Wn ?_
   refine Lt ?_
   refine CWalk.cond rfl (fun hb => ?_) (fun hb => ?_)
   ·have hm := cond_t hb hm
    refine Cs ?_
    refine Cr ?_
    refine mv ?_
    refine wo (Spec.assign (Hs rfl)) ?_
    refine Wn ?_
    refine Lt ?_
    refine CWalk.ret ?_
    refine Leaf.blockR ?_
    refine Leaf.thenR ?_
    exact Leaf.brk hm (fun h => nomatch h) rfl (st Sub.nil)
   ·have hm := cond_f hb hm
    refine CWalk.skip ?_
    refine Leaf.blockN ?_
    refine Lt ?_
    refine Cr ?_
    refine wo (Spec.addI (Hs rfl) Has.int) ?_
    refine mv ?_
    refine Wn ?_
    exact Leaf.next hm (su (sn (st (st Sub.nil))))
  ·have hm := cond_f hb hm
   refine CWalk.exit ?_
   refine Leaf.thenE ?_
   exact Leaf.brk hm (fun h => nomatch h) rfl (Sub.nil)
 ·intro _
  rcases b5 with b6 | b7
  ·have hm := selim_l hm
   refine Leaf.blockE ?_
   refine Lt ?_
   refine Cs ?_
   refine Cr ?_
   refine wo (Spec.assign Has.int) ?_
   refine Wn ?_
   refine Lt ?_
   refine CWalk.ret ?_
   obtain rfl := Option.some.inj hm
   exact Leaf.retC1 rfl (HasR.cv (HasR.tmp (Hs rfl)) Cv.fl)
  ·have hm := selim_r hm
   refine Leaf.blockR ?_
   refine Leaf.thenR ?_
   obtain rfl := Option.some.inj hm
   exact Leaf.retC1 rfl (HasR.cv (HasR.tmp (Hs rfl)) Cv.fl)

/-- slices.ContainsFunc[[][]byte,[]byte] -/
def slices_ContainsFunc_byte_byte (a0 : List (List UInt8)) (a1 : (List UInt8) → Option Bool) : Option (Bool) :=
  Option.bind (slices_IndexFunc_byte_byte a0 a1) (fun x1 => some (decide (x1 ≥ (0 : Int))))
theorem slices_ContainsFunc_byte_byte_c (a0 : List (List UInt8)) (a1 : (List UInt8) → Option Bool) {r : Bool} (hm : slices_ContainsFunc_byte_byte a0 a1 = some r) : Ctr Try.prog 54 [.rep 0 a0, .fn Try.prog pre1 0 a1] (.fl r) [] := by
 refine ctr_of_walk [[]] 9 Try.func54 rfl rfl rfl rfl (fun w0 om => ?_)
 unfold slices_ContainsFunc_byte_byte at hm
 refine CWalk.sub (G' := [.fact 0 (.rep [0] (a0 : List (List UInt8))), .fact 1 (.fn Try.prog pre1 [0] (a1))]) (sn (sn Sub.nil)) ?_
 refine Cs ?_
 refine Cr ?_
 refine wo (Spec.assign Has.bool) ?_
 refine Wn ?_
 refine Lt ?_
 refine Cs ?_
 refine Cr ?_
 refine mv ?_
 refine mv ?_
 obtain ⟨x1, hx1, hm⟩ := bind_some hm
 refine wo (f := Fact.rep [] (x1 : Int)) (Spec.callE [0] 10 rfl en83 (slices_IndexFunc_byte_byte_c a0 a1 hx1) (HasAll.cons (Has.m (Hs rfl) rfl) (HasAll.cons (Has.cv (Hs rfl) (Cv.fnM rfl)) HasAll.nil))) ?_
 refine wo (Spec.geqI (Hs rfl) Has.int) ?_
 refine wo (Spec.assign (Hs rfl)) ?_
 refine Wn ?_
 refine Lt ?_
 refine CWalk.ret ?_
 obtain rfl := Option.some.inj hm
 exact Leaf.retC1 rfl (HasR.cv (HasR.tmp (Hs rfl)) Cv.fl)

/-- freeboard/deal.Check$1 -/
def deal_Check_1 (a0 : List UInt8) : Option (Bool) :=
  some ((((a0).length : Int) != (0 : Int)) && (((a0).length : Int) != (128 : Int)))
theorem deal_Check_1_c (a0 : List UInt8) {r : Bool} (hm : deal_Check_1 a0 = some r) : Ctr Try.prog 55 [.rep 0 a0] (.fl r) [] := by
 refine ctr_of_walk [[]] 11 Try.func55 rfl rfl rfl rfl (fun w0 om => ?_)
 unfold deal_Check_1 at hm
 refine CWalk.sub (G' := [.fact 0 (.rep [0] (a0 : List UInt8))]) (sn Sub.nil) ?_
 refine Cs ?_
 refine Cr ?_
 refine wo (Spec.assign Has.bool) ?_
 refine Wn ?_
 refine Lt ?_
 refine Cs ?_
 refine Cr ?_
 refine mv ?_
 refine wo (Spec.len (Hs rfl) Try.underlying37) ?_
 refine wo (Spec.neqI (Hs rfl) Has.int) ?_
 refine mv ?_
 refine wg rfl rfl (fun hb => Spec.move (Hs rfl)) ?_
 refine wg rfl rfl (fun hb => Spec.len (Has.u rfl hb) Try.underlying37) ?_
 refine wg rfl rfl (fun hb => Spec.neqI (Has.u rfl hb) Has.int) ?_
 refine wo (Spec.and (Hs rfl) (fun h => Has.u rfl h)) ?_
 refine wo (Spec.assign (Hs rfl)) ?_
 refine Wn ?_
 refine Lt ?_
 refine CWalk.ret ?_
 obtain rfl := Option.some.inj hm
 exact Leaf.retC1 rfl (HasR.cv (HasR.tmp (Hs rfl)) Cv.fl)

def deal_slots_L1 (a0 : Config) (a1 : List Int) (s1 : Int) (s2 : Int) : Option (Ctl (Int × Int) ((Unit) ⊕ (Unit))) :=
  (bif (decide (s2 < ((a1).length : Int))) then Option.bind (idx a1 s2) (fun x4 => (bif ((decide (x4 ≤ s1)) || (decide (x4 > (wI (a0.Members - (2 : Int)))))) then some (Ctl.brk (Sum.inr ())) else some (Ctl.next (x4, (wI (s2 + (1 : Int))))))) else some (Ctl.brk (Sum.inl ())))
/-- freeboard/deal.slots -/
def deal_slots (a0 : Config) (a1 : List Int) : Option (Bool) :=
  Option.bind (loopM (fun s : Int × Int => deal_slots_L1 a0 a1 s.1 s.2) FUEL ((-1 : Int), (0 : Int))) (fun b5 => Sum.elim (fun b6 => some (decide (((a1).length : Int) > (0 : Int)))) (fun b7 => some false) b5)
theorem deal_slots_c (a0 : Config) (a1 : List Int) {r : Bool} (hm : deal_slots a0 a1 = some r) : Ctr Try.prog 56 [.rep 0 a0, .rep 0 a1] (.fl r) [] := by
 refine ctr_of_walk [[]] 29 Try.func56 rfl rfl rfl rfl (fun w0 om => ?_)
 unfold deal_slots at hm
 refine CWalk.sub (G' := [.fact 0 (.rep [] (a0 : Config)), .fact 1 (.rep [0] (a1 : List Int))]) (Sub.cons (Has.fl (Hs rfl)) (sn Sub.nil)) ?_
 refine Cs ?_
 refine Cr ?_
 refine ws (Step.boxObj (ls := [(false, 1, Fact.rep [] a0.Id), (false, 1, Fact.rep [] a0.Members), (false, 1, Fact.rep [] a0.Chunk), (false, 1, Fact.rep [] a0.Rows), (false, 1, Fact.rep [] a0.Log), (false, 1, Fact.rep [] a0.Heads)]) 10 rfl rfl rfl rfl (HasL.flds (Has.cv (Hs rfl) (Cv.trans (Cv.opens (chConfig a0)) (Cv.flds (Vf (Vf (Vf (Vf (Vf (Vf CvL.nil))))))))))) ?_
 refine wo (Spec.assign Has.bool) ?_
 refine Wn ?_
 refine Lt ?_
 refine Cs ?_
 refine Cr ?_
 refine wo (Spec.assign Has.int) ?_
 refine Wn ?_
 refine Lt ?_
 refine Cs ?_
 refine Cs ?_
 refine Cr ?_
 refine mv ?_
 refine wo (Spec.len (Hs rfl) Try.underlying35) ?_
 refine wo (Spec.move Has.int) ?_
 refine Wn ?_
 refine Lt ?_
 refine CWalk.block ?_
 obtain ⟨b5, hb5, hm⟩ := bind_some hm
 refine CWalk.loop (fun s : Int × Int => [.fact 1 (.rep [0] (a1 : List Int)), .fact 2 (.isv 10), .fact 5 (.rep [] s.1), .fact 8 (.rep [0] (a1 : List Int)), .fact 9 (.rep [] (((a1).length : Int) : Int)), .fact 10 (.rep [] s.2), .fact 100011 (.at 11 (.rep [] a0.Id)), .fact 100012 (.at 12 (.rep [] a0.Members)), .fact 100013 (.at 13 (.rep [] a0.Chunk)), .fact 100014 (.at 14 (.rep [] a0.Rows)), .fact 100015 (.at 15 (.rep [] a0.Log)), .fact 100016 (.at 16 (.rep [] a0.Heads)), .fact 100010 (.obj 10 [(false, 1), (false, 1), (false, 1), (false, 1), (false, 1), (false, 1)])]) (fun b : (Unit) ⊕ (Unit) => Sum.elim (fun b => (Exit.exit 0, [.fact 1 (.rep [0] (a1 : List Int))])) (fun b => (Exit.ret, [.fact 4 (.rep [] (false : Bool))])) b) hb5 (su (sn (st (su (st (st (sf (sf (sf (sf (sf (sf (sn Sub.nil))))))))))))) ?_ ?_
 ·rintro ⟨s1, s2⟩ c3 hm
  replace hm : deal_slots_L1 a0 a1 s1 s2 = some c3 := hm
  unfold deal_slots_L1 at hm
  show CWalk _ [.fact 1 (.rep [0] (a1 : List Int)), .fact 2 (.isv 10), .fact 5 (.rep [] (s1 : Int)), .fact 8 (.rep [0] (a1 : List Int)), .fact 9 (.rep [] (((a1).length : Int) : Int)), .fact 10 (.rep [] (s2 : Int)), .fact 100011 (.at 11 (.rep [] a0.Id)), .fact 100012 (.at 12 (.rep [] a0.Members)), .fact 100013 (.at 13 (.rep [] a0.Chunk)), .fact 100014 (.at 14 (.rep [] a0.Rows)), .fact 100015 (.at 15 (.rep [] a0.Log)), .fact 100016 (.at 16 (.rep [] a0.Heads)), .fact 100010 (.obj 10 [(false, 1), (false, 1), (false, 1), (false, 1), (false, 1), (false, 1)])] _ _
  refine Cs ?_
  refine Cr ?_
  refine wo (Spec.lssI (Hs rfl) (Hs rfl)) ?_
  refine Wn ?_
  refine Lt ?_
  refine Cs ?_
  refine CWalk.cond rfl (fun hb => ?_) (fun hb => ?_)
  ·have hm := cond_t hb hm
   refine CWalk.skip ?_
   refine Lt ?_
   refine Cs ?_
   refine CWalk.block ?_
   refine Cs ?_
   refine Cr ?_
   obtain ⟨x4, hx4, hm⟩ := bind_some hm
   refine wo (Spec.indexAddr hx4 sl35 (Hs rfl) (Hs rfl)) ?_
   refine wo ((Spec.load ty3 (Hs rfl)).flat (T' := [])) ?_
   refine wo (Spec.assign (Hs rfl)) ?_
   refine Wn ?_
   refine Lt ?_
   refine Cs ?_
   refine Cs ?_
   refine Cr ?_
   refine mv ?_
   refine mv ?_
   refine wo (Spec.leqI (Hs rfl) (Hs rfl)) ?_
   refine mv ?_
   refine wg rfl rfl (fun hb => Spec.move (Hs rfl)) ?_
   refine wg rfl rfl (fun hb => Spec.fieldAddrO fd30_1 (Has.cv (Hs rfl) (Cv.isvP rfl))) ?_
   refine wg rfl rfl (fun hb => Spec.loadF (i := 1) ty3 rfl (Has.u rfl hb) rfl (HasG.s rfl)) ?_
   refine wg rfl rfl (fun hb => Spec.subI (Has.u rfl hb) Has.int) ?_
   refine wg rfl rfl (fun hb => Spec.gtrI (Has.u rfl hb) (Has.u rfl hb)) ?_
   refine wo (Spec.or (Hs rfl) (fun h => Has.u rfl h)) ?_
   refine Wn ?_
   refine Lt ?_
   refine CWalk.cond rfl (fun hb => ?_) (fun hb => ?_)
   ·have hm := cond_t hb hm
    refine Cs ?_
    refine Cr ?_
    refine wo (Spec.assign Has.bool) ?_
    refine Wn ?_
    refine Lt ?_
    refine CWalk.ret ?_
    refine Leaf.thenR ?_
    refine Leaf.blockR ?_
    refine Leaf.thenR ?_
    exact Leaf.brk hm (fun h => nomatch h) rfl (st Sub.nil)
   ·have hm := cond_f hb hm
    refine CWalk.skip ?_
    refine Lt ?_
    refine Cr ?_
    refine mv ?_
    refine wo (Spec.assign (Hs rfl)) ?_
    refine Wn ?_
    refine Leaf.blockN ?_
    refine Lt ?_
    refine Cr ?_
    refine wo (Spec.addI (Hs rfl) Has.int) ?_
    refine mv ?_
    refine Wn ?_
    exact Leaf.next hm (su (sn (st (su (st (st (sf (sf (sf (sf (sf (sf (sn Sub.nil)))))))))))))
  ·have hm := cond_f hb hm
   refine CWalk.exit ?_
   refine Leaf.thenE ?_
   exact Leaf.brk hm (fun h => nomatch h) rfl (su Sub.nil)
 ·intro _
  rcases b5 with b6 | b7
  ·have hm := selim_l hm
   refine Leaf.blockE ?_
   refine Lt ?_
   refine Cs ?_
   refine Cr ?_
   refine mv ?_
   refine wo (Spec.len (Hs rfl) Try.underlying35) ?_
   refine wo (Spec.gtrI (Hs rfl) Has.int) ?_
   refine wo (Spec.assign (Hs rfl)) ?_
   refine Wn ?_
   refine Lt ?_
   refine CWalk.ret ?_
   obtain rfl := Option.some.inj hm
   exact Leaf.retC1 rfl (HasR.cv (HasR.tmp (Hs rfl)) Cv.fl)
  ·have hm := selim_r hm
   refine Leaf.blockR ?_
   refine Leaf.thenR ?_
   obtain rfl := Option.some.inj hm
   exact Leaf.retC1 rfl (HasR.cv (HasR.tmp (Hs rfl)) Cv.fl)

/-- freeboard/deal.Check -/
def deal_Check (a0 : Config) (a1 : Deal) : Option (Int) :=
  Option.bind (shape_Stripes a0) (fun x1 => (bif (x1.2 != (0 : Int)) then some x1.2 else Option.bind (slices_ContainsFunc_byte_byte a1.Blocks (fun y => deal_Check_1 y)) (fun x2 => Option.bind (gO (!((x2 || (decide (a1.Stripe < (0 : Int)))) || (decide (a1.Stripe ≥ x1.1)))) (deal_slots a0 a1.Slots)) (fun x3 => (bif (((((x2 || (decide (a1.Stripe < (0 : Int)))) || (decide (a1.Stripe ≥ x1.1))) || (!x3)) || (((a1.Blocks).length : Int) != ((a1.Slots).length : Int))) || ((((a1.Parity).length : Int) != (0 : Int)) && (((a1.Parity).length : Int) != (128 : Int)))) then some (8 : Int) else some (0 : Int))))))
theorem deal_Check_c (a0 : Config) (a1 : Deal) {r : Int} (hm : deal_Check a0 a1 = some r) : Ctr Try.prog 31 [.rep 0 a0, .rep 0 a1] (.fl r) [] := by
 refine ctr_of_walk [[]] 59 Try.func31 rfl rfl rfl rfl (fun w0 om => ?_)
 unfold deal_Check at hm
 refine CWalk.sub (G' := [.fact 0 (.rep [] (a0 : Config)), .fact 1 (.rep [0] (a1 : Deal))]) (Sub.cons (Has.fl (Hs rfl)) (sn Sub.nil)) ?_
 refine Cs ?_
 refine Cr ?_
 refine ws (Step.boxObj (ls := [(false, 1, Fact.rep [] a0.Id), (false, 1, Fact.rep [] a0.Members), (false, 1, Fact.rep [] a0.Chunk), (false, 1, Fact.rep [] a0.Rows), (false, 1, Fact.rep [] a0.Log), (false, 1, Fact.rep [] a0.Heads)]) 10 rfl rfl rfl rfl (HasL.flds (Has.cv (Hs rfl) (Cv.trans (Cv.opens (chConfig a0)) (Cv.flds (Vf (Vf (Vf (Vf (Vf (Vf CvL.nil))))))))))) ?_
 refine ws (Step.boxObj (ls := [(false, 1, Fact.rep [] a1.Stripe), (false, 1, Fact.rep [0] a1.Slots), (false, 1, Fact.rep [0] a1.Blocks), (false, 1, Fact.rep [0] a1.Parity)]) 17 rfl rfl rfl rfl (HasL.flds (Has.cv (Hs rfl) (Cv.trans (Cv.opens (chDeal a1)) (Cv.flds (Vf (CvL.cons Cv.refl (CvL.cons Cv.refl (CvL.cons Cv.refl CvL.nil))))))))) ?_
 refine wo (Spec.assign Has.int) ?_
 refine Wn ?_
 refine Lt ?_
 refine Cs ?_
 refine Cr ?_
 refine wo (Spec.loadObj (ls := [(false, 1, Fact.rep [] a0.Id), (false, 1, Fact.rep [] a0.Members), (false, 1, Fact.rep [] a0.Chunk), (false, 1, Fact.rep [] a0.Rows), (false, 1, Fact.rep [] a0.Log), (false, 1, Fact.rep [] a0.Heads)]) ty30 rfl rfl (Hs rfl) rfl (Gz rfl (Gz rfl (Gz rfl (Gz rfl (Gz rfl (Gz rfl HasGs.nil))))))) ?_
 obtain ⟨x1, hx1, hm⟩ := bind_some hm
 refine wo (f := Fact.tup2 (Fact.rep [] x1.1) (Fact.rep [] x1.2)) (Spec.callE [] 22 rfl en45 (shape_Stripes_c a0 hx1) (HasAll.cons (Has.fl (Has.cv (Hs rfl) (Cv.trans (Cv.flds (Vf (Vf (Vf (Vf (Vf (Vf CvL.nil))))))) (Cv.close (T := []) (chConfig a0))))) HasAll.nil)) ?_
 refine mv ?_
 refine wo (Spec.ext0 (Hs rfl)) ?_
 refine wo (Spec.ext1 (Hs rfl)) ?_
 refine wo (Spec.assign (Hs rfl)) ?_
 refine wo (Spec.assign (Hs rfl)) ?_
 refine Wn ?_
 refine Lt ?_
 refine Cs ?_
 refine Cs ?_
 refine Cr ?_
 refine mv ?_
 refine wo (Spec.neqI (Hs rfl) Has.int) ?_
 refine Wn ?_
 refine Lt ?_
 refine CWalk.cond rfl (fun hb => ?_) (fun hb => ?_)
 ·have hm := cond_t hb hm
  refine Cs ?_
  refine Cr ?_
  refine mv ?_
  refine wo (Spec.assign (Hs rfl)) ?_
  refine Wn ?_
  refine Lt ?_
  refine CWalk.ret ?_
  refine Leaf.thenR ?_
  obtain rfl := Option.some.inj hm
  exact Leaf.retC1 rfl (HasR.cv (HasR.tmp (Hs rfl)) Cv.fl)
 ·have hm := cond_f hb hm
  refine CWalk.skip ?_
  refine Lt ?_
  refine Cs ?_
  refine Cr ?_
  refine wo (Spec.fieldAddrO fd39_2 (Has.cv (Hs rfl) (Cv.isvP rfl))) ?_
  refine wo (Spec.loadF (i := 2) ty36 rfl (Hs rfl) rfl (HasG.s rfl)) ?_
  obtain ⟨x2, hx2, hm⟩ := bind_some hm
  refine wo (f := Fact.rep [] (x2 : Bool)) (Spec.callE [0] 23 rfl en54 (slices_ContainsFunc_byte_byte_c a1.Blocks (fun y => deal_Check_1 y) hx2) (HasAll.cons (Has.m (Hs rfl) rfl) (HasAll.cons (Has.cv Has.func (Cv.fn (pu := []) (pc := []) (shc := []) en55 CvF.nil CvF.nil (fun y r h => deal_Check_1_c y h))) HasAll.nil))) ?_
  refine wo (Spec.assign (Hs rfl)) ?_
  refine Wn ?_
  refine Lt ?_
  refine Cs ?_
  refine Cs ?_
  refine Cr ?_
  refine mv ?_
  refine mv ?_
  refine wg rfl rfl (fun hb => Spec.fieldAddrO fd39_0 (Has.cv (Hs rfl) (Cv.isvP rfl))) ?_
  refine wg rfl rfl (fun hb => Spec.loadF (i := 0) ty3 rfl (Has.u rfl hb) rfl (HasG.s rfl)) ?_
  refine wg rfl rfl (fun hb => Spec.lssI (Has.u rfl hb) Has.int) ?_
  refine wo (Spec.or (Hs rfl) (fun h => Has.u rfl h)) ?_
  refine mv ?_
  refine wg rfl rfl (fun hb => Spec.fieldAddrO fd39_0 (Has.cv (Hs rfl) (Cv.isvP rfl))) ?_
  refine wg rfl rfl (fun hb => Spec.loadF (i := 0) ty3 rfl (Has.u rfl hb) rfl (HasG.s rfl)) ?_
  refine wg rfl rfl (fun hb => Spec.move (Hs rfl)) ?_
  refine wg rfl rfl (fun hb => Spec.geqI (Has.u rfl hb) (Has.u rfl hb)) ?_
  refine wo (Spec.or (Hs rfl) (fun h => Has.u rfl h)) ?_
  refine mv ?_
  refine wg rfl rfl (fun hb => Spec.loadObj (ls := [(false, 1, Fact.rep [] a0.Id), (false, 1, Fact.rep [] a0.Members), (false, 1, Fact.rep [] a0.Chunk), (false, 1, Fact.rep [] a0.Rows), (false, 1, Fact.rep [] a0.Log), (false, 1, Fact.rep [] a0.Heads)]) ty30 rfl rfl (Hs rfl) rfl (Gz rfl (Gz rfl (Gz rfl (Gz rfl (Gz rfl (Gz rfl HasGs.nil))))))) ?_
  refine wg rfl rfl (fun hb => Spec.fieldAddrO fd39_1 (Has.cv (Hs rfl) (Cv.isvP rfl))) ?_
  refine wg rfl rfl (fun hb => Spec.loadF (i := 1) ty35 rfl (Has.u rfl hb) rfl (HasG.s rfl)) ?_
  obtain ⟨x3, hx3, hm⟩ := bind_some hm
  refine wg (f := Fact.rep [] (x3 : Bool)) rfl rfl (fun hb => Spec.callE [0] 24 rfl en56 (deal_slots_c a0 a1.Slots (gO_t hx3 (not_t hb))) (HasAll.cons (Has.fl (Has.cv (Has.u rfl hb) (Cv.trans (Cv.flds (Vf (Vf (Vf (Vf (Vf (Vf CvL.nil))))))) (Cv.close (T := []) (chConfig a0))))) (HasAll.cons (Has.m (Has.u rfl hb) rfl) HasAll.nil))) ?_
  refine wg rfl rfl (fun hb => Spec.not (Has.u rfl hb)) ?_
  refine wo (Spec.or (Hs rfl) (fun h => Has.u rfl h)) ?_
  refine mv ?_
  refine wg rfl rfl (fun hb => Spec.fieldAddrO fd39_2 (Has.cv (Hs rfl) (Cv.isvP rfl))) ?_
  refine wg rfl rfl (fun hb => Spec.loadF (i := 2) ty36 rfl (Has.u rfl hb) rfl (HasG.s rfl)) ?_
  refine wg rfl rfl (fun hb => Spec.len (Has.u rfl hb) Try.underlying36) ?_
  refine wg rfl rfl (fun hb => Spec.fieldAddrO fd39_1 (Has.cv (Hs rfl) (Cv.isvP rfl))) ?_
  refine wg rfl rfl (fun hb => Spec.loadF (i := 1) ty35 rfl (Has.u rfl hb) rfl (HasG.s rfl)) ?_
  refine wg rfl rfl (fun hb => Spec.len (Has.u rfl hb) Try.underlying35) ?_
  refine wg rfl rfl (fun hb => Spec.neqI (Has.u rfl hb) (Has.u rfl hb)) ?_
  refine wo (Spec.or (Hs rfl) (fun h => Has.u rfl h)) ?_
  refine mv ?_
  refine wg rfl rfl (fun hb => Spec.fieldAddrO fd39_3 (Has.cv (Hs rfl) (Cv.isvP rfl))) ?_
  refine wg rfl rfl (fun hb => Spec.loadF (i := 3) ty37 rfl (Has.u rfl hb) rfl (HasG.s rfl)) ?_
  refine wg rfl rfl (fun hb => Spec.len (Has.u rfl hb) Try.underlying37) ?_
  refine wg rfl rfl (fun hb => Spec.neqI (Has.u rfl hb) Has.int) ?_
  refine wg rfl rfl (fun hb => Spec.move (Has.u rfl hb)) ?_
  refine Walk.opgu rfl rfl rfl (fun hb => Spec.fieldAddrO fd39_3 (Has.cv (Hs rfl) (Cv.isvP rfl))) ?_
  refine Walk.opgu rfl rfl rfl (fun hb => Spec.loadF (i := 3) ty37 rfl (Has.u rfl hb) rfl (HasG.s rfl)) ?_
  refine Walk.opgu rfl rfl rfl (fun hb => Spec.len (Has.u rfl hb) Try.underlying37) ?_
  refine Walk.opgu rfl rfl rfl (fun hb => Spec.neqI (Has.u rfl hb) Has.int) ?_
  refine wg rfl rfl (fun hb => Spec.and (Has.u rfl hb) (fun h => Has.u rfl ⟨hb, h⟩)) ?_
  refine wo (Spec.or (Hs rfl) (fun h => Has.u rfl h)) ?_
  refine Wn ?_
  refine Lt ?_
  refine CWalk.cond rfl (fun hb => ?_) (fun hb => ?_)
  ·have hm := cond_t hb hm
   refine Cs ?_
   refine Cr ?_
   refine wo (Spec.assign Has.int) ?_
   refine Wn ?_
   refine Lt ?_
   refine CWalk.ret ?_
   refine Leaf.thenR ?_
   obtain rfl := Option.some.inj hm
   exact Leaf.retC1 rfl (HasR.cv (HasR.tmp (Hs rfl)) Cv.fl)
  ·have hm := cond_f hb hm
   refine CWalk.skip ?_
   refine Lt ?_
   refine Cs ?_
   refine Cr ?_
   refine wo (Spec.assign Has.int) ?_
   refine Wn ?_
   refine Lt ?_
   refine CWalk.ret ?_
   obtain rfl := Option.some.inj hm
   exact Leaf.retC1 rfl (HasR.cv (HasR.tmp (Hs rfl)) Cv.fl)

/-- freeboard/redo.Acts$1 -/
def redo_Acts_1 (a0 : Found) (a1 : Config) : Option (Int) :=
  Option.bind (deal_Check a1 a0.Deal) (fun x1 => some x1)
theorem redo_Acts_1_c (a0 : Found) (a1 : Config) {r : Int} (hm : redo_Acts_1 a0 a1 = some r) : Ctr Try.prog 30 [.rep 0 a0, .ptr 0 a1] (.fl r) [] := by
 refine ctr_of_walk [[]] 8 Try.func30 rfl rfl rfl rfl (fun w0 om => ?_)
 unfold redo_Acts_1 at hm
 refine CWalk.sub (G' := [.fact 0 (.rep [0] (a0 : Found)), .fact 1 (.ptr [0] (a1 : Config))]) (sn (sn Sub.nil)) ?_
 refine Cs ?_
 refine Cr ?_
 refine ws (Step.boxObj (ls := [(false, 1, Fact.rep [] a0.Age), (false, 1, Fact.rep [] a0.Seq), (false, 1, Fact.rep [] a0.Deal.Stripe), (false, 1, Fact.rep [0] a0.Deal.Slots), (false, 1, Fact.rep [0] a0.Deal.Blocks), (false, 1, Fact.rep [0] a0.Deal.Parity)]) 10 rfl rfl rfl rfl (HasL.flds (Has.cv (Hs rfl) (Cv.trans (Cv.trans (Cv.trans (Cv.opens (chFound a0)) (Cv.flds (Vf (Vf (CvL.cons Cv.refl CvL.nil))))) (Cv.flds (ls := [(false, 1, Fact.rep [] a0.Age), (false, 1, Fact.rep [] a0.Seq), (true, 4, Fact.rep [0] a0.Deal)]) (ms := [(false, 1, Fact.rep [] a0.Age), (false, 1, Fact.rep [] a0.Seq), (true, 4, Fact.flds [(false, 1, Fact.rep [] a0.Deal.Stripe), (false, 1, Fact.rep [0] a0.Deal.Slots), (false, 1, Fact.rep [0] a0.Deal.Blocks), (false, 1, Fact.rep [0] a0.Deal.Parity)])]) (CvL.cons Cv.refl (CvL.cons Cv.refl (CvL.cons (Cv.trans (Cv.opens (chDeal a0.Deal)) (Cv.flds (Vf (CvL.cons Cv.refl (CvL.cons Cv.refl (CvL.cons Cv.refl CvL.nil)))))) CvL.nil))))) (Cv.flat (FlatR.cons (FlatR.cons (FlatR.sub (FlatR.cons (FlatR.cons (FlatR.cons (FlatR.cons FlatR.nil)))) rfl FlatR.nil)))))))) ?_
 refine wo (Spec.assign Has.int) ?_
 refine Wn ?_
 refine Lt ?_
 refine Cs ?_
 refine Cr ?_
 refine wo ((Spec.load ty30 (Hs rfl)).flat (T' := [])) ?_
 refine wo (Spec.fieldAddrO fd41_2 (Has.cv (Hs rfl) (Cv.isvP rfl))) ?_
 refine wo (Spec.loadParts (i := 2) (a := [(false, 1), (false, 1)]) (b := []) (ls := [(false, 1, Fact.rep [] a0.Deal.Stripe), (false, 1, Fact.rep [0] a0.Deal.Slots), (false, 1, Fact.rep [0] a0.Deal.Blocks), (false, 1, Fact.rep [0] a0.Deal.Parity)]) ty39 rfl rfl rfl rfl rfl (Hs rfl) rfl (Gz rfl (Gz rfl (Gz rfl (Gz rfl HasGs.nil))))) ?_
 obtain ⟨x1, hx1, hm⟩ := bind_some hm
 refine wo (f := Fact.rep [] (x1 : Int)) (Spec.callE [0] 17 rfl en31 (deal_Check_c a1 a0.Deal hx1) (HasAll.cons (Has.fl (Hs rfl)) (HasAll.cons (Has.m (Has.cv (Hs rfl) (Cv.trans (Cv.flds (Vf (CvL.cons (Cv.m rfl) (CvL.cons (Cv.m rfl) (CvL.cons (Cv.m rfl) CvL.nil))))) (Cv.close (T := [0]) (chDeal a0.Deal)))) rfl) HasAll.nil))) ?_
 refine wo (Spec.assign (Hs rfl)) ?_
 refine Wn ?_
 refine Lt ?_
 refine CWalk.ret ?_
 obtain rfl := Option.some.inj hm
 exact Leaf.retC1 rfl (HasR.cv (HasR.tmp (Hs rfl)) Cv.fl)

def slices_IndexFunc_int_int_L1 (a0 : List Int) (a1 : Int → Option Bool) (s1 : Int) : Option (Ctl (Int) ((Unit) ⊕ (Int))) :=
  (bif (decide (s1 < ((a0).length : Int))) then Option.bind (idx a0 s1) (fun x3 => Option.bind (a1 x3) (fun x4 => (bif x4 then some (Ctl.brk (Sum.inr s1)) else some (Ctl.next (wI (s1 + (1 : Int))))))) else some (Ctl.brk (Sum.inl ())))
/-- slices.IndexFunc[[]int,int] -/
def slices_IndexFunc_int_int (a0 : List Int) (a1 : Int → Option Bool) : Option (Int) :=
  Option.bind (loopM (fun s : Int => slices_IndexFunc_int_int_L1 a0 a1 s) FUEL (0 : Int)) (fun b5 => Sum.elim (fun b6 => some (-1 : Int)) (fun b7 => some b7) b5)
theorem slices_IndexFunc_int_int_c (a0 : List Int) (a1 : Int → Option Bool) {r : Int} (hm : slices_IndexFunc_int_int a0 a1 = some r) : Ctr Try.prog 84 [.rep 0 a0, .fn Try.prog pre1 0 a1] (.fl r) [] := by
 refine ctr_of_walk [[]] 19 Try.func84 rfl rfl rfl rfl (fun w0 om => ?_)
 unfold slices_IndexFunc_int_int at hm
 refine CWalk.sub (G' := [.fact 0 (.rep [0] (a0 : List Int)), .fact 1 (.fn Try.prog pre1 [0] (a1))]) (sn (sn Sub.nil)) ?_
 refine Cs ?_
 refine Cr ?_
 refine wo (Spec.assign Has.int) ?_
 refine Wn ?_
 refine Lt ?_
 refine Cs ?_
 refine Cs ?_
 refine Cr ?_
 refine mv ?_
 refine wo (Spec.len (Hs rfl) Try.underlying35) ?_
 refine wo (Spec.move Has.int) ?_
 refine Wn ?_
 refine Lt ?_
 refine CWalk.block ?_
 obtain ⟨b5, hb5, hm⟩ := bind_some hm
 refine CWalk.loop (fun s : Int => [.fact 0 (.rep [0] (a0 : List Int)), .fact 1 (.fn Try.prog pre1 [0] (a1)), .fact 7 (.rep [] (((a0).length : Int) : Int)), .fact 8 (.rep [] (s : Int))]) (fun b : (Unit) ⊕ (Int) => Sum.elim (fun b => (Exit.exit 0, [])) (fun b => (Exit.ret, [.fact 4 (.rep [] (b : Int))])) b) hb5 (su (sn (st (st Sub.nil)))) ?_ ?_
 ·rintro s1 c2 hm
  replace hm : slices_IndexFunc_int_int_L1 a0 a1 s1 = some c2 := hm
  unfold slices_IndexFunc_int_int_L1 at hm
  show CWalk _ [.fact 0 (.rep [0] (a0 : List Int)), .fact 1 (.fn Try.prog pre1 [0] (a1)), .fact 7 (.rep [] (((a0).length : Int) : Int)), .fact 8 (.rep [] (s1 : Int))] _ _
  refine Cs ?_
  refine Cr ?_
  refine wo (Spec.lssI (Hs rfl) (Hs rfl)) ?_
  refine Wn ?_
  refine Lt ?_
  refine Cs ?_
  refine CWalk.cond rfl (fun hb => ?_) (fun hb => ?_)
  ·have hm := cond_t hb hm
   refine CWalk.skip ?_
   refine Lt ?_
   refine Cs ?_
   refine CWalk.block ?_
   refine Cs ?_
   refine Cr ?_
   refine mv ?_
   refine wo (Spec.assign (Hs rfl)) ?_
   refine Wn ?_
   refine Lt ?_
   refine Cs ?_
   refine Cr ?_
   refine mv ?_
   refine mv ?_
   refine mv ?_
   obtain ⟨x3, hx3, hm⟩ := bind_some hm
   refine wo (Spec.indexAddr hx3 sl35 (Hs rfl) (Hs rfl)) ?_
   refine wo ((Spec.load ty3 (Hs rfl)).flat (T' := [])) ?_
   obtain ⟨x4, hx4, hm⟩ := bind_some hm
   refine wo (Spec.callFn (xs := [.tmp 15]) (x := x3) [] 10 rfl hx4 (Hs rfl) (HasAll.cons (Has.fl (Hs rfl)) HasAll.nil)) ?_
   refine Wn ?_
   refine Lt ?_
   refine CWalk.cond rfl (fun hb => ?_) (fun hb => ?_)
   ·have hm := cond_t hb hm
    refine Cs ?_
    refine Cr ?_
    refine mv ?_
    refine wo (Spec.assign (Hs rfl)) ?_
    refine Wn ?_
    refine Lt ?_
    refine CWalk.ret ?_
    refine Leaf.blockR ?_
    refine Leaf.thenR ?_
    exact Leaf.brk hm (fun h => nomatch h) rfl (st Sub.nil)
   ·have hm := cond_f hb hm
    refine CWalk.skip ?_
    refine Leaf.blockN ?_
    refine Lt ?_
    refine Cr ?_
    refine wo (Spec.addI (Hs rfl) Has.int) ?_
    refine mv ?_
    refine Wn ?_
    exact Leaf.next hm (su (sn (st (st Sub.nil))))
  ·have hm := cond_f hb hm
   refine CWalk.exit ?_
   refine Leaf.thenE ?_
   exact Leaf.brk hm (fun h => nomatch h) rfl (Sub.nil)
 ·intro _
  rcases b5 with b6 | b7
  ·have hm := selim_l hm
   refine Leaf.blockE ?_
   refine Lt ?_
   refine Cs ?_
   refine Cr ?_
   refine wo (Spec.assign Has.int) ?_
   refine Wn ?_
   refine Lt ?_
   refine CWalk.ret ?_
   obtain rfl := Option.some.inj hm
   exact Leaf.retC1 rfl (HasR.cv (HasR.tmp (Hs rfl)) Cv.fl)
  ·have hm := selim_r hm
   refine Leaf.blockR ?_
   refine Leaf.thenR ?_
   obtain rfl := Option.some.inj hm
   exact Leaf.retC1 rfl (HasR.cv (HasR.tmp (Hs rfl)) Cv.fl)

/-- (*freeboard/redo.rests).take$1 -/
def redo_rests_take_1 (a0 : Int) (a1 : Deal) : Option (Bool) :=
  some (a0 == a1.Stripe)
theorem redo_rests_take_1_c (a0 : Int) (a1 : Deal) {r : Bool} (hm : redo_rests_take_1 a0 a1 = some r) : Ctr Try.prog 58 [.rep 0 a0, .ptr 0 a1] (.fl r) [] := by
 refine ctr_of_walk [[]] 8 Try.func58 rfl rfl rfl rfl (fun w0 om => ?_)
 unfold redo_rests_take_1 at hm
 refine CWalk.sub (G' := [.fact 0 (.rep [] (a0 : Int)), .fact 1 (.ptr [0] (a1 : Deal))]) (Sub.cons (Has.fl (Hs rfl)) (sn Sub.nil)) ?_
 refine Cs ?_
 refine Cr ?_
 refine wo (Spec.assign Has.bool) ?_
 refine Wn ?_
 refine Lt ?_
 refine Cs ?_
 refine Cr ?_
 refine mv ?_
 refine wo (Spec.fieldAddrP fd39_0 (chDeal a1) rfl (Hs rfl)) ?_
 refine wo ((Spec.load ty3 (Hs rfl)).flat (T' := [])) ?_
 refine wo (Spec.eqlI (Hs rfl) (Hs rfl)) ?_
 refine wo (Spec.assign (Hs rfl)) ?_
 refine Wn ?_
 refine Lt ?_
 refine CWalk.ret ?_
 obtain rfl := Option.some.inj hm
 exact Leaf.retC1 rfl (HasR.cv (HasR.tmp (Hs rfl)) Cv.fl)

/-- cmp.isNaN[int] -/
def cmp_isNaN_int (a0 : Int) : Option (Bool) :=
  some (a0 != a0)
theorem cmp_isNaN_int_c (a0 : Int) {r : Bool} (hm : cmp_isNaN_int a0 = some r) : Ctr Try.prog 98 [.rep 0 a0] (.fl r) [] := by
 refine ctr_of_walk [[]] 6 Try.func98 rfl rfl rfl rfl (fun w0 om => ?_)
 unfold cmp_isNaN_int at hm
 refine CWalk.sub (G' := [.fact 0 (.rep [] (a0 : Int))]) (Sub.cons (Has.fl (Hs rfl)) Sub.nil) ?_
 refine Cs ?_
 refine Cr ?_
 refine wo (Spec.assign Has.bool) ?_
 refine Wn ?_
 refine Lt ?_
 refine Cs ?_
 refine Cr ?_
 refine mv ?_
 refine mv ?_
 refine wo (Spec.neqI (Hs rfl) (Hs rfl)) ?_
 refine wo (Spec.assign (Hs rfl)) ?_
 refine Wn ?_
 refine Lt ?_
 refine CWalk.ret ?_
 obtain rfl := Option.some.inj hm
 exact Leaf.retC1 rfl (HasR.cv (HasR.tmp (Hs rfl)) Cv.fl)

/-- cmp.Less[int] -/
def cmp_Less_int (a0 : Int) (a1 : Int) : Option (Bool) :=
  Option.bind (cmp_isNaN_int a0) (fun x1 => Option.bind (gO (x1) (cmp_isNaN_int a1)) (fun x2 => some ((x1 && (!x2)) || (decide (a0 < a1)))))
theorem cmp_Less_int_c (a0 : Int) (a1 : Int) {r : Bool} (hm : cmp_Less_int a0 a1 = some r) : Ctr Try.prog 85 [.rep 0 a0, .rep 0 a1] (.fl r) [] := by
 refine ctr_of_walk [[]] 17 Try.func85 rfl rfl rfl rfl (fun w0 om => ?_)
 unfold cmp_Less_int at hm
 refine CWalk.sub (G' := [.fact 0 (.rep [] (a0 : Int)), .fact 1 (.rep [] (a1 : Int))]) (Sub.cons (Has.fl (Hs rfl)) (Sub.cons (Has.fl (Hs rfl)) Sub.nil)) ?_
 refine Cs ?_
 refine Cr ?_
 refine wo (Spec.assign Has.bool) ?_
 refine Wn ?_
 refine Lt ?_
 refine Cs ?_
 refine Cr ?_
 refine mv ?_
 obtain ⟨x1, hx1, hm⟩ := bind_some hm
 refine wo (f := Fact.rep [] (x1 : Bool)) (Spec.callE [] 10 rfl en98 (cmp_isNaN_int_c a0 hx1) (HasAll.cons (Has.fl (Hs rfl)) HasAll.nil)) ?_
 refine mv ?_
 refine wg rfl rfl (fun hb => Spec.move (Hs rfl)) ?_
 obtain ⟨x2, hx2, hm⟩ := bind_some hm
 refine wg (f := Fact.rep [] (x2 : Bool)) rfl rfl (fun hb => Spec.callE [] 11 rfl en98 (cmp_isNaN_int_c a1 (gO_t hx2 hb)) (HasAll.cons (Has.fl (Has.u rfl hb)) HasAll.nil)) ?_
 refine wg rfl rfl (fun hb => Spec.not (Has.u rfl hb)) ?_
 refine wo (Spec.and (Hs rfl) (fun h => Has.u rfl h)) ?_
 refine mv ?_
 refine wg rfl rfl (fun hb => Spec.move (Hs rfl)) ?_
 refine wg rfl rfl (fun hb => Spec.move (Hs rfl)) ?_
 refine wg rfl rfl (fun hb => Spec.lssI (Has.u rfl hb) (Has.u rfl hb)) ?_
 refine wo (Spec.or (Hs rfl) (fun h => Has.u rfl h)) ?_
 refine wo (Spec.assign (Hs rfl)) ?_
 refine Wn ?_
 refine Lt ?_
 refine CWalk.ret ?_
 obtain rfl := Option.some.inj hm
 exact Leaf.retC1 rfl (HasR.cv (HasR.tmp (Hs rfl)) Cv.fl)

/-- slices.isNaN[int] -/
def slices_isNaN_int (a0 : Int) : Option (Bool) :=
  some (a0 != a0)
theorem slices_isNaN_int_c (a0 : Int) {r : Bool} (hm : slices_isNaN_int a0 = some r) : Ctr Try.prog 86 [.rep 0 a0] (.fl r) [] := by
 refine ctr_of_walk [[]] 6 Try.func86 rfl rfl rfl rfl (fun w0 om => ?_)
 unfold slices_isNaN_int at hm
 refine CWalk.sub (G' := [.fact 0 (.rep [] (a0 : Int))]) (Sub.cons (Has.fl (Hs rfl)) Sub.nil) ?_
 refine Cs ?_
 refine Cr ?_
 refine wo (Spec.assign Has.bool) ?_
 refine Wn ?_
 refine Lt ?_
 refine Cs ?_
 refine Cr ?_
 refine mv ?_
 refine mv ?_
 refine wo (Spec.neqI (Hs rfl) (Hs rfl)) ?_
 refine wo (Spec.assign (Hs rfl)) ?_
 refine Wn ?_
 refine Lt ?_
 refine CWalk.ret ?_
 obtain rfl := Option.some.inj hm
 exact Leaf.retC1 rfl (HasR.cv (HasR.tmp (Hs rfl)) Cv.fl)

def slices_BinarySearch_int_int_L1 (a0 : List Int) (a1 : Int) (s1 : Int) (s2 : Int) : Option (Ctl (Int × Int) (Int)) :=
  (bif (decide (s1 < s2)) then Option.bind (idx a0 (wI ((shrQ (scQ.of (wI (s1 + s2))) 1).toNat : Int))) (fun x4 => Option.bind (cmp_Less_int x4 a1) (fun x5 => (bif x5 then some (Ctl.next ((wI ((wI ((shrQ (scQ.of (wI (s1 + s2))) 1).toNat : Int)) + (1 : Int))), s2)) else some (Ctl.next (s1, (wI ((shrQ (scQ.of (wI (s1 + s2))) 1).toNat : Int))))))) else some (Ctl.brk s1))
/-- slices.BinarySearch[[]int,int] -/
def slices_BinarySearch_int_int (a0 : List Int) (a1 : Int) : Option (Int × Bool) :=
  Option.bind (loopM (fun s : Int × Int => slices_BinarySearch_int_int_L1 a0 a1 s.1 s.2) FUEL ((0 : Int), ((a0).length : Int))) (fun b6 => Option.bind (gO ((decide (b6 < ((a0).length : Int)))) (idx a0 b6)) (fun x7 => Option.bind (gO (((decide (b6 < ((a0).length : Int)))) && (!(x7 == a1))) (idx a0 b6)) (fun x8 => Option.bind (gO (((decide (b6 < ((a0).length : Int)))) && (!(x7 == a1))) (slices_isNaN_int x8)) (fun x9 => Option.bind (gO ((((decide (b6 < ((a0).length : Int)))) && (!(x7 == a1))) && (x9)) (slices_isNaN_int a1)) (fun x10 => some (b6, ((decide (b6 < ((a0).length : Int))) && ((x7 == a1) || (x9 && x10)))))))))
theorem slices_BinarySearch_int_int_c (a0 : List Int) (a1 : Int) {r : Int × Bool} (hm : slices_BinarySearch_int_int a0 a1 = some r) : Ctr Try.prog 59 [.rep 0 a0, .rep 0 a1] (.tup2 (.fl r.1) (.fl r.2)) [] := by
 refine ctr_of_walk [[]] 54 Try.func59 rfl rfl rfl rfl (fun w0 om => ?_)
 unfold slices_BinarySearch_int_int at hm
 refine CWalk.sub (G' := [.fact 0 (.rep [0] (a0 : List Int)), .fact 1 (.rep [] (a1 : Int))]) (sn (Sub.cons (Has.fl (Hs rfl)) Sub.nil)) ?_
 refine Cs ?_
 refine Cr ?_
 refine wo (Spec.assign Has.int) ?_
 refine wo (Spec.assign Has.bool) ?_
 refine Wn ?_
 refine Lt ?_
 refine Cs ?_
 refine Cr ?_
 refine mv ?_
 refine wo (Spec.len (Hs rfl) Try.underlying35) ?_
 refine wo (Spec.assign (Hs rfl)) ?_
 refine Wn ?_
 refine Lt ?_
 refine Cs ?_
 refine Cr ?_
 refine mv ?_
 refine wo (Spec.assign Has.int) ?_
 refine wo (Spec.assign (Hs rfl)) ?_
 refine Wn ?_
 refine Lt ?_
 refine Cs ?_
 refine CWalk.block ?_
 obtain ⟨b6, hb6, hm⟩ := bind_some hm
 refine CWalk.loop (fun s : Int × Int => [.fact 0 (.rep [0] (a0 : List Int)), .fact 1 (.rep [] (a1 : Int)), .fact 6 (.rep [] (((a0).length : Int) : Int)), .fact 7 (.rep [] s.1), .fact 8 (.rep [] s.2)]) (fun b : Int => (Exit.exit 0, [.fact 0 (.rep [0] (a0 : List Int)), .fact 1 (.rep [] (a1 : Int)), .fact 6 (.rep [] (((a0).length : Int) : Int)), .fact 7 (.rep [] (b : Int))])) hb6 (su (st (st (st (st Sub.nil))))) ?_ ?_
 ·rintro ⟨s1, s2⟩ c3 hm
  replace hm : slices_BinarySearch_int_int_L1 a0 a1 s1 s2 = some c3 := hm
  unfold slices_BinarySearch_int_int_L1 at hm
  show CWalk _ [.fact 0 (.rep [0] (a0 : List Int)), .fact 1 (.rep [] (a1 : Int)), .fact 6 (.rep [] (((a0).length : Int) : Int)), .fact 7 (.rep [] (s1 : Int)), .fact 8 (.rep [] (s2 : Int))] _ _
  refine Cs ?_
  refine Cs ?_
  refine Cr ?_
  refine mv ?_
  refine mv ?_
  refine wo (Spec.lssI (Hs rfl) (Hs rfl)) ?_
  refine Wn ?_
  refine Lt ?_
  refine CWalk.cond rfl (fun hb => ?_) (fun hb => ?_)
  ·have hm := cond_t hb hm
   refine CWalk.skip ?_
   refine Lt ?_
   refine CWalk.block ?_
   refine Cs ?_
   refine Cr ?_
   refine mv ?_
   refine mv ?_
   refine wo (Spec.addI (Hs rfl) (Hs rfl)) ?_
   refine wo (Spec.conv (α := Int) (β := UInt64) Try.underlying3 Try.underlying131 (Hs rfl)) ?_
   refine wo (Spec.shrQ (k := 1) (Hs rfl)) ?_
   refine wo (Spec.conv (α := UInt64) (β := Int) Try.underlying131 Try.underlying3 (Hs rfl)) ?_
   refine wo (Spec.assign (Hs rfl)) ?_
   refine Wn ?_
   refine Lt ?_
   refine Cs ?_
   refine Cr ?_
   refine mv ?_
   refine mv ?_
   obtain ⟨x4, hx4, hm⟩ := bind_some hm
   refine wo (Spec.indexAddr hx4 sl35 (Hs rfl) (Hs rfl)) ?_
   refine wo ((Spec.load ty3 (Hs rfl)).flat (T' := [])) ?_
   refine mv ?_
   obtain ⟨x5, hx5, hm⟩ := bind_some hm
   refine wo (f := Fact.rep [] (x5 : Bool)) (Spec.callE [] 10 rfl en85 (cmp_Less_int_c x4 a1 hx5) (HasAll.cons (Has.fl (Hs rfl)) (HasAll.cons (Has.fl (Hs rfl)) HasAll.nil))) ?_
   refine Wn ?_
   refine Lt ?_
   refine CWalk.cond rfl (fun hb => ?_) (fun hb => ?_)
   ·have hm := cond_t hb hm
    refine Cr ?_
    refine mv ?_
    refine wo (Spec.addI (Hs rfl) Has.int) ?_
    refine wo (Spec.assign (Hs rfl)) ?_
    refine Wn ?_
    refine Leaf.blockN ?_
    exact Leaf.next hm (su (st (st (st (st Sub.nil)))))
   ·have hm := cond_f hb hm
    refine Cr ?_
    refine mv ?_
    refine wo (Spec.assign (Hs rfl)) ?_
    refine Wn ?_
    refine Leaf.blockN ?_
    exact Leaf.next hm (su (st (st (st (st Sub.nil)))))
  ·have hm := cond_f hb hm
   refine CWalk.exit ?_
   refine Leaf.thenE ?_
   exact Leaf.brk hm (fun h => nomatch h) rfl (su (st (st (st Sub.nil))))
 ·intro _
  refine Leaf.blockE ?_
  refine Lt ?_
  refine Cs ?_
  refine Cr ?_
  refine mv ?_
  refine mv ?_
  refine mv ?_
  refine wo (Spec.lssI (Hs rfl) (Hs rfl)) ?_
  refine mv ?_
  refine wg rfl rfl (fun hb => Spec.move (Hs rfl)) ?_
  refine wg rfl rfl (fun hb => Spec.move (Hs rfl)) ?_
  obtain ⟨x7, hx7, hm⟩ := bind_some hm
  refine wg rfl rfl (fun hb => Spec.indexAddr (gO_t hx7 hb) sl35 (Has.u rfl hb) (Has.u rfl hb)) ?_
  refine wg rfl rfl (fun hb => (Spec.load ty3 (Has.u rfl hb)).flat (T' := [])) ?_
  refine wg rfl rfl (fun hb => Spec.move (Hs rfl)) ?_
  refine wg rfl rfl (fun hb => Spec.eqlI (Has.u rfl hb) (Has.u rfl hb)) ?_
  refine wg rfl rfl (fun hb => Spec.move (Has.u rfl hb)) ?_
  refine Walk.opgu rfl rfl rfl (fun hb => Spec.move (Hs rfl)) ?_
  refine Walk.opgu rfl rfl rfl (fun hb => Spec.move (Hs rfl)) ?_
  obtain ⟨x8, hx8, hm⟩ := bind_some hm
  refine Walk.opgu rfl rfl rfl (fun hb => Spec.indexAddr (gO_t hx8 (and_t hb.1 (not_t hb.2))) sl35 (Has.u rfl hb) (Has.u rfl hb)) ?_
  refine Walk.opgu rfl rfl rfl (fun hb => (Spec.load ty3 (Has.u rfl hb)).flat (T' := [])) ?_
  obtain ⟨x9, hx9, hm⟩ := bind_some hm
  refine Walk.opgu (f := Fact.rep [] (x9 : Bool)) rfl rfl rfl (fun hb => Spec.callE [] 11 rfl en86 (slices_isNaN_int_c x8 (gO_t hx9 (and_t hb.1 (not_t hb.2)))) (HasAll.cons (Has.fl (Has.u rfl hb)) HasAll.nil)) ?_
  refine Walk.opgu rfl rfl rfl (fun hb => Spec.move (Has.u rfl hb)) ?_
  refine Walk.opgu rfl rfl rfl (fun hb => Spec.move (Hs rfl)) ?_
  obtain ⟨x10, hx10, hm⟩ := bind_some hm
  refine Walk.opgu (f := Fact.rep [] (x10 : Bool)) rfl rfl rfl (fun hb => Spec.callE [] 12 rfl en86 (slices_isNaN_int_c a1 (gO_t hx10 (and_t (and_t hb.1.1 (not_t hb.1.2)) hb.2))) (HasAll.cons (Has.fl (Has.u rfl hb)) HasAll.nil)) ?_
  refine Walk.opgu rfl rfl rfl (fun hb => Spec.and (Has.u rfl hb) (fun h => Has.u rfl ⟨hb, h⟩)) ?_
  refine wg rfl rfl (fun hb => Spec.or (Has.u rfl hb) (fun h => Has.u rfl ⟨hb, h⟩)) ?_
  refine wo (Spec.and (Hs rfl) (fun h => Has.u rfl h)) ?_
  refine wo (Spec.assign (Hs rfl)) ?_
  refine wo (Spec.assign (Hs rfl)) ?_
  refine Wn ?_
  refine Lt ?_
  refine CWalk.ret ?_
  obtain rfl := Option.some.inj hm
  exact Leaf.retC2 rfl (HasR.cv (HasR.tmp (Hs rfl)) Cv.fl) (HasR.cv (HasR.tmp (Hs rfl)) Cv.fl)

/-- bytes.Clone -/
def bytes_Clone (a0 : List UInt8) : Option ((List UInt8)) :=
  Option.bind (app ([] : List UInt8) a0) (fun x1 => some x1)
theorem bytes_Clone_c (a0 : List UInt8) {r : (List UInt8)} (hm : bytes_Clone a0 = some r) : Ctr Try.prog 62 [.rep 0 a0] (.own 0 none 5 r) [] := by
 refine ctr_of_walk [[10]] 8 Try.func62 rfl rfl rfl rfl (fun w0 om => ?_)
 unfold bytes_Clone at hm
 refine CWalk.sub (G' := [.fact 0 (.rep [0] (a0 : List UInt8))]) (sn Sub.nil) ?_
 refine Cs ?_
 refine Cr ?_
 refine wo (Spec.assign Has.nilv) ?_
 refine Wn ?_
 refine Lt ?_
 refine Cs ?_
 refine Cs ?_
 refine Cr ?_
 refine mv ?_
 refine wo (Spec.eqlNil Try.underlying37 (Hs rfl)) ?_
 refine Wn ?_
 refine Lt ?_
 refine CWalk.condNil rfl (fun hb => ?_) ?_
 ·have hm : some ([] : List UInt8) = some r := by first | simpa [app, hb] using hm | simpa [hb] using hm
  refine Cs ?_
  refine Cr ?_
  refine wo (Spec.assign Has.nilv) ?_
  refine Wn ?_
  refine Lt ?_
  refine CWalk.ret ?_
  refine Leaf.thenR ?_
  obtain rfl := Option.some.inj hm
  exact Leaf.retC1 rfl (HasR.cv (HasR.tmp (Hs rfl)) (Cv.trans Cv.nilOw (Cv.owF (T := []) (te := []) rfl)))
 ·skip
  refine CWalk.skip ?_
  refine Lt ?_
  refine Cs ?_
  refine Cr ?_
  refine ws (Step.lit0 (α := UInt8) 10 rfl rfl ow37) ?_
  refine mv ?_
  obtain ⟨x1, hx1, hm⟩ := bind_some hm
  refine ws (Step.append (te' := []) 10 hx1 rfl rfl ow37 (Hs rfl) rfl (Hs rfl) ElKeep.flat ElKeep.flat) ?_
  refine wo (Spec.assign (Hs rfl)) ?_
  refine Wn ?_
  refine Lt ?_
  refine CWalk.ret ?_
  obtain rfl := Option.some.inj hm
  exact Leaf.retC1 rfl (HasR.cv (HasR.tmp (Hs rfl)) (Cv.trans (Cv.isvOw rfl) (Cv.owF (T := [10]) (te := []) rfl)))

def loss_Missing_J1 (a1 : Loss) (a2 : Int) (j3 : Bool) : Option (Int × Int) :=
  (bif j3 then some ((0 : Int), (2 : Int)) else (bif (a1.Spare && (decide (a2 < a1.Pos))) then some ((-1 : Int), (0 : Int)) else some (a1.Lost, (0 : Int))))
/-- freeboard/loss.Missing -/
def loss_Missing (a0 : Config) (a1 : Loss) (a2 : Int) : Option (Int × Int) :=
  Option.bind (loss_Check a0 a1) (fun x1 => (bif (x1 != (0 : Int)) then some ((0 : Int), x1) else Option.bind (shape_Stripes a0) (fun x2 => (bif (decide (a2 < (0 : Int))) then (loss_Missing_J1 a1 a2 (decide (a2 < (0 : Int)))) else (loss_Missing_J1 a1 a2 (decide (a2 ≥ x2.1)))))))
theorem loss_Missing_c (a0 : Config) (a1 : Loss) (a2 : Int) {r : Int × Int} (hm : loss_Missing a0 a1 a2 = some r) : Ctr Try.prog 19 [.rep 0 a0, .rep 0 a1, .rep 0 a2] (.tup2 (.fl r.1) (.fl r.2)) [] := by
 refine ctr_of_walk [[]] 39 Try.func19 rfl rfl rfl rfl (fun w0 om => ?_)
 unfold loss_Missing at hm
 refine CWalk.sub (G' := [.fact 0 (.rep [] (a0 : Config)), .fact 1 (.rep [] (a1 : Loss)), .fact 2 (.rep [] (a2 : Int))]) (Sub.cons (Has.fl (Hs rfl)) (Sub.cons (Has.fl (Hs rfl)) (Sub.cons (Has.fl (Hs rfl)) Sub.nil))) ?_
 refine Cs ?_
 refine Cr ?_
 refine ws (Step.boxObj (ls := [(false, 1, Fact.rep [] a0.Id), (false, 1, Fact.rep [] a0.Members), (false, 1, Fact.rep [] a0.Chunk), (false, 1, Fact.rep [] a0.Rows), (false, 1, Fact.rep [] a0.Log), (false, 1, Fact.rep [] a0.Heads)]) 10 rfl rfl rfl rfl (HasL.flds (Has.cv (Hs rfl) (Cv.trans (Cv.opens (chConfig a0)) (Cv.flds (Vf (Vf (Vf (Vf (Vf (Vf CvL.nil))))))))))) ?_
 refine ws (Step.boxObj (ls := [(false, 1, Fact.rep [] a1.Events), (false, 1, Fact.rep [] a1.Lost), (false, 1, Fact.rep [] a1.Spare), (false, 1, Fact.rep [] a1.Pos), (false, 1, Fact.rep [] a1.Done), (false, 1, Fact.rep [] a1.NoLog), (false, 1, Fact.rep [] a1.Broken)]) 17 rfl rfl rfl rfl (HasL.flds (Has.cv (Hs rfl) (Cv.trans (Cv.opens (chLoss a1)) (Cv.flds (Vf (Vf (Vf (Vf (Vf (Vf (Vf CvL.nil)))))))))))) ?_
 refine wo (Spec.assign Has.int) ?_
 refine wo (Spec.assign Has.int) ?_
 refine Wn ?_
 refine Lt ?_
 refine Cs ?_
 refine Cs ?_
 refine Cr ?_
 refine wo (Spec.loadObj (ls := [(false, 1, Fact.rep [] a0.Id), (false, 1, Fact.rep [] a0.Members), (false, 1, Fact.rep [] a0.Chunk), (false, 1, Fact.rep [] a0.Rows), (false, 1, Fact.rep [] a0.Log), (false, 1, Fact.rep [] a0.Heads)]) ty30 rfl rfl (Hs rfl) rfl (Gz rfl (Gz rfl (Gz rfl (Gz rfl (Gz rfl (Gz rfl HasGs.nil))))))) ?_
 refine wo (Spec.loadObj (ls := [(false, 1, Fact.rep [] a1.Events), (false, 1, Fact.rep [] a1.Lost), (false, 1, Fact.rep [] a1.Spare), (false, 1, Fact.rep [] a1.Pos), (false, 1, Fact.rep [] a1.Done), (false, 1, Fact.rep [] a1.NoLog), (false, 1, Fact.rep [] a1.Broken)]) ty33 rfl rfl (Hs rfl) rfl (Gz rfl (Gz rfl (Gz rfl (Gz rfl (Gz rfl (Gz rfl (Gz rfl HasGs.nil)))))))) ?_
 obtain ⟨x1, hx1, hm⟩ := bind_some hm
 refine wo (f := Fact.rep [] (x1 : Int)) (Spec.callE [] 25 rfl en28 (loss_Check_c a0 a1 hx1) (HasAll.cons (Has.fl (Has.cv (Hs rfl) (Cv.trans (Cv.flds (Vf (Vf (Vf (Vf (Vf (Vf CvL.nil))))))) (Cv.close (T := []) (chConfig a0))))) (HasAll.cons (Has.fl (Has.cv (Hs rfl) (Cv.trans (Cv.flds (Vf (Vf (Vf (Vf (Vf (Vf (Vf CvL.nil)))))))) (Cv.close (T := []) (chLoss a1))))) HasAll.nil))) ?_
 refine wo (Spec.assign (Hs rfl)) ?_
 refine Wn ?_
 refine Lt ?_
 refine Cs ?_
 refine Cr ?_
 refine mv ?_
 refine wo (Spec.neqI (Hs rfl) Has.int) ?_
 refine Wn ?_
 refine Lt ?_
 refine CWalk.cond rfl (fun hb => ?_) (fun hb => ?_)
 ·have hm := cond_t hb hm
  refine Cs ?_
  refine Cr ?_
  refine mv ?_
  refine wo (Spec.assign Has.int) ?_
  refine wo (Spec.assign (Hs rfl)) ?_
  refine Wn ?_
  refine Lt ?_
  refine CWalk.ret ?_
  refine Leaf.thenR ?_
  obtain rfl := Option.some.inj hm
  exact Leaf.retC2 rfl (HasR.cv (HasR.tmp (Hs rfl)) Cv.fl) (HasR.cv (HasR.tmp (Hs rfl)) Cv.fl)
 ·have hm := cond_f hb hm
  refine CWalk.skip ?_
  refine Lt ?_
  refine Cs ?_
  refine Cr ?_
  refine wo (Spec.loadObj (ls := [(false, 1, Fact.rep [] a0.Id), (false, 1, Fact.rep [] a0.Members), (false, 1, Fact.rep [] a0.Chunk), (false, 1, Fact.rep [] a0.Rows), (false, 1, Fact.rep [] a0.Log), (false, 1, Fact.rep [] a0.Heads)]) ty30 rfl rfl (Hs rfl) rfl (Gz rfl (Gz rfl (Gz rfl (Gz rfl (Gz rfl (Gz rfl HasGs.nil))))))) ?_
  obtain ⟨x2, hx2, hm⟩ := bind_some hm
  refine wo (f := Fact.tup2 (Fact.rep [] x2.1) (Fact.rep [] x2.2)) (Spec.callE [] 26 rfl en45 (shape_Stripes_c a0 hx2) (HasAll.cons (Has.fl (Has.cv (Hs rfl) (Cv.trans (Cv.flds (Vf (Vf (Vf (Vf (Vf (Vf CvL.nil))))))) (Cv.close (T := []) (chConfig a0))))) HasAll.nil)) ?_
  refine mv ?_
  refine wo (Spec.ext0 (Hs rfl)) ?_
  refine wo (Spec.ext1 (Hs rfl)) ?_
  refine wo (Spec.assign (Hs rfl)) ?_
  refine wo (Spec.assign (Hs rfl)) ?_
  refine Wn ?_
  refine Lt ?_
  refine Cs ?_
  refine CWalk.block ?_
  refine CWalk.seqJ (fun p : Bool => [.fact 2 (.rep [] (a2 : Int)), .fact 4 (.isv 17), .fact 22 (.rep [] (p : Bool)), .fact 100018 (.at 18 (.rep [] a1.Events)), .fact 100019 (.at 19 (.rep [] a1.Lost)), .fact 100020 (.at 20 (.rep [] a1.Spare)), .fact 100021 (.at 21 (.rep [] a1.Pos)), .fact 100022 (.at 22 (.rep [] a1.Done)), .fact 100023 (.at 23 (.rep [] a1.NoLog)), .fact 100024 (.at 24 (.rep [] a1.Broken)), .fact 100017 (.obj 17 [(false, 1), (false, 1), (false, 1), (false, 1), (false, 1), (false, 1), (false, 1)])]) (fun p : Bool => loss_Missing_J1 a1 a2 p = some r) ?_ ?_
  ·rintro j3 hm
   replace hm : loss_Missing_J1 a1 a2 j3 = some r := hm
   unfold loss_Missing_J1 at hm
   show CWalk _ [.fact 2 (.rep [] (a2 : Int)), .fact 4 (.isv 17), .fact 22 (.rep [] (j3 : Bool)), .fact 100018 (.at 18 (.rep [] a1.Events)), .fact 100019 (.at 19 (.rep [] a1.Lost)), .fact 100020 (.at 20 (.rep [] a1.Spare)), .fact 100021 (.at 21 (.rep [] a1.Pos)), .fact 100022 (.at 22 (.rep [] a1.Done)), .fact 100023 (.at 23 (.rep [] a1.NoLog)), .fact 100024 (.at 24 (.rep [] a1.Broken)), .fact 100017 (.obj 17 [(false, 1), (false, 1), (false, 1), (false, 1), (false, 1), (false, 1), (false, 1)])] _ _
   refine CWalk.cond rfl (fun hb => ?_) (fun hb => ?_)
   ·have hm := cond_t hb hm
    refine Cs ?_
    refine Cr ?_
    refine wo (Spec.assign Has.int) ?_
    refine wo (Spec.assign Has.int) ?_
    refine Wn ?_
    refine Lt ?_
    refine CWalk.ret ?_
    refine Leaf.blockR ?_
    refine Leaf.thenR ?_
    obtain rfl := Option.some.inj hm
    exact Leaf.retC2 rfl (HasR.cv (HasR.tmp (Hs rfl)) Cv.fl) (HasR.cv (HasR.tmp (Hs rfl)) Cv.fl)
   ·have hm := cond_f hb hm
    refine Cs ?_
    refine Cr ?_
    refine wo (Spec.fieldAddrO fd33_2 (Has.cv (Hs rfl) (Cv.isvP rfl))) ?_
    refine wo (Spec.loadF (i := 2) ty4 rfl (Hs rfl) rfl (HasG.s rfl)) ?_
    refine mv ?_
    refine wg rfl rfl (fun hb => Spec.move (Hs rfl)) ?_
    refine wg rfl rfl (fun hb => Spec.fieldAddrO fd33_3 (Has.cv (Hs rfl) (Cv.isvP rfl))) ?_
    refine wg rfl rfl (fun hb => Spec.loadF (i := 3) ty3 rfl (Has.u rfl hb) rfl (HasG.s rfl)) ?_
    refine wg rfl rfl (fun hb => Spec.lssI (Has.u rfl hb) (Has.u rfl hb)) ?_
    refine wo (Spec.and (Hs rfl) (fun h => Has.u rfl h)) ?_
    refine wo (Spec.assign (Hs rfl)) ?_
    refine Wn ?_
    refine Lt ?_
    refine CWalk.cond rfl (fun hb => ?_) (fun hb => ?_)
    ·have hm := cond_t hb hm
     refine Cs ?_
     refine Cr ?_
     refine wo (Spec.assign Has.int) ?_
     refine wo (Spec.assign Has.int) ?_
     refine Wn ?_
     refine Lt ?_
     refine CWalk.ret ?_
     refine Leaf.blockR ?_
     refine Leaf.thenR ?_
     obtain rfl := Option.some.inj hm
     exact Leaf.retC2 rfl (HasR.cv (HasR.tmp (Hs rfl)) Cv.fl) (HasR.cv (HasR.tmp (Hs rfl)) Cv.fl)
    ·have hm := cond_f hb hm
     refine CWalk.skip ?_
     refine Leaf.blockN ?_
     refine Lt ?_
     refine Cs ?_
     refine Cr ?_
     refine wo (Spec.fieldAddrO fd33_1 (Has.cv (Hs rfl) (Cv.isvP rfl))) ?_
     refine wo (Spec.loadF (i := 1) ty3 rfl (Hs rfl) rfl (HasG.s rfl)) ?_
     refine wo (Spec.assign (Hs rfl)) ?_
     refine wo (Spec.assign Has.int) ?_
     refine Wn ?_
     refine Lt ?_
     refine CWalk.ret ?_
     obtain rfl := Option.some.inj hm
     exact Leaf.retC2 rfl (HasR.cv (HasR.tmp (Hs rfl)) Cv.fl) (HasR.cv (HasR.tmp (Hs rfl)) Cv.fl)
  ·refine Cs ?_
   refine Cr ?_
   refine mv ?_
   refine wo (Spec.lssI (Hs rfl) Has.int) ?_
   refine wo (Spec.assign (Hs rfl)) ?_
   refine Wn ?_
   refine Lt ?_
   refine CWalk.cond rfl (fun hb => ?_) (fun hb => ?_)
   ·have hm := cond_t hb hm
    refine CWalk.skip ?_
    exact Leaf.join (decide (a2 < (0 : Int))) hm (st (sn (st (sf (sf (sf (sf (sf (sf (sf (sn Sub.nil)))))))))))
   ·have hm := cond_f hb hm
    refine Cr ?_
    refine mv ?_
    refine mv ?_
    refine wo (Spec.geqI (Hs rfl) (Hs rfl)) ?_
    refine wo (Spec.assign (Hs rfl)) ?_
    refine Wn ?_
    exact Leaf.join (decide (a2 ≥ x2.1)) hm (st (sn (st (sf (sf (sf (sf (sf (sf (sf (sn Sub.nil)))))))))))

/-- freeboard/home.member -/
def home_member (a0 : Config) (a1 : Int) : Option (Bool) :=
  some ((decide (a1 ≥ (-1 : Int))) && (decide (a1 < a0.Members)))
theorem home_member_c (a0 : Config) (a1 : Int) {r : Bool} (hm : home_member a0 a1 = some r) : Ctr Try.prog 63 [.rep 0 a0, .rep 0 a1] (.fl r) [] := by
 refine ctr_of_walk [[]] 13 Try.func63 rfl rfl rfl rfl (fun w0 om => ?_)
 unfold home_member at hm
 refine CWalk.sub (G' := [.fact 0 (.rep [] (a0 : Config)), .fact 1 (.rep [] (a1 : Int))]) (Sub.cons (Has.fl (Hs rfl)) (Sub.cons (Has.fl (Hs rfl)) Sub.nil)) ?_
 refine Cs ?_
 refine Cr ?_
 refine ws (Step.boxObj (ls := [(false, 1, Fact.rep [] a0.Id), (false, 1, Fact.rep [] a0.Members), (false, 1, Fact.rep [] a0.Chunk), (false, 1, Fact.rep [] a0.Rows), (false, 1, Fact.rep [] a0.Log), (false, 1, Fact.rep [] a0.Heads)]) 10 rfl rfl rfl rfl (HasL.flds (Has.cv (Hs rfl) (Cv.trans (Cv.opens (chConfig a0)) (Cv.flds (Vf (Vf (Vf (Vf (Vf (Vf CvL.nil))))))))))) ?_
 refine wo (Spec.assign Has.bool) ?_
 refine Wn ?_
 refine Lt ?_
 refine Cs ?_
 refine Cr ?_
 refine mv ?_
 refine wo (Spec.geqI (Hs rfl) Has.int) ?_
 refine mv ?_
 refine wg rfl rfl (fun hb => Spec.move (Hs rfl)) ?_
 refine wg rfl rfl (fun hb => Spec.fieldAddrO fd30_1 (Has.cv (Hs rfl) (Cv.isvP rfl))) ?_
 refine wg rfl rfl (fun hb => Spec.loadF (i := 1) ty3 rfl (Has.u rfl hb) rfl (HasG.s rfl)) ?_
 refine wg rfl rfl (fun hb => Spec.lssI (Has.u rfl hb) (Has.u rfl hb)) ?_
 refine wo (Spec.and (Hs rfl) (fun h => Has.u rfl h)) ?_
 refine wo (Spec.assign (Hs rfl)) ?_
 refine Wn ?_
 refine Lt ?_
 refine CWalk.ret ?_
 obtain rfl := Option.some.inj hm
 exact Leaf.retC1 rfl (HasR.cv (HasR.tmp (Hs rfl)) Cv.fl)

/-- freeboard/turn.divide -/
def turn_divide (a0 : Int) (a1 : Int) : Option (Int × Int) :=
  Option.bind (quoI a0 a1) (fun x1 => Option.bind (remI a0 a1) (fun x2 => some (x1, x2)))
theorem turn_divide_c (a0 : Int) (a1 : Int) {r : Int × Int} (hm : turn_divide a0 a1 = some r) : Ctr Try.prog 70 [.rep 0 a0, .rep 0 a1] (.tup2 (.fl r.1) (.fl r.2)) [] := by
 refine ctr_of_walk [[]] 12 Try.func70 rfl rfl rfl rfl (fun w0 om => ?_)
 unfold turn_divide at hm
 refine CWalk.sub (G' := [.fact 0 (.rep [] (a0 : Int)), .fact 1 (.rep [] (a1 : Int))]) (Sub.cons (Has.fl (Hs rfl)) (Sub.cons (Has.fl (Hs rfl)) Sub.nil)) ?_
 refine Cs ?_
 refine Cr ?_
 refine wo (Spec.assign Has.int) ?_
 refine wo (Spec.assign Has.int) ?_
 refine Wn ?_
 refine Lt ?_
 refine Cs ?_
 obtain ⟨x1, hx1, hm⟩ := bind_some hm
 obtain ⟨x2, hx2, hm⟩ := bind_some hm
 refine CWalk.drawM [[], [], [0, 1], [], [], [3, 4], [0, 1, 2], [0, 1, 2, 3, 4, 5, 6]] [[.fact 6 (.rep [] (a0 : Int))], [.fact 7 (.rep [] (a1 : Int))], [.fact 8 (.rep [] (x1 : Int))], [.fact 9 (.rep [] (a0 : Int))], [.fact 10 (.rep [] (a1 : Int))], [.fact 11 (.rep [] (x2 : Int))], [.fact 4 (.rep [] (x1 : Int))], [.fact 5 (.rep [] (x2 : Int))]] mixed (by kernel_rfl) (ao (so (Spec.move (Hs rfl))) (ao (so (Spec.move (Hs rfl))) (ao (so (Spec.quoI hx1 (Hs rfl) (Hs rfl))) (ao (so (Spec.move (Hs rfl))) (ao (so (Spec.move (Hs rfl))) (ao (so (Spec.remI hx2 (Hs rfl) (Hs rfl))) (ao (so (Spec.assign (Hs rfl))) (ao (so (Spec.assign (Hs rfl))) AllM.nil)))))))) ?_
 refine Lt ?_
 refine CWalk.ret ?_
 obtain rfl := Option.some.inj hm
 exact Leaf.retC2 rfl (HasR.cv (HasR.tmp (Hs rfl)) Cv.fl) (HasR.cv (HasR.tmp (Hs rfl)) Cv.fl)

def turn_at_J1 (a0 : Config) (a1 : Int) (j2 : Bool) : Option (Row90 × Int) :=
  (bif j2 then some ((Row90.mk (Config.mk (0 : UInt32) (0 : Int) (0 : Int) (0 : Int) (0 : Int) (0 : Int)) (0 : Int)), (2 : Int)) else Option.bind (turn_divide a1 a0.Chunk) (fun x3 => some ((Row90.mk a0 x3.1), (0 : Int))))
/-- freeboard/turn.at -/
def turn_at (a0 : Config) (a1 : Int) (a2 : Int) (a3 : Int) : Option (Row90 × Int) :=
  Option.bind (shape_Stripes a0) (fun x1 => (bif (x1.2 != (0 : Int)) then some ((Row90.mk (Config.mk (0 : UInt32) (0 : Int) (0 : Int) (0 : Int) (0 : Int) (0 : Int)) (0 : Int)), x1.2) else (bif (decide (a1 < (0 : Int))) then (turn_at_J1 a0 a1 (decide (a1 < (0 : Int)))) else (bif (decide (a1 ≥ x1.1)) then (turn_at_J1 a0 a1 (decide (a1 ≥ x1.1))) else (bif (decide (a2 < (0 : Int))) then (turn_at_J1 a0 a1 (decide (a2 < (0 : Int)))) else (turn_at_J1 a0 a1 (decide (a2 ≥ a3))))))))
theorem turn_at_c (a0 : Config) (a1 : Int) (a2 : Int) (a3 : Int) {r : Row90 × Int} (hm : turn_at a0 a1 a2 a3 = some r) : Ctr Try.prog 40 [.rep 0 a0, .rep 0 a1, .rep 0 a2, .rep 0 a3] (.tup2 (.fl r.1) (.fl r.2)) [] := by
 refine ctr_of_walk [[]] 46 Try.func40 rfl rfl rfl rfl (fun w0 om => ?_)
 unfold turn_at at hm
 refine CWalk.sub (G' := [.fact 0 (.rep [] (a0 : Config)), .fact 1 (.rep [] (a1 : Int)), .fact 2 (.rep [] (a2 : Int)), .fact 3 (.rep [] (a3 : Int))]) (Sub.cons (Has.fl (Hs rfl)) (Sub.cons (Has.fl (Hs rfl)) (Sub.cons (Has.fl (Hs rfl)) (Sub.cons (Has.fl (Hs rfl)) Sub.nil)))) ?_
 refine Cs ?_
 refine Cr ?_
 refine ws (Step.boxObj (ls := [(false, 1, Fact.rep [] a0.Id), (false, 1, Fact.rep [] a0.Members), (false, 1, Fact.rep [] a0.Chunk), (false, 1, Fact.rep [] a0.Rows), (false, 1, Fact.rep [] a0.Log), (false, 1, Fact.rep [] a0.Heads)]) 10 rfl rfl rfl rfl (HasL.flds (Has.cv (Hs rfl) (Cv.trans (Cv.opens (chConfig a0)) (Cv.flds (Vf (Vf (Vf (Vf (Vf (Vf CvL.nil))))))))))) ?_
 refine ws (Step.allocObj (ls := [(false, 1, Fact.rep [] ((0 : UInt32) : UInt32)), (false, 1, Fact.rep [] ((0 : Int) : Int)), (false, 1, Fact.rep [] ((0 : Int) : Int)), (false, 1, Fact.rep [] ((0 : Int) : Int)), (false, 1, Fact.rep [] ((0 : Int) : Int)), (false, 1, Fact.rep [] ((0 : Int) : Int)), (false, 1, Fact.rep [] ((0 : Int) : Int))]) 17 rfl rfl rfl rfl zl90) ?_
 refine wo (Spec.assign Has.int) ?_
 refine Wn ?_
 refine Lt ?_
 refine Cs ?_
 refine Cr ?_
 refine wo (Spec.loadObj (ls := [(false, 1, Fact.rep [] a0.Id), (false, 1, Fact.rep [] a0.Members), (false, 1, Fact.rep [] a0.Chunk), (false, 1, Fact.rep [] a0.Rows), (false, 1, Fact.rep [] a0.Log), (false, 1, Fact.rep [] a0.Heads)]) ty30 rfl rfl (Hs rfl) rfl (Gz rfl (Gz rfl (Gz rfl (Gz rfl (Gz rfl (Gz rfl HasGs.nil))))))) ?_
 obtain ⟨x1, hx1, hm⟩ := bind_some hm
 refine wo (f := Fact.tup2 (Fact.rep [] x1.1) (Fact.rep [] x1.2)) (Spec.callE [] 25 rfl en45 (shape_Stripes_c a0 hx1) (HasAll.cons (Has.fl (Has.cv (Hs rfl) (Cv.trans (Cv.flds (Vf (Vf (Vf (Vf (Vf (Vf CvL.nil))))))) (Cv.close (T := []) (chConfig a0))))) HasAll.nil)) ?_
 refine mv ?_
 refine wo (Spec.ext0 (Hs rfl)) ?_
 refine wo (Spec.ext1 (Hs rfl)) ?_
 refine wo (Spec.assign (Hs rfl)) ?_
 refine wo (Spec.assign (Hs rfl)) ?_
 refine Wn ?_
 refine Lt ?_
 refine Cs ?_
 refine CWalk.block ?_
 refine Cs ?_
 refine Cr ?_
 refine mv ?_
 refine wo (Spec.neqI (Hs rfl) Has.int) ?_
 refine wo (Spec.assign (Hs rfl)) ?_
 refine Wn ?_
 refine Lt ?_
 refine CWalk.cond rfl (fun hb => ?_) (fun hb => ?_)
 ·have hm := cond_t hb hm
  refine Cs ?_
  refine Cr ?_
  refine wo (Spec.build (us := []) (ls' := [(true, 6, Fact.flds [(false, 1, Fact.rep [] ((0 : UInt32) : UInt32)), (false, 1, Fact.rep [] ((0 : Int) : Int)), (false, 1, Fact.rep [] ((0 : Int) : Int)), (false, 1, Fact.rep [] ((0 : Int) : Int)), (false, 1, Fact.rep [] ((0 : Int) : Int)), (false, 1, Fact.rep [] ((0 : Int) : Int))]), (false, 1, Fact.rep [] ((0 : Int) : Int))]) bd90 rfl BP.nil) ?_
  refine mv ?_
  refine ws (Step.storeObj (ls := [(false, 1, Fact.rep [] ((0 : UInt32) : UInt32)), (false, 1, Fact.rep [] ((0 : Int) : Int)), (false, 1, Fact.rep [] ((0 : Int) : Int)), (false, 1, Fact.rep [] ((0 : Int) : Int)), (false, 1, Fact.rep [] ((0 : Int) : Int)), (false, 1, Fact.rep [] ((0 : Int) : Int)), (false, 1, Fact.rep [] ((0 : Int) : Int))]) rfl ty90 rfl rfl (Hs rfl) rfl (HasL.flds (Has.cv (Hs rfl) (Cv.flat (FlatR.sub (FlatR.cons (FlatR.cons (FlatR.cons (FlatR.cons (FlatR.cons (FlatR.cons FlatR.nil)))))) rfl (FlatR.cons FlatR.nil))))) rfl) ?_
  refine wo (Spec.assign (Hs rfl)) ?_
  refine Wn ?_
  refine Lt ?_
  refine CWalk.ret ?_
  refine Leaf.blockR ?_
  refine Leaf.thenR ?_
  obtain rfl := Option.some.inj hm
  exact Leaf.retC2 rfl (HasR.cv (HasR.cv (HasR.obj (ls := [(false, 1, Fact.rep [] ((0 : UInt32) : UInt32)), (false, 1, Fact.rep [] ((0 : Int) : Int)), (false, 1, Fact.rep [] ((0 : Int) : Int)), (false, 1, Fact.rep [] ((0 : Int) : Int)), (false, 1, Fact.rep [] ((0 : Int) : Int)), (false, 1, Fact.rep [] ((0 : Int) : Int)), (false, 1, Fact.rep [] ((0 : Int) : Int))]) ty90 rfl rfl (Hs rfl) rfl (Gz rfl (Gz rfl (Gz rfl (Gz rfl (Gz rfl (Gz rfl (Gz rfl HasGs.nil)))))))) (Cv.unflat (FlatR.sub (FlatR.cons (FlatR.cons (FlatR.cons (FlatR.cons (FlatR.cons (FlatR.cons FlatR.nil)))))) rfl (FlatR.cons FlatR.nil)))) (Cv.trans (Cv.trans (Cv.flds (CvL.cons (Cv.trans (Cv.trans (Cv.flds (Vf (Vf (Vf (Vf (Vf (Vf CvL.nil))))))) (Cv.close (T := []) (chConfig (Config.mk (0 : UInt32) (0 : Int) (0 : Int) (0 : Int) (0 : Int) (0 : Int))))) Cv.fl) (Vf CvL.nil))) (Cv.close (T := []) (chRow90 (Row90.mk (Config.mk (0 : UInt32) (0 : Int) (0 : Int) (0 : Int) (0 : Int) (0 : Int)) (0 : Int))))) Cv.fl)) (HasR.cv (HasR.tmp (Hs rfl)) Cv.fl)
 ·have hm := cond_f hb hm
  refine CWalk.seqJ (fun p : Bool => [.fact 1 (.rep [] (a1 : Int)), .fact 4 (.isv 10), .fact 8 (.isv 17), .fact 24 (.rep [] (p : Bool)), .fact 100011 (.at 11 (.rep [] a0.Id)), .fact 100012 (.at 12 (.rep [] a0.Members)), .fact 100013 (.at 13 (.rep [] a0.Chunk)), .fact 100014 (.at 14 (.rep [] a0.Rows)), .fact 100015 (.at 15 (.rep [] a0.Log)), .fact 100016 (.at 16 (.rep [] a0.Heads)), .fact 100018 (.at 18 (.rep [] ((0 : UInt32) : UInt32))), .fact 100019 (.at 19 (.rep [] ((0 : Int) : Int))), .fact 100020 (.at 20 (.rep [] ((0 : Int) : Int))), .fact 100021 (.at 21 (.rep [] ((0 : Int) : Int))), .fact 100022 (.at 22 (.rep [] ((0 : Int) : Int))), .fact 100023 (.at 23 (.rep [] ((0 : Int) : Int))), .fact 100024 (.at 24 (.rep [] ((0 : Int) : Int))), .fact 100010 (.obj 10 [(false, 1), (false, 1), (false, 1), (false, 1), (false, 1), (false, 1)]), .fact 100017 (.obj 17 [(false, 1), (false, 1), (false, 1), (false, 1), (false, 1), (false, 1), (false, 1)])]) (fun p : Bool => turn_at_J1 a0 a1 p = some r) ?_ ?_
  ·rintro j2 hm
   replace hm : turn_at_J1 a0 a1 j2 = some r := hm
   unfold turn_at_J1 at hm
   show CWalk _ [.fact 1 (.rep [] (a1 : Int)), .fact 4 (.isv 10), .fact 8 (.isv 17), .fact 24 (.rep [] (j2 : Bool)), .fact 100011 (.at 11 (.rep [] a0.Id)), .fact 100012 (.at 12 (.rep [] a0.Members)), .fact 100013 (.at 13 (.rep [] a0.Chunk)), .fact 100014 (.at 14 (.rep [] a0.Rows)), .fact 100015 (.at 15 (.rep [] a0.Log)), .fact 100016 (.at 16 (.rep [] a0.Heads)), .fact 100018 (.at 18 (.rep [] ((0 : UInt32) : UInt32))), .fact 100019 (.at 19 (.rep [] ((0 : Int) : Int))), .fact 100020 (.at 20 (.rep [] ((0 : Int) : Int))), .fact 100021 (.at 21 (.rep [] ((0 : Int) : Int))), .fact 100022 (.at 22 (.rep [] ((0 : Int) : Int))), .fact 100023 (.at 23 (.rep [] ((0 : Int) : Int))), .fact 100024 (.at 24 (.rep [] ((0 : Int) : Int))), .fact 100010 (.obj 10 [(false, 1), (false, 1), (false, 1), (false, 1), (false, 1), (false, 1)]), .fact 100017 (.obj 17 [(false, 1), (false, 1), (false, 1), (false, 1), (false, 1), (false, 1), (false, 1)])] _ _
   refine CWalk.cond rfl (fun hb => ?_) (fun hb => ?_)
   ·have hm := cond_t hb hm
    refine Cs ?_
    refine Cr ?_
    refine wo (Spec.build (us := []) (ls' := [(true, 6, Fact.flds [(false, 1, Fact.rep [] ((0 : UInt32) : UInt32)), (false, 1, Fact.rep [] ((0 : Int) : Int)), (false, 1, Fact.rep [] ((0 : Int) : Int)), (false, 1, Fact.rep [] ((0 : Int) : Int)), (false, 1, Fact.rep [] ((0 : Int) : Int)), (false, 1, Fact.rep [] ((0 : Int) : Int))]), (false, 1, Fact.rep [] ((0 : Int) : Int))]) bd90 rfl BP.nil) ?_
    refine ws (Step.storeObj (ls := [(false, 1, Fact.rep [] ((0 : UInt32) : UInt32)), (false, 1, Fact.rep [] ((0 : Int) : Int)), (false, 1, Fact.rep [] ((0 : Int) : Int)), (false, 1, Fact.rep [] ((0 : Int) : Int)), (false, 1, Fact.rep [] ((0 : Int) : Int)), (false, 1, Fact.rep [] ((0 : Int) : Int)), (false, 1, Fact.rep [] ((0 : Int) : Int))]) rfl ty90 rfl rfl (Hs rfl) rfl (HasL.flds (Has.cv (Hs rfl) (Cv.flat (FlatR.sub (FlatR.cons (FlatR.cons (FlatR.cons (FlatR.cons (FlatR.cons (FlatR.cons FlatR.nil)))))) rfl (FlatR.cons FlatR.nil))))) rfl) ?_
    refine wo (Spec.assign Has.int) ?_
    refine Wn ?_
    refine Lt ?_
    refine CWalk.ret ?_
    refine Leaf.blockR ?_
    refine Leaf.thenR ?_
    obtain rfl := Option.some.inj hm
    exact Leaf.retC2 rfl (HasR.cv (HasR.cv (HasR.obj (ls := [(false, 1, Fact.rep [] ((0 : UInt32) : UInt32)), (false, 1, Fact.rep [] ((0 : Int) : Int)), (false, 1, Fact.rep [] ((0 : Int) : Int)), (false, 1, Fact.rep [] ((0 : Int) : Int)), (false, 1, Fact.rep [] ((0 : Int) : Int)), (false, 1, Fact.rep [] ((0 : Int) : Int)), (false, 1, Fact.rep [] ((0 : Int) : Int))]) ty90 rfl rfl (Hs rfl) rfl (Gz rfl (Gz rfl (Gz rfl (Gz rfl (Gz rfl (Gz rfl (Gz rfl HasGs.nil)))))))) (Cv.unflat (FlatR.sub (FlatR.cons (FlatR.cons (FlatR.cons (FlatR.cons (FlatR.cons (FlatR.cons FlatR.nil)))))) rfl (FlatR.cons FlatR.nil)))) (Cv.trans (Cv.trans (Cv.flds (CvL.cons (Cv.trans (Cv.trans (Cv.flds (Vf (Vf (Vf (Vf (Vf (Vf CvL.nil))))))) (Cv.close (T := []) (chConfig (Config.mk (0 : UInt32) (0 : Int) (0 : Int) (0 : Int) (0 : Int) (0 : Int))))) Cv.fl) (Vf CvL.nil))) (Cv.close (T := []) (chRow90 (Row90.mk (Config.mk (0 : UInt32) (0 : Int) (0 : Int) (0 : Int) (0 : Int) (0 : Int)) (0 : Int))))) Cv.fl)) (HasR.cv (HasR.tmp (Hs rfl)) Cv.fl)
   ·have hm := cond_f hb hm
    refine CWalk.skip ?_
    refine Leaf.blockN ?_
    refine Lt ?_
    refine Cs ?_
    refine Cr ?_
    refine mv ?_
    refine wo (Spec.fieldAddrO fd30_2 (Has.cv (Hs rfl) (Cv.isvP rfl))) ?_
    refine wo (Spec.loadF (i := 2) ty3 rfl (Hs rfl) rfl (HasG.s rfl)) ?_
    obtain ⟨x3, hx3, hm⟩ := bind_some hm
    refine wo (f := Fact.tup2 (Fact.rep [] x3.1) (Fact.rep [] x3.2)) (Spec.callE [] 26 rfl en70 (turn_divide_c a1 a0.Chunk hx3) (HasAll.cons (Has.fl (Hs rfl)) (HasAll.cons (Has.fl (Hs rfl)) HasAll.nil))) ?_
    refine mv ?_
    refine wo (Spec.ext0 (Hs rfl)) ?_
    refine wo (Spec.ext1 (Hs rfl)) ?_
    refine wo (Spec.assign (Hs rfl)) ?_
    refine wo (Spec.assign (Hs rfl)) ?_
    refine Wn ?_
    refine Lt ?_
    refine Cs ?_
    refine Cr ?_
    refine wo (Spec.loadObj (ls := [(false, 1, Fact.rep [] a0.Id), (false, 1, Fact.rep [] a0.Members), (false, 1, Fact.rep [] a0.Chunk), (false, 1, Fact.rep [] a0.Rows), (false, 1, Fact.rep [] a0.Log), (false, 1, Fact.rep [] a0.Heads)]) ty30 rfl rfl (Hs rfl) rfl (Gz rfl (Gz rfl (Gz rfl (Gz rfl (Gz rfl (Gz rfl HasGs.nil))))))) ?_
    refine mv ?_
    refine wo (Spec.build (us := [(0, .tmp 43), (1, .tmp 44)]) (ls' := [(true, 6, Fact.flds [(false, 1, Fact.rep [] a0.Id), (false, 1, Fact.rep [] a0.Members), (false, 1, Fact.rep [] a0.Chunk), (false, 1, Fact.rep [] a0.Rows), (false, 1, Fact.rep [] a0.Log), (false, 1, Fact.rep [] a0.Heads)]), (false, 1, Fact.rep [] x3.1)]) bd90 rfl (BP.cons rfl rfl (Has.cv (Hs rfl) (Cv.trans (Cv.flds (Vf (Vf (Vf (Vf (Vf (Vf CvL.nil))))))) (Cv.close (T := []) (chConfig a0)))) (Hs rfl) (BP.cons rfl rfl (Hs rfl) (Hs rfl) BP.nil))) ?_
    refine ws (Step.storeObj (ls := [(false, 1, Fact.rep [] a0.Id), (false, 1, Fact.rep [] a0.Members), (false, 1, Fact.rep [] a0.Chunk), (false, 1, Fact.rep [] a0.Rows), (false, 1, Fact.rep [] a0.Log), (false, 1, Fact.rep [] a0.Heads), (false, 1, Fact.rep [] x3.1)]) rfl ty90 rfl rfl (Hs rfl) rfl (HasL.flds (Has.cv (Hs rfl) (Cv.flat (FlatR.sub (FlatR.cons (FlatR.cons (FlatR.cons (FlatR.cons (FlatR.cons (FlatR.cons FlatR.nil)))))) rfl (FlatR.cons FlatR.nil))))) rfl) ?_
    refine wo (Spec.assign Has.int) ?_
    refine Wn ?_
    refine Lt ?_
    refine CWalk.ret ?_
    obtain rfl := Option.some.inj hm
    exact Leaf.retC2 rfl (HasR.cv (HasR.cv (HasR.obj (ls := [(false, 1, Fact.rep [] a0.Id), (false, 1, Fact.rep [] a0.Members), (false, 1, Fact.rep [] a0.Chunk), (false, 1, Fact.rep [] a0.Rows), (false, 1, Fact.rep [] a0.Log), (false, 1, Fact.rep [] a0.Heads), (false, 1, Fact.rep [] x3.1)]) ty90 rfl rfl (Hs rfl) rfl (Gz rfl (Gz rfl (Gz rfl (Gz rfl (Gz rfl (Gz rfl (Gz rfl HasGs.nil)))))))) (Cv.unflat (FlatR.sub (FlatR.cons (FlatR.cons (FlatR.cons (FlatR.cons (FlatR.cons (FlatR.cons FlatR.nil)))))) rfl (FlatR.cons FlatR.nil)))) (Cv.trans (Cv.trans (Cv.flds (CvL.cons (Cv.trans (Cv.trans (Cv.flds (Vf (Vf (Vf (Vf (Vf (Vf CvL.nil))))))) (Cv.close (T := []) (chConfig a0))) Cv.fl) (Vf CvL.nil))) (Cv.close (T := []) (chRow90 (Row90.mk a0 x3.1)))) Cv.fl)) (HasR.cv (HasR.tmp (Hs rfl)) Cv.fl)
  ·refine Cs ?_
   refine Cr ?_
   refine mv ?_
   refine wo (Spec.lssI (Hs rfl) Has.int) ?_
   refine wo (Spec.assign (Hs rfl)) ?_
   refine Wn ?_
   refine Lt ?_
   refine CWalk.cond rfl (fun hb => ?_) (fun hb => ?_)
   ·have hm := cond_t hb hm
    refine CWalk.skip ?_
    exact Leaf.join (decide (a1 < (0 : Int))) hm (st (sn (sn (st (sf (sf (sf (sf (sf (sf (sf (sf (sf (sf (sf (sf (sf (sn (sn Sub.nil)))))))))))))))))))
   ·have hm := cond_f hb hm
    refine Cs ?_
    refine Cr ?_
    refine mv ?_
    refine mv ?_
    refine wo (Spec.geqI (Hs rfl) (Hs rfl)) ?_
    refine wo (Spec.assign (Hs rfl)) ?_
    refine Wn ?_
    refine Lt ?_
    refine CWalk.cond rfl (fun hb => ?_) (fun hb => ?_)
    ·have hm := cond_t hb hm
     refine CWalk.skip ?_
     exact Leaf.join (decide (a1 ≥ x1.1)) hm (st (sn (sn (st (sf (sf (sf (sf (sf (sf (sf (sf (sf (sf (sf (sf (sf (sn (sn Sub.nil)))))))))))))))))))
    ·have hm := cond_f hb hm
     refine Cs ?_
     refine Cr ?_
     refine mv ?_
     refine wo (Spec.lssI (Hs rfl) Has.int) ?_
     refine wo (Spec.assign (Hs rfl)) ?_
     refine Wn ?_
     refine Lt ?_
     refine CWalk.cond rfl (fun hb => ?_) (fun hb => ?_)
     ·have hm := cond_t hb hm
      refine CWalk.skip ?_
      exact Leaf.join (decide (a2 < (0 : Int))) hm (st (sn (sn (st (sf (sf (sf (sf (sf (sf (sf (sf (sf (sf (sf (sf (sf (sn (sn Sub.nil)))))))))))))))))))
     ·have hm := cond_f hb hm
      refine Cr ?_
      refine mv ?_
      refine mv ?_
      refine wo (Spec.geqI (Hs rfl) (Hs rfl)) ?_
      refine wo (Spec.assign (Hs rfl)) ?_
      refine Wn ?_
      exact Leaf.join (decide (a2 ≥ a3)) hm (st (sn (sn (st (sf (sf (sf (sf (sf (sf (sf (sf (sf (sf (sf (sf (sf (sn (sn Sub.nil)))))))))))))))))))

/-- (freeboard/turn.row).parity -/
def turn_row_parity (a0 : Row90) : Option (Int) :=
  Option.bind (turn_divide a0.n a0.Config.Members) (fun x1 => some (wI ((wI (a0.Config.Members - (1 : Int))) - x1.2)))
theorem turn_row_parity_c (a0 : Row90) {r : Int} (hm : turn_row_parity a0 = some r) : Ctr Try.prog 71 [.rep 0 a0] (.fl r) [] := by
 refine ctr_of_walk [[]] 20 Try.func71 rfl rfl rfl rfl (fun w0 om => ?_)
 unfold turn_row_parity at hm
 refine CWalk.sub (G' := [.fact 0 (.rep [] (a0 : Row90))]) (Sub.cons (Has.fl (Hs rfl)) Sub.nil) ?_
 refine Cs ?_
 refine Cr ?_
 refine ws (Step.boxObj (ls := [(false, 1, Fact.rep [] a0.Config.Id), (false, 1, Fact.rep [] a0.Config.Members), (false, 1, Fact.rep [] a0.Config.Chunk), (false, 1, Fact.rep [] a0.Config.Rows), (false, 1, Fact.rep [] a0.Config.Log), (false, 1, Fact.rep [] a0.Config.Heads), (false, 1, Fact.rep [] a0.n)]) 10 rfl rfl rfl rfl (HasL.flds (Has.cv (Hs rfl) (Cv.trans (Cv.trans (Cv.trans (Cv.opens (chRow90 a0)) (Cv.flds (Vf (Vf CvL.nil)))) (Cv.flds (ls := [(true, 6, Fact.rep [] a0.Config), (false, 1, Fact.rep [] a0.n)]) (ms := [(true, 6, Fact.flds [(false, 1, Fact.rep [] a0.Config.Id), (false, 1, Fact.rep [] a0.Config.Members), (false, 1, Fact.rep [] a0.Config.Chunk), (false, 1, Fact.rep [] a0.Config.Rows), (false, 1, Fact.rep [] a0.Config.Log), (false, 1, Fact.rep [] a0.Config.Heads)]), (false, 1, Fact.rep [] a0.n)]) (CvL.cons (Cv.trans (Cv.opens (chConfig a0.Config)) (Cv.flds (Vf (Vf (Vf (Vf (Vf (Vf CvL.nil)))))))) (CvL.cons Cv.refl CvL.nil)))) (Cv.flat (FlatR.sub (FlatR.cons (FlatR.cons (FlatR.cons (FlatR.cons (FlatR.cons (FlatR.cons FlatR.nil)))))) rfl (FlatR.cons FlatR.nil))))))) ?_
 refine wo (Spec.assign Has.int) ?_
 refine Wn ?_
 refine Lt ?_
 refine Cs ?_
 refine Cr ?_
 refine wo (Spec.fieldAddrO fd90_1 (Has.cv (Hs rfl) (Cv.isvP rfl))) ?_
 refine wo (Spec.loadF (i := 6) ty3 rfl (Hs rfl) rfl (HasG.s rfl)) ?_
 refine wo (Spec.fieldAddrO fd90_0 (Has.cv (Hs rfl) (Cv.isvP rfl))) ?_
 refine wo (Spec.fieldAddrO fd30_1 (Hs rfl)) ?_
 refine wo (Spec.loadF (i := 1) ty3 rfl (Hs rfl) rfl (HasG.s rfl)) ?_
 obtain ⟨x1, hx1, hm⟩ := bind_some hm
 refine wo (f := Fact.tup2 (Fact.rep [] x1.1) (Fact.rep [] x1.2)) (Spec.callE [] 18 rfl en70 (turn_divide_c a0.n a0.Config.Members hx1) (HasAll.cons (Has.fl (Hs rfl)) (HasAll.cons (Has.fl (Hs rfl)) HasAll.nil))) ?_
 refine mv ?_
 refine wo (Spec.ext0 (Hs rfl)) ?_
 refine wo (Spec.ext1 (Hs rfl)) ?_
 refine wo (Spec.assign (Hs rfl)) ?_
 refine wo (Spec.assign (Hs rfl)) ?_
 refine Wn ?_
 refine Lt ?_
 refine Cs ?_
 refine Cr ?_
 refine wo (Spec.fieldAddrO fd90_0 (Has.cv (Hs rfl) (Cv.isvP rfl))) ?_
 refine wo (Spec.fieldAddrO fd30_1 (Hs rfl)) ?_
 refine wo (Spec.loadF (i := 1) ty3 rfl (Hs rfl) rfl (HasG.s rfl)) ?_
 refine wo (Spec.subI (Hs rfl) Has.int) ?_
 refine mv ?_
 refine wo (Spec.subI (Hs rfl) (Hs rfl)) ?_
 refine wo (Spec.assign (Hs rfl)) ?_
 refine Wn ?_
 refine Lt ?_
 refine CWalk.ret ?_
 obtain rfl := Option.some.inj hm
 exact Leaf.retC1 rfl (HasR.cv (HasR.tmp (Hs rfl)) Cv.fl)

/-- (freeboard/turn.row).member -/
def turn_row_member (a0 : Row90) (a1 : Int) : Option (Int) :=
  Option.bind (turn_row_parity a0) (fun x1 => Option.bind (turn_divide (wI ((wI (x1 + (1 : Int))) + a1)) a0.Config.Members) (fun x2 => some x2.2))
theorem turn_row_member_c (a0 : Row90) (a1 : Int) {r : Int} (hm : turn_row_member a0 a1 = some r) : Ctr Try.prog 41 [.rep 0 a0, .rep 0 a1] (.fl r) [] := by
 refine ctr_of_walk [[]] 20 Try.func41 rfl rfl rfl rfl (fun w0 om => ?_)
 unfold turn_row_member at hm
 refine CWalk.sub (G' := [.fact 0 (.rep [] (a0 : Row90)), .fact 1 (.rep [] (a1 : Int))]) (Sub.cons (Has.fl (Hs rfl)) (Sub.cons (Has.fl (Hs rfl)) Sub.nil)) ?_
 refine Cs ?_
 refine Cr ?_
 refine ws (Step.boxObj (ls := [(false, 1, Fact.rep [] a0.Config.Id), (false, 1, Fact.rep [] a0.Config.Members), (false, 1, Fact.rep [] a0.Config.Chunk), (false, 1, Fact.rep [] a0.Config.Rows), (false, 1, Fact.rep [] a0.Config.Log), (false, 1, Fact.rep [] a0.Config.Heads), (false, 1, Fact.rep [] a0.n)]) 10 rfl rfl rfl rfl (HasL.flds (Has.cv (Hs rfl) (Cv.trans (Cv.trans (Cv.trans (Cv.opens (chRow90 a0)) (Cv.flds (Vf (Vf CvL.nil)))) (Cv.flds (ls := [(true, 6, Fact.rep [] a0.Config), (false, 1, Fact.rep [] a0.n)]) (ms := [(true, 6, Fact.flds [(false, 1, Fact.rep [] a0.Config.Id), (false, 1, Fact.rep [] a0.Config.Members), (false, 1, Fact.rep [] a0.Config.Chunk), (false, 1, Fact.rep [] a0.Config.Rows), (false, 1, Fact.rep [] a0.Config.Log), (false, 1, Fact.rep [] a0.Config.Heads)]), (false, 1, Fact.rep [] a0.n)]) (CvL.cons (Cv.trans (Cv.opens (chConfig a0.Config)) (Cv.flds (Vf (Vf (Vf (Vf (Vf (Vf CvL.nil)))))))) (CvL.cons Cv.refl CvL.nil)))) (Cv.flat (FlatR.sub (FlatR.cons (FlatR.cons (FlatR.cons (FlatR.cons (FlatR.cons (FlatR.cons FlatR.nil)))))) rfl (FlatR.cons FlatR.nil))))))) ?_
 refine wo (Spec.assign Has.int) ?_
 refine Wn ?_
 refine Lt ?_
 refine Cs ?_
 obtain ⟨x1, hx1, hm⟩ := bind_some hm
 obtain ⟨x2, hx2, hm⟩ := bind_some hm
 refine CWalk.drawM [[], [0], [0, 1], [], [0, 1, 2, 3], [], [5], [5, 6], [0, 1, 2, 3, 4, 5, 6, 7], [0, 1, 2, 3, 4, 5, 6, 7, 8], [0, 1, 2, 3, 4, 5, 6, 7, 8, 9], [0, 1, 2, 3, 4, 5, 6, 7, 8, 9], [0, 1, 2, 3, 4, 5, 6, 7, 8, 9, 10], [0, 1, 2, 3, 4, 5, 6, 7, 8, 9, 10, 11, 12]] [[.fact 8 (.flds [(true, 6, Fact.flds [(false, 1, Fact.rep [] a0.Config.Id), (false, 1, Fact.rep [] a0.Config.Members), (false, 1, Fact.rep [] a0.Config.Chunk), (false, 1, Fact.rep [] a0.Config.Rows), (false, 1, Fact.rep [] a0.Config.Log), (false, 1, Fact.rep [] a0.Config.Heads)]), (false, 1, Fact.rep [] a0.n)])], [.fact 9 (.rep [] (x1 : Int))], [.fact 10 (.rep [] ((wI (x1 + (1 : Int))) : Int))], [.fact 11 (.rep [] (a1 : Int))], [.fact 12 (.rep [] ((wI ((wI (x1 + (1 : Int))) + a1)) : Int))], [.fact 13 (.pto 10 0)], [.fact 14 (.pto 10 1)], [.fact 15 (.rep [] a0.Config.Members)], [.fact 16 (.tup2 (Fact.rep [] x2.1) (Fact.rep [] x2.2))], [.fact 7 (.tup2 (Fact.rep [] x2.1) (Fact.rep [] x2.2))], [.fact 17 (.rep [] x2.1)], [.fact 18 (.rep [] x2.2)], [.fact 5 (.rep [] x2.1)], [.fact 6 (.rep [] x2.2)]] mixed (by kernel_rfl) (ao (so (Spec.unflat (FlatR.sub (FlatR.cons (FlatR.cons (FlatR.cons (FlatR.cons (FlatR.cons (FlatR.cons FlatR.nil)))))) rfl (FlatR.cons FlatR.nil)) (Spec.loadObj (ls := [(false, 1, Fact.rep [] a0.Config.Id), (false, 1, Fact.rep [] a0.Config.Members), (false, 1, Fact.rep [] a0.Config.Chunk), (false, 1, Fact.rep [] a0.Config.Rows), (false, 1, Fact.rep [] a0.Config.Log), (false, 1, Fact.rep [] a0.Config.Heads), (false, 1, Fact.rep [] a0.n)]) ty90 rfl rfl (Hs rfl) rfl (Gz rfl (Gz rfl (Gz rfl (Gz rfl (Gz rfl (Gz rfl (Gz rfl HasGs.nil)))))))))) (ao (so (Spec.callE [] 18 rfl en71 (turn_row_parity_c a0 hx1) (HasAll.cons (Has.fl (Has.cv (Hs rfl) (Cv.trans (Cv.flds (CvL.cons (Cv.trans (Cv.trans (Cv.flds (Vf (Vf (Vf (Vf (Vf (Vf CvL.nil))))))) (Cv.close (T := []) (chConfig a0.Config))) Cv.fl) (Vf CvL.nil))) (Cv.close (T := []) (chRow90 a0))))) HasAll.nil))) (ao (so (Spec.addI (Hs rfl) Has.int)) (ao (so (Spec.move (Hs rfl))) (ao (so (Spec.addI (Hs rfl) (Hs rfl))) (ao (so (Spec.fieldAddrO fd90_0 (Has.cv (Hs rfl) (Cv.isvP rfl)))) (ao (so (Spec.fieldAddrO fd30_1 (Hs rfl))) (ao (so (Spec.loadF (i := 1) ty3 rfl (Hs rfl) rfl (HasG.s rfl))) (ao (so (Spec.callE [] 19 rfl en70 (turn_divide_c (wI ((wI (x1 + (1 : Int))) + a1)) a0.Config.Members hx2) (HasAll.cons (Has.fl (Hs rfl)) (HasAll.cons (Has.fl (Hs rfl)) HasAll.nil)))) (ao (so (Spec.move (Hs rfl))) (ao (so (Spec.ext0 (Hs rfl))) (ao (so (Spec.ext1 (Hs rfl))) (ao (so (Spec.assign (Hs rfl))) (ao (so (Spec.assign (Hs rfl))) AllM.nil)))))))))))))) ?_
 refine Lt ?_
 refine Cs ?_
 refine Cr ?_
 refine mv ?_
 refine wo (Spec.assign (Hs rfl)) ?_
 refine Wn ?_
 refine Lt ?_
 refine CWalk.ret ?_
 obtain rfl := Option.some.inj hm
 exact Leaf.retC1 rfl (HasR.cv (HasR.tmp (Hs rfl)) Cv.fl)

/-- freeboard/turn.Member -/
def turn_Member (a0 : Config) (a1 : Int) (a2 : Int) : Option (Int × Int) :=
  Option.bind (turn_at a0 a1 a2 a0.Members) (fun x1 => (bif (x1.2 != (0 : Int)) then some ((0 : Int), x1.2) else Option.bind (turn_row_member x1.1 a2) (fun x2 => some (x2, (0 : Int)))))
theorem turn_Member_c (a0 : Config) (a1 : Int) (a2 : Int) {r : Int × Int} (hm : turn_Member a0 a1 a2 = some r) : Ctr Try.prog 17 [.rep 0 a0, .rep 0 a1, .rep 0 a2] (.tup2 (.fl r.1) (.fl r.2)) [] := by
 refine ctr_of_walk [[]] 25 Try.func17 rfl rfl rfl rfl (fun w0 om => ?_)
 unfold turn_Member at hm
 refine CWalk.sub (G' := [.fact 0 (.rep [] (a0 : Config)), .fact 1 (.rep [] (a1 : Int)), .fact 2 (.rep [] (a2 : Int))]) (Sub.cons (Has.fl (Hs rfl)) (Sub.cons (Has.fl (Hs rfl)) (Sub.cons (Has.fl (Hs rfl)) Sub.nil))) ?_
 refine Cs ?_
 refine Cr ?_
 refine ws (Step.boxObj (ls := [(false, 1, Fact.rep [] a0.Id), (false, 1, Fact.rep [] a0.Members), (false, 1, Fact.rep [] a0.Chunk), (false, 1, Fact.rep [] a0.Rows), (false, 1, Fact.rep [] a0.Log), (false, 1, Fact.rep [] a0.Heads)]) 10 rfl rfl rfl rfl (HasL.flds (Has.cv (Hs rfl) (Cv.trans (Cv.opens (chConfig a0)) (Cv.flds (Vf (Vf (Vf (Vf (Vf (Vf CvL.nil))))))))))) ?_
 refine wo (Spec.assign Has.int) ?_
 refine wo (Spec.assign Has.int) ?_
 refine Wn ?_
 refine Lt ?_
 refine Cs ?_
 refine Cr ?_
 refine wo (Spec.loadObj (ls := [(false, 1, Fact.rep [] a0.Id), (false, 1, Fact.rep [] a0.Members), (false, 1, Fact.rep [] a0.Chunk), (false, 1, Fact.rep [] a0.Rows), (false, 1, Fact.rep [] a0.Log), (false, 1, Fact.rep [] a0.Heads)]) ty30 rfl rfl (Hs rfl) rfl (Gz rfl (Gz rfl (Gz rfl (Gz rfl (Gz rfl (Gz rfl HasGs.nil))))))) ?_
 refine mv ?_
 refine mv ?_
 refine wo (Spec.fieldAddrO fd30_1 (Has.cv (Hs rfl) (Cv.isvP rfl))) ?_
 refine wo (Spec.loadF (i := 1) ty3 rfl (Hs rfl) rfl (HasG.s rfl)) ?_
 obtain ⟨x1, hx1, hm⟩ := bind_some hm
 refine wo (f := Fact.tup2 (Fact.rep [] x1.1) (Fact.rep [] x1.2)) (Spec.callE [] 17 rfl en40 (turn_at_c a0 a1 a2 a0.Members hx1) (HasAll.cons (Has.fl (Has.cv (Hs rfl) (Cv.trans (Cv.flds (Vf (Vf (Vf (Vf (Vf (Vf CvL.nil))))))) (Cv.close (T := []) (chConfig a0))))) (HasAll.cons (Has.fl (Hs rfl)) (HasAll.cons (Has.fl (Hs rfl)) (HasAll.cons (Has.fl (Hs rfl)) HasAll.nil))))) ?_
 refine mv ?_
 refine wo (Spec.ext0 (Hs rfl)) ?_
 refine wo (Spec.ext1 (Hs rfl)) ?_
 refine ws (Step.allocObj (ls := [(false, 1, Fact.rep [] ((0 : UInt32) : UInt32)), (false, 1, Fact.rep [] ((0 : Int) : Int)), (false, 1, Fact.rep [] ((0 : Int) : Int)), (false, 1, Fact.rep [] ((0 : Int) : Int)), (false, 1, Fact.rep [] ((0 : Int) : Int)), (false, 1, Fact.rep [] ((0 : Int) : Int)), (false, 1, Fact.rep [] ((0 : Int) : Int))]) 18 rfl rfl rfl rfl zl90) ?_
 refine ws (Step.storeObj (ls := [(false, 1, Fact.rep [] x1.1.Config.Id), (false, 1, Fact.rep [] x1.1.Config.Members), (false, 1, Fact.rep [] x1.1.Config.Chunk), (false, 1, Fact.rep [] x1.1.Config.Rows), (false, 1, Fact.rep [] x1.1.Config.Log), (false, 1, Fact.rep [] x1.1.Config.Heads), (false, 1, Fact.rep [] x1.1.n)]) rfl ty90 rfl rfl (Hs rfl) rfl (HasL.flds (Has.cv (Hs rfl) (Cv.trans (Cv.trans (Cv.trans (Cv.opens (chRow90 x1.1)) (Cv.flds (Vf (Vf CvL.nil)))) (Cv.flds (ls := [(true, 6, Fact.rep [] x1.1.Config), (false, 1, Fact.rep [] x1.1.n)]) (ms := [(true, 6, Fact.flds [(false, 1, Fact.rep [] x1.1.Config.Id), (false, 1, Fact.rep [] x1.1.Config.Members), (false, 1, Fact.rep [] x1.1.Config.Chunk), (false, 1, Fact.rep [] x1.1.Config.Rows), (false, 1, Fact.rep [] x1.1.Config.Log), (false, 1, Fact.rep [] x1.1.Config.Heads)]), (false, 1, Fact.rep [] x1.1.n)]) (CvL.cons (Cv.trans (Cv.opens (chConfig x1.1.Config)) (Cv.flds (Vf (Vf (Vf (Vf (Vf (Vf CvL.nil)))))))) (CvL.cons Cv.refl CvL.nil)))) (Cv.flat (FlatR.sub (FlatR.cons (FlatR.cons (FlatR.cons (FlatR.cons (FlatR.cons (FlatR.cons FlatR.nil)))))) rfl (FlatR.cons FlatR.nil)))))) rfl) ?_
 refine wo (Spec.assign (Hs rfl)) ?_
 refine Wn ?_
 refine Lt ?_
 refine Cs ?_
 refine Cs ?_
 refine Cr ?_
 refine mv ?_
 refine wo (Spec.neqI (Hs rfl) Has.int) ?_
 refine Wn ?_
 refine Lt ?_
 refine CWalk.cond rfl (fun hb => ?_) (fun hb => ?_)
 ·have hm := cond_t hb hm
  refine Cs ?_
  refine Cr ?_
  refine mv ?_
  refine wo (Spec.assign Has.int) ?_
  refine wo (Spec.assign (Hs rfl)) ?_
  refine Wn ?_
  refine Lt ?_
  refine CWalk.ret ?_
  refine Leaf.thenR ?_
  obtain rfl := Option.some.inj hm
  exact Leaf.retC2 rfl (HasR.cv (HasR.tmp (Hs rfl)) Cv.fl) (HasR.cv (HasR.tmp (Hs rfl)) Cv.fl)
 ·have hm := cond_f hb hm
  refine CWalk.skip ?_
  refine Lt ?_
  refine Cs ?_
  refine Cr ?_
  refine wo (Spec.unflat (FlatR.sub (FlatR.cons (FlatR.cons (FlatR.cons (FlatR.cons (FlatR.cons (FlatR.cons FlatR.nil)))))) rfl (FlatR.cons FlatR.nil)) (Spec.loadObj (ls := [(false, 1, Fact.rep [] x1.1.Config.Id), (false, 1, Fact.rep [] x1.1.Config.Members), (false, 1, Fact.rep [] x1.1.Config.Chunk), (false, 1, Fact.rep [] x1.1.Config.Rows), (false, 1, Fact.rep [] x1.1.Config.Log), (false, 1, Fact.rep [] x1.1.Config.Heads), (false, 1, Fact.rep [] x1.1.n)]) ty90 rfl rfl (Hs rfl) rfl (Gz rfl (Gz rfl (Gz rfl (Gz rfl (Gz rfl (Gz rfl (Gz rfl HasGs.nil))))))))) ?_
  refine mv ?_
  obtain ⟨x2, hx2, hm⟩ := bind_some hm
  refine wo (f := Fact.rep [] (x2 : Int)) (Spec.callE [] 26 rfl en41 (turn_row_member_c x1.1 a2 hx2) (HasAll.cons (Has.fl (Has.cv (Hs rfl) (Cv.trans (Cv.flds (CvL.cons (Cv.trans (Cv.trans (Cv.flds (Vf (Vf (Vf (Vf (Vf (Vf CvL.nil))))))) (Cv.close (T := []) (chConfig x1.1.Config))) Cv.fl) (Vf CvL.nil))) (Cv.close (T := []) (chRow90 x1.1))))) (HasAll.cons (Has.fl (Hs rfl)) HasAll.nil))) ?_
  refine wo (Spec.assign (Hs rfl)) ?_
  refine wo (Spec.assign Has.int) ?_
  refine Wn ?_
  refine Lt ?_
  refine CWalk.ret ?_
  obtain rfl := Option.some.inj hm
  exact Leaf.retC2 rfl (HasR.cv (HasR.tmp (Hs rfl)) Cv.fl) (HasR.cv (HasR.tmp (Hs rfl)) Cv.fl)

/-- slices.Clone[[]byte,byte] -/
def slices_Clone_byte_byte (a0 : List UInt8) : Option ((List UInt8)) :=
  Option.bind (app ([] : List UInt8) a0) (fun x1 => some x1)
theorem slices_Clone_byte_byte_c (a0 : List UInt8) {r : (List UInt8)} (hm : slices_Clone_byte_byte a0 = some r) : Ctr Try.prog 78 [.rep 0 a0] (.own 0 none 5 r) [] := by
 refine ctr_of_walk [[10]] 8 Try.func78 rfl rfl rfl rfl (fun w0 om => ?_)
 unfold slices_Clone_byte_byte at hm
 refine CWalk.sub (G' := [.fact 0 (.rep [0] (a0 : List UInt8))]) (sn Sub.nil) ?_
 refine Cs ?_
 refine Cr ?_
 refine wo (Spec.assign Has.nilv) ?_
 refine Wn ?_
 refine Lt ?_
 refine Cs ?_
 refine Cs ?_
 refine Cr ?_
 refine mv ?_
 refine wo (Spec.eqlNil Try.underlying37 (Hs rfl)) ?_
 refine Wn ?_
 refine Lt ?_
 refine CWalk.condNil rfl (fun hb => ?_) ?_
 ·have hm : some ([] : List UInt8) = some r := by first | simpa [app, hb] using hm | simpa [hb] using hm
  refine Cs ?_
  refine Cr ?_
  refine wo (Spec.assign Has.nilv) ?_
  refine Wn ?_
  refine Lt ?_
  refine CWalk.ret ?_
  refine Leaf.thenR ?_
  obtain rfl := Option.some.inj hm
  exact Leaf.retC1 rfl (HasR.cv (HasR.tmp (Hs rfl)) (Cv.trans Cv.nilOw (Cv.owF (T := []) (te := []) rfl)))
 ·skip
  refine CWalk.skip ?_
  refine Lt ?_
  refine Cs ?_
  refine Cr ?_
  refine ws (Step.lit0 (α := UInt8) 10 rfl rfl ow37) ?_
  refine mv ?_
  obtain ⟨x1, hx1, hm⟩ := bind_some hm
  refine ws (Step.append (te' := []) 10 hx1 rfl rfl ow37 (Hs rfl) rfl (Hs rfl) ElKeep.flat ElKeep.flat) ?_
  refine wo (Spec.assign (Hs rfl)) ?_
  refine Wn ?_
  refine Lt ?_
  refine CWalk.ret ?_
  obtain rfl := Option.some.inj hm
  exact Leaf.retC1 rfl (HasR.cv (HasR.tmp (Hs rfl)) (Cv.trans (Cv.isvOw rfl) (Cv.owF (T := [10]) (te := []) rfl)))

def home_acts_J1 (j1 : List Act45) : Option ((List Act45) × Int) :=
  some (j1, (0 : Int))
def home_acts_J3 (s2 : Int) (j7 : List Act45) : Option (Ctl (Int × (List Act45)) ((List Act45))) :=
  some (Ctl.next ((wI (s2 + (1 : Int))), j7))
def home_acts_J4 (a2 : Deal) (s2 : Int) (s3 : List Act45) (x8 : Int × Int) (j10 : List UInt8) : Option (Ctl (Int × (List Act45)) ((List Act45))) :=
  Option.bind (app s3 ([(Act45.mk x8.1 (1 : UInt8) (wI (a2.Stripe + (1 : Int))) j10)])) (fun x11 => (home_acts_J3 s2 x11))
def home_acts_L2 (a0 : Config) (a1 : Int) (a2 : Deal) (s2 : Int) (s3 : List Act45) : Option (Ctl (Int × (List Act45)) ((List Act45))) :=
  (bif (decide (s2 < ((a2.Slots).length : Int))) then Option.bind (idx a2.Slots s2) (fun x5 => Option.bind (idx a2.Blocks s2) (fun x6 => Option.bind (turn_Member a0 a2.Stripe x5) (fun x8 => (bif (x8.1 == a1) then (home_acts_J3 s2 s3) else Option.bind (slices_Clone_byte_byte x6) (fun x9 => (bif (((x9).length : Int) == (0 : Int)) then Option.bind (makeL (0 : UInt8) (128 : Int)) (fun x12 => (home_acts_J4 a2 s2 s3 x8 x12)) else (home_acts_J4 a2 s2 s3 x8 x9))))))) else some (Ctl.brk s3))
def home_acts_J5 (j14 : List Act45) : Option ((List Act45) × Int) :=
  (home_acts_J1 j14)
def home_acts_J6 (a2 : Deal) (b13 : (List Act45)) (x15 : Int × Int) (j17 : List UInt8) : Option ((List Act45) × Int) :=
  Option.bind (app b13 ([(Act45.mk x15.1 (1 : UInt8) (wI (a2.Stripe + (1 : Int))) j17)])) (fun x18 => (home_acts_J5 x18))
/-- freeboard/home.acts -/
def home_acts (a0 : Config) (a1 : Int) (a2 : Deal) : Option ((List Act45) × Int) :=
  Option.bind (loopM (fun s : Int × (List Act45) => home_acts_L2 a0 a1 a2 s.1 s.2) FUEL ((0 : Int), ([] : List Act45))) (fun b13 => Option.bind (turn_Member a0 a2.Stripe (wI (a0.Members - (1 : Int)))) (fun x15 => (bif (x15.1 == a1) then (home_acts_J5 b13) else Option.bind (slices_Clone_byte_byte a2.Parity) (fun x16 => (bif (((x16).length : Int) == (0 : Int)) then Option.bind (makeL (0 : UInt8) (128 : Int)) (fun x19 => (home_acts_J6 a2 b13 x15 x19)) else (home_acts_J6 a2 b13 x15 x16))))))
theorem home_acts_c (a0 : Config) (a1 : Int) (a2 : Deal) {r : (List Act45) × Int} (hm : home_acts a0 a1 a2 = some r) : Ctr Try.prog 64 [.rep 0 a0, .rep 0 a1, .rep 0 a2] (.tup2 (.own 0 (some 1) 45 r.1) (.fl r.2)) [] := by
 refine ctr_of_walk [[48], [45, 46, 47, 50, 51, 52]] 24 Try.func64 rfl rfl rfl rfl (fun w0 om => ?_)
 unfold home_acts at hm
 refine CWalk.sub (G' := [.fact 0 (.rep [] (a0 : Config)), .fact 1 (.rep [] (a1 : Int)), .fact 2 (.rep [0] (a2 : Deal))]) (Sub.cons (Has.fl (Hs rfl)) (Sub.cons (Has.fl (Hs rfl)) (sn Sub.nil))) ?_
 refine Cs ?_
 refine Cr ?_
 refine ws (Step.boxObj (ls := [(false, 1, Fact.rep [] a0.Id), (false, 1, Fact.rep [] a0.Members), (false, 1, Fact.rep [] a0.Chunk), (false, 1, Fact.rep [] a0.Rows), (false, 1, Fact.rep [] a0.Log), (false, 1, Fact.rep [] a0.Heads)]) 10 rfl rfl rfl rfl (HasL.flds (Has.cv (Hs rfl) (Cv.trans (Cv.opens (chConfig a0)) (Cv.flds (Vf (Vf (Vf (Vf (Vf (Vf CvL.nil))))))))))) ?_
 refine ws (Step.boxObj (ls := [(false, 1, Fact.rep [] a2.Stripe), (false, 1, Fact.rep [0] a2.Slots), (false, 1, Fact.rep [0] a2.Blocks), (false, 1, Fact.rep [0] a2.Parity)]) 17 rfl rfl rfl rfl (HasL.flds (Has.cv (Hs rfl) (Cv.trans (Cv.opens (chDeal a2)) (Cv.flds (Vf (CvL.cons Cv.refl (CvL.cons Cv.refl (CvL.cons Cv.refl CvL.nil))))))))) ?_
 refine wo (Spec.assign Has.nilv) ?_
 refine wo (Spec.assign Has.int) ?_
 refine Wn ?_
 refine Lt ?_
 refine Cs ?_
 refine Cr ?_
 refine wo (Spec.loadObj (ls := [(false, 1, Fact.rep [] a0.Id), (false, 1, Fact.rep [] a0.Members), (false, 1, Fact.rep [] a0.Chunk), (false, 1, Fact.rep [] a0.Rows), (false, 1, Fact.rep [] a0.Log), (false, 1, Fact.rep [] a0.Heads)]) ty30 rfl rfl (Hs rfl) rfl (Gz rfl (Gz rfl (Gz rfl (Gz rfl (Gz rfl (Gz rfl HasGs.nil))))))) ?_
 refine mv ?_
 refine wo (Spec.fieldAddrO fd39_0 (Has.cv (Hs rfl) (Cv.isvP rfl))) ?_
 refine wo (Spec.loadF (i := 0) ty3 rfl (Hs rfl) rfl (HasG.s rfl)) ?_
 refine wo (Spec.build (us := [(0, .tmp 9), (1, .tmp 10), (2, .tmp 12)]) (ls' := [(true, 6, Fact.flds [(false, 1, Fact.rep [] a0.Id), (false, 1, Fact.rep [] a0.Members), (false, 1, Fact.rep [] a0.Chunk), (false, 1, Fact.rep [] a0.Rows), (false, 1, Fact.rep [] a0.Log), (false, 1, Fact.rep [] a0.Heads)]), (false, 1, Fact.rep [] (a1 : Int)), (false, 1, Fact.rep [] a2.Stripe), (false, 1, Fact.nilv)]) bd139 rfl (BP.cons rfl rfl (Has.cv (Hs rfl) (Cv.trans (Cv.flds (Vf (Vf (Vf (Vf (Vf (Vf CvL.nil))))))) (Cv.close (T := []) (chConfig a0)))) (Hs rfl) (BP.cons rfl rfl (Hs rfl) (Hs rfl) (BP.cons rfl rfl (Hs rfl) (Hs rfl) BP.nil)))) ?_
 refine ws (Step.boxObj (ls := [(false, 1, Fact.rep [] a0.Id), (false, 1, Fact.rep [] a0.Members), (false, 1, Fact.rep [] a0.Chunk), (false, 1, Fact.rep [] a0.Rows), (false, 1, Fact.rep [] a0.Log), (false, 1, Fact.rep [] a0.Heads), (false, 1, Fact.rep [] (a1 : Int)), (false, 1, Fact.rep [] a2.Stripe), (false, 1, Fact.nilv)]) 22 rfl rfl rfl rfl (HasL.flds (Has.cv (Hs rfl) (Cv.flat (FlatR.sub (FlatR.cons (FlatR.cons (FlatR.cons (FlatR.cons (FlatR.cons (FlatR.cons FlatR.nil)))))) rfl (FlatR.cons (FlatR.cons (FlatR.cons FlatR.nil)))))))) ?_
 refine wo (Spec.assign (Hs rfl)) ?_
 refine Wn ?_
 refine Lt ?_
 refine Cs ?_
 refine Cr ?_
 refine wo (Spec.loadObj (ls := [(false, 1, Fact.rep [] a0.Id), (false, 1, Fact.rep [] a0.Members), (false, 1, Fact.rep [] a0.Chunk), (false, 1, Fact.rep [] a0.Rows), (false, 1, Fact.rep [] a0.Log), (false, 1, Fact.rep [] a0.Heads)]) ty30 rfl rfl (Hs rfl) rfl (Gz rfl (Gz rfl (Gz rfl (Gz rfl (Gz rfl (Gz rfl HasGs.nil))))))) ?_
 refine wo (Spec.loadObj (ls := [(false, 1, Fact.rep [] a2.Stripe), (false, 1, Fact.rep [0] a2.Slots), (false, 1, Fact.rep [0] a2.Blocks), (false, 1, Fact.rep [0] a2.Parity)]) ty39 rfl rfl (Hs rfl) rfl (Gz rfl (Gz rfl (Gz rfl (Gz rfl HasGs.nil))))) ?_
 refine mv ?_
 refine wo (Spec.makeFunc (xs := [.tmp 17]) (ys := []) rfl rfl (HasF.cons (Hs rfl) HasF.nil) HasF.nil (fun _ _ _ => rfl)) ?_
 refine Walk.inline (S := (List Act45)) (fun p : (List Act45) => [.fact 8 (.isv 22), .fact 19 (.top), .fact 100023 (.at 23 (.rep [] a0.Id)), .fact 100024 (.at 24 (.rep [] a0.Members)), .fact 100025 (.at 25 (.rep [] a0.Chunk)), .fact 100026 (.at 26 (.rep [] a0.Rows)), .fact 100027 (.at 27 (.rep [] a0.Log)), .fact 100028 (.at 28 (.rep [] a0.Heads)), .fact 100029 (.at 29 (.rep [] (a1 : Int))), .fact 100030 (.at 30 (.rep [] a2.Stripe)), .fact 100031 (.at 31 (.ow [48] [45, 46, 47, 50, 51, 52] 45 (p : List Act45))), .fact 100022 (.obj 22 [(false, 1), (false, 1), (false, 1), (false, 1), (false, 1), (false, 1), (false, 1), (false, 1), (false, 1)])]) (fun p : (List Act45) => home_acts_J1 p = some r) (fun u1 => [.fact 100023 (.at 23 (.rep [] a0.Id)), .fact 100024 (.at 24 (.rep [] a0.Members)), .fact 100025 (.at 25 (.rep [] a0.Chunk)), .fact 100026 (.at 26 (.rep [] a0.Rows)), .fact 100027 (.at 27 (.rep [] a0.Log)), .fact 100028 (.at 28 (.rep [] a0.Heads)), .fact 100029 (.at 29 (.rep [] (a1 : Int))), .fact 100030 (.at 30 (.rep [] a2.Stripe)), .fact 100031 (.at 31 (.nilv)), .fact 902008 (.cst (u1 8) (Fact.isv 22)), .fact 100022 (.obj 22 [(false, 1), (false, 1), (false, 1), (false, 1), (false, 1), (false, 1), (false, 1), (false, 1), (false, 1)])]) (FA := [Fact.flds [(false, 1, Fact.rep [] a0.Id), (false, 1, Fact.rep [] a0.Members), (false, 1, Fact.rep [] a0.Chunk), (false, 1, Fact.rep [] a0.Rows), (false, 1, Fact.rep [] a0.Log), (false, 1, Fact.rep [] a0.Heads)], Fact.flds [(false, 1, Fact.rep [] a2.Stripe), (false, 1, Fact.rep [0] a2.Slots), (false, 1, Fact.rep [0] a2.Blocks), (false, 1, Fact.rep [0] a2.Parity)], Fact.fnv 92 [Fact.isv 22] []]) rfl Try.func91 rfl rfl rfl (CallOk.fn en91 (HasF.cons (Hs rfl) (HasF.cons (Hs rfl) (HasF.cons (Hs rfl) HasF.nil)))) (fun u1 => (ck (ck (ck (ck (ck (ck (ck (ck (ck (cs 902000 8 (ck Carry.nil)))))))))))) (fun u1 => ?_) ?_
 ·refine Cs ?_
  refine Cr ?_
  refine ws (Step.boxObj (ls := [(false, 1, Fact.rep [] a0.Id), (false, 1, Fact.rep [] a0.Members), (false, 1, Fact.rep [] a0.Chunk), (false, 1, Fact.rep [] a0.Rows), (false, 1, Fact.rep [] a0.Log), (false, 1, Fact.rep [] a0.Heads)]) 32 rfl rfl rfl rfl (HasL.flds (Hs rfl))) ?_
  refine ws (Step.boxObj (ls := [(false, 1, Fact.rep [] a2.Stripe), (false, 1, Fact.rep [0] a2.Slots), (false, 1, Fact.rep [0] a2.Blocks), (false, 1, Fact.rep [0] a2.Parity)]) 39 rfl rfl rfl rfl (HasL.flds (Hs rfl))) ?_
  refine Wn ?_
  refine Lt ?_
  refine Cs ?_
  refine Cs ?_
  refine Cr ?_
  refine wo (Spec.fieldAddrO fd39_1 (Has.cv (Hs rfl) (Cv.isvP rfl))) ?_
  refine wo (Spec.loadF (i := 1) ty35 rfl (Hs rfl) rfl (HasG.s rfl)) ?_
  refine wo (Spec.len (Hs rfl) Try.underlying35) ?_
  refine wo (Spec.move Has.int) ?_
  refine Wn ?_
  refine Lt ?_
  refine CWalk.block ?_
  obtain ⟨b13, hb13, hm⟩ := bind_some hm
  refine CWalk.loop (fun s : Int × (List Act45) => [.fact 2 (.fnv 92 [Fact.isv 22] []), .fact 3 (.isv 32), .fact 4 (.isv 39), .fact 9 (.rep [0] a2.Slots), .fact 10 (.rep [] (((a2.Slots).length : Int) : Int)), .fact 11 (.rep [] s.1), .fact 902008 (.cst (u1 8) (Fact.isv 22)), .fact 100023 (.at 23 (.rep [] a0.Id)), .fact 100024 (.at 24 (.rep [] a0.Members)), .fact 100025 (.at 25 (.rep [] a0.Chunk)), .fact 100026 (.at 26 (.rep [] a0.Rows)), .fact 100027 (.at 27 (.rep [] a0.Log)), .fact 100028 (.at 28 (.rep [] a0.Heads)), .fact 100029 (.at 29 (.rep [] (a1 : Int))), .fact 100030 (.at 30 (.rep [] a2.Stripe)), .fact 100031 (.at 31 (.ow [48] [45, 46, 47] 45 (s.2 : List Act45))), .fact 100033 (.at 33 (.rep [] a0.Id)), .fact 100034 (.at 34 (.rep [] a0.Members)), .fact 100035 (.at 35 (.rep [] a0.Chunk)), .fact 100036 (.at 36 (.rep [] a0.Rows)), .fact 100037 (.at 37 (.rep [] a0.Log)), .fact 100038 (.at 38 (.rep [] a0.Heads)), .fact 100040 (.at 40 (.rep [] a2.Stripe)), .fact 100041 (.at 41 (.rep [0] a2.Slots)), .fact 100042 (.at 42 (.rep [0] a2.Blocks)), .fact 100043 (.at 43 (.rep [0] a2.Parity)), .fact 100022 (.obj 22 [(false, 1), (false, 1), (false, 1), (false, 1), (false, 1), (false, 1), (false, 1), (false, 1), (false, 1)]), .fact 100032 (.obj 32 [(false, 1), (false, 1), (false, 1), (false, 1), (false, 1), (false, 1)]), .fact 100039 (.obj 39 [(false, 1), (false, 1), (false, 1), (false, 1)])]) (fun b : (List Act45) => (Exit.exit 0, [.fact 2 (.fnv 92 [Fact.isv 22] []), .fact 3 (.isv 32), .fact 4 (.isv 39), .fact 902008 (.cst (u1 8) (Fact.isv 22)), .fact 100023 (.at 23 (.rep [] a0.Id)), .fact 100024 (.at 24 (.rep [] a0.Members)), .fact 100025 (.at 25 (.rep [] a0.Chunk)), .fact 100026 (.at 26 (.rep [] a0.Rows)), .fact 100027 (.at 27 (.rep [] a0.Log)), .fact 100028 (.at 28 (.rep [] a0.Heads)), .fact 100029 (.at 29 (.rep [] (a1 : Int))), .fact 100030 (.at 30 (.rep [] a2.Stripe)), .fact 100031 (.at 31 (.ow [48] [45, 46, 47] 45 (b : List Act45))), .fact 100033 (.at 33 (.rep [] a0.Id)), .fact 100034 (.at 34 (.rep [] a0.Members)), .fact 100035 (.at 35 (.rep [] a0.Chunk)), .fact 100036 (.at 36 (.rep [] a0.Rows)), .fact 100037 (.at 37 (.rep [] a0.Log)), .fact 100038 (.at 38 (.rep [] a0.Heads)), .fact 100040 (.at 40 (.rep [] a2.Stripe)), .fact 100041 (.at 41 (.rep [0] a2.Slots)), .fact 100042 (.at 42 (.rep [0] a2.Blocks)), .fact 100043 (.at 43 (.rep [0] a2.Parity)), .fact 100022 (.obj 22 [(false, 1), (false, 1), (false, 1), (false, 1), (false, 1), (false, 1), (false, 1), (false, 1), (false, 1)]), .fact 100032 (.obj 32 [(false, 1), (false, 1), (false, 1), (false, 1), (false, 1), (false, 1)]), .fact 100039 (.obj 39 [(false, 1), (false, 1), (false, 1), (false, 1)])])) hb13 (sn (sn (sn (su (st (st (sc (sf (sf (sf (sf (sf (sf (sf (sf (Sub.cons (Has.at (HasG.cv (HasG.s rfl) (Cv.trans Cv.nilOw (Cv.owM (T := []) (te := []) rfl rfl)))) (sf (sf (sf (sf (sf (sf (sf (sm (sm (sm (sn (sn (sn Sub.nil))))))))))))))))))))))))))))) ?_ ?_
  ·rintro ⟨s2, s3⟩ c4 hm
   replace hm : home_acts_L2 a0 a1 a2 s2 s3 = some c4 := hm
   unfold home_acts_L2 at hm
   show CWalk _ [.fact 2 (.fnv 92 [Fact.isv 22] []), .fact 3 (.isv 32), .fact 4 (.isv 39), .fact 9 (.rep [0] a2.Slots), .fact 10 (.rep [] (((a2.Slots).length : Int) : Int)), .fact 11 (.rep [] (s2 : Int)), .fact 902008 (.cst (u1 8) (Fact.isv 22)), .fact 100023 (.at 23 (.rep [] a0.Id)), .fact 100024 (.at 24 (.rep [] a0.Members)), .fact 100025 (.at 25 (.rep [] a0.Chunk)), .fact 100026 (.at 26 (.rep [] a0.Rows)), .fact 100027 (.at 27 (.rep [] a0.Log)), .fact 100028 (.at 28 (.rep [] a0.Heads)), .fact 100029 (.at 29 (.rep [] (a1 : Int))), .fact 100030 (.at 30 (.rep [] a2.Stripe)), .fact 100031 (.at 31 (.ow [48] [45, 46, 47] 45 (s3 : List Act45))), .fact 100033 (.at 33 (.rep [] a0.Id)), .fact 100034 (.at 34 (.rep [] a0.Members)), .fact 100035 (.at 35 (.rep [] a0.Chunk)), .fact 100036 (.at 36 (.rep [] a0.Rows)), .fact 100037 (.at 37 (.rep [] a0.Log)), .fact 100038 (.at 38 (.rep [] a0.Heads)), .fact 100040 (.at 40 (.rep [] a2.Stripe)), .fact 100041 (.at 41 (.rep [0] a2.Slots)), .fact 100042 (.at 42 (.rep [0] a2.Blocks)), .fact 100043 (.at 43 (.rep [0] a2.Parity)), .fact 100022 (.obj 22 [(false, 1), (false, 1), (false, 1), (false, 1), (false, 1), (false, 1), (false, 1), (false, 1), (false, 1)]), .fact 100032 (.obj 32 [(false, 1), (false, 1), (false, 1), (false, 1), (false, 1), (false, 1)]), .fact 100039 (.obj 39 [(false, 1), (false, 1), (false, 1), (false, 1)])] _ _
   refine Cs ?_
   refine Cr ?_
   refine wo (Spec.lssI (Hs rfl) (Hs rfl)) ?_
   refine Wn ?_
   refine Lt ?_
   refine Cs ?_
   refine CWalk.cond rfl (fun hb => ?_) (fun hb => ?_)
   ·have hm := cond_t hb hm
    refine CWalk.skip ?_
    refine Lt ?_
    refine Cs ?_
    refine CWalk.block ?_
    refine Cs ?_
    refine Cr ?_
    refine mv ?_
    obtain ⟨x5, hx5, hm⟩ := bind_some hm
    refine wo (Spec.indexAddr hx5 sl35 (Hs rfl) (Hs rfl)) ?_
    refine wo ((Spec.load ty3 (Hs rfl)).flat (T' := [])) ?_
    refine wo (Spec.assign (Hs rfl)) ?_
    refine wo (Spec.assign (Hs rfl)) ?_
    refine Wn ?_
    refine Lt ?_
    refine Cr ?_
    refine mv ?_
    refine mv ?_
    refine wo (Spec.fieldAddrO fd39_2 (Has.cv (Hs rfl) (Cv.isvP rfl))) ?_
    refine wo (Spec.loadF (i := 2) ty36 rfl (Hs rfl) rfl (HasG.s rfl)) ?_
    refine mv ?_
    obtain ⟨x6, hx6, hm⟩ := bind_some hm
    refine wo (Spec.indexAddr hx6 sl36 (Hs rfl) (Hs rfl)) ?_
    refine wo (Spec.load ty37 (Hs rfl)) ?_
    refine Walk.inline (S := (List Act45)) (fun p : (List Act45) => [.fact 2 (.fnv 92 [Fact.isv 22] []), .fact 3 (.isv 32), .fact 4 (.isv 39), .fact 9 (.rep [0] a2.Slots), .fact 10 (.rep [] (((a2.Slots).length : Int) : Int)), .fact 11 (.rep [] (s2 : Int)), .fact 23 (.top), .fact 902008 (.cst (u1 8) (Fact.isv 22)), .fact 100023 (.at 23 (.rep [] a0.Id)), .fact 100024 (.at 24 (.rep [] a0.Members)), .fact 100025 (.at 25 (.rep [] a0.Chunk)), .fact 100026 (.at 26 (.rep [] a0.Rows)), .fact 100027 (.at 27 (.rep [] a0.Log)), .fact 100028 (.at 28 (.rep [] a0.Heads)), .fact 100029 (.at 29 (.rep [] (a1 : Int))), .fact 100030 (.at 30 (.rep [] a2.Stripe)), .fact 100031 (.at 31 (.ow [48] [45, 46, 47] 45 (p : List Act45))), .fact 100033 (.at 33 (.rep [] a0.Id)), .fact 100034 (.at 34 (.rep [] a0.Members)), .fact 100035 (.at 35 (.rep [] a0.Chunk)), .fact 100036 (.at 36 (.rep [] a0.Rows)), .fact 100037 (.at 37 (.rep [] a0.Log)), .fact 100038 (.at 38 (.rep [] a0.Heads)), .fact 100040 (.at 40 (.rep [] a2.Stripe)), .fact 100041 (.at 41 (.rep [0] a2.Slots)), .fact 100042 (.at 42 (.rep [0] a2.Blocks)), .fact 100043 (.at 43 (.rep [0] a2.Parity)), .fact 100022 (.obj 22 [(false, 1), (false, 1), (false, 1), (false, 1), (false, 1), (false, 1), (false, 1), (false, 1), (false, 1)]), .fact 100032 (.obj 32 [(false, 1), (false, 1), (false, 1), (false, 1), (false, 1), (false, 1)]), .fact 100039 (.obj 39 [(false, 1), (false, 1), (false, 1), (false, 1)])]) (fun p : (List Act45) => home_acts_J3 s2 p = some c4) (fun u2 => [.fact 100023 (.at 23 (.rep [] a0.Id)), .fact 100024 (.at 24 (.rep [] a0.Members)), .fact 100025 (.at 25 (.rep [] a0.Chunk)), .fact 100026 (.at 26 (.rep [] a0.Rows)), .fact 100027 (.at 27 (.rep [] a0.Log)), .fact 100028 (.at 28 (.rep [] a0.Heads)), .fact 100029 (.at 29 (.rep [] (a1 : Int))), .fact 100030 (.at 30 (.rep [] a2.Stripe)), .fact 100031 (.at 31 (.ow [48] [45, 46, 47] 45 (s3 : List Act45))), .fact 100033 (.at 33 (.rep [] a0.Id)), .fact 100034 (.at 34 (.rep [] a0.Members)), .fact 100035 (.at 35 (.rep [] a0.Chunk)), .fact 100036 (.at 36 (.rep [] a0.Rows)), .fact 100037 (.at 37 (.rep [] a0.Log)), .fact 100038 (.at 38 (.rep [] a0.Heads)), .fact 100040 (.at 40 (.rep [] a2.Stripe)), .fact 100041 (.at 41 (.rep [0] a2.Slots)), .fact 100042 (.at 42 (.rep [0] a2.Blocks)), .fact 100043 (.at 43 (.rep [0] a2.Parity)), .fact 902008 (.cst (u1 8) (Fact.isv 22)), .fact 904002 (.cst (u2 2) (Fact.fnv 92 [Fact.isv 22] [])), .fact 904003 (.cst (u2 3) (Fact.isv 32)), .fact 904004 (.cst (u2 4) (Fact.isv 39)), .fact 904009 (.cst (u2 9) (Fact.rep [0] a2.Slots)), .fact 904010 (.cst (u2 10) (Fact.rep [] (((a2.Slots).length : Int) : Int))), .fact 904011 (.cst (u2 11) (Fact.rep [] (s2 : Int))), .fact 100022 (.obj 22 [(false, 1), (false, 1), (false, 1), (false, 1), (false, 1), (false, 1), (false, 1), (false, 1), (false, 1)]), .fact 100032 (.obj 32 [(false, 1), (false, 1), (false, 1), (false, 1), (false, 1), (false, 1)]), .fact 100039 (.obj 39 [(false, 1), (false, 1), (false, 1), (false, 1)])]) (FA := [Fact.isv 22, Fact.rep [] (x5 : Int), Fact.rep [0] (x6 : List UInt8)]) rfl Try.func92 rfl rfl rfl (CallOk.valE en92 (Hs rfl) (HasF.cons (Hs rfl) (HasF.cons (Hs rfl) HasF.nil))) (fun u2 => (ck (ck (ck (ck (ck (ck (ck (ck (ck (ck (ck (ck (ck (ck (ck (ck (ck (ck (ck (ck (cs 904000 2 (cs 904000 3 (cs 904000 4 (cs 904000 9 (cs 904000 10 (cs 904000 11 (ck (ck (ck Carry.nil)))))))))))))))))))))))))))))) (fun u2 => ?_) ?_
    ·refine Cs ?_
     obtain ⟨x8, hx8, hm⟩ := bind_some hm
     refine CWalk.drawM [[], [0], [0, 1], [0, 1, 2], [], [4], [4, 5], [4, 5, 6], [], [0, 1, 2, 3, 4, 5, 6, 7, 8], [0, 1, 2, 3, 4, 5, 6, 7, 8, 9], [0, 1, 2, 3, 4, 5, 6, 7, 8, 9, 10], [0, 1, 2, 3, 4, 5, 6, 7, 8, 9, 10], [0, 1, 2, 3, 4, 5, 6, 7, 8, 9, 10, 11], [0, 1, 2, 3, 4, 5, 6, 7, 8, 9, 10, 11, 12, 13]] [[.fact 10 (.isv 22)], [.fact 11 (.isv 22)], [.fact 12 (.pto 22 0)], [.fact 13 (.flds [(false, 1, Fact.rep [] a0.Id), (false, 1, Fact.rep [] a0.Members), (false, 1, Fact.rep [] a0.Chunk), (false, 1, Fact.rep [] a0.Rows), (false, 1, Fact.rep [] a0.Log), (false, 1, Fact.rep [] a0.Heads)])], [.fact 14 (.isv 22)], [.fact 15 (.isv 22)], [.fact 16 (.pto 22 7)], [.fact 17 (.rep [] a2.Stripe)], [.fact 18 (.rep [] (x5 : Int))], [.fact 19 (.tup2 (Fact.rep [] x8.1) (Fact.rep [] x8.2))], [.fact 9 (.tup2 (Fact.rep [] x8.1) (Fact.rep [] x8.2))], [.fact 20 (.rep [] x8.1)], [.fact 21 (.rep [] x8.2)], [.fact 6 (.rep [] x8.1)], [.fact 7 (.rep [] x8.2)]] mixed (by kernel_rfl) (ao (so (Spec.move (Hs rfl))) (ao (so (Spec.nilCheckI (Hs rfl) rfl)) (ao (so (Spec.fieldAddrO fd139_0 (Has.cv (Hs rfl) (Cv.isvP rfl)))) (ao (so (Spec.loadParts (i := 0) (a := []) (b := [(false, 1), (false, 1), (false, 1)]) (ls := [(false, 1, Fact.rep [] a0.Id), (false, 1, Fact.rep [] a0.Members), (false, 1, Fact.rep [] a0.Chunk), (false, 1, Fact.rep [] a0.Rows), (false, 1, Fact.rep [] a0.Log), (false, 1, Fact.rep [] a0.Heads)]) ty30 rfl rfl rfl rfl rfl (Hs rfl) rfl (Gz rfl (Gz rfl (Gz rfl (Gz rfl (Gz rfl (Gz rfl HasGs.nil)))))))) (ao (so (Spec.move (Hs rfl))) (ao (so (Spec.nilCheckI (Hs rfl) rfl)) (ao (so (Spec.fieldAddrO fd139_2 (Has.cv (Hs rfl) (Cv.isvP rfl)))) (ao (so (Spec.loadF (i := 7) ty3 rfl (Hs rfl) rfl (HasG.s rfl))) (ao (so (Spec.move (Hs rfl))) (ao (so (Spec.callE [] 44 rfl en17 (turn_Member_c a0 a2.Stripe x5 hx8) (HasAll.cons (Has.fl (Has.cv (Hs rfl) (Cv.trans (Cv.flds (Vf (Vf (Vf (Vf (Vf (Vf CvL.nil))))))) (Cv.close (T := []) (chConfig a0))))) (HasAll.cons (Has.fl (Hs rfl)) (HasAll.cons (Has.fl (Hs rfl)) HasAll.nil))))) (ao (so (Spec.move (Hs rfl))) (ao (so (Spec.ext0 (Hs rfl))) (ao (so (Spec.ext1 (Hs rfl))) (ao (so (Spec.assign (Hs rfl))) (ao (so (Spec.assign (Hs rfl))) AllM.nil))))))))))))))) ?_
     refine Lt ?_
     refine Cs ?_
     refine Cs ?_
     refine Cr ?_
     refine mv ?_
     refine mv ?_
     refine wo (Spec.nilCheckI (Hs rfl) rfl) ?_
     refine wo (Spec.fieldAddrO fd139_1 (Has.cv (Hs rfl) (Cv.isvP rfl))) ?_
     refine wo (Spec.loadF (i := 6) ty3 rfl (Hs rfl) rfl (HasG.s rfl)) ?_
     refine wo (Spec.eqlI (Hs rfl) (Hs rfl)) ?_
     refine Wn ?_
     refine Lt ?_
     refine CWalk.cond rfl (fun hb => ?_) (fun hb => ?_)
     ·have hm := cond_t hb hm
      refine CWalk.ret ?_
      refine Leaf.thenR ?_
      exact Leaf.in0 (f0 := Fact.top) s3 hm rfl rfl (fun _ _ => trivial) (ls 904002 (ls 904003 (ls 904004 (Low.slot rfl (HasC.cv (HasC.s (s := 904009) rfl) (Cv.m rfl)) (Low.slot rfl (HasC.cv (HasC.s (s := 904010) rfl) Cv.fl) (Low.slot rfl (HasC.cv (HasC.s (s := 904011) rfl) Cv.fl) (Low.res (lc (lf (lf (lf (lf (lf (lf (lf (lf (Low.keepG (HasG.cv (HasG.s rfl) (Cv.owM (T := [48]) (te := [45, 46, 47]) rfl rfl)) (lf (lf (lf (lf (lf (lf (lf (lm (lm (lm (lo (lo (lo Low.nil))))))))))))))))))))))))))))))
     ·have hm := cond_f hb hm
      refine CWalk.skip ?_
      refine Lt ?_
      refine Cs ?_
      refine Cr ?_
      refine mv ?_
      obtain ⟨x9, hx9, hm⟩ := bind_some hm
      refine wo (f := Fact.ow [45] [] 5 (x9 : List UInt8)) (Spec.callE [0] 45 rfl en78 (slices_Clone_byte_byte_c x6 hx9) (HasAll.cons (Has.m (Hs rfl) rfl) HasAll.nil)) ?_
      refine wo (Spec.assign (Hs rfl)) ?_
      refine Wn ?_
      refine Lt ?_
      refine CWalk.seqJ (fun p : (List UInt8) => [.fact 0 (.isv 22), .fact 6 (.rep [] x8.1), .fact 8 (.ow [45, 46] [] 5 (p : List UInt8)), .fact 902008 (.cst (u1 8) (Fact.isv 22)), .fact 904002 (.cst (u2 2) (Fact.fnv 92 [Fact.isv 22] [])), .fact 904003 (.cst (u2 3) (Fact.isv 32)), .fact 904004 (.cst (u2 4) (Fact.isv 39)), .fact 904009 (.cst (u2 9) (Fact.rep [0] a2.Slots)), .fact 904010 (.cst (u2 10) (Fact.rep [] (((a2.Slots).length : Int) : Int))), .fact 904011 (.cst (u2 11) (Fact.rep [] (s2 : Int))), .fact 100023 (.at 23 (.rep [] a0.Id)), .fact 100024 (.at 24 (.rep [] a0.Members)), .fact 100025 (.at 25 (.rep [] a0.Chunk)), .fact 100026 (.at 26 (.rep [] a0.Rows)), .fact 100027 (.at 27 (.rep [] a0.Log)), .fact 100028 (.at 28 (.rep [] a0.Heads)), .fact 100029 (.at 29 (.rep [] (a1 : Int))), .fact 100030 (.at 30 (.rep [] a2.Stripe)), .fact 100031 (.at 31 (.ow [48] [45, 46, 47] 45 (s3 : List Act45))), .fact 100033 (.at 33 (.rep [] a0.Id)), .fact 100034 (.at 34 (.rep [] a0.Members)), .fact 100035 (.at 35 (.rep [] a0.Chunk)), .fact 100036 (.at 36 (.rep [] a0.Rows)), .fact 100037 (.at 37 (.rep [] a0.Log)), .fact 100038 (.at 38 (.rep [] a0.Heads)), .fact 100040 (.at 40 (.rep [] a2.Stripe)), .fact 100041 (.at 41 (.rep [0] a2.Slots)), .fact 100042 (.at 42 (.rep [0] a2.Blocks)), .fact 100043 (.at 43 (.rep [0] a2.Parity)), .fact 100022 (.obj 22 [(false, 1), (false, 1), (false, 1), (false, 1), (false, 1), (false, 1), (false, 1), (false, 1), (false, 1)]), .fact 100032 (.obj 32 [(false, 1), (false, 1), (false, 1), (false, 1), (false, 1), (false, 1)]), .fact 100039 (.obj 39 [(false, 1), (false, 1), (false, 1), (false, 1)])]) (fun p : (List UInt8) => home_acts_J4 a2 s2 s3 x8 p = some c4) ?_ ?_
      ·rintro j10 hm
       replace hm : home_acts_J4 a2 s2 s3 x8 j10 = some c4 := hm
       unfold home_acts_J4 at hm
       show CWalk _ [.fact 0 (.isv 22), .fact 6 (.rep [] x8.1), .fact 8 (.ow [45, 46] [] 5 (j10 : List UInt8)), .fact 902008 (.cst (u1 8) (Fact.isv 22)), .fact 904002 (.cst (u2 2) (Fact.fnv 92 [Fact.isv 22] [])), .fact 904003 (.cst (u2 3) (Fact.isv 32)), .fact 904004 (.cst (u2 4) (Fact.isv 39)), .fact 904009 (.cst (u2 9) (Fact.rep [0] a2.Slots)), .fact 904010 (.cst (u2 10) (Fact.rep [] (((a2.Slots).length : Int) : Int))), .fact 904011 (.cst (u2 11) (Fact.rep [] (s2 : Int))), .fact 100023 (.at 23 (.rep [] a0.Id)), .fact 100024 (.at 24 (.rep [] a0.Members)), .fact 100025 (.at 25 (.rep [] a0.Chunk)), .fact 100026 (.at 26 (.rep [] a0.Rows)), .fact 100027 (.at 27 (.rep [] a0.Log)), .fact 100028 (.at 28 (.rep [] a0.Heads)), .fact 100029 (.at 29 (.rep [] (a1 : Int))), .fact 100030 (.at 30 (.rep [] a2.Stripe)), .fact 100031 (.at 31 (.ow [48] [45, 46, 47] 45 (s3 : List Act45))), .fact 100033 (.at 33 (.rep [] a0.Id)), .fact 100034 (.at 34 (.rep [] a0.Members)), .fact 100035 (.at 35 (.rep [] a0.Chunk)), .fact 100036 (.at 36 (.rep [] a0.Rows)), .fact 100037 (.at 37 (.rep [] a0.Log)), .fact 100038 (.at 38 (.rep [] a0.Heads)), .fact 100040 (.at 40 (.rep [] a2.Stripe)), .fact 100041 (.at 41 (.rep [0] a2.Slots)), .fact 100042 (.at 42 (.rep [0] a2.Blocks)), .fact 100043 (.at 43 (.rep [0] a2.Parity)), .fact 100022 (.obj 22 [(false, 1), (false, 1), (false, 1), (false, 1), (false, 1), (false, 1), (false, 1), (false, 1), (false, 1)]), .fact 100032 (.obj 32 [(false, 1), (false, 1), (false, 1), (false, 1), (false, 1), (false, 1)]), .fact 100039 (.obj 39 [(false, 1), (false, 1), (false, 1), (false, 1)])] _ _
       obtain ⟨x11, hx11, hm⟩ := bind_some hm
       refine CWalk.drawM [[], [], [1], [1, 2], [1, 2, 3], [], [], [6], [6, 7], [6, 7, 8], [6, 7, 8, 9], [], [5, 6, 7, 8, 9, 10, 11], [5, 6, 7, 8, 9, 10, 11, 12], [1, 2, 3, 4, 5, 6, 7, 8, 9, 10, 11, 12, 13], [0, 1, 2, 3, 4, 5, 6, 7, 8, 9, 10, 11, 12, 13, 14], [0, 1, 2, 3, 4, 5, 6, 7, 8, 9, 10, 11, 12, 13, 14, 15], [0, 1, 2, 3, 4, 5, 6, 7, 8, 9, 10, 11, 12, 13, 14, 15, 16]] [[.fact 34 (.isv 22)], [.fact 35 (.isv 22)], [.fact 36 (.isv 22)], [.fact 37 (.pto 22 8)], [.fact 38 (.ow [48] [45, 46, 47] 45 (s3 : List Act45))], [.fact 39 (.rep [] x8.1)], [.fact 40 (.isv 22)], [.fact 41 (.isv 22)], [.fact 42 (.pto 22 7)], [.fact 43 (.rep [] a2.Stripe)], [.fact 44 (.rep [] ((wI (a2.Stripe + (1 : Int))) : Int))], [.fact 45 (.ow [45, 46] [] 5 (j10 : List UInt8))], [.fact 46 (.flds [(false, 1, Fact.rep [] x8.1), (false, 1, Fact.rep [] ((1 : UInt8) : UInt8)), (false, 1, Fact.rep [] ((wI (a2.Stripe + (1 : Int))) : Int)), (false, 1, Fact.ow [45, 46] [] 5 (j10 : List UInt8))])], [.fact 47 (.rep [47, 45, 46] ([(Act45.mk x8.1 (1 : UInt8) (wI (a2.Stripe + (1 : Int))) j10)] : List Act45))], [.fact 48 (.ow [48] [45, 46, 47] 45 (x11 : List Act45)), .kill 48], [.fact 49 (.isv 22)], [.fact 50 (.pto 22 8)], [.fact 100031 (.at 31 (.ow [48] [45, 46, 47] 45 (x11 : List Act45))), .fact 100022 (.obj 22 [(false, 1), (false, 1), (false, 1), (false, 1), (false, 1), (false, 1), (false, 1), (false, 1), (false, 1)]), .kill 22, .killId 31]] mixed (by kernel_rfl) (ao (so (Spec.move (Hs rfl))) (ao (so (Spec.move (Hs rfl))) (ao (so (Spec.nilCheckI (Hs rfl) rfl)) (ao (so (Spec.fieldAddrO fd139_3 (Has.cv (Hs rfl) (Cv.isvP rfl)))) (ao (so (Spec.loadF (i := 8) ty23 rfl (Hs rfl) rfl (HasG.s rfl))) (ao (so (Spec.move (Hs rfl))) (ao (so (Spec.move (Hs rfl))) (ao (so (Spec.nilCheckI (Hs rfl) rfl)) (ao (so (Spec.fieldAddrO fd139_2 (Has.cv (Hs rfl) (Cv.isvP rfl)))) (ao (so (Spec.loadF (i := 7) ty3 rfl (Hs rfl) rfl (HasG.s rfl))) (ao (so (Spec.addI (Hs rfl) Has.int)) (ao (so (Spec.move (Hs rfl))) (ao (so (Spec.build (us := [(0, .tmp 39), (1, .const (.int .u8 1)), (2, .tmp 44), (3, .tmp 45)]) (ls' := [(false, 1, Fact.rep [] x8.1), (false, 1, Fact.rep [] ((1 : UInt8) : UInt8)), (false, 1, Fact.rep [] ((wI (a2.Stripe + (1 : Int))) : Int)), (false, 1, Fact.ow [45, 46] [] 5 (j10 : List UInt8))]) bd45 rfl (BP.cons rfl rfl (Hs rfl) (Hs rfl) (BP.cons rfl rfl (Has.u8 1 rfl) (Has.u8 1 rfl) (BP.cons rfl rfl (Hs rfl) (Hs rfl) (BP.cons rfl rfl (Has.cv (Hs rfl) (Cv.trans Cv.owSl (Cv.slRep (T' := [45, 46]) rfl rfl))) (Hs rfl) BP.nil)))))) (ao (so (Spec.lit (xs := [.tmp 46]) (T := [45, 46]) 47 rfl ow23 rfl rfl rfl rfl (HasEach.cons (Has.m (Has.cv (Hs rfl) (Cv.trans (Cv.flds (Vf (Vf (Vf (CvL.cons (Cv.trans (Cv.trans Cv.owSl (Cv.slRep (T' := [45, 46]) rfl rfl)) (Cv.m rfl)) CvL.nil))))) (Cv.close (T := [45, 46]) (chAct45 (Act45.mk x8.1 (1 : UInt8) (wI (a2.Stripe + (1 : Int))) j10))))) rfl) HasEach.nil))) (ao (StepG.stE (Step.appendOw (T := [48]) (te' := [45, 46, 47]) hx11 rfl rfl rfl ow23 (Hs rfl) (Hs rfl) (ElKeeps.tags rfl rfl) (ElKeeps.tags rfl rfl))) (ao (so (Spec.nilCheckI (Hs rfl) rfl)) (ao (so (Spec.fieldAddrO fd139_3 (Has.cv (Hs rfl) (Cv.isvP rfl)))) (ao (StepG.stE (Step.storeF (i := 8) (f := Fact.ow [48] [45, 46, 47] 45 (x11 : List Act45)) rfl ty23 rfl (Hs rfl) rfl (Has.cv (Hs rfl) (Cv.trans Cv.owSl (Cv.slRep (T' := [45, 46, 47, 48]) rfl rfl))) (Hs rfl) rfl)) AllM.nil)))))))))))))))))) ?_
       exact Leaf.inN (Leaf.in0 (f0 := Fact.top) x11 hm rfl rfl (fun _ _ => trivial) (ls 904002 (ls 904003 (ls 904004 (Low.slot rfl (HasC.cv (HasC.s (s := 904009) rfl) (Cv.m rfl)) (Low.slot rfl (HasC.cv (HasC.s (s := 904010) rfl) Cv.fl) (Low.slot rfl (HasC.cv (HasC.s (s := 904011) rfl) Cv.fl) (Low.res (lc (lf (lf (lf (lf (lf (lf (lf (lf (Low.keepG (HasG.cv (HasG.s rfl) (Cv.owM (T := [48]) (te := [45, 46, 47]) rfl rfl)) (lf (lf (lf (lf (lf (lf (lf (lm (lm (lm (lo (lo (lo Low.nil)))))))))))))))))))))))))))))))
      ·refine Cs ?_
       refine Cr ?_
       refine mv ?_
       refine wo (Spec.len (Has.cv (Hs rfl) (Cv.trans Cv.owSl (Cv.slRep (T' := [45]) rfl rfl))) Try.underlying37) ?_
       refine wo (Spec.eqlI (Hs rfl) Has.int) ?_
       refine Wn ?_
       refine Lt ?_
       refine CWalk.cond rfl (fun hb => ?_) (fun hb => ?_)
       ·have hm := cond_t hb hm
        refine Cr ?_
        obtain ⟨x12, hx12, hm⟩ := bind_some hm
        refine ws (Step.makeOwn 46 hx12 rfl rfl ow37 zt5 Has.int) ?_
        refine wo (Spec.assign (Hs rfl)) ?_
        refine Wn ?_
        exact Leaf.join x12 hm (sn (st (Sub.cons (Has.cv (Hs rfl) (Cv.trans (Cv.isvOw rfl) (Cv.owF (T := [46]) (te := []) rfl))) (sc (sc (sc (sc (Sub.cons (Has.cst (HasC.cv (HasC.s (s := 904009) rfl) (Cv.m rfl))) (Sub.cons (Has.cst (HasC.cv (HasC.s (s := 904010) rfl) Cv.fl)) (Sub.cons (Has.cst (HasC.cv (HasC.s (s := 904011) rfl) Cv.fl)) (sf (sf (sf (sf (sf (sf (sf (sf (Sub.cons (Has.at (HasG.cv (HasG.s rfl) (Cv.owM (T := [48]) (te := [45, 46, 47]) rfl rfl))) (sf (sf (sf (sf (sf (sf (sf (sm (sm (sm (sn (sn (sn Sub.nil))))))))))))))))))))))))))))))))
       ·have hm := cond_f hb hm
        refine CWalk.skip ?_
        exact Leaf.join x9 hm (sn (st (Sub.cons (Has.cv (Hs rfl) (Cv.owF (T := [45]) (te := []) rfl)) (sc (sc (sc (sc (Sub.cons (Has.cst (HasC.cv (HasC.s (s := 904009) rfl) (Cv.m rfl))) (Sub.cons (Has.cst (HasC.cv (HasC.s (s := 904010) rfl) Cv.fl)) (Sub.cons (Has.cst (HasC.cv (HasC.s (s := 904011) rfl) Cv.fl)) (sf (sf (sf (sf (sf (sf (sf (sf (Sub.cons (Has.at (HasG.cv (HasG.s rfl) (Cv.owM (T := [48]) (te := [45, 46, 47]) rfl rfl))) (sf (sf (sf (sf (sf (sf (sf (sm (sm (sm (sn (sn (sn Sub.nil))))))))))))))))))))))))))))))))
    ·rintro j7 hm
     replace hm : home_acts_J3 s2 j7 = some c4 := hm
     unfold home_acts_J3 at hm
     show Walk _ _ _ [.fact 2 (.fnv 92 [Fact.isv 22] []), .fact 3 (.isv 32), .fact 4 (.isv 39), .fact 9 (.rep [0] a2.Slots), .fact 10 (.rep [] (((a2.Slots).length : Int) : Int)), .fact 11 (.rep [] (s2 : Int)), .fact 23 (.top), .fact 902008 (.cst (u1 8) (Fact.isv 22)), .fact 100023 (.at 23 (.rep [] a0.Id)), .fact 100024 (.at 24 (.rep [] a0.Members)), .fact 100025 (.at 25 (.rep [] a0.Chunk)), .fact 100026 (.at 26 (.rep [] a0.Rows)), .fact 100027 (.at 27 (.rep [] a0.Log)), .fact 100028 (.at 28 (.rep [] a0.Heads)), .fact 100029 (.at 29 (.rep [] (a1 : Int))), .fact 100030 (.at 30 (.rep [] a2.Stripe)), .fact 100031 (.at 31 (.ow [48] [45, 46, 47] 45 (j7 : List Act45))), .fact 100033 (.at 33 (.rep [] a0.Id)), .fact 100034 (.at 34 (.rep [] a0.Members)), .fact 100035 (.at 35 (.rep [] a0.Chunk)), .fact 100036 (.at 36 (.rep [] a0.Rows)), .fact 100037 (.at 37 (.rep [] a0.Log)), .fact 100038 (.at 38 (.rep [] a0.Heads)), .fact 100040 (.at 40 (.rep [] a2.Stripe)), .fact 100041 (.at 41 (.rep [0] a2.Slots)), .fact 100042 (.at 42 (.rep [0] a2.Blocks)), .fact 100043 (.at 43 (.rep [0] a2.Parity)), .fact 100022 (.obj 22 [(false, 1), (false, 1), (false, 1), (false, 1), (false, 1), (false, 1), (false, 1), (false, 1), (false, 1)]), .fact 100032 (.obj 32 [(false, 1), (false, 1), (false, 1), (false, 1), (false, 1), (false, 1)]), .fact 100039 (.obj 39 [(false, 1), (false, 1), (false, 1), (false, 1)])] _
     refine Wn ?_
     refine Leaf.blockN ?_
     refine Lt ?_
     refine Cr ?_
     refine wo (Spec.addI (Hs rfl) Has.int) ?_
     refine mv ?_
     refine Wn ?_
     exact Leaf.next hm (sn (sn (sn (su (st (st (sc (sf (sf (sf (sf (sf (sf (sf (sf (Sub.cons (Has.at (HasG.cv (HasG.s rfl) (Cv.owM (T := [48]) (te := [45, 46, 47]) rfl rfl))) (sf (sf (sf (sf (sf (sf (sf (sm (sm (sm (sn (sn (sn Sub.nil)))))))))))))))))))))))))))))
   ·have hm := cond_f hb hm
    refine CWalk.exit ?_
    refine Leaf.thenE ?_
    exact Leaf.brk hm (fun h => nomatch h) rfl (sn (sn (sn (sc (sf (sf (sf (sf (sf (sf (sf (sf (Sub.cons (Has.at (HasG.cv (HasG.s rfl) (Cv.owM (T := [48]) (te := [45, 46, 47]) rfl rfl))) (sf (sf (sf (sf (sf (sf (sf (sm (sm (sm (sn (sn (sn Sub.nil))))))))))))))))))))))))))
  ·intro _
   refine Leaf.blockE ?_
   refine Lt ?_
   refine Cr ?_
   refine mv ?_
   refine wo (Spec.fieldAddrO fd30_1 (Has.cv (Hs rfl) (Cv.isvP rfl))) ?_
   refine wo (Spec.loadF (i := 1) ty3 rfl (Hs rfl) rfl (HasG.s rfl)) ?_
   refine wo (Spec.subI (Hs rfl) Has.int) ?_
   refine wo (Spec.fieldAddrO fd39_3 (Has.cv (Hs rfl) (Cv.isvP rfl))) ?_
   refine wo (Spec.loadF (i := 3) ty37 rfl (Hs rfl) rfl (HasG.s rfl)) ?_
   refine Walk.inline (S := (List Act45)) (fun p : (List Act45) => [.fact 31 (.top), .fact 902008 (.cst (u1 8) (Fact.isv 22)), .fact 100023 (.at 23 (.rep [] a0.Id)), .fact 100024 (.at 24 (.rep [] a0.Members)), .fact 100025 (.at 25 (.rep [] a0.Chunk)), .fact 100026 (.at 26 (.rep [] a0.Rows)), .fact 100027 (.at 27 (.rep [] a0.Log)), .fact 100028 (.at 28 (.rep [] a0.Heads)), .fact 100029 (.at 29 (.rep [] (a1 : Int))), .fact 100030 (.at 30 (.rep [] a2.Stripe)), .fact 100031 (.at 31 (.ow [48] [45, 46, 47, 50, 51, 52] 45 (p : List Act45))), .fact 100022 (.obj 22 [(false, 1), (false, 1), (false, 1), (false, 1), (false, 1), (false, 1), (false, 1), (false, 1), (false, 1)])]) (fun p : (List Act45) => home_acts_J5 p = some r) (fun u2 => [.fact 100023 (.at 23 (.rep [] a0.Id)), .fact 100024 (.at 24 (.rep [] a0.Members)), .fact 100025 (.at 25 (.rep [] a0.Chunk)), .fact 100026 (.at 26 (.rep [] a0.Rows)), .fact 100027 (.at 27 (.rep [] a0.Log)), .fact 100028 (.at 28 (.rep [] a0.Heads)), .fact 100029 (.at 29 (.rep [] (a1 : Int))), .fact 100030 (.at 30 (.rep [] a2.Stripe)), .fact 100031 (.at 31 (.ow [48] [45, 46, 47] 45 (b13 : List Act45))), .fact 902008 (.cst (u1 8) (Fact.isv 22)), .fact 100022 (.obj 22 [(false, 1), (false, 1), (false, 1), (false, 1), (false, 1), (false, 1), (false, 1), (false, 1), (false, 1)])]) (FA := [Fact.isv 22, Fact.rep [] ((wI (a0.Members - (1 : Int))) : Int), Fact.rep [0] a2.Parity]) rfl Try.func92 rfl rfl rfl (CallOk.valE en92 (Hs rfl) (HasF.cons (Hs rfl) (HasF.cons (Hs rfl) HasF.nil))) (fun u2 => (ck (ck (ck (ck (ck (ck (ck (ck (ck (ck (ck Carry.nil)))))))))))) (fun u2 => ?_) ?_
   ·refine Cs ?_
    obtain ⟨x15, hx15, hm⟩ := bind_some hm
    refine CWalk.drawM [[], [0], [0, 1], [0, 1, 2], [], [4], [4, 5], [4, 5, 6], [], [0, 1, 2, 3, 4, 5, 6, 7, 8], [0, 1, 2, 3, 4, 5, 6, 7, 8, 9], [0, 1, 2, 3, 4, 5, 6, 7, 8, 9, 10], [0, 1, 2, 3, 4, 5, 6, 7, 8, 9, 10], [0, 1, 2, 3, 4, 5, 6, 7, 8, 9, 10, 11], [0, 1, 2, 3, 4, 5, 6, 7, 8, 9, 10, 11, 12, 13]] [[.fact 10 (.isv 22)], [.fact 11 (.isv 22)], [.fact 12 (.pto 22 0)], [.fact 13 (.flds [(false, 1, Fact.rep [] a0.Id), (false, 1, Fact.rep [] a0.Members), (false, 1, Fact.rep [] a0.Chunk), (false, 1, Fact.rep [] a0.Rows), (false, 1, Fact.rep [] a0.Log), (false, 1, Fact.rep [] a0.Heads)])], [.fact 14 (.isv 22)], [.fact 15 (.isv 22)], [.fact 16 (.pto 22 7)], [.fact 17 (.rep [] a2.Stripe)], [.fact 18 (.rep [] ((wI (a0.Members - (1 : Int))) : Int))], [.fact 19 (.tup2 (Fact.rep [] x15.1) (Fact.rep [] x15.2))], [.fact 9 (.tup2 (Fact.rep [] x15.1) (Fact.rep [] x15.2))], [.fact 20 (.rep [] x15.1)], [.fact 21 (.rep [] x15.2)], [.fact 6 (.rep [] x15.1)], [.fact 7 (.rep [] x15.2)]] mixed (by kernel_rfl) (ao (so (Spec.move (Hs rfl))) (ao (so (Spec.nilCheckI (Hs rfl) rfl)) (ao (so (Spec.fieldAddrO fd139_0 (Has.cv (Hs rfl) (Cv.isvP rfl)))) (ao (so (Spec.loadParts (i := 0) (a := []) (b := [(false, 1), (false, 1), (false, 1)]) (ls := [(false, 1, Fact.rep [] a0.Id), (false, 1, Fact.rep [] a0.Members), (false, 1, Fact.rep [] a0.Chunk), (false, 1, Fact.rep [] a0.Rows), (false, 1, Fact.rep [] a0.Log), (false, 1, Fact.rep [] a0.Heads)]) ty30 rfl rfl rfl rfl rfl (Hs rfl) rfl (Gz rfl (Gz rfl (Gz rfl (Gz rfl (Gz rfl (Gz rfl HasGs.nil)))))))) (ao (so (Spec.move (Hs rfl))) (ao (so (Spec.nilCheckI (Hs rfl) rfl)) (ao (so (Spec.fieldAddrO fd139_2 (Has.cv (Hs rfl) (Cv.isvP rfl)))) (ao (so (Spec.loadF (i := 7) ty3 rfl (Hs rfl) rfl (HasG.s rfl))) (ao (so (Spec.move (Hs rfl))) (ao (so (Spec.callE [] 49 rfl en17 (turn_Member_c a0 a2.Stripe (wI (a0.Members - (1 : Int))) hx15) (HasAll.cons (Has.fl (Has.cv (Hs rfl) (Cv.trans (Cv.flds (Vf (Vf (Vf (Vf (Vf (Vf CvL.nil))))))) (Cv.close (T := []) (chConfig a0))))) (HasAll.cons (Has.fl (Hs rfl)) (HasAll.cons (Has.fl (Hs rfl)) HasAll.nil))))) (ao (so (Spec.move (Hs rfl))) (ao (so (Spec.ext0 (Hs rfl))) (ao (so (Spec.ext1 (Hs rfl))) (ao (so (Spec.assign (Hs rfl))) (ao (so (Spec.assign (Hs rfl))) AllM.nil))))))))))))))) ?_
    refine Lt ?_
    refine Cs ?_
    refine Cs ?_
    refine Cr ?_
    refine mv ?_
    refine mv ?_
    refine wo (Spec.nilCheckI (Hs rfl) rfl) ?_
    refine wo (Spec.fieldAddrO fd139_1 (Has.cv (Hs rfl) (Cv.isvP rfl))) ?_
    refine wo (Spec.loadF (i := 6) ty3 rfl (Hs rfl) rfl (HasG.s rfl)) ?_
    refine wo (Spec.eqlI (Hs rfl) (Hs rfl)) ?_
    refine Wn ?_
    refine Lt ?_
    refine CWalk.cond rfl (fun hb => ?_) (fun hb => ?_)
    ·have hm := cond_t hb hm
     refine CWalk.ret ?_
     refine Leaf.thenR ?_
     exact Leaf.in0 (f0 := Fact.top) b13 hm rfl rfl (fun _ _ => trivial) (Low.res (lc (lf (lf (lf (lf (lf (lf (lf (lf (Low.keepG (HasG.cv (HasG.s rfl) (Cv.owM (T := [48]) (te := [45, 46, 47]) rfl rfl)) (lo Low.nil))))))))))))
    ·have hm := cond_f hb hm
     refine CWalk.skip ?_
     refine Lt ?_
     refine Cs ?_
     refine Cr ?_
     refine mv ?_
     obtain ⟨x16, hx16, hm⟩ := bind_some hm
     refine wo (f := Fact.ow [50] [] 5 (x16 : List UInt8)) (Spec.callE [0] 50 rfl en78 (slices_Clone_byte_byte_c a2.Parity hx16) (HasAll.cons (Has.m (Hs rfl) rfl) HasAll.nil)) ?_
     refine wo (Spec.assign (Hs rfl)) ?_
     refine Wn ?_
     refine Lt ?_
     refine CWalk.seqJ (fun p : (List UInt8) => [.fact 0 (.isv 22), .fact 6 (.rep [] x15.1), .fact 8 (.ow [50, 51] [] 5 (p : List UInt8)), .fact 902008 (.cst (u1 8) (Fact.isv 22)), .fact 100023 (.at 23 (.rep [] a0.Id)), .fact 100024 (.at 24 (.rep [] a0.Members)), .fact 100025 (.at 25 (.rep [] a0.Chunk)), .fact 100026 (.at 26 (.rep [] a0.Rows)), .fact 100027 (.at 27 (.rep [] a0.Log)), .fact 100028 (.at 28 (.rep [] a0.Heads)), .fact 100029 (.at 29 (.rep [] (a1 : Int))), .fact 100030 (.at 30 (.rep [] a2.Stripe)), .fact 100031 (.at 31 (.ow [48] [45, 46, 47] 45 (b13 : List Act45))), .fact 100022 (.obj 22 [(false, 1), (false, 1), (false, 1), (false, 1), (false, 1), (false, 1), (false, 1), (false, 1), (false, 1)])]) (fun p : (List UInt8) => home_acts_J6 a2 b13 x15 p = some r) ?_ ?_
     ·rintro j17 hm
      replace hm : home_acts_J6 a2 b13 x15 j17 = some r := hm
      unfold home_acts_J6 at hm
      show CWalk _ [.fact 0 (.isv 22), .fact 6 (.rep [] x15.1), .fact 8 (.ow [50, 51] [] 5 (j17 : List UInt8)), .fact 902008 (.cst (u1 8) (Fact.isv 22)), .fact 100023 (.at 23 (.rep [] a0.Id)), .fact 100024 (.at 24 (.rep [] a0.Members)), .fact 100025 (.at 25 (.rep [] a0.Chunk)), .fact 100026 (.at 26 (.rep [] a0.Rows)), .fact 100027 (.at 27 (.rep [] a0.Log)), .fact 100028 (.at 28 (.rep [] a0.Heads)), .fact 100029 (.at 29 (.rep [] (a1 : Int))), .fact 100030 (.at 30 (.rep [] a2.Stripe)), .fact 100031 (.at 31 (.ow [48] [45, 46, 47] 45 (b13 : List Act45))), .fact 100022 (.obj 22 [(false, 1), (false, 1), (false, 1), (false, 1), (false, 1), (false, 1), (false, 1), (false, 1), (false, 1)])] _ _
      obtain ⟨x18, hx18, hm⟩ := bind_some hm
      refine CWalk.drawM [[], [], [1], [1, 2], [1, 2, 3], [], [], [6], [6, 7], [6, 7, 8], [6, 7, 8, 9], [], [5, 6, 7, 8, 9, 10, 11], [5, 6, 7, 8, 9, 10, 11, 12], [1, 2, 3, 4, 5, 6, 7, 8, 9, 10, 11, 12, 13], [0, 1, 2, 3, 4, 5, 6, 7, 8, 9, 10, 11, 12, 13, 14], [0, 1, 2, 3, 4, 5, 6, 7, 8, 9, 10, 11, 12, 13, 14, 15], [0, 1, 2, 3, 4, 5, 6, 7, 8, 9, 10, 11, 12, 13, 14, 15, 16]] [[.fact 34 (.isv 22)], [.fact 35 (.isv 22)], [.fact 36 (.isv 22)], [.fact 37 (.pto 22 8)], [.fact 38 (.ow [48] [45, 46, 47] 45 (b13 : List Act45))], [.fact 39 (.rep [] x15.1)], [.fact 40 (.isv 22)], [.fact 41 (.isv 22)], [.fact 42 (.pto 22 7)], [.fact 43 (.rep [] a2.Stripe)], [.fact 44 (.rep [] ((wI (a2.Stripe + (1 : Int))) : Int))], [.fact 45 (.ow [50, 51] [] 5 (j17 : List UInt8))], [.fact 46 (.flds [(false, 1, Fact.rep [] x15.1), (false, 1, Fact.rep [] ((1 : UInt8) : UInt8)), (false, 1, Fact.rep [] ((wI (a2.Stripe + (1 : Int))) : Int)), (false, 1, Fact.ow [50, 51] [] 5 (j17 : List UInt8))])], [.fact 47 (.rep [52, 50, 51] ([(Act45.mk x15.1 (1 : UInt8) (wI (a2.Stripe + (1 : Int))) j17)] : List Act45))], [.fact 48 (.ow [48] [45, 46, 47, 50, 51, 52] 45 (x18 : List Act45)), .kill 48], [.fact 49 (.isv 22)], [.fact 50 (.pto 22 8)], [.fact 100031 (.at 31 (.ow [48] [45, 46, 47, 50, 51, 52] 45 (x18 : List Act45))), .fact 100022 (.obj 22 [(false, 1), (false, 1), (false, 1), (false, 1), (false, 1), (false, 1), (false, 1), (false, 1), (false, 1)]), .kill 22, .killId 31]] mixed (by kernel_rfl) (ao (so (Spec.move (Hs rfl))) (ao (so (Spec.move (Hs rfl))) (ao (so (Spec.nilCheckI (Hs rfl) rfl)) (ao (so (Spec.fieldAddrO fd139_3 (Has.cv (Hs rfl) (Cv.isvP rfl)))) (ao (so (Spec.loadF (i := 8) ty23 rfl (Hs rfl) rfl (HasG.s rfl))) (ao (so (Spec.move (Hs rfl))) (ao (so (Spec.move (Hs rfl))) (ao (so (Spec.nilCheckI (Hs rfl) rfl)) (ao (so (Spec.fieldAddrO fd139_2 (Has.cv (Hs rfl) (Cv.isvP rfl)))) (ao (so (Spec.loadF (i := 7) ty3 rfl (Hs rfl) rfl (HasG.s rfl))) (ao (so (Spec.addI (Hs rfl) Has.int)) (ao (so (Spec.move (Hs rfl))) (ao (so (Spec.build (us := [(0, .tmp 39), (1, .const (.int .u8 1)), (2, .tmp 44), (3, .tmp 45)]) (ls' := [(false, 1, Fact.rep [] x15.1), (false, 1, Fact.rep [] ((1 : UInt8) : UInt8)), (false, 1, Fact.rep [] ((wI (a2.Stripe + (1 : Int))) : Int)), (false, 1, Fact.ow [50, 51] [] 5 (j17 : List UInt8))]) bd45 rfl (BP.cons rfl rfl (Hs rfl) (Hs rfl) (BP.cons rfl rfl (Has.u8 1 rfl) (Has.u8 1 rfl) (BP.cons rfl rfl (Hs rfl) (Hs rfl) (BP.cons rfl rfl (Has.cv (Hs rfl) (Cv.trans Cv.owSl (Cv.slRep (T' := [50, 51]) rfl rfl))) (Hs rfl) BP.nil)))))) (ao (so (Spec.lit (xs := [.tmp 46]) (T := [50, 51]) 52 rfl ow23 rfl rfl rfl rfl (HasEach.cons (Has.m (Has.cv (Hs rfl) (Cv.trans (Cv.flds (Vf (Vf (Vf (CvL.cons (Cv.trans (Cv.trans Cv.owSl (Cv.slRep (T' := [50, 51]) rfl rfl)) (Cv.m rfl)) CvL.nil))))) (Cv.close (T := [50, 51]) (chAct45 (Act45.mk x15.1 (1 : UInt8) (wI (a2.Stripe + (1 : Int))) j17))))) rfl) HasEach.nil))) (ao (StepG.stE (Step.appendOw (T := [48]) (te' := [45, 46, 47, 50, 51, 52]) hx18 rfl rfl rfl ow23 (Hs rfl) (Hs rfl) (ElKeeps.tags rfl rfl) (ElKeeps.tags rfl rfl))) (ao (so (Spec.nilCheckI (Hs rfl) rfl)) (ao (so (Spec.fieldAddrO fd139_3 (Has.cv (Hs rfl) (Cv.isvP rfl)))) (ao (StepG.stE (Step.storeF (i := 8) (f := Fact.ow [48] [45, 46, 47, 50, 51, 52] 45 (x18 : List Act45)) rfl ty23 rfl (Hs rfl) rfl (Has.cv (Hs rfl) (Cv.trans Cv.owSl (Cv.slRep (T' := [45, 46, 47, 48, 50, 51, 52]) rfl rfl))) (Hs rfl) rfl)) AllM.nil)))))))))))))))))) ?_
      exact Leaf.inN (Leaf.in0 (f0 := Fact.top) x18 hm rfl rfl (fun _ _ => trivial) (Low.res (lc (lf (lf (lf (lf (lf (lf (lf (lf (Low.keepG (HasG.cv (HasG.s rfl) (Cv.owM (T := [48]) (te := [45, 46, 47, 50, 51, 52]) rfl rfl)) (lo Low.nil)))))))))))))
     ·refine Cs ?_
      refine Cr ?_
      refine mv ?_
      refine wo (Spec.len (Has.cv (Hs rfl) (Cv.trans Cv.owSl (Cv.slRep (T' := [50]) rfl rfl))) Try.underlying37) ?_
      refine wo (Spec.eqlI (Hs rfl) Has.int) ?_
      refine Wn ?_
      refine Lt ?_
      refine CWalk.cond rfl (fun hb => ?_) (fun hb => ?_)
      ·have hm := cond_t hb hm
       refine Cr ?_
       obtain ⟨x19, hx19, hm⟩ := bind_some hm
       refine ws (Step.makeOwn 51 hx19 rfl rfl ow37 zt5 Has.int) ?_
       refine wo (Spec.assign (Hs rfl)) ?_
       refine Wn ?_
       exact Leaf.join x19 hm (sn (st (Sub.cons (Has.cv (Hs rfl) (Cv.trans (Cv.isvOw rfl) (Cv.owF (T := [51]) (te := []) rfl))) (sc (sf (sf (sf (sf (sf (sf (sf (sf (Sub.cons (Has.at (HasG.cv (HasG.s rfl) (Cv.owM (T := [48]) (te := [45, 46, 47]) rfl rfl))) (sn Sub.nil))))))))))))))
      ·have hm := cond_f hb hm
       refine CWalk.skip ?_
       exact Leaf.join x16 hm (sn (st (Sub.cons (Has.cv (Hs rfl) (Cv.owF (T := [50]) (te := []) rfl)) (sc (sf (sf (sf (sf (sf (sf (sf (sf (Sub.cons (Has.at (HasG.cv (HasG.s rfl) (Cv.owM (T := [48]) (te := [45, 46, 47]) rfl rfl))) (sn Sub.nil))))))))))))))
   ·rintro j14 hm
    replace hm : home_acts_J5 j14 = some r := hm
    unfold home_acts_J5 at hm
    show Walk _ _ _ [.fact 31 (.top), .fact 902008 (.cst (u1 8) (Fact.isv 22)), .fact 100023 (.at 23 (.rep [] a0.Id)), .fact 100024 (.at 24 (.rep [] a0.Members)), .fact 100025 (.at 25 (.rep [] a0.Chunk)), .fact 100026 (.at 26 (.rep [] a0.Rows)), .fact 100027 (.at 27 (.rep [] a0.Log)), .fact 100028 (.at 28 (.rep [] a0.Heads)), .fact 100029 (.at 29 (.rep [] (a1 : Int))), .fact 100030 (.at 30 (.rep [] a2.Stripe)), .fact 100031 (.at 31 (.ow [48] [45, 46, 47, 50, 51, 52] 45 (j14 : List Act45))), .fact 100022 (.obj 22 [(false, 1), (false, 1), (false, 1), (false, 1), (false, 1), (false, 1), (false, 1), (false, 1), (false, 1)])] _
    refine Wn ?_
    exact Leaf.inN (Leaf.in0 (f0 := Fact.top) j14 hm rfl rfl (fun _ _ => trivial) (ls 902008 (Low.res (lf (lf (lf (lf (lf (lf (lf (lf (Low.keepG (HasG.cv (HasG.s rfl) (Cv.owM (T := [48]) (te := [45, 46, 47, 50, 51, 52]) rfl rfl)) (lo Low.nil)))))))))))))
 ·rintro j1 hm
  replace hm : home_acts_J1 j1 = some r := hm
  unfold home_acts_J1 at hm
  show Walk _ _ _ [.fact 8 (.isv 22), .fact 19 (.top), .fact 100023 (.at 23 (.rep [] a0.Id)), .fact 100024 (.at 24 (.rep [] a0.Members)), .fact 100025 (.at 25 (.rep [] a0.Chunk)), .fact 100026 (.at 26 (.rep [] a0.Rows)), .fact 100027 (.at 27 (.rep [] a0.Log)), .fact 100028 (.at 28 (.rep [] a0.Heads)), .fact 100029 (.at 29 (.rep [] (a1 : Int))), .fact 100030 (.at 30 (.rep [] a2.Stripe)), .fact 100031 (.at 31 (.ow [48] [45, 46, 47, 50, 51, 52] 45 (j1 : List Act45))), .fact 100022 (.obj 22 [(false, 1), (false, 1), (false, 1), (false, 1), (false, 1), (false, 1), (false, 1), (false, 1), (false, 1)])] _
  refine Wn ?_
  refine Lt ?_
  refine Cs ?_
  refine Cr ?_
  refine mv ?_
  refine wo (Spec.nilCheckI (Hs rfl) rfl) ?_
  refine wo (Spec.fieldAddrO fd139_3 (Has.cv (Hs rfl) (Cv.isvP rfl))) ?_
  refine wo (Spec.loadF (i := 8) ty23 rfl (Hs rfl) rfl (HasG.s rfl)) ?_
  refine wo (Spec.assign (Hs rfl)) ?_
  refine wo (Spec.assign Has.int) ?_
  refine Wn ?_
  refine Lt ?_
  refine CWalk.ret ?_
  obtain rfl := Option.some.inj hm
  exact Leaf.retC2 rfl (HasR.cv (HasR.tmp (Hs rfl)) (Cv.owM (T := [48]) (te := [45, 46, 47, 50, 51, 52]) rfl rfl)) (HasR.cv (HasR.tmp (Hs rfl)) Cv.fl)

/-- freeboard/home.Again -/
def home_Again (a0 : Config) (a1 : Int) (a2 : Deal) : Option ((List Act45) × Int) :=
  Option.bind (deal_Check a0 a2) (fun x1 => (bif (x1 != (0 : Int)) then some (([] : List Act45), x1) else Option.bind (home_member a0 a1) (fun x2 => (bif (!x2) then some (([] : List Act45), (2 : Int)) else (bif (((a2.Parity).length : Int) == (0 : Int)) then some (([] : List Act45), (6 : Int)) else Option.bind (home_acts a0 a1 a2) (fun x3 => some (x3.1, x3.2)))))))
theorem home_Again_c (a0 : Config) (a1 : Int) (a2 : Deal) {r : (List Act45) × Int} (hm : home_Again a0 a1 a2 = some r) : Ctr Try.prog 34 [.rep 0 a0, .rep 0 a1, .rep 0 a2] (.tup2 (.own 0 (some 1) 45 r.1) (.fl r.2)) [] := by
 refine ctr_of_walk [[24], [25]] 31 Try.func34 rfl rfl rfl rfl (fun w0 om => ?_)
 unfold home_Again at hm
 refine CWalk.sub (G' := [.fact 0 (.rep [] (a0 : Config)), .fact 1 (.rep [] (a1 : Int)), .fact 2 (.rep [0] (a2 : Deal))]) (Sub.cons (Has.fl (Hs rfl)) (Sub.cons (Has.fl (Hs rfl)) (sn Sub.nil))) ?_
 refine Cs ?_
 refine Cr ?_
 refine ws (Step.boxObj (ls := [(false, 1, Fact.rep [] a0.Id), (false, 1, Fact.rep [] a0.Members), (false, 1, Fact.rep [] a0.Chunk), (false, 1, Fact.rep [] a0.Rows), (false, 1, Fact.rep [] a0.Log), (false, 1, Fact.rep [] a0.Heads)]) 10 rfl rfl rfl rfl (HasL.flds (Has.cv (Hs rfl) (Cv.trans (Cv.opens (chConfig a0)) (Cv.flds (Vf (Vf (Vf (Vf (Vf (Vf CvL.nil))))))))))) ?_
 refine ws (Step.boxObj (ls := [(false, 1, Fact.rep [] a2.Stripe), (false, 1, Fact.rep [0] a2.Slots), (false, 1, Fact.rep [0] a2.Blocks), (false, 1, Fact.rep [0] a2.Parity)]) 17 rfl rfl rfl rfl (HasL.flds (Has.cv (Hs rfl) (Cv.trans (Cv.opens (chDeal a2)) (Cv.flds (Vf (CvL.cons Cv.refl (CvL.cons Cv.refl (CvL.cons Cv.refl CvL.nil))))))))) ?_
 refine wo (Spec.assign Has.nilv) ?_
 refine wo (Spec.assign Has.int) ?_
 refine Wn ?_
 refine Lt ?_
 refine Cs ?_
 refine Cs ?_
 refine Cr ?_
 refine wo (Spec.loadObj (ls := [(false, 1, Fact.rep [] a0.Id), (false, 1, Fact.rep [] a0.Members), (false, 1, Fact.rep [] a0.Chunk), (false, 1, Fact.rep [] a0.Rows), (false, 1, Fact.rep [] a0.Log), (false, 1, Fact.rep [] a0.Heads)]) ty30 rfl rfl (Hs rfl) rfl (Gz rfl (Gz rfl (Gz rfl (Gz rfl (Gz rfl (Gz rfl HasGs.nil))))))) ?_
 refine wo (Spec.loadObj (ls := [(false, 1, Fact.rep [] a2.Stripe), (false, 1, Fact.rep [0] a2.Slots), (false, 1, Fact.rep [0] a2.Blocks), (false, 1, Fact.rep [0] a2.Parity)]) ty39 rfl rfl (Hs rfl) rfl (Gz rfl (Gz rfl (Gz rfl (Gz rfl HasGs.nil))))) ?_
 obtain ⟨x1, hx1, hm⟩ := bind_some hm
 refine wo (f := Fact.rep [] (x1 : Int)) (Spec.callE [0] 22 rfl en31 (deal_Check_c a0 a2 hx1) (HasAll.cons (Has.fl (Has.cv (Hs rfl) (Cv.trans (Cv.flds (Vf (Vf (Vf (Vf (Vf (Vf CvL.nil))))))) (Cv.close (T := []) (chConfig a0))))) (HasAll.cons (Has.m (Has.cv (Hs rfl) (Cv.trans (Cv.flds (Vf (CvL.cons (Cv.m rfl) (CvL.cons (Cv.m rfl) (CvL.cons (Cv.m rfl) CvL.nil))))) (Cv.close (T := [0]) (chDeal a2)))) rfl) HasAll.nil))) ?_
 refine wo (Spec.assign (Hs rfl)) ?_
 refine Wn ?_
 refine Lt ?_
 refine Cs ?_
 refine Cr ?_
 refine mv ?_
 refine wo (Spec.neqI (Hs rfl) Has.int) ?_
 refine Wn ?_
 refine Lt ?_
 refine CWalk.cond rfl (fun hb => ?_) (fun hb => ?_)
 ·have hm := cond_t hb hm
  refine Cs ?_
  refine Cr ?_
  refine mv ?_
  refine wo (Spec.assign Has.nilv) ?_
  refine wo (Spec.assign (Hs rfl)) ?_
  refine Wn ?_
  refine Lt ?_
  refine CWalk.ret ?_
  refine Leaf.thenR ?_
  obtain rfl := Option.some.inj hm
  exact Leaf.retC2 rfl (HasR.cv (HasR.tmp (Hs rfl)) (Cv.trans Cv.nilOw (Cv.owM (T := []) (te := []) rfl rfl))) (HasR.cv (HasR.tmp (Hs rfl)) Cv.fl)
 ·have hm := cond_f hb hm
  refine CWalk.skip ?_
  refine Lt ?_
  refine Cs ?_
  refine CWalk.block ?_
  refine Cs ?_
  refine Cr ?_
  refine wo (Spec.loadObj (ls := [(false, 1, Fact.rep [] a0.Id), (false, 1, Fact.rep [] a0.Members), (false, 1, Fact.rep [] a0.Chunk), (false, 1, Fact.rep [] a0.Rows), (false, 1, Fact.rep [] a0.Log), (false, 1, Fact.rep [] a0.Heads)]) ty30 rfl rfl (Hs rfl) rfl (Gz rfl (Gz rfl (Gz rfl (Gz rfl (Gz rfl (Gz rfl HasGs.nil))))))) ?_
  refine mv ?_
  obtain ⟨x2, hx2, hm⟩ := bind_some hm
  refine wo (f := Fact.rep [] (x2 : Bool)) (Spec.callE [] 23 rfl en63 (home_member_c a0 a1 hx2) (HasAll.cons (Has.fl (Has.cv (Hs rfl) (Cv.trans (Cv.flds (Vf (Vf (Vf (Vf (Vf (Vf CvL.nil))))))) (Cv.close (T := []) (chConfig a0))))) (HasAll.cons (Has.fl (Hs rfl)) HasAll.nil))) ?_
  refine wo (Spec.not (Hs rfl)) ?_
  refine wo (Spec.assign (Hs rfl)) ?_
  refine Wn ?_
  refine Lt ?_
  refine CWalk.cond rfl (fun hb => ?_) (fun hb => ?_)
  ·have hm := cond_t hb hm
   refine Cs ?_
   refine Cr ?_
   refine wo (Spec.assign Has.nilv) ?_
   refine wo (Spec.assign Has.int) ?_
   refine Wn ?_
   refine Lt ?_
   refine CWalk.ret ?_
   refine Leaf.blockR ?_
   refine Leaf.thenR ?_
   obtain rfl := Option.some.inj hm
   exact Leaf.retC2 rfl (HasR.cv (HasR.tmp (Hs rfl)) (Cv.trans Cv.nilOw (Cv.owM (T := []) (te := []) rfl rfl))) (HasR.cv (HasR.tmp (Hs rfl)) Cv.fl)
  ·have hm := cond_f hb hm
   refine Cs ?_
   refine Cr ?_
   refine wo (Spec.fieldAddrO fd39_3 (Has.cv (Hs rfl) (Cv.isvP rfl))) ?_
   refine wo (Spec.loadF (i := 3) ty37 rfl (Hs rfl) rfl (HasG.s rfl)) ?_
   refine wo (Spec.len (Hs rfl) Try.underlying37) ?_
   refine wo (Spec.eqlI (Hs rfl) Has.int) ?_
   refine wo (Spec.assign (Hs rfl)) ?_
   refine Wn ?_
   refine Lt ?_
   refine CWalk.cond rfl (fun hb => ?_) (fun hb => ?_)
   ·have hm := cond_t hb hm
    refine Cs ?_
    refine Cr ?_
    refine wo (Spec.assign Has.nilv) ?_
    refine wo (Spec.assign Has.int) ?_
    refine Wn ?_
    refine Lt ?_
    refine CWalk.ret ?_
    refine Leaf.blockR ?_
    refine Leaf.thenR ?_
    obtain rfl := Option.some.inj hm
    exact Leaf.retC2 rfl (HasR.cv (HasR.tmp (Hs rfl)) (Cv.trans Cv.nilOw (Cv.owM (T := []) (te := []) rfl rfl))) (HasR.cv (HasR.tmp (Hs rfl)) Cv.fl)
   ·have hm := cond_f hb hm
    refine CWalk.skip ?_
    refine Leaf.blockN ?_
    refine Lt ?_
    refine Cs ?_
    refine Cr ?_
    refine wo (Spec.loadObj (ls := [(false, 1, Fact.rep [] a0.Id), (false, 1, Fact.rep [] a0.Members), (false, 1, Fact.rep [] a0.Chunk), (false, 1, Fact.rep [] a0.Rows), (false, 1, Fact.rep [] a0.Log), (false, 1, Fact.rep [] a0.Heads)]) ty30 rfl rfl (Hs rfl) rfl (Gz rfl (Gz rfl (Gz rfl (Gz rfl (Gz rfl (Gz rfl HasGs.nil))))))) ?_
    refine mv ?_
    refine wo (Spec.loadObj (ls := [(false, 1, Fact.rep [] a2.Stripe), (false, 1, Fact.rep [0] a2.Slots), (false, 1, Fact.rep [0] a2.Blocks), (false, 1, Fact.rep [0] a2.Parity)]) ty39 rfl rfl (Hs rfl) rfl (Gz rfl (Gz rfl (Gz rfl (Gz rfl HasGs.nil))))) ?_
    obtain ⟨x3, hx3, hm⟩ := bind_some hm
    refine wo (f := Fact.tup2 (Fact.ow [24] [25] 45 (x3.1 : List Act45)) (Fact.rep [] x3.2)) (Spec.callE [0] 24 rfl en64 (home_acts_c a0 a1 a2 hx3) (HasAll.cons (Has.fl (Has.cv (Hs rfl) (Cv.trans (Cv.flds (Vf (Vf (Vf (Vf (Vf (Vf CvL.nil))))))) (Cv.close (T := []) (chConfig a0))))) (HasAll.cons (Has.fl (Hs rfl)) (HasAll.cons (Has.m (Has.cv (Hs rfl) (Cv.trans (Cv.flds (Vf (CvL.cons (Cv.m rfl) (CvL.cons (Cv.m rfl) (CvL.cons (Cv.m rfl) CvL.nil))))) (Cv.close (T := [0]) (chDeal a2)))) rfl) HasAll.nil)))) ?_
    refine wo (Spec.ext0 (Hs rfl)) ?_
    refine wo (Spec.ext1 (Hs rfl)) ?_
    refine wo (Spec.assign (Hs rfl)) ?_
    refine wo (Spec.assign (Hs rfl)) ?_
    refine Wn ?_
    refine Lt ?_
    refine CWalk.ret ?_
    obtain rfl := Option.some.inj hm
    exact Leaf.retC2 rfl (HasR.cv (HasR.tmp (Hs rfl)) (Cv.owM (T := [24]) (te := [25]) rfl rfl)) (HasR.cv (HasR.tmp (Hs rfl)) Cv.fl)

end Go.Proofs.Ytmlmlfghogoadaa
