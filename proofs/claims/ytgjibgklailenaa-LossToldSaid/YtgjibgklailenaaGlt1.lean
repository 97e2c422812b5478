/- Printed by a program of ours: models of functions, and that calls do what they say. -/
import Derived.Test.YtgjibgklailenaaProg
import Derived.Test.YtgjibgklailenaaCoreME
import Derived.Test.YtgjibgklailenaaGlbF
import Derived.KernelRfl
set_option linter.unusedVariables false
set_option linter.unusedSimpArgs false
set_option linter.unnecessarySimpa false
namespace Go.Proofs.Ytgjibgklailenaa
open Go GL
set_option linter.unusedVariables false

structure Config where
  Id : UInt32
  Members : Int
  Chunk : Int
  Rows : Int
  Log : Int
  Heads : Int
  deriving Inhabited, DecidableEq
instance : Rp Config := Rp.via (inferInstance : Rp (UInt32 × Int × Int × Int × Int × Int)) (fun x => (x.Id, x.Members, x.Chunk, x.Rows, x.Log, x.Heads))
theorem chConfig (x : Config) : Ch x [⟨inferInstance, x.Id⟩, ⟨inferInstance, x.Members⟩, ⟨inferInstance, x.Chunk⟩, ⟨inferInstance, x.Rows⟩, ⟨inferInstance, x.Log⟩, ⟨inferInstance, x.Heads⟩] := Ch.via (ChT.cons (ChT.cons (ChT.cons (ChT.cons (ChT.cons (ChT.one _))))))
instance : Lo Config := Lo.via (inferInstance : Rp (UInt32 × Int × Int × Int × Int × Int)) inferInstance (fun x : Config => (x.Id, x.Members, x.Chunk, x.Rows, x.Log, x.Heads))
theorem loConfig_0 (x : Config) : LoAt x 0 x.Id := fun F cs w h => (LoAt.fst : LoAt ((x.Id, x.Members, x.Chunk, x.Rows, x.Log, x.Heads)) 0 x.Id) F cs w h
theorem loConfig_1 (x : Config) : LoAt x 1 x.Members := fun F cs w h => ((LoAt.snd LoAt.fst) : LoAt ((x.Id, x.Members, x.Chunk, x.Rows, x.Log, x.Heads)) 1 x.Members) F cs w h
theorem loConfig_2 (x : Config) : LoAt x 2 x.Chunk := fun F cs w h => ((LoAt.snd (LoAt.snd LoAt.fst)) : LoAt ((x.Id, x.Members, x.Chunk, x.Rows, x.Log, x.Heads)) 2 x.Chunk) F cs w h
theorem loConfig_3 (x : Config) : LoAt x 3 x.Rows := fun F cs w h => ((LoAt.snd (LoAt.snd (LoAt.snd LoAt.fst))) : LoAt ((x.Id, x.Members, x.Chunk, x.Rows, x.Log, x.Heads)) 3 x.Rows) F cs w h
theorem loConfig_4 (x : Config) : LoAt x 4 x.Log := fun F cs w h => ((LoAt.snd (LoAt.snd (LoAt.snd (LoAt.snd LoAt.fst)))) : LoAt ((x.Id, x.Members, x.Chunk, x.Rows, x.Log, x.Heads)) 4 x.Log) F cs w h
theorem loConfig_5 (x : Config) : LoAt x 5 x.Heads := fun F cs w h => ((LoAt.snd (LoAt.snd (LoAt.snd (LoAt.snd (LoAt.snd LoAt.self))))) : LoAt ((x.Id, x.Members, x.Chunk, x.Rows, x.Log, x.Heads)) 5 x.Heads) F cs w h
instance : Flat Config := ⟨fun F F' x cs w w' h => Flat.flat (α := UInt32 × Int × Int × Int × Int × Int) F F' ((x.Id, x.Members, x.Chunk, x.Rows, x.Log, x.Heads)) cs w w' h⟩

structure Write where
  At : Int
  Data : List UInt8
  deriving Inhabited, DecidableEq
instance : Rp Write := Rp.via (inferInstance : Rp (Int × (List UInt8))) (fun x => (x.At, x.Data))
theorem chWrite (x : Write) : Ch x [⟨inferInstance, x.At⟩, ⟨inferInstance, x.Data⟩] := Ch.via (ChT.cons (ChT.one _))
instance : Lo Write := Lo.via (inferInstance : Rp (Int × (List UInt8))) inferInstance (fun x : Write => (x.At, x.Data))
theorem loWrite_0 (x : Write) : LoAt x 0 x.At := fun F cs w h => (LoAt.fst : LoAt ((x.At, x.Data)) 0 x.At) F cs w h
theorem loWrite_1 (x : Write) : LoAt x 1 x.Data := fun F cs w h => ((LoAt.snd LoAt.self) : LoAt ((x.At, x.Data)) 1 x.Data) F cs w h

structure Disk where
  Blocks : List (List UInt8)
  Wait : List Write
  Dead : Bool
  deriving Inhabited, DecidableEq
instance : Rp Disk := Rp.via (inferInstance : Rp ((List (List UInt8)) × (List Write) × Bool)) (fun x => (x.Blocks, x.Wait, x.Dead))
theorem chDisk (x : Disk) : Ch x [⟨inferInstance, x.Blocks⟩, ⟨inferInstance, x.Wait⟩, ⟨inferInstance, x.Dead⟩] := Ch.via (ChT.cons (ChT.cons (ChT.one _)))
instance : Lo Disk := Lo.via (inferInstance : Rp ((List (List UInt8)) × (List Write) × Bool)) inferInstance (fun x : Disk => (x.Blocks, x.Wait, x.Dead))
theorem loDisk_0 (x : Disk) : LoAt x 0 x.Blocks := fun F cs w h => (LoAt.fst : LoAt ((x.Blocks, x.Wait, x.Dead)) 0 x.Blocks) F cs w h
theorem loDisk_1 (x : Disk) : LoAt x 1 x.Wait := fun F cs w h => ((LoAt.snd LoAt.fst) : LoAt ((x.Blocks, x.Wait, x.Dead)) 1 x.Wait) F cs w h
theorem loDisk_2 (x : Disk) : LoAt x 2 x.Dead := fun F cs w h => ((LoAt.snd (LoAt.snd LoAt.self)) : LoAt ((x.Blocks, x.Wait, x.Dead)) 2 x.Dead) F cs w h

structure Loss where
  Events : UInt32
  Lost : Int
  Spare : Bool
  Pos : Int
  Done : Int
  NoLog : Bool
  Broken : Bool
  deriving Inhabited, DecidableEq
instance : Rp Loss := Rp.via (inferInstance : Rp (UInt32 × Int × Bool × Int × Int × Bool × Bool)) (fun x => (x.Events, x.Lost, x.Spare, x.Pos, x.Done, x.NoLog, x.Broken))
theorem chLoss (x : Loss) : Ch x [⟨inferInstance, x.Events⟩, ⟨inferInstance, x.Lost⟩, ⟨inferInstance, x.Spare⟩, ⟨inferInstance, x.Pos⟩, ⟨inferInstance, x.Done⟩, ⟨inferInstance, x.NoLog⟩, ⟨inferInstance, x.Broken⟩] := Ch.via (ChT.cons (ChT.cons (ChT.cons (ChT.cons (ChT.cons (ChT.cons (ChT.one _)))))))
instance : Lo Loss := Lo.via (inferInstance : Rp (UInt32 × Int × Bool × Int × Int × Bool × Bool)) inferInstance (fun x : Loss => (x.Events, x.Lost, x.Spare, x.Pos, x.Done, x.NoLog, x.Broken))
theorem loLoss_0 (x : Loss) : LoAt x 0 x.Events := fun F cs w h => (LoAt.fst : LoAt ((x.Events, x.Lost, x.Spare, x.Pos, x.Done, x.NoLog, x.Broken)) 0 x.Events) F cs w h
theorem loLoss_1 (x : Loss) : LoAt x 1 x.Lost := fun F cs w h => ((LoAt.snd LoAt.fst) : LoAt ((x.Events, x.Lost, x.Spare, x.Pos, x.Done, x.NoLog, x.Broken)) 1 x.Lost) F cs w h
theorem loLoss_2 (x : Loss) : LoAt x 2 x.Spare := fun F cs w h => ((LoAt.snd (LoAt.snd LoAt.fst)) : LoAt ((x.Events, x.Lost, x.Spare, x.Pos, x.Done, x.NoLog, x.Broken)) 2 x.Spare) F cs w h
theorem loLoss_3 (x : Loss) : LoAt x 3 x.Pos := fun F cs w h => ((LoAt.snd (LoAt.snd (LoAt.snd LoAt.fst))) : LoAt ((x.Events, x.Lost, x.Spare, x.Pos, x.Done, x.NoLog, x.Broken)) 3 x.Pos) F cs w h
theorem loLoss_4 (x : Loss) : LoAt x 4 x.Done := fun F cs w h => ((LoAt.snd (LoAt.snd (LoAt.snd (LoAt.snd LoAt.fst)))) : LoAt ((x.Events, x.Lost, x.Spare, x.Pos, x.Done, x.NoLog, x.Broken)) 4 x.Done) F cs w h
theorem loLoss_5 (x : Loss) : LoAt x 5 x.NoLog := fun F cs w h => ((LoAt.snd (LoAt.snd (LoAt.snd (LoAt.snd (LoAt.snd LoAt.fst))))) : LoAt ((x.Events, x.Lost, x.Spare, x.Pos, x.Done, x.NoLog, x.Broken)) 5 x.NoLog) F cs w h
theorem loLoss_6 (x : Loss) : LoAt x 6 x.Broken := fun F cs w h => ((LoAt.snd (LoAt.snd (LoAt.snd (LoAt.snd (LoAt.snd (LoAt.snd LoAt.self)))))) : LoAt ((x.Events, x.Lost, x.Spare, x.Pos, x.Done, x.NoLog, x.Broken)) 6 x.Broken) F cs w h
instance : Flat Loss := ⟨fun F F' x cs w w' h => Flat.flat (α := UInt32 × Int × Bool × Int × Int × Bool × Bool) F F' ((x.Events, x.Lost, x.Spare, x.Pos, x.Done, x.NoLog, x.Broken)) cs w w' h⟩

structure Arr3_Int where
  e0 : Int
  e1 : Int
  e2 : Int
  deriving Inhabited, DecidableEq
instance : Rp Arr3_Int := Rp.via (inferInstance : Rp (Int × Int × Int)) (fun x => (x.e0, x.e1, x.e2))
theorem chArr3_Int (x : Arr3_Int) : Ch x [⟨inferInstance, x.e0⟩, ⟨inferInstance, x.e1⟩, ⟨inferInstance, x.e2⟩] := Ch.via (ChT.cons (ChT.cons (ChT.one _)))
instance : Lo Arr3_Int := Lo.via (inferInstance : Rp (Int × Int × Int)) inferInstance (fun x : Arr3_Int => (x.e0, x.e1, x.e2))
theorem loArr3_Int_0 (x : Arr3_Int) : LoAt x 0 x.e0 := fun F cs w h => (LoAt.fst : LoAt ((x.e0, x.e1, x.e2)) 0 x.e0) F cs w h
theorem loArr3_Int_1 (x : Arr3_Int) : LoAt x 1 x.e1 := fun F cs w h => ((LoAt.snd LoAt.fst) : LoAt ((x.e0, x.e1, x.e2)) 1 x.e1) F cs w h
theorem loArr3_Int_2 (x : Arr3_Int) : LoAt x 2 x.e2 := fun F cs w h => ((LoAt.snd (LoAt.snd LoAt.self)) : LoAt ((x.e0, x.e1, x.e2)) 2 x.e2) F cs w h
instance : Flat Arr3_Int := ⟨fun F F' x cs w w' h => Flat.flat (α := Int × Int × Int) F F' ((x.e0, x.e1, x.e2)) cs w w' h⟩

structure Act58 where
  Disk : Int
  Kind : UInt8
  At : Int
  Data : List UInt8
  deriving Inhabited, DecidableEq
instance : Rp Act58 := Rp.via (inferInstance : Rp (Int × UInt8 × Int × (List UInt8))) (fun x => (x.Disk, x.Kind, x.At, x.Data))
theorem chAct58 (x : Act58) : Ch x [⟨inferInstance, x.Disk⟩, ⟨inferInstance, x.Kind⟩, ⟨inferInstance, x.At⟩, ⟨inferInstance, x.Data⟩] := Ch.via (ChT.cons (ChT.cons (ChT.cons (ChT.one _))))
instance : Lo Act58 := Lo.via (inferInstance : Rp (Int × UInt8 × Int × (List UInt8))) inferInstance (fun x : Act58 => (x.Disk, x.Kind, x.At, x.Data))
theorem loAct58_0 (x : Act58) : LoAt x 0 x.Disk := fun F cs w h => (LoAt.fst : LoAt ((x.Disk, x.Kind, x.At, x.Data)) 0 x.Disk) F cs w h
theorem loAct58_1 (x : Act58) : LoAt x 1 x.Kind := fun F cs w h => ((LoAt.snd LoAt.fst) : LoAt ((x.Disk, x.Kind, x.At, x.Data)) 1 x.Kind) F cs w h
theorem loAct58_2 (x : Act58) : LoAt x 2 x.At := fun F cs w h => ((LoAt.snd (LoAt.snd LoAt.fst)) : LoAt ((x.Disk, x.Kind, x.At, x.Data)) 2 x.At) F cs w h
theorem loAct58_3 (x : Act58) : LoAt x 3 x.Data := fun F cs w h => ((LoAt.snd (LoAt.snd (LoAt.snd LoAt.self))) : LoAt ((x.Disk, x.Kind, x.At, x.Data)) 3 x.Data) F cs w h

structure Label where
  Id : UInt32
  Events : UInt32
  Members : Int
  Chunk : Int
  Rows : Int
  Log : Int
  Me : Int
  Lost : Int
  Done : Int
  Open : Bool
  deriving Inhabited, DecidableEq
instance : Rp Label := Rp.via (inferInstance : Rp (UInt32 × UInt32 × Int × Int × Int × Int × Int × Int × Int × Bool)) (fun x => (x.Id, x.Events, x.Members, x.Chunk, x.Rows, x.Log, x.Me, x.Lost, x.Done, x.Open))
theorem chLabel (x : Label) : Ch x [⟨inferInstance, x.Id⟩, ⟨inferInstance, x.Events⟩, ⟨inferInstance, x.Members⟩, ⟨inferInstance, x.Chunk⟩, ⟨inferInstance, x.Rows⟩, ⟨inferInstance, x.Log⟩, ⟨inferInstance, x.Me⟩, ⟨inferInstance, x.Lost⟩, ⟨inferInstance, x.Done⟩, ⟨inferInstance, x.Open⟩] := Ch.via (ChT.cons (ChT.cons (ChT.cons (ChT.cons (ChT.cons (ChT.cons (ChT.cons (ChT.cons (ChT.cons (ChT.one _))))))))))
instance : Lo Label := Lo.via (inferInstance : Rp (UInt32 × UInt32 × Int × Int × Int × Int × Int × Int × Int × Bool)) inferInstance (fun x : Label => (x.Id, x.Events, x.Members, x.Chunk, x.Rows, x.Log, x.Me, x.Lost, x.Done, x.Open))
theorem loLabel_0 (x : Label) : LoAt x 0 x.Id := fun F cs w h => (LoAt.fst : LoAt ((x.Id, x.Events, x.Members, x.Chunk, x.Rows, x.Log, x.Me, x.Lost, x.Done, x.Open)) 0 x.Id) F cs w h
theorem loLabel_1 (x : Label) : LoAt x 1 x.Events := fun F cs w h => ((LoAt.snd LoAt.fst) : LoAt ((x.Id, x.Events, x.Members, x.Chunk, x.Rows, x.Log, x.Me, x.Lost, x.Done, x.Open)) 1 x.Events) F cs w h
theorem loLabel_2 (x : Label) : LoAt x 2 x.Members := fun F cs w h => ((LoAt.snd (LoAt.snd LoAt.fst)) : LoAt ((x.Id, x.Events, x.Members, x.Chunk, x.Rows, x.Log, x.Me, x.Lost, x.Done, x.Open)) 2 x.Members) F cs w h
theorem loLabel_3 (x : Label) : LoAt x 3 x.Chunk := fun F cs w h => ((LoAt.snd (LoAt.snd (LoAt.snd LoAt.fst))) : LoAt ((x.Id, x.Events, x.Members, x.Chunk, x.Rows, x.Log, x.Me, x.Lost, x.Done, x.Open)) 3 x.Chunk) F cs w h
theorem loLabel_4 (x : Label) : LoAt x 4 x.Rows := fun F cs w h => ((LoAt.snd (LoAt.snd (LoAt.snd (LoAt.snd LoAt.fst)))) : LoAt ((x.Id, x.Events, x.Members, x.Chunk, x.Rows, x.Log, x.Me, x.Lost, x.Done, x.Open)) 4 x.Rows) F cs w h
theorem loLabel_5 (x : Label) : LoAt x 5 x.Log := fun F cs w h => ((LoAt.snd (LoAt.snd (LoAt.snd (LoAt.snd (LoAt.snd LoAt.fst))))) : LoAt ((x.Id, x.Events, x.Members, x.Chunk, x.Rows, x.Log, x.Me, x.Lost, x.Done, x.Open)) 5 x.Log) F cs w h
theorem loLabel_6 (x : Label) : LoAt x 6 x.Me := fun F cs w h => ((LoAt.snd (LoAt.snd (LoAt.snd (LoAt.snd (LoAt.snd (LoAt.snd LoAt.fst)))))) : LoAt ((x.Id, x.Events, x.Members, x.Chunk, x.Rows, x.Log, x.Me, x.Lost, x.Done, x.Open)) 6 x.Me) F cs w h
theorem loLabel_7 (x : Label) : LoAt x 7 x.Lost := fun F cs w h => ((LoAt.snd (LoAt.snd (LoAt.snd (LoAt.snd (LoAt.snd (LoAt.snd (LoAt.snd LoAt.fst))))))) : LoAt ((x.Id, x.Events, x.Members, x.Chunk, x.Rows, x.Log, x.Me, x.Lost, x.Done, x.Open)) 7 x.Lost) F cs w h
theorem loLabel_8 (x : Label) : LoAt x 8 x.Done := fun F cs w h => ((LoAt.snd (LoAt.snd (LoAt.snd (LoAt.snd (LoAt.snd (LoAt.snd (LoAt.snd (LoAt.snd LoAt.fst)))))))) : LoAt ((x.Id, x.Events, x.Members, x.Chunk, x.Rows, x.Log, x.Me, x.Lost, x.Done, x.Open)) 8 x.Done) F cs w h
theorem loLabel_9 (x : Label) : LoAt x 9 x.Open := fun F cs w h => ((LoAt.snd (LoAt.snd (LoAt.snd (LoAt.snd (LoAt.snd (LoAt.snd (LoAt.snd (LoAt.snd (LoAt.snd LoAt.self))))))))) : LoAt ((x.Id, x.Events, x.Members, x.Chunk, x.Rows, x.Log, x.Me, x.Lost, x.Done, x.Open)) 9 x.Open) F cs w h
instance : Flat Label := ⟨fun F F' x cs w w' h => Flat.flat (α := UInt32 × UInt32 × Int × Int × Int × Int × Int × Int × Int × Bool) F F' ((x.Id, x.Events, x.Members, x.Chunk, x.Rows, x.Log, x.Me, x.Lost, x.Done, x.Open)) cs w w' h⟩

structure Field where
  n : Int
  at_ : Int
  size : Int
  deriving Inhabited, DecidableEq
instance : Rp Field := Rp.via (inferInstance : Rp (Int × Int × Int)) (fun x => (x.n, x.at_, x.size))
theorem chField (x : Field) : Ch x [⟨inferInstance, x.n⟩, ⟨inferInstance, x.at_⟩, ⟨inferInstance, x.size⟩] := Ch.via (ChT.cons (ChT.cons (ChT.one _)))
instance : Lo Field := Lo.via (inferInstance : Rp (Int × Int × Int)) inferInstance (fun x : Field => (x.n, x.at_, x.size))
theorem loField_0 (x : Field) : LoAt x 0 x.n := fun F cs w h => (LoAt.fst : LoAt ((x.n, x.at_, x.size)) 0 x.n) F cs w h
theorem loField_1 (x : Field) : LoAt x 1 x.at_ := fun F cs w h => ((LoAt.snd LoAt.fst) : LoAt ((x.n, x.at_, x.size)) 1 x.at_) F cs w h
theorem loField_2 (x : Field) : LoAt x 2 x.size := fun F cs w h => ((LoAt.snd (LoAt.snd LoAt.self)) : LoAt ((x.n, x.at_, x.size)) 2 x.size) F cs w h
instance : Flat Field := ⟨fun F F' x cs w w' h => Flat.flat (α := Int × Int × Int) F F' ((x.n, x.at_, x.size)) cs w w' h⟩

structure Arr4_FnI636465 where
  e0 : FnI [63, 64, 65]
  e1 : FnI [63, 64, 65]
  e2 : FnI [63, 64, 65]
  e3 : FnI [63, 64, 65]
  deriving Inhabited, DecidableEq
instance : Rp Arr4_FnI636465 := Rp.via (inferInstance : Rp ((FnI [63, 64, 65]) × (FnI [63, 64, 65]) × (FnI [63, 64, 65]) × (FnI [63, 64, 65]))) (fun x => (x.e0, x.e1, x.e2, x.e3))
theorem chArr4_FnI636465 (x : Arr4_FnI636465) : Ch x [⟨inferInstance, x.e0⟩, ⟨inferInstance, x.e1⟩, ⟨inferInstance, x.e2⟩, ⟨inferInstance, x.e3⟩] := Ch.via (ChT.cons (ChT.cons (ChT.cons (ChT.one _))))
instance : Flat Arr4_FnI636465 := ⟨fun F F' x cs w w' h => Flat.flat (α := (FnI [63, 64, 65]) × (FnI [63, 64, 65]) × (FnI [63, 64, 65]) × (FnI [63, 64, 65])) F F' ((x.e0, x.e1, x.e2, x.e3)) cs w w' h⟩

theorem zl24 : ZeroLs Try.prog 24 [(false, 1, Fact.rep [] ((0 : UInt32) : UInt32)), (false, 1, Fact.rep [] ((0 : Int) : Int)), (false, 1, Fact.rep [] ((0 : Int) : Int)), (false, 1, Fact.rep [] ((0 : Int) : Int)), (false, 1, Fact.rep [] ((0 : Int) : Int)), (false, 1, Fact.rep [] ((0 : Int) : Int))] := ⟨⟨[.int .u32 0, .int .i64 0, .int .i64 0, .int .i64 0, .int .i64 0, .int .i64 0], by kernel_rfl, fun g w => FldRel.zr (fun _ _ => rfl) (FldRel.zr (fun _ _ => rfl) (FldRel.zr (fun _ _ => rfl) (FldRel.zr (fun _ _ => rfl) (FldRel.zr (fun _ _ => rfl) (FldRel.zr (fun _ _ => rfl) (rfl))))))⟩⟩
theorem bd24 : BuildTy Try.prog 24 [(0, 1), (1, 1), (2, 1), (3, 1), (4, 1), (5, 1)] [(false, 1, Fact.rep [] ((0 : UInt32) : UInt32)), (false, 1, Fact.rep [] ((0 : Int) : Int)), (false, 1, Fact.rep [] ((0 : Int) : Int)), (false, 1, Fact.rep [] ((0 : Int) : Int)), (false, 1, Fact.rep [] ((0 : Int) : Int)), (false, 1, Fact.rep [] ((0 : Int) : Int))] := ⟨⟨_, [.int .u32 0, .int .i64 0, .int .i64 0, .int .i64 0, .int .i64 0, .int .i64 0], by kernel_rfl, Try.underlying24, (fun g w => FldRel.zr (fun _ _ => rfl) (FldRel.zr (fun _ _ => rfl) (FldRel.zr (fun _ _ => rfl) (FldRel.zr (fun _ _ => rfl) (FldRel.zr (fun _ _ => rfl) (FldRel.zr (fun _ _ => rfl) (rfl))))))), by kernel_rfl⟩⟩
theorem ty24 : Ty Try.prog 24 (Config) := Ty.of (by kernel_rfl)
theorem en24 : enters Try.prog 24 = true := by kernel_rfl
theorem zl26 : ZeroLs Try.prog 26 [(false, 1, Fact.rep [] ((0 : UInt32) : UInt32)), (false, 1, Fact.rep [] ((0 : Int) : Int)), (false, 1, Fact.rep [] (false : Bool)), (false, 1, Fact.rep [] ((0 : Int) : Int)), (false, 1, Fact.rep [] ((0 : Int) : Int)), (false, 1, Fact.rep [] (false : Bool)), (false, 1, Fact.rep [] (false : Bool))] := ⟨⟨[.int .u32 0, .int .i64 0, .bool false, .int .i64 0, .int .i64 0, .bool false, .bool false], by kernel_rfl, fun g w => FldRel.zr (fun _ _ => rfl) (FldRel.zr (fun _ _ => rfl) (FldRel.zr (fun _ _ => rfl) (FldRel.zr (fun _ _ => rfl) (FldRel.zr (fun _ _ => rfl) (FldRel.zr (fun _ _ => rfl) (FldRel.zr (fun _ _ => rfl) (rfl)))))))⟩⟩
theorem bd26 : BuildTy Try.prog 26 [(0, 1), (1, 1), (2, 1), (3, 1), (4, 1), (5, 1), (6, 1)] [(false, 1, Fact.rep [] ((0 : UInt32) : UInt32)), (false, 1, Fact.rep [] ((0 : Int) : Int)), (false, 1, Fact.rep [] (false : Bool)), (false, 1, Fact.rep [] ((0 : Int) : Int)), (false, 1, Fact.rep [] ((0 : Int) : Int)), (false, 1, Fact.rep [] (false : Bool)), (false, 1, Fact.rep [] (false : Bool))] := ⟨⟨_, [.int .u32 0, .int .i64 0, .bool false, .int .i64 0, .int .i64 0, .bool false, .bool false], by kernel_rfl, Try.underlying26, (fun g w => FldRel.zr (fun _ _ => rfl) (FldRel.zr (fun _ _ => rfl) (FldRel.zr (fun _ _ => rfl) (FldRel.zr (fun _ _ => rfl) (FldRel.zr (fun _ _ => rfl) (FldRel.zr (fun _ _ => rfl) (FldRel.zr (fun _ _ => rfl) (rfl)))))))), by kernel_rfl⟩⟩
theorem ty26 : Ty Try.prog 26 (Loss) := Ty.of (by kernel_rfl)
theorem en21 : enters Try.prog 21 = true := by kernel_rfl
theorem fd24_2 : FieldTy Try.prog 24 2 2 1 := FieldTy.of Try.underlying24 (by kernel_rfl) rfl
theorem ty3 : Ty Try.prog 3 (Int) := Ty.of (by kernel_rfl)
theorem fd24_3 : FieldTy Try.prog 24 3 3 1 := FieldTy.of Try.underlying24 (by kernel_rfl) rfl
theorem fd24_1 : FieldTy Try.prog 24 1 1 1 := FieldTy.of Try.underlying24 (by kernel_rfl) rfl
theorem bd133 : BuildTyA Try.prog 133 [(0, 1), (1, 1), (2, 1)] [(false, 1, Fact.rep [] ((0 : Int) : Int)), (false, 1, Fact.rep [] ((0 : Int) : Int)), (false, 1, Fact.rep [] ((0 : Int) : Int))] := ⟨⟨_, _, 1, [.int .i64 0, .int .i64 0, .int .i64 0], by kernel_rfl, Try.underlying133, by kernel_rfl, (fun g w => FldRel.zr (fun _ _ => rfl) (FldRel.zr (fun _ _ => rfl) (FldRel.zr (fun _ _ => rfl) (rfl)))), rfl⟩⟩
theorem fd24_5 : FieldTy Try.prog 24 5 5 1 := FieldTy.of Try.underlying24 (by kernel_rfl) rfl
theorem ow145 : OwnTy Try.prog 145 133 (Arr3_Int) := OwnTy.of Try.underlying145 (by kernel_rfl) rfl (by kernel_rfl)
theorem sl145 : SlTy Try.prog 145 133 (Arr3_Int) := SlTy.of Try.underlying145 (by kernel_rfl) rfl
theorem ty133 : Ty Try.prog 133 (Arr3_Int) := Ty.of (by kernel_rfl)
theorem zl133 : ZeroLs Try.prog 133 [(false, 1, Fact.rep [] ((0 : Int) : Int)), (false, 1, Fact.rep [] ((0 : Int) : Int)), (false, 1, Fact.rep [] ((0 : Int) : Int))] := ⟨⟨[.int .i64 0, .int .i64 0, .int .i64 0], by kernel_rfl, fun g w => FldRel.zr (fun _ _ => rfl) (FldRel.zr (fun _ _ => rfl) (FldRel.zr (fun _ _ => rfl) (rfl)))⟩⟩
theorem sm133 : SmTy Try.prog 133 3 3 1 := ⟨Try.underlying133, by kernel_rfl⟩
theorem en82 : enters Try.prog 82 = true := by kernel_rfl
theorem fd24_4 : FieldTy Try.prog 24 4 4 1 := FieldTy.of Try.underlying24 (by kernel_rfl) rfl
theorem en72 : enters Try.prog 72 = true := by kernel_rfl
theorem en53 : enters Try.prog 53 = true := by kernel_rfl
theorem en32 : enters Try.prog 32 = true := by kernel_rfl
theorem fd26_0 : FieldTy Try.prog 26 0 0 1 := FieldTy.of Try.underlying26 (by kernel_rfl) rfl
theorem ty22 : Ty Try.prog 22 (UInt32) := Ty.of (by kernel_rfl)
theorem fd26_1 : FieldTy Try.prog 26 1 1 1 := FieldTy.of Try.underlying26 (by kernel_rfl) rfl
theorem fd26_4 : FieldTy Try.prog 26 4 4 1 := FieldTy.of Try.underlying26 (by kernel_rfl) rfl
theorem fd26_3 : FieldTy Try.prog 26 3 3 1 := FieldTy.of Try.underlying26 (by kernel_rfl) rfl
theorem fd26_2 : FieldTy Try.prog 26 2 2 1 := FieldTy.of Try.underlying26 (by kernel_rfl) rfl
theorem ty4 : Ty Try.prog 4 (Bool) := Ty.of (by kernel_rfl)
theorem en18 : enters Try.prog 18 = true := by kernel_rfl
theorem bd80 : BuildTy Try.prog 80 [(0, 7)] [(true, 7, Fact.flds [(false, 1, Fact.rep [] ((0 : UInt32) : UInt32)), (false, 1, Fact.rep [] ((0 : Int) : Int)), (false, 1, Fact.rep [] (false : Bool)), (false, 1, Fact.rep [] ((0 : Int) : Int)), (false, 1, Fact.rep [] ((0 : Int) : Int)), (false, 1, Fact.rep [] (false : Bool)), (false, 1, Fact.rep [] (false : Bool))])] := ⟨⟨_, [.int .u32 0, .int .i64 0, .bool false, .int .i64 0, .int .i64 0, .bool false, .bool false], by kernel_rfl, Try.underlying80, (fun g w => FldRel.zs (c1 := [.int .u32 0, .int .i64 0, .bool false, .int .i64 0, .int .i64 0, .bool false, .bool false]) (FldRel.zr (fun _ _ => rfl) (FldRel.zr (fun _ _ => rfl) (FldRel.zr (fun _ _ => rfl) (FldRel.zr (fun _ _ => rfl) (FldRel.zr (fun _ _ => rfl) (FldRel.zr (fun _ _ => rfl) (FldRel.zr (fun _ _ => rfl) (rfl)))))))) (rfl)), by kernel_rfl⟩⟩
theorem en35 : enters Try.prog 35 = true := by kernel_rfl
theorem fd80_0 : FieldTy Try.prog 80 0 0 7 := FieldTy.of Try.underlying80 (by kernel_rfl) rfl
theorem fd26_5 : FieldTy Try.prog 26 5 5 1 := FieldTy.of Try.underlying26 (by kernel_rfl) rfl
theorem fd26_6 : FieldTy Try.prog 26 6 6 1 := FieldTy.of Try.underlying26 (by kernel_rfl) rfl
theorem en37 : enters Try.prog 37 = true := by kernel_rfl
theorem en10 : enters Try.prog 10 = true := by kernel_rfl
theorem en12 : enters Try.prog 12 = true := by kernel_rfl
theorem mixed : Try.prog.follows .mixedOrders = true := by kernel_rfl
theorem en14 : enters Try.prog 14 = true := by kernel_rfl
theorem en8 : enters Try.prog 8 = true := by kernel_rfl
theorem en23 : enters Try.prog 23 = true := by kernel_rfl
theorem en20 : enters Try.prog 20 = true := by kernel_rfl
theorem fd24_0 : FieldTy Try.prog 24 0 0 1 := FieldTy.of Try.underlying24 (by kernel_rfl) rfl
theorem bd71 : BuildTy Try.prog 71 [(0, 1), (1, 1), (2, 1), (3, 1), (4, 1), (5, 1), (6, 1), (7, 1), (8, 1), (9, 1)] [(false, 1, Fact.rep [] ((0 : UInt32) : UInt32)), (false, 1, Fact.rep [] ((0 : UInt32) : UInt32)), (false, 1, Fact.rep [] ((0 : Int) : Int)), (false, 1, Fact.rep [] ((0 : Int) : Int)), (false, 1, Fact.rep [] ((0 : Int) : Int)), (false, 1, Fact.rep [] ((0 : Int) : Int)), (false, 1, Fact.rep [] ((0 : Int) : Int)), (false, 1, Fact.rep [] ((0 : Int) : Int)), (false, 1, Fact.rep [] ((0 : Int) : Int)), (false, 1, Fact.rep [] (false : Bool))] := ⟨⟨_, [.int .u32 0, .int .u32 0, .int .i64 0, .int .i64 0, .int .i64 0, .int .i64 0, .int .i64 0, .int .i64 0, .int .i64 0, .bool false], by kernel_rfl, Try.underlying71, (fun g w => FldRel.zr (fun _ _ => rfl) (FldRel.zr (fun _ _ => rfl) (FldRel.zr (fun _ _ => rfl) (FldRel.zr (fun _ _ => rfl) (FldRel.zr (fun _ _ => rfl) (FldRel.zr (fun _ _ => rfl) (FldRel.zr (fun _ _ => rfl) (FldRel.zr (fun _ _ => rfl) (FldRel.zr (fun _ _ => rfl) (FldRel.zr (fun _ _ => rfl) (rfl))))))))))), by kernel_rfl⟩⟩
theorem ty71 : Ty Try.prog 71 (Label) := Ty.of (by kernel_rfl)
theorem fd71_0 : FieldTy Try.prog 71 0 0 1 := FieldTy.of Try.underlying71 (by kernel_rfl) rfl
theorem fd71_2 : FieldTy Try.prog 71 2 2 1 := FieldTy.of Try.underlying71 (by kernel_rfl) rfl
theorem fd71_3 : FieldTy Try.prog 71 3 3 1 := FieldTy.of Try.underlying71 (by kernel_rfl) rfl
theorem fd71_4 : FieldTy Try.prog 71 4 4 1 := FieldTy.of Try.underlying71 (by kernel_rfl) rfl
theorem fd71_5 : FieldTy Try.prog 71 5 5 1 := FieldTy.of Try.underlying71 (by kernel_rfl) rfl
theorem fd71_1 : FieldTy Try.prog 71 1 1 1 := FieldTy.of Try.underlying71 (by kernel_rfl) rfl
theorem fd71_6 : FieldTy Try.prog 71 6 6 1 := FieldTy.of Try.underlying71 (by kernel_rfl) rfl
theorem fd71_8 : FieldTy Try.prog 71 8 8 1 := FieldTy.of Try.underlying71 (by kernel_rfl) rfl
theorem fd71_7 : FieldTy Try.prog 71 7 7 1 := FieldTy.of Try.underlying71 (by kernel_rfl) rfl
theorem en56 : enters Try.prog 56 = true := by kernel_rfl
theorem zl3 : ZeroLs Try.prog 3 [(false, 1, Fact.rep [] ((0 : Int) : Int))] := ⟨⟨[.int .i64 0], by kernel_rfl, fun g w => FldRel.zr (fun _ _ => rfl) (rfl)⟩⟩
theorem fd71_9 : FieldTy Try.prog 71 9 9 1 := FieldTy.of Try.underlying71 (by kernel_rfl) rfl
theorem cnt69_106 : CntFn Try.prog 69 (Field) (fun n s a => Field.mk n a s) := cnt_one (fun n s a H w => ⟨_, ⟨[_], _, rfl, rfl, [_], _, rfl, rfl, rfl⟩, rfl⟩)
theorem en69 : enters Try.prog 69 = true := by kernel_rfl
theorem ow103 : OwnTy Try.prog 103 106 (Field) := OwnTy.of Try.underlying103 (by kernel_rfl) rfl (by kernel_rfl)
theorem en50 : enters Try.prog 50 = true := by kernel_rfl
theorem sl103 : SlTy Try.prog 103 106 (Field) := SlTy.of Try.underlying103 (by kernel_rfl) rfl
theorem ty106 : Ty Try.prog 106 (Field) := Ty.of (by kernel_rfl)
theorem zl106 : ZeroLs Try.prog 106 [(false, 1, Fact.rep [] ((0 : Int) : Int)), (false, 1, Fact.rep [] ((0 : Int) : Int)), (false, 1, Fact.rep [] ((0 : Int) : Int))] := ⟨⟨[.int .i64 0, .int .i64 0, .int .i64 0], by kernel_rfl, fun g w => FldRel.zr (fun _ _ => rfl) (FldRel.zr (fun _ _ => rfl) (FldRel.zr (fun _ _ => rfl) (rfl)))⟩⟩
theorem fd106_1 : FieldTy Try.prog 106 1 1 1 := FieldTy.of Try.underlying106 (by kernel_rfl) rfl
theorem fd106_2 : FieldTy Try.prog 106 2 2 1 := FieldTy.of Try.underlying106 (by kernel_rfl) rfl
theorem fd106_0 : FieldTy Try.prog 106 0 0 1 := FieldTy.of Try.underlying106 (by kernel_rfl) rfl
theorem ar122 : ArrTy Try.prog 122 5 128 (UInt8) (0 : UInt8) := ArrTy.of Try.underlying122 rfl (by kernel_rfl) (by kernel_rfl) (fun _ => rfl)
theorem ty122 : Ty Try.prog 122 (ArrV 128 UInt8) := Ty.of (by kernel_rfl)
theorem ow56 : OwnTy Try.prog 56 5 (UInt8) := OwnTy.of Try.underlying56 (by kernel_rfl) rfl (by kernel_rfl)
theorem en70 : enters Try.prog 70 = true := by kernel_rfl
theorem en71 : enters Try.prog 71 = true := by kernel_rfl
theorem ty5 : Ty Try.prog 5 (UInt8) := Ty.of (by kernel_rfl)
theorem en57 : enters Try.prog 57 = true := by kernel_rfl
theorem sl56 : SlTy Try.prog 56 5 (UInt8) := SlTy.of Try.underlying56 (by kernel_rfl) rfl
theorem ar134 : ArrTy Try.prog 134 22 16 (UInt32) (0 : UInt32) := ArrTy.of Try.underlying134 rfl (by kernel_rfl) (by kernel_rfl) (fun _ => rfl)
theorem bd134 : BuildTyA Try.prog 134 [(0, 1), (1, 1), (2, 1), (3, 1), (4, 1), (5, 1), (6, 1), (7, 1), (8, 1), (9, 1), (10, 1), (11, 1), (12, 1), (13, 1), (14, 1), (15, 1)] [(false, 1, Fact.rep [] ((0 : UInt32) : UInt32)), (false, 1, Fact.rep [] ((0 : UInt32) : UInt32)), (false, 1, Fact.rep [] ((0 : UInt32) : UInt32)), (false, 1, Fact.rep [] ((0 : UInt32) : UInt32)), (false, 1, Fact.rep [] ((0 : UInt32) : UInt32)), (false, 1, Fact.rep [] ((0 : UInt32) : UInt32)), (false, 1, Fact.rep [] ((0 : UInt32) : UInt32)), (false, 1, Fact.rep [] ((0 : UInt32) : UInt32)), (false, 1, Fact.rep [] ((0 : UInt32) : UInt32)), (false, 1, Fact.rep [] ((0 : UInt32) : UInt32)), (false, 1, Fact.rep [] ((0 : UInt32) : UInt32)), (false, 1, Fact.rep [] ((0 : UInt32) : UInt32)), (false, 1, Fact.rep [] ((0 : UInt32) : UInt32)), (false, 1, Fact.rep [] ((0 : UInt32) : UInt32)), (false, 1, Fact.rep [] ((0 : UInt32) : UInt32)), (false, 1, Fact.rep [] ((0 : UInt32) : UInt32))] := ⟨⟨_, _, 1, [.int .u32 0, .int .u32 0, .int .u32 0, .int .u32 0, .int .u32 0, .int .u32 0, .int .u32 0, .int .u32 0, .int .u32 0, .int .u32 0, .int .u32 0, .int .u32 0, .int .u32 0, .int .u32 0, .int .u32 0, .int .u32 0], by kernel_rfl, Try.underlying134, by kernel_rfl, (fun g w => FldRel.zr (fun _ _ => rfl) (FldRel.zr (fun _ _ => rfl) (FldRel.zr (fun _ _ => rfl) (FldRel.zr (fun _ _ => rfl) (FldRel.zr (fun _ _ => rfl) (FldRel.zr (fun _ _ => rfl) (FldRel.zr (fun _ _ => rfl) (FldRel.zr (fun _ _ => rfl) (FldRel.zr (fun _ _ => rfl) (FldRel.zr (fun _ _ => rfl) (FldRel.zr (fun _ _ => rfl) (FldRel.zr (fun _ _ => rfl) (FldRel.zr (fun _ _ => rfl) (FldRel.zr (fun _ _ => rfl) (FldRel.zr (fun _ _ => rfl) (FldRel.zr (fun _ _ => rfl) (rfl))))))))))))))))), rfl⟩⟩
theorem ty134 : Ty Try.prog 134 (ArrV 16 UInt32) := Ty.of (by kernel_rfl)
theorem en83 : enters Try.prog 83 = true := by kernel_rfl
theorem en73 : enters Try.prog 73 = true := by kernel_rfl
theorem en58 : enters Try.prog 58 = true := by kernel_rfl
theorem en41 : enters Try.prog 41 = true := by kernel_rfl
theorem bd58 : BuildTy Try.prog 58 [(0, 1), (1, 1), (2, 1), (3, 1)] [(false, 1, Fact.rep [] ((0 : Int) : Int)), (false, 1, Fact.rep [] ((0 : UInt8) : UInt8)), (false, 1, Fact.rep [] ((0 : Int) : Int)), (false, 1, Fact.nilv)] := ⟨⟨_, [.int .i64 0, .int .u8 0, .int .i64 0, .slice none 0 0], by kernel_rfl, Try.underlying58, (fun g w => FldRel.zr (fun _ _ => rfl) (FldRel.zr (fun _ _ => rfl) (FldRel.zr (fun _ _ => rfl) (FldRel.zn (rfl))))), by kernel_rfl⟩⟩
theorem ow50 : OwnTy Try.prog 50 58 (Act58) := OwnTy.of Try.underlying50 (by kernel_rfl) rfl (by kernel_rfl)
theorem en25 : enters Try.prog 25 = true := by kernel_rfl
theorem sl60 : SlTy Try.prog 60 67 (Disk) := SlTy.of Try.underlying60 (by kernel_rfl) rfl
theorem ty67 : Ty Try.prog 67 (Disk) := Ty.of (by kernel_rfl)
theorem fd67_0 : FieldTy Try.prog 67 0 0 1 := FieldTy.of Try.underlying67 (by kernel_rfl) rfl
theorem ty64 : Ty Try.prog 64 (List (List UInt8)) := Ty.of (by kernel_rfl)
theorem sl64 : SlTy Try.prog 64 56 (List UInt8) := SlTy.of Try.underlying64 (by kernel_rfl) rfl
theorem ty56 : Ty Try.prog 56 (List UInt8) := Ty.of (by kernel_rfl)
theorem fd67_1 : FieldTy Try.prog 67 1 1 1 := FieldTy.of Try.underlying67 (by kernel_rfl) rfl
theorem ty65 : Ty Try.prog 65 (List Write) := Ty.of (by kernel_rfl)
theorem sl65 : SlTy Try.prog 65 91 (Write) := SlTy.of Try.underlying65 (by kernel_rfl) rfl
theorem fd91_1 : FieldTy Try.prog 91 1 1 1 := FieldTy.of Try.underlying91 (by kernel_rfl) rfl
theorem en43 : enters Try.prog 43 = true := by kernel_rfl
theorem en28 : enters Try.prog 28 = true := by kernel_rfl
theorem en92 : enters Try.prog 92 = true := by kernel_rfl
theorem en97 : enters Try.prog 97 = true := by kernel_rfl
theorem en88 : enters Try.prog 88 = true := by kernel_rfl
theorem en87 : enters Try.prog 87 = true := by kernel_rfl
theorem ty91 : Ty Try.prog 91 (Write) := Ty.of (by kernel_rfl)
theorem en98 : enters Try.prog 98 = true := by kernel_rfl
theorem fd91_0 : FieldTy Try.prog 91 0 0 1 := FieldTy.of Try.underlying91 (by kernel_rfl) rfl
theorem en90 : enters Try.prog 90 = true := by kernel_rfl
theorem en89 : enters Try.prog 89 = true := by kernel_rfl
theorem fd67_2 : FieldTy Try.prog 67 2 2 1 := FieldTy.of Try.underlying67 (by kernel_rfl) rfl
theorem en91 : enters Try.prog 91 = true := by kernel_rfl
theorem en77 : enters Try.prog 77 = true := by kernel_rfl
theorem en76 : enters Try.prog 76 = true := by kernel_rfl
theorem en78 : enters Try.prog 78 = true := by kernel_rfl
theorem en60 : enters Try.prog 60 = true := by kernel_rfl
theorem sl50 : SlTy Try.prog 50 58 (Act58) := SlTy.of Try.underlying50 (by kernel_rfl) rfl
theorem ty58 : Ty Try.prog 58 (Act58) := Ty.of (by kernel_rfl)
theorem zl58 : ZeroLs Try.prog 58 [(false, 1, Fact.rep [] ((0 : Int) : Int)), (false, 1, Fact.rep [] ((0 : UInt8) : UInt8)), (false, 1, Fact.rep [] ((0 : Int) : Int)), (false, 1, Fact.nilv)] := ⟨⟨[.int .i64 0, .int .u8 0, .int .i64 0, .slice none 0 0], by kernel_rfl, fun g w => FldRel.zr (fun _ _ => rfl) (FldRel.zr (fun _ _ => rfl) (FldRel.zr (fun _ _ => rfl) (FldRel.zn (rfl))))⟩⟩
theorem fd97_0 : FieldTy Try.prog 97 0 0 1 := FieldTy.of Try.underlying97 (by kernel_rfl) rfl
theorem fd97_1 : FieldTy Try.prog 97 1 1 1 := FieldTy.of Try.underlying97 (by kernel_rfl) rfl
theorem bd118 : BuildTyA Try.prog 118 [(0, 1), (1, 1), (2, 1), (3, 1)] [(false, 1, Fact.rep [] ((⟨0⟩ : FnI [63, 64, 65]) : FnI [63, 64, 65])), (false, 1, Fact.rep [] ((⟨0⟩ : FnI [63, 64, 65]) : FnI [63, 64, 65])), (false, 1, Fact.rep [] ((⟨0⟩ : FnI [63, 64, 65]) : FnI [63, 64, 65])), (false, 1, Fact.rep [] ((⟨0⟩ : FnI [63, 64, 65]) : FnI [63, 64, 65]))] := ⟨⟨_, _, 1, [.nilFunc, .nilFunc, .nilFunc, .nilFunc], by kernel_rfl, Try.underlying118, by kernel_rfl, (fun g w => FldRel.zr (fun _ _ => rfl) (FldRel.zr (fun _ _ => rfl) (FldRel.zr (fun _ _ => rfl) (FldRel.zr (fun _ _ => rfl) (rfl))))), rfl⟩⟩
theorem zl118 : ZeroLs Try.prog 118 [(false, 1, Fact.rep [] ((⟨0⟩ : FnI [63, 64, 65]) : FnI [63, 64, 65])), (false, 1, Fact.rep [] ((⟨0⟩ : FnI [63, 64, 65]) : FnI [63, 64, 65])), (false, 1, Fact.rep [] ((⟨0⟩ : FnI [63, 64, 65]) : FnI [63, 64, 65])), (false, 1, Fact.rep [] ((⟨0⟩ : FnI [63, 64, 65]) : FnI [63, 64, 65]))] := ⟨⟨[.nilFunc, .nilFunc, .nilFunc, .nilFunc], by kernel_rfl, fun g w => FldRel.zr (fun _ _ => rfl) (FldRel.zr (fun _ _ => rfl) (FldRel.zr (fun _ _ => rfl) (FldRel.zr (fun _ _ => rfl) (rfl))))⟩⟩
theorem ty118 : Ty Try.prog 118 (Arr4_FnI636465) := Ty.of (by kernel_rfl)
theorem sm118 : SmTy Try.prog 118 95 4 1 := ⟨Try.underlying118, by kernel_rfl⟩
theorem ty95 : Ty Try.prog 95 (FnI [63, 64, 65]) := Ty.of (by kernel_rfl)
theorem en46 : enters Try.prog 46 = true := by kernel_rfl
theorem fd97_2 : FieldTy Try.prog 97 2 2 1 := FieldTy.of Try.underlying97 (by kernel_rfl) rfl
theorem fd97_3 : FieldTy Try.prog 97 3 3 1 := FieldTy.of Try.underlying97 (by kernel_rfl) rfl
theorem en61 : enters Try.prog 61 = true := by kernel_rfl
theorem en44 : enters Try.prog 44 = true := by kernel_rfl
theorem zl67 : ZeroLs Try.prog 67 [(false, 1, Fact.nilv), (false, 1, Fact.nilv), (false, 1, Fact.rep [] (false : Bool))] := ⟨⟨[.slice none 0 0, .slice none 0 0, .bool false], by kernel_rfl, fun g w => FldRel.zn (FldRel.zn (FldRel.zr (fun _ _ => rfl) (rfl)))⟩⟩
theorem bd67 : BuildTy Try.prog 67 [(0, 1), (1, 1), (2, 1)] [(false, 1, Fact.nilv), (false, 1, Fact.nilv), (false, 1, Fact.rep [] (false : Bool))] := ⟨⟨_, [.slice none 0 0, .slice none 0 0, .bool false], by kernel_rfl, Try.underlying67, (fun g w => FldRel.zn (FldRel.zn (FldRel.zr (fun _ _ => rfl) (rfl)))), by kernel_rfl⟩⟩
theorem en68 : enters Try.prog 68 = true := by kernel_rfl
theorem ow64 : OwnTy Try.prog 64 56 (List UInt8) := OwnTy.of Try.underlying64 (by kernel_rfl) rfl (by kernel_rfl)
theorem zl91 : ZeroLs Try.prog 91 [(false, 1, Fact.rep [] ((0 : Int) : Int)), (false, 1, Fact.nilv)] := ⟨⟨[.int .i64 0, .slice none 0 0], by kernel_rfl, fun g w => FldRel.zr (fun _ _ => rfl) (FldRel.zn (rfl))⟩⟩
theorem bd91 : BuildTy Try.prog 91 [(0, 1), (1, 1)] [(false, 1, Fact.rep [] ((0 : Int) : Int)), (false, 1, Fact.nilv)] := ⟨⟨_, [.int .i64 0, .slice none 0 0], by kernel_rfl, Try.underlying91, (fun g w => FldRel.zr (fun _ _ => rfl) (FldRel.zn (rfl))), by kernel_rfl⟩⟩
theorem ow65 : OwnTy Try.prog 65 91 (Write) := OwnTy.of Try.underlying65 (by kernel_rfl) rfl (by kernel_rfl)
theorem en62 : enters Try.prog 62 = true := by kernel_rfl
theorem ow60 : OwnTy Try.prog 60 67 (Disk) := OwnTy.of Try.underlying60 (by kernel_rfl) rfl (by kernel_rfl)
theorem en45 : enters Try.prog 45 = true := by kernel_rfl
theorem fd58_0 : FieldTy Try.prog 58 0 0 1 := FieldTy.of Try.underlying58 (by kernel_rfl) rfl
theorem fd58_1 : FieldTy Try.prog 58 1 1 1 := FieldTy.of Try.underlying58 (by kernel_rfl) rfl
theorem en66 : enters Try.prog 66 = true := by kernel_rfl
theorem en93 : enters Try.prog 93 = true := by kernel_rfl
theorem zt5 : ZeroTy Try.prog 5 (0 : UInt8) := ⟨.int .u8 0, by kernel_rfl, fun _ => rfl⟩
theorem en49 : enters Try.prog 49 = true := by kernel_rfl
theorem en79 : enters Try.prog 79 = true := by kernel_rfl
theorem en94 : enters Try.prog 94 = true := by kernel_rfl
theorem en95 : enters Try.prog 95 = true := by kernel_rfl
theorem zt91 : ZeroTy Try.prog 91 (Write.mk (0 : Int) ([] : List UInt8)) := ⟨.agg #[.int .i64 0, .slice none 0 0], by kernel_rfl, fun _ => ⟨[.int .i64 0], [.slice none 0 0], rfl, rfl, nil_rel⟩⟩
theorem en80 : enters Try.prog 80 = true := by kernel_rfl
theorem en81 : enters Try.prog 81 = true := by kernel_rfl
theorem en63 : enters Try.prog 63 = true := by kernel_rfl
theorem en64 : enters Try.prog 64 = true := by kernel_rfl
theorem en65 : enters Try.prog 65 = true := by kernel_rfl
theorem en29 : enters Try.prog 29 = true := by kernel_rfl
theorem zl56 : ZeroLs Try.prog 56 [(false, 1, Fact.nilv)] := ⟨⟨[.slice none 0 0], by kernel_rfl, fun g w => FldRel.zn (rfl)⟩⟩
theorem zl27 : ZeroLs Try.prog 27 [(false, 1, Fact.rep [] ((0 : Int) : Int))] := ⟨⟨[.int .i64 0], by kernel_rfl, fun g w => FldRel.zr (fun _ _ => rfl) (rfl)⟩⟩
theorem en47 : enters Try.prog 47 = true := by kernel_rfl
theorem ty27 : Ty Try.prog 27 (Int) := Ty.of (by kernel_rfl)
theorem en48 : enters Try.prog 48 = true := by kernel_rfl
theorem en67 : enters Try.prog 67 = true := by kernel_rfl
theorem en30 : enters Try.prog 30 = true := by kernel_rfl
theorem zl71 : ZeroLs Try.prog 71 [(false, 1, Fact.rep [] ((0 : UInt32) : UInt32)), (false, 1, Fact.rep [] ((0 : UInt32) : UInt32)), (false, 1, Fact.rep [] ((0 : Int) : Int)), (false, 1, Fact.rep [] ((0 : Int) : Int)), (false, 1, Fact.rep [] ((0 : Int) : Int)), (false, 1, Fact.rep [] ((0 : Int) : Int)), (false, 1, Fact.rep [] ((0 : Int) : Int)), (false, 1, Fact.rep [] ((0 : Int) : Int)), (false, 1, Fact.rep [] ((0 : Int) : Int)), (false, 1, Fact.rep [] (false : Bool))] := ⟨⟨[.int .u32 0, .int .u32 0, .int .i64 0, .int .i64 0, .int .i64 0, .int .i64 0, .int .i64 0, .int .i64 0, .int .i64 0, .bool false], by kernel_rfl, fun g w => FldRel.zr (fun _ _ => rfl) (FldRel.zr (fun _ _ => rfl) (FldRel.zr (fun _ _ => rfl) (FldRel.zr (fun _ _ => rfl) (FldRel.zr (fun _ _ => rfl) (FldRel.zr (fun _ _ => rfl) (FldRel.zr (fun _ _ => rfl) (FldRel.zr (fun _ _ => rfl) (FldRel.zr (fun _ _ => rfl) (FldRel.zr (fun _ _ => rfl) (rfl))))))))))⟩⟩
theorem en51 : enters Try.prog 51 = true := by kernel_rfl
theorem ow102 : OwnTy Try.prog 102 3 (Int) := OwnTy.of Try.underlying102 (by kernel_rfl) rfl (by kernel_rfl)
theorem sl102 : SlTy Try.prog 102 3 (Int) := SlTy.of Try.underlying102 (by kernel_rfl) rfl
theorem en52 : enters Try.prog 52 = true := by kernel_rfl
theorem en31 : enters Try.prog 31 = true := by kernel_rfl
theorem eqg71 : Try.prog.eqGuardType Try.prog.depth 71 = false := by kernel_rfl
theorem eqs71 : EqV Try.prog 2 71 (Label) := (EqV.viaU Try.underlying71 (by kernel_rfl) (EqF.cons (EqV.mono (k' := 1) (EqV.u32 Try.underlying22) (by decide)) ty22 rfl rfl (EqF.cons (EqV.mono (k' := 1) (EqV.u32 Try.underlying22) (by decide)) ty22 rfl rfl (EqF.cons (EqV.mono (k' := 1) (EqV.i64 Try.underlying3) (by decide)) ty3 rfl rfl (EqF.cons (EqV.mono (k' := 1) (EqV.i64 Try.underlying3) (by decide)) ty3 rfl rfl (EqF.cons (EqV.mono (k' := 1) (EqV.i64 Try.underlying3) (by decide)) ty3 rfl rfl (EqF.cons (EqV.mono (k' := 1) (EqV.i64 Try.underlying3) (by decide)) ty3 rfl rfl (EqF.cons (EqV.mono (k' := 1) (EqV.i64 Try.underlying3) (by decide)) ty3 rfl rfl (EqF.cons (EqV.mono (k' := 1) (EqV.i64 Try.underlying3) (by decide)) ty3 rfl rfl (EqF.cons (EqV.mono (k' := 1) (EqV.i64 Try.underlying3) (by decide)) ty3 rfl rfl (EqF.one (EqV.mono (k' := 1) (EqV.bool Try.underlying4) (by decide)) ty4 rfl rfl)))))))))) (fun x y h => by cases x; cases y; simpa using h))

/-- freeboard/freeboardlaw23.three -/
def law23_three : Option (Config) :=
  some (Config.mk (0 : UInt32) (3 : Int) (1 : Int) (2 : Int) (12 : Int) (2 : Int))
set_option maxRecDepth 100000 in
set_option maxHeartbeats 2000000 in
theorem law23_three_c {r : Config} (hm : law23_three = some r) : Ctr Try.prog 24 [] (.fl r) [] := by
 refine ctr_of_walk [[]] 2 Try.func24 rfl rfl rfl rfl (fun w0 om => ?_)
 unfold law23_three at hm
 refine CWalk.sub (G' := []) (Sub.nil) ?_
 refine CWalk.seq ?_
 refine CWalk.region ?_
 refine ws (Step.allocObj (ls := [(false, 1, Fact.rep [] ((0 : UInt32) : UInt32)), (false, 1, Fact.rep [] ((0 : Int) : Int)), (false, 1, Fact.rep [] ((0 : Int) : Int)), (false, 1, Fact.rep [] ((0 : Int) : Int)), (false, 1, Fact.rep [] ((0 : Int) : Int)), (false, 1, Fact.rep [] ((0 : Int) : Int))]) 10 rfl rfl rfl rfl zl24) ?_
 refine Walk.nil ?_
 refine Leaf.thenN ?_
 refine CWalk.seq ?_
 refine CWalk.region ?_
 refine wo (Spec.build (us := [(1, .const (.int .i64 3)), (2, .const (.int .i64 1)), (3, .const (.int .i64 2)), (4, .const (.int .i64 12)), (5, .const (.int .i64 2))]) (ls' := [(false, 1, Fact.rep [] ((0 : UInt32) : UInt32)), (false, 1, Fact.rep [] ((3 : Int) : Int)), (false, 1, Fact.rep [] ((1 : Int) : Int)), (false, 1, Fact.rep [] ((2 : Int) : Int)), (false, 1, Fact.rep [] ((12 : Int) : Int)), (false, 1, Fact.rep [] ((2 : Int) : Int))]) bd24 rfl (BP.cons rfl rfl Has.int Has.int (BP.cons rfl rfl Has.int Has.int (BP.cons rfl rfl Has.int Has.int (BP.cons rfl rfl Has.int Has.int (BP.cons rfl rfl Has.int Has.int BP.nil)))))) ?_
 refine ws (Step.storeObj (ls := [(false, 1, Fact.rep [] ((0 : UInt32) : UInt32)), (false, 1, Fact.rep [] ((3 : Int) : Int)), (false, 1, Fact.rep [] ((1 : Int) : Int)), (false, 1, Fact.rep [] ((2 : Int) : Int)), (false, 1, Fact.rep [] ((12 : Int) : Int)), (false, 1, Fact.rep [] ((2 : Int) : Int))]) rfl ty24 rfl rfl (Has.s rfl) rfl (HasL.flds (Has.s rfl)) rfl) ?_
 refine Walk.nil ?_
 refine Leaf.thenN ?_
 refine CWalk.ret ?_
 obtain rfl := Option.some.inj hm
 exact Leaf.retC1 rfl (HasR.cv (HasR.obj (ls := [(false, 1, Fact.rep [] ((0 : UInt32) : UInt32)), (false, 1, Fact.rep [] ((3 : Int) : Int)), (false, 1, Fact.rep [] ((1 : Int) : Int)), (false, 1, Fact.rep [] ((2 : Int) : Int)), (false, 1, Fact.rep [] ((12 : Int) : Int)), (false, 1, Fact.rep [] ((2 : Int) : Int))]) ty24 rfl rfl (Has.s rfl) rfl (HasGs.cons (HasG.s rfl) (HasGs.cons (HasG.s rfl) (HasGs.cons (HasG.s rfl) (HasGs.cons (HasG.s rfl) (HasGs.cons (HasG.s rfl) (HasGs.cons (HasG.s rfl) HasGs.nil))))))) (Cv.trans (Cv.trans (Cv.flds (CvL.cons Cv.fl (CvL.cons Cv.fl (CvL.cons Cv.fl (CvL.cons Cv.fl (CvL.cons Cv.fl (CvL.cons Cv.fl CvL.nil))))))) (Cv.close (T := []) (chConfig (Config.mk (0 : UInt32) (3 : Int) (1 : Int) (2 : Int) (12 : Int) (2 : Int))))) Cv.fl))

/-- freeboard/freeboardlaw23.nobody -/
def law23_nobody : Option (Loss) :=
  some (Loss.mk (5 : UInt32) (-1 : Int) false (0 : Int) (0 : Int) false false)
set_option maxRecDepth 100000 in
set_option maxHeartbeats 2000000 in
theorem law23_nobody_c {r : Loss} (hm : law23_nobody = some r) : Ctr Try.prog 21 [] (.fl r) [] := by
 refine ctr_of_walk [[]] 2 Try.func21 rfl rfl rfl rfl (fun w0 om => ?_)
 unfold law23_nobody at hm
 refine CWalk.sub (G' := []) (Sub.nil) ?_
 refine CWalk.seq ?_
 refine CWalk.region ?_
 refine ws (Step.allocObj (ls := [(false, 1, Fact.rep [] ((0 : UInt32) : UInt32)), (false, 1, Fact.rep [] ((0 : Int) : Int)), (false, 1, Fact.rep [] (false : Bool)), (false, 1, Fact.rep [] ((0 : Int) : Int)), (false, 1, Fact.rep [] ((0 : Int) : Int)), (false, 1, Fact.rep [] (false : Bool)), (false, 1, Fact.rep [] (false : Bool))]) 10 rfl rfl rfl rfl zl26) ?_
 refine Walk.nil ?_
 refine Leaf.thenN ?_
 refine CWalk.seq ?_
 refine CWalk.region ?_
 refine wo (Spec.build (us := [(0, .const (.int .u32 5)), (1, .const (.int .i64 (-1)))]) (ls' := [(false, 1, Fact.rep [] ((5 : UInt32) : UInt32)), (false, 1, Fact.rep [] ((-1 : Int) : Int)), (false, 1, Fact.rep [] (false : Bool)), (false, 1, Fact.rep [] ((0 : Int) : Int)), (false, 1, Fact.rep [] ((0 : Int) : Int)), (false, 1, Fact.rep [] (false : Bool)), (false, 1, Fact.rep [] (false : Bool))]) bd26 rfl (BP.cons rfl rfl (Has.u32 5 rfl) (Has.u32 5 rfl) (BP.cons rfl rfl Has.int Has.int BP.nil))) ?_
 refine ws (Step.storeObj (ls := [(false, 1, Fact.rep [] ((5 : UInt32) : UInt32)), (false, 1, Fact.rep [] ((-1 : Int) : Int)), (false, 1, Fact.rep [] (false : Bool)), (false, 1, Fact.rep [] ((0 : Int) : Int)), (false, 1, Fact.rep [] ((0 : Int) : Int)), (false, 1, Fact.rep [] (false : Bool)), (false, 1, Fact.rep [] (false : Bool))]) rfl ty26 rfl rfl (Has.s rfl) rfl (HasL.flds (Has.s rfl)) rfl) ?_
 refine Walk.nil ?_
 refine Leaf.thenN ?_
 refine CWalk.ret ?_
 obtain rfl := Option.some.inj hm
 exact Leaf.retC1 rfl (HasR.cv (HasR.obj (ls := [(false, 1, Fact.rep [] ((5 : UInt32) : UInt32)), (false, 1, Fact.rep [] ((-1 : Int) : Int)), (false, 1, Fact.rep [] (false : Bool)), (false, 1, Fact.rep [] ((0 : Int) : Int)), (false, 1, Fact.rep [] ((0 : Int) : Int)), (false, 1, Fact.rep [] (false : Bool)), (false, 1, Fact.rep [] (false : Bool))]) ty26 rfl rfl (Has.s rfl) rfl (HasGs.cons (HasG.s rfl) (HasGs.cons (HasG.s rfl) (HasGs.cons (HasG.s rfl) (HasGs.cons (HasG.s rfl) (HasGs.cons (HasG.s rfl) (HasGs.cons (HasG.s rfl) (HasGs.cons (HasG.s rfl) HasGs.nil)))))))) (Cv.trans (Cv.trans (Cv.flds (CvL.cons Cv.fl (CvL.cons Cv.fl (CvL.cons Cv.fl (CvL.cons Cv.fl (CvL.cons Cv.fl (CvL.cons Cv.fl (CvL.cons Cv.fl CvL.nil)))))))) (Cv.close (T := []) (chLoss (Loss.mk (5 : UInt32) (-1 : Int) false (0 : Int) (0 : Int) false false)))) Cv.fl))

def shape_bounds_L1 (a0 : List Arr3_Int) (s1 : Int) : Option (Ctl (Int) ((Unit) ⊕ (Unit))) :=
  (bif (decide (s1 < ((a0).length : Int))) then Option.bind (idx a0 s1) (fun x3 => (bif ((decide (x3.e0 < x3.e1)) || (decide (x3.e0 > x3.e2))) then some (Ctl.brk (Sum.inr ())) else some (Ctl.next (wI (s1 + (1 : Int)))))) else some (Ctl.brk (Sum.inl ())))
/-- freeboard/shape.bounds -/
def shape_bounds (a0 : List Arr3_Int) : Option (Bool) :=
  Option.bind (loopM (fun s : Int => shape_bounds_L1 a0 s) FUEL (0 : Int)) (fun b4 => Sum.elim (fun b5 => some true) (fun b6 => some false) b4)
set_option maxRecDepth 100000 in
set_option maxHeartbeats 2000000 in
theorem shape_bounds_c (a0 : List Arr3_Int) {r : Bool} (hm : shape_bounds a0 = some r) : Ctr Try.prog 82 [.rep 0 a0] (.fl r) [] := by
 refine ctr_of_walk [[]] 24 Try.func82 rfl rfl rfl rfl (fun w0 om => ?_)
 unfold shape_bounds at hm
 refine CWalk.sub (G' := [.fact 0 (.rep [0] (a0 : List Arr3_Int))]) (sn Sub.nil) ?_
 refine CWalk.seq ?_
 refine CWalk.region ?_
 refine wo (Spec.assign Has.bool) ?_
 refine Walk.nil ?_
 refine Leaf.thenN ?_
 refine CWalk.seq ?_
 refine CWalk.seq ?_
 refine CWalk.region ?_
 refine mv ?_
 refine wo (Spec.len (Has.s rfl) Try.underlying145) ?_
 refine wo (Spec.move Has.int) ?_
 refine Walk.nil ?_
 refine Leaf.thenN ?_
 refine CWalk.block ?_
 obtain ⟨b4, hb4, hm⟩ := bind_some hm
 refine CWalk.loop (fun s : Int => [.fact 5 (.rep [0] (a0 : List Arr3_Int)), .fact 6 (.rep [] (((a0).length : Int) : Int)), .fact 7 (.rep [] (s : Int))]) (fun b : (Unit) ⊕ (Unit) => Sum.elim (fun b => (Exit.exit 0, [])) (fun b => (Exit.ret, [.fact 2 (.rep [] (false : Bool))])) b) hb4 (su (st (st Sub.nil))) ?_ ?_
 ·rintro s1 c2 hm
  replace hm : shape_bounds_L1 a0 s1 = some c2 := hm
  unfold shape_bounds_L1 at hm
  show CWalk _ [.fact 5 (.rep [0] (a0 : List Arr3_Int)), .fact 6 (.rep [] (((a0).length : Int) : Int)), .fact 7 (.rep [] (s1 : Int))] _ _
  refine CWalk.seq ?_
  refine CWalk.region ?_
  refine wo (Spec.lssI (Has.s rfl) (Has.s rfl)) ?_
  refine Walk.nil ?_
  refine Leaf.thenN ?_
  refine CWalk.seq ?_
  refine CWalk.cond rfl (fun hb => ?_) (fun hb => ?_)
  ·have hm := cond_t hb hm
   refine CWalk.skip ?_
   refine Leaf.thenN ?_
   refine CWalk.seq ?_
   refine CWalk.block ?_
   refine CWalk.seq ?_
   refine CWalk.region ?_
   obtain ⟨x3, hx3, hm⟩ := bind_some hm
   refine wo (Spec.indexAddr hx3 sl145 (Has.s rfl) (Has.s rfl)) ?_
   refine wo ((Spec.load ty133 (Has.s rfl)).flat (T' := [])) ?_
   refine ws (Step.allocObj (ls := [(false, 1, Fact.rep [] ((0 : Int) : Int)), (false, 1, Fact.rep [] ((0 : Int) : Int)), (false, 1, Fact.rep [] ((0 : Int) : Int))]) 10 rfl rfl rfl rfl zl133) ?_
   refine ws (Step.storeObj (ls := [(false, 1, Fact.rep [] x3.e0), (false, 1, Fact.rep [] x3.e1), (false, 1, Fact.rep [] x3.e2)]) rfl ty133 rfl rfl (Has.s rfl) rfl (HasL.flds (Has.cv (Has.s rfl) (Cv.trans (Cv.opens (chArr3_Int x3)) (Cv.flds (CvL.cons Cv.fl (CvL.cons Cv.fl (CvL.cons Cv.fl CvL.nil))))))) rfl) ?_
   refine Walk.nil ?_
   refine Leaf.thenN ?_
   refine CWalk.seq ?_
   refine CWalk.region ?_
   refine wo (Spec.idxC (i := 0) sm133 rfl (Has.cv (Has.s rfl) (Cv.isvP rfl))) ?_
   refine wo (Spec.loadF (i := 0) ty3 rfl (Has.s rfl) rfl (HasG.s rfl)) ?_
   refine wo (Spec.idxC (i := 1) sm133 rfl (Has.cv (Has.s rfl) (Cv.isvP rfl))) ?_
   refine wo (Spec.loadF (i := 1) ty3 rfl (Has.s rfl) rfl (HasG.s rfl)) ?_
   refine wo (Spec.lssI (Has.s rfl) (Has.s rfl)) ?_
   refine mv ?_
   refine wg rfl rfl (fun hb => Spec.idxC (i := 0) sm133 rfl (Has.cv (Has.s rfl) (Cv.isvP rfl))) ?_
   refine wg rfl rfl (fun hb => Spec.loadF (i := 0) ty3 rfl (Has.u rfl hb) rfl (HasG.s rfl)) ?_
   refine wg rfl rfl (fun hb => Spec.idxC (i := 2) sm133 rfl (Has.cv (Has.s rfl) (Cv.isvP rfl))) ?_
   refine wg rfl rfl (fun hb => Spec.loadF (i := 2) ty3 rfl (Has.u rfl hb) rfl (HasG.s rfl)) ?_
   refine wg rfl rfl (fun hb => Spec.gtrI (Has.u rfl hb) (Has.u rfl hb)) ?_
   refine wo (Spec.or (Has.s rfl) (fun h => Has.u rfl h)) ?_
   refine Walk.nil ?_
   refine Leaf.thenN ?_
   refine CWalk.cond rfl (fun hb => ?_) (fun hb => ?_)
   ·have hm := cond_t hb hm
    refine CWalk.seq ?_
    refine CWalk.region ?_
    refine wo (Spec.assign Has.bool) ?_
    refine Walk.nil ?_
    refine Leaf.thenN ?_
    refine CWalk.ret ?_
    refine Leaf.blockR ?_
    refine Leaf.thenR ?_
    exact Leaf.brk hm (fun h => nomatch h) rfl (st Sub.nil)
   ·have hm := cond_f hb hm
    refine CWalk.skip ?_
    refine Leaf.blockN ?_
    refine Leaf.thenN ?_
    refine CWalk.region ?_
    refine wo (Spec.addI (Has.s rfl) Has.int) ?_
    refine mv ?_
    refine Walk.nil ?_
    exact Leaf.next hm (su (st (st Sub.nil)))
  ·have hm := cond_f hb hm
   refine CWalk.exit ?_
   refine Leaf.thenE ?_
   exact Leaf.brk hm (fun h => nomatch h) rfl (Sub.nil)
 ·intro _
  rcases b4 with b5 | b6
  ·have hm := selim_l hm
   refine Leaf.blockE ?_
   refine Leaf.thenN ?_
   refine CWalk.seq ?_
   refine CWalk.region ?_
   refine wo (Spec.assign Has.bool) ?_
   refine Walk.nil ?_
   refine Leaf.thenN ?_
   refine CWalk.ret ?_
   obtain rfl := Option.some.inj hm
   exact Leaf.retC1 rfl (HasR.cv (HasR.tmp (Has.s rfl)) Cv.fl)
  ·have hm := selim_r hm
   refine Leaf.blockR ?_
   refine Leaf.thenR ?_
   obtain rfl := Option.some.inj hm
   exact Leaf.retC1 rfl (HasR.cv (HasR.tmp (Has.s rfl)) Cv.fl)

/-- freeboard/shape.Check -/
def shape_Check (a0 : Config) : Option (Int) :=
  Option.bind (shape_bounds ([(Arr3_Int.mk a0.Members (3 : Int) (16 : Int)), (Arr3_Int.mk a0.Chunk (1 : Int) (8 : Int)), (Arr3_Int.mk a0.Rows (1 : Int) (8 : Int)), (Arr3_Int.mk a0.Heads (2 : Int) (8 : Int))])) (fun x1 => Option.bind (gO (!(!x1)) (shape_bounds ([(Arr3_Int.mk a0.Log (wI ((wI (a0.Members + (1 : Int))) * (wI (a0.Heads + (1 : Int))))) (255 : Int))]))) (fun x2 => (bif ((!x1) || (!x2)) then some (8 : Int) else some (0 : Int))))
set_option maxRecDepth 100000 in
set_option maxHeartbeats 2000000 in
theorem shape_Check_c (a0 : Config) {r : Int} (hm : shape_Check a0 = some r) : Ctr Try.prog 72 [.rep 0 a0] (.fl r) [] := by
 refine ctr_of_walk [[]] 35 Try.func72 rfl rfl rfl rfl (fun w0 om => ?_)
 unfold shape_Check at hm
 refine CWalk.sub (G' := [.fact 0 (.rep [] (a0 : Config))]) (Sub.cons (Has.fl (Has.s rfl)) Sub.nil) ?_
 refine CWalk.seq ?_
 refine CWalk.region ?_
 refine ws (Step.boxObj (ls := [(false, 1, Fact.rep [] a0.Id), (false, 1, Fact.rep [] a0.Members), (false, 1, Fact.rep [] a0.Chunk), (false, 1, Fact.rep [] a0.Rows), (false, 1, Fact.rep [] a0.Log), (false, 1, Fact.rep [] a0.Heads)]) 10 rfl rfl rfl rfl (HasL.flds (Has.cv (Has.s rfl) (Cv.trans (Cv.opens (chConfig a0)) (Cv.flds (CvL.cons Cv.fl (CvL.cons Cv.fl (CvL.cons Cv.fl (CvL.cons Cv.fl (CvL.cons Cv.fl (CvL.cons Cv.fl CvL.nil))))))))))) ?_
 refine wo (Spec.assign Has.int) ?_
 refine Walk.nil ?_
 refine Leaf.thenN ?_
 refine CWalk.seq ?_
 refine CWalk.region ?_
 refine wo (Spec.fieldAddrO fd24_1 (Has.cv (Has.s rfl) (Cv.isvP rfl))) ?_
 refine wo (Spec.loadF (i := 1) ty3 rfl (Has.s rfl) rfl (HasG.s rfl)) ?_
 refine wo (Spec.buildA (us := [(0, .tmp 5), (1, .const (.int .i64 3)), (2, .const (.int .i64 16))]) (ls' := [(false, 1, Fact.rep [] a0.Members), (false, 1, Fact.rep [] ((3 : Int) : Int)), (false, 1, Fact.rep [] ((16 : Int) : Int))]) bd133 rfl (BP.cons rfl rfl (Has.s rfl) (Has.s rfl) (BP.cons rfl rfl Has.int Has.int (BP.cons rfl rfl Has.int Has.int BP.nil)))) ?_
 refine wo (Spec.fieldAddrO fd24_2 (Has.cv (Has.s rfl) (Cv.isvP rfl))) ?_
 refine wo (Spec.loadF (i := 2) ty3 rfl (Has.s rfl) rfl (HasG.s rfl)) ?_
 refine wo (Spec.buildA (us := [(0, .tmp 8), (1, .const (.int .i64 1)), (2, .const (.int .i64 8))]) (ls' := [(false, 1, Fact.rep [] a0.Chunk), (false, 1, Fact.rep [] ((1 : Int) : Int)), (false, 1, Fact.rep [] ((8 : Int) : Int))]) bd133 rfl (BP.cons rfl rfl (Has.s rfl) (Has.s rfl) (BP.cons rfl rfl Has.int Has.int (BP.cons rfl rfl Has.int Has.int BP.nil)))) ?_
 refine wo (Spec.fieldAddrO fd24_3 (Has.cv (Has.s rfl) (Cv.isvP rfl))) ?_
 refine wo (Spec.loadF (i := 3) ty3 rfl (Has.s rfl) rfl (HasG.s rfl)) ?_
 refine wo (Spec.buildA (us := [(0, .tmp 11), (1, .const (.int .i64 1)), (2, .const (.int .i64 8))]) (ls' := [(false, 1, Fact.rep [] a0.Rows), (false, 1, Fact.rep [] ((1 : Int) : Int)), (false, 1, Fact.rep [] ((8 : Int) : Int))]) bd133 rfl (BP.cons rfl rfl (Has.s rfl) (Has.s rfl) (BP.cons rfl rfl Has.int Has.int (BP.cons rfl rfl Has.int Has.int BP.nil)))) ?_
 refine wo (Spec.fieldAddrO fd24_5 (Has.cv (Has.s rfl) (Cv.isvP rfl))) ?_
 refine wo (Spec.loadF (i := 5) ty3 rfl (Has.s rfl) rfl (HasG.s rfl)) ?_
 refine wo (Spec.buildA (us := [(0, .tmp 14), (1, .const (.int .i64 2)), (2, .const (.int .i64 8))]) (ls' := [(false, 1, Fact.rep [] a0.Heads), (false, 1, Fact.rep [] ((2 : Int) : Int)), (false, 1, Fact.rep [] ((8 : Int) : Int))]) bd133 rfl (BP.cons rfl rfl (Has.s rfl) (Has.s rfl) (BP.cons rfl rfl Has.int Has.int (BP.cons rfl rfl Has.int Has.int BP.nil)))) ?_
 refine wo (Spec.lit (xs := [.tmp 6, .tmp 9, .tmp 12, .tmp 15]) (T := []) 17 rfl ow145 rfl rfl rfl rfl (HasEach.cons (Has.fl (Has.cv (Has.s rfl) (Cv.trans (Cv.flds (CvL.cons Cv.fl (CvL.cons Cv.fl (CvL.cons Cv.fl CvL.nil)))) (Cv.close (T := []) (chArr3_Int (Arr3_Int.mk a0.Members (3 : Int) (16 : Int))))))) (HasEach.cons (Has.fl (Has.cv (Has.s rfl) (Cv.trans (Cv.flds (CvL.cons Cv.fl (CvL.cons Cv.fl (CvL.cons Cv.fl CvL.nil)))) (Cv.close (T := []) (chArr3_Int (Arr3_Int.mk a0.Chunk (1 : Int) (8 : Int))))))) (HasEach.cons (Has.fl (Has.cv (Has.s rfl) (Cv.trans (Cv.flds (CvL.cons Cv.fl (CvL.cons Cv.fl (CvL.cons Cv.fl CvL.nil)))) (Cv.close (T := []) (chArr3_Int (Arr3_Int.mk a0.Rows (1 : Int) (8 : Int))))))) (HasEach.cons (Has.fl (Has.cv (Has.s rfl) (Cv.trans (Cv.flds (CvL.cons Cv.fl (CvL.cons Cv.fl (CvL.cons Cv.fl CvL.nil)))) (Cv.close (T := []) (chArr3_Int (Arr3_Int.mk a0.Heads (2 : Int) (8 : Int))))))) HasEach.nil))))) ?_
 obtain ⟨x1, hx1, hm⟩ := bind_some hm
 refine wo (f := Fact.rep [] (x1 : Bool)) (Spec.callE [17] 18 rfl en82 (shape_bounds_c ([(Arr3_Int.mk a0.Members (3 : Int) (16 : Int)), (Arr3_Int.mk a0.Chunk (1 : Int) (8 : Int)), (Arr3_Int.mk a0.Rows (1 : Int) (8 : Int)), (Arr3_Int.mk a0.Heads (2 : Int) (8 : Int))]) hx1) (HasAll.cons (Has.m (Has.s rfl) rfl) HasAll.nil)) ?_
 refine wo (Spec.assign (Has.s rfl)) ?_
 refine Walk.nil ?_
 refine Leaf.thenN ?_
 refine CWalk.seq ?_
 refine CWalk.seq ?_
 refine CWalk.region ?_
 refine mv ?_
 refine wo (Spec.not (Has.s rfl)) ?_
 refine mv ?_
 refine wg rfl rfl (fun hb => Spec.fieldAddrO fd24_4 (Has.cv (Has.s rfl) (Cv.isvP rfl))) ?_
 refine wg rfl rfl (fun hb => Spec.loadF (i := 4) ty3 rfl (Has.u rfl hb) rfl (HasG.s rfl)) ?_
 refine wg rfl rfl (fun hb => Spec.fieldAddrO fd24_1 (Has.cv (Has.s rfl) (Cv.isvP rfl))) ?_
 refine wg rfl rfl (fun hb => Spec.loadF (i := 1) ty3 rfl (Has.u rfl hb) rfl (HasG.s rfl)) ?_
 refine wg rfl rfl (fun hb => Spec.addI (Has.u rfl hb) Has.int) ?_
 refine wg rfl rfl (fun hb => Spec.fieldAddrO fd24_5 (Has.cv (Has.s rfl) (Cv.isvP rfl))) ?_
 refine wg rfl rfl (fun hb => Spec.loadF (i := 5) ty3 rfl (Has.u rfl hb) rfl (HasG.s rfl)) ?_
 refine wg rfl rfl (fun hb => Spec.addI (Has.u rfl hb) Has.int) ?_
 refine wg rfl rfl (fun hb => Spec.mulI (Has.u rfl hb) (Has.u rfl hb)) ?_
 refine wg rfl rfl (fun hb => Spec.buildA (us := [(0, .tmp 22), (1, .tmp 29), (2, .const (.int .i64 255))]) (ls' := [(false, 1, Fact.rep [] a0.Log), (false, 1, Fact.rep [] ((wI ((wI (a0.Members + (1 : Int))) * (wI (a0.Heads + (1 : Int))))) : Int)), (false, 1, Fact.rep [] ((255 : Int) : Int))]) bd133 rfl (BP.cons rfl rfl (Has.u rfl hb) (Has.u rfl hb) (BP.cons rfl rfl (Has.u rfl hb) (Has.u rfl hb) (BP.cons rfl rfl Has.int Has.int BP.nil)))) ?_
 refine wg rfl rfl (fun hb => Spec.lit (xs := [.tmp 30]) (T := []) 19 rfl ow145 rfl rfl rfl rfl (HasEach.cons (Has.fl (Has.cv (Has.u rfl hb) (Cv.trans (Cv.flds (CvL.cons Cv.fl (CvL.cons Cv.fl (CvL.cons Cv.fl CvL.nil)))) (Cv.close (T := []) (chArr3_Int (Arr3_Int.mk a0.Log (wI ((wI (a0.Members + (1 : Int))) * (wI (a0.Heads + (1 : Int))))) (255 : Int))))))) HasEach.nil)) ?_
 obtain ⟨x2, hx2, hm⟩ := bind_some hm
 refine wg (f := Fact.rep [] (x2 : Bool)) rfl rfl (fun hb => Spec.callE [19] 20 rfl en82 (shape_bounds_c ([(Arr3_Int.mk a0.Log (wI ((wI (a0.Members + (1 : Int))) * (wI (a0.Heads + (1 : Int))))) (255 : Int))]) (gO_t hx2 (not_t hb))) (HasAll.cons (Has.m (Has.u rfl hb) rfl) HasAll.nil)) ?_
 refine wg rfl rfl (fun hb => Spec.not (Has.u rfl hb)) ?_
 refine wo (Spec.or (Has.s rfl) (fun h => Has.u rfl h)) ?_
 refine Walk.nil ?_
 refine Leaf.thenN ?_
 refine CWalk.cond rfl (fun hb => ?_) (fun hb => ?_)
 ·have hm := cond_t hb hm
  refine CWalk.seq ?_
  refine CWalk.region ?_
  refine wo (Spec.assign Has.int) ?_
  refine Walk.nil ?_
  refine Leaf.thenN ?_
  refine CWalk.ret ?_
  refine Leaf.thenR ?_
  obtain rfl := Option.some.inj hm
  exact Leaf.retC1 rfl (HasR.cv (HasR.tmp (Has.s rfl)) Cv.fl)
 ·have hm := cond_f hb hm
  refine CWalk.skip ?_
  refine Leaf.thenN ?_
  refine CWalk.seq ?_
  refine CWalk.region ?_
  refine wo (Spec.assign Has.int) ?_
  refine Walk.nil ?_
  refine Leaf.thenN ?_
  refine CWalk.ret ?_
  obtain rfl := Option.some.inj hm
  exact Leaf.retC1 rfl (HasR.cv (HasR.tmp (Has.s rfl)) Cv.fl)

/-- freeboard/shape.told -/
def shape_told (a0 : Config) (a1 : Int) : Option (Int × Int) :=
  Option.bind (shape_Check a0) (fun x1 => (bif (x1 != (0 : Int)) then some ((0 : Int), x1) else some (a1, (0 : Int))))
set_option maxRecDepth 100000 in
set_option maxHeartbeats 2000000 in
theorem shape_told_c (a0 : Config) (a1 : Int) {r : Int × Int} (hm : shape_told a0 a1 = some r) : Ctr Try.prog 53 [.rep 0 a0, .rep 0 a1] (.tup2 (.fl r.1) (.fl r.2)) [] := by
 refine ctr_of_walk [[]] 13 Try.func53 rfl rfl rfl rfl (fun w0 om => ?_)
 unfold shape_told at hm
 refine CWalk.sub (G' := [.fact 0 (.rep [] (a0 : Config)), .fact 1 (.rep [] (a1 : Int))]) (Sub.cons (Has.fl (Has.s rfl)) (Sub.cons (Has.fl (Has.s rfl)) Sub.nil)) ?_
 refine CWalk.seq ?_
 refine CWalk.region ?_
 refine ws (Step.boxObj (ls := [(false, 1, Fact.rep [] a0.Id), (false, 1, Fact.rep [] a0.Members), (false, 1, Fact.rep [] a0.Chunk), (false, 1, Fact.rep [] a0.Rows), (false, 1, Fact.rep [] a0.Log), (false, 1, Fact.rep [] a0.Heads)]) 10 rfl rfl rfl rfl (HasL.flds (Has.cv (Has.s rfl) (Cv.trans (Cv.opens (chConfig a0)) (Cv.flds (CvL.cons Cv.fl (CvL.cons Cv.fl (CvL.cons Cv.fl (CvL.cons Cv.fl (CvL.cons Cv.fl (CvL.cons Cv.fl CvL.nil))))))))))) ?_
 refine wo (Spec.assign Has.int) ?_
 refine wo (Spec.assign Has.int) ?_
 refine Walk.nil ?_
 refine Leaf.thenN ?_
 refine CWalk.seq ?_
 refine CWalk.seq ?_
 refine CWalk.region ?_
 refine wo (Spec.loadObj (ls := [(false, 1, Fact.rep [] a0.Id), (false, 1, Fact.rep [] a0.Members), (false, 1, Fact.rep [] a0.Chunk), (false, 1, Fact.rep [] a0.Rows), (false, 1, Fact.rep [] a0.Log), (false, 1, Fact.rep [] a0.Heads)]) ty24 rfl rfl (Has.s rfl) rfl (HasGs.cons (HasG.s rfl) (HasGs.cons (HasG.s rfl) (HasGs.cons (HasG.s rfl) (HasGs.cons (HasG.s rfl) (HasGs.cons (HasG.s rfl) (HasGs.cons (HasG.s rfl) HasGs.nil))))))) ?_
 obtain ⟨x1, hx1, hm⟩ := bind_some hm
 refine wo (f := Fact.rep [] (x1 : Int)) (Spec.callE [] 17 rfl en72 (shape_Check_c a0 hx1) (HasAll.cons (Has.fl (Has.cv (Has.s rfl) (Cv.trans (Cv.flds (CvL.cons Cv.fl (CvL.cons Cv.fl (CvL.cons Cv.fl (CvL.cons Cv.fl (CvL.cons Cv.fl (CvL.cons Cv.fl CvL.nil))))))) (Cv.close (T := []) (chConfig a0))))) HasAll.nil)) ?_
 refine wo (Spec.assign (Has.s rfl)) ?_
 refine Walk.nil ?_
 refine Leaf.thenN ?_
 refine CWalk.seq ?_
 refine CWalk.region ?_
 refine mv ?_
 refine wo (Spec.neqI (Has.s rfl) Has.int) ?_
 refine Walk.nil ?_
 refine Leaf.thenN ?_
 refine CWalk.cond rfl (fun hb => ?_) (fun hb => ?_)
 ·have hm := cond_t hb hm
  refine CWalk.seq ?_
  refine CWalk.region ?_
  refine mv ?_
  refine wo (Spec.assign Has.int) ?_
  refine wo (Spec.assign (Has.s rfl)) ?_
  refine Walk.nil ?_
  refine Leaf.thenN ?_
  refine CWalk.ret ?_
  refine Leaf.thenR ?_
  obtain rfl := Option.some.inj hm
  exact Leaf.retC2 rfl (HasR.cv (HasR.tmp (Has.s rfl)) Cv.fl) (HasR.cv (HasR.tmp (Has.s rfl)) Cv.fl)
 ·have hm := cond_f hb hm
  refine CWalk.skip ?_
  refine Leaf.thenN ?_
  refine CWalk.seq ?_
  refine CWalk.region ?_
  refine mv ?_
  refine wo (Spec.assign (Has.s rfl)) ?_
  refine wo (Spec.assign Has.int) ?_
  refine Walk.nil ?_
  refine Leaf.thenN ?_
  refine CWalk.ret ?_
  obtain rfl := Option.some.inj hm
  exact Leaf.retC2 rfl (HasR.cv (HasR.tmp (Has.s rfl)) Cv.fl) (HasR.cv (HasR.tmp (Has.s rfl)) Cv.fl)

/-- freeboard/shape.Stripes -/
def shape_Stripes (a0 : Config) : Option (Int × Int) :=
  Option.bind (shape_told a0 (wI (a0.Chunk * a0.Rows))) (fun x1 => some (x1.1, x1.2))
set_option maxRecDepth 100000 in
set_option maxHeartbeats 2000000 in
theorem shape_Stripes_c (a0 : Config) {r : Int × Int} (hm : shape_Stripes a0 = some r) : Ctr Try.prog 32 [.rep 0 a0] (.tup2 (.fl r.1) (.fl r.2)) [] := by
 refine ctr_of_walk [[]] 13 Try.func32 rfl rfl rfl rfl (fun w0 om => ?_)
 unfold shape_Stripes at hm
 refine CWalk.sub (G' := [.fact 0 (.rep [] (a0 : Config))]) (Sub.cons (Has.fl (Has.s rfl)) Sub.nil) ?_
 refine CWalk.seq ?_
 refine CWalk.region ?_
 refine ws (Step.boxObj (ls := [(false, 1, Fact.rep [] a0.Id), (false, 1, Fact.rep [] a0.Members), (false, 1, Fact.rep [] a0.Chunk), (false, 1, Fact.rep [] a0.Rows), (false, 1, Fact.rep [] a0.Log), (false, 1, Fact.rep [] a0.Heads)]) 10 rfl rfl rfl rfl (HasL.flds (Has.cv (Has.s rfl) (Cv.trans (Cv.opens (chConfig a0)) (Cv.flds (CvL.cons Cv.fl (CvL.cons Cv.fl (CvL.cons Cv.fl (CvL.cons Cv.fl (CvL.cons Cv.fl (CvL.cons Cv.fl CvL.nil))))))))))) ?_
 refine wo (Spec.assign Has.int) ?_
 refine wo (Spec.assign Has.int) ?_
 refine Walk.nil ?_
 refine Leaf.thenN ?_
 refine CWalk.seq ?_
 refine CWalk.region ?_
 refine wo (Spec.loadObj (ls := [(false, 1, Fact.rep [] a0.Id), (false, 1, Fact.rep [] a0.Members), (false, 1, Fact.rep [] a0.Chunk), (false, 1, Fact.rep [] a0.Rows), (false, 1, Fact.rep [] a0.Log), (false, 1, Fact.rep [] a0.Heads)]) ty24 rfl rfl (Has.s rfl) rfl (HasGs.cons (HasG.s rfl) (HasGs.cons (HasG.s rfl) (HasGs.cons (HasG.s rfl) (HasGs.cons (HasG.s rfl) (HasGs.cons (HasG.s rfl) (HasGs.cons (HasG.s rfl) HasGs.nil))))))) ?_
 refine wo (Spec.fieldAddrO fd24_2 (Has.cv (Has.s rfl) (Cv.isvP rfl))) ?_
 refine wo (Spec.loadF (i := 2) ty3 rfl (Has.s rfl) rfl (HasG.s rfl)) ?_
 refine wo (Spec.fieldAddrO fd24_3 (Has.cv (Has.s rfl) (Cv.isvP rfl))) ?_
 refine wo (Spec.loadF (i := 3) ty3 rfl (Has.s rfl) rfl (HasG.s rfl)) ?_
 refine wo (Spec.mulI (Has.s rfl) (Has.s rfl)) ?_
 obtain ⟨x1, hx1, hm⟩ := bind_some hm
 refine wo (f := Fact.tup2 (Fact.rep [] x1.1) (Fact.rep [] x1.2)) (Spec.callE [] 17 rfl en53 (shape_told_c a0 (wI (a0.Chunk * a0.Rows)) hx1) (HasAll.cons (Has.fl (Has.cv (Has.s rfl) (Cv.trans (Cv.flds (CvL.cons Cv.fl (CvL.cons Cv.fl (CvL.cons Cv.fl (CvL.cons Cv.fl (CvL.cons Cv.fl (CvL.cons Cv.fl CvL.nil))))))) (Cv.close (T := []) (chConfig a0))))) (HasAll.cons (Has.fl (Has.s rfl)) HasAll.nil))) ?_
 refine wo (Spec.ext0 (Has.s rfl)) ?_
 refine wo (Spec.ext1 (Has.s rfl)) ?_
 refine wo (Spec.assign (Has.s rfl)) ?_
 refine wo (Spec.assign (Has.s rfl)) ?_
 refine Walk.nil ?_
 refine Leaf.thenN ?_
 refine CWalk.ret ?_
 obtain rfl := Option.some.inj hm
 exact Leaf.retC2 rfl (HasR.cv (HasR.tmp (Has.s rfl)) Cv.fl) (HasR.cv (HasR.tmp (Has.s rfl)) Cv.fl)

/-- freeboard/loss.Check -/
def loss_Check (a0 : Config) (a1 : Loss) : Option (Int) :=
  Option.bind (shape_Stripes a0) (fun x1 => (bif (((((((x1.2 != (0 : Int)) || (decide ((a1.Events.toNat : Int) > ((2147483648 : UInt32).toNat : Int)))) || (decide (a1.Lost < (-1 : Int)))) || (decide (a1.Lost ≥ a0.Members))) || (decide (a1.Done < (0 : Int)))) || (decide (a1.Done > a1.Pos))) || (decide (a1.Pos > x1.1))) then some (8 : Int) else (bif ((a1.Spare && (a1.Lost == (-1 : Int))) || ((!a1.Spare) && (decide (a1.Pos > (0 : Int))))) then some (8 : Int) else some (0 : Int))))
set_option maxRecDepth 100000 in
set_option maxHeartbeats 2000000 in
theorem loss_Check_c (a0 : Config) (a1 : Loss) {r : Int} (hm : loss_Check a0 a1 = some r) : Ctr Try.prog 18 [.rep 0 a0, .rep 0 a1] (.fl r) [] := by
 refine ctr_of_walk [[]] 66 Try.func18 rfl rfl rfl rfl (fun w0 om => ?_)
 unfold loss_Check at hm
 refine CWalk.sub (G' := [.fact 0 (.rep [] (a0 : Config)), .fact 1 (.rep [] (a1 : Loss))]) (Sub.cons (Has.fl (Has.s rfl)) (Sub.cons (Has.fl (Has.s rfl)) Sub.nil)) ?_
 refine CWalk.seq ?_
 refine CWalk.region ?_
 refine ws (Step.boxObj (ls := [(false, 1, Fact.rep [] a0.Id), (false, 1, Fact.rep [] a0.Members), (false, 1, Fact.rep [] a0.Chunk), (false, 1, Fact.rep [] a0.Rows), (false, 1, Fact.rep [] a0.Log), (false, 1, Fact.rep [] a0.Heads)]) 10 rfl rfl rfl rfl (HasL.flds (Has.cv (Has.s rfl) (Cv.trans (Cv.opens (chConfig a0)) (Cv.flds (CvL.cons Cv.fl (CvL.cons Cv.fl (CvL.cons Cv.fl (CvL.cons Cv.fl (CvL.cons Cv.fl (CvL.cons Cv.fl CvL.nil))))))))))) ?_
 refine ws (Step.boxObj (ls := [(false, 1, Fact.rep [] a1.Events), (false, 1, Fact.rep [] a1.Lost), (false, 1, Fact.rep [] a1.Spare), (false, 1, Fact.rep [] a1.Pos), (false, 1, Fact.rep [] a1.Done), (false, 1, Fact.rep [] a1.NoLog), (false, 1, Fact.rep [] a1.Broken)]) 17 rfl rfl rfl rfl (HasL.flds (Has.cv (Has.s rfl) (Cv.trans (Cv.opens (chLoss a1)) (Cv.flds (CvL.cons Cv.fl (CvL.cons Cv.fl (CvL.cons Cv.fl (CvL.cons Cv.fl (CvL.cons Cv.fl (CvL.cons Cv.fl (CvL.cons Cv.fl CvL.nil)))))))))))) ?_
 refine wo (Spec.assign Has.int) ?_
 refine Walk.nil ?_
 refine Leaf.thenN ?_
 refine CWalk.seq ?_
 refine CWalk.region ?_
 refine wo (Spec.loadObj (ls := [(false, 1, Fact.rep [] a0.Id), (false, 1, Fact.rep [] a0.Members), (false, 1, Fact.rep [] a0.Chunk), (false, 1, Fact.rep [] a0.Rows), (false, 1, Fact.rep [] a0.Log), (false, 1, Fact.rep [] a0.Heads)]) ty24 rfl rfl (Has.s rfl) rfl (HasGs.cons (HasG.s rfl) (HasGs.cons (HasG.s rfl) (HasGs.cons (HasG.s rfl) (HasGs.cons (HasG.s rfl) (HasGs.cons (HasG.s rfl) (HasGs.cons (HasG.s rfl) HasGs.nil))))))) ?_
 obtain ⟨x1, hx1, hm⟩ := bind_some hm
 refine wo (f := Fact.tup2 (Fact.rep [] x1.1) (Fact.rep [] x1.2)) (Spec.callE [] 25 rfl en32 (shape_Stripes_c a0 hx1) (HasAll.cons (Has.fl (Has.cv (Has.s rfl) (Cv.trans (Cv.flds (CvL.cons Cv.fl (CvL.cons Cv.fl (CvL.cons Cv.fl (CvL.cons Cv.fl (CvL.cons Cv.fl (CvL.cons Cv.fl CvL.nil))))))) (Cv.close (T := []) (chConfig a0))))) HasAll.nil)) ?_
 refine mv ?_
 refine wo (Spec.ext0 (Has.s rfl)) ?_
 refine wo (Spec.ext1 (Has.s rfl)) ?_
 refine wo (Spec.assign (Has.s rfl)) ?_
 refine wo (Spec.assign (Has.s rfl)) ?_
 refine Walk.nil ?_
 refine Leaf.thenN ?_
 refine CWalk.seq ?_
 refine CWalk.seq ?_
 refine CWalk.region ?_
 refine mv ?_
 refine wo (Spec.neqI (Has.s rfl) Has.int) ?_
 refine mv ?_
 refine wg rfl rfl (fun hb => Spec.fieldAddrO fd26_0 (Has.cv (Has.s rfl) (Cv.isvP rfl))) ?_
 refine wg rfl rfl (fun hb => Spec.loadF (i := 0) ty22 rfl (Has.u rfl hb) rfl (HasG.s rfl)) ?_
 refine wg rfl rfl (fun hb => Spec.gtrN (α := UInt32) (Has.u rfl hb) (Has.u32 2147483648 rfl)) ?_
 refine wo (Spec.or (Has.s rfl) (fun h => Has.u rfl h)) ?_
 refine mv ?_
 refine wg rfl rfl (fun hb => Spec.fieldAddrO fd26_1 (Has.cv (Has.s rfl) (Cv.isvP rfl))) ?_
 refine wg rfl rfl (fun hb => Spec.loadF (i := 1) ty3 rfl (Has.u rfl hb) rfl (HasG.s rfl)) ?_
 refine wg rfl rfl (fun hb => Spec.lssI (Has.u rfl hb) Has.int) ?_
 refine wo (Spec.or (Has.s rfl) (fun h => Has.u rfl h)) ?_
 refine mv ?_
 refine wg rfl rfl (fun hb => Spec.fieldAddrO fd26_1 (Has.cv (Has.s rfl) (Cv.isvP rfl))) ?_
 refine wg rfl rfl (fun hb => Spec.loadF (i := 1) ty3 rfl (Has.u rfl hb) rfl (HasG.s rfl)) ?_
 refine wg rfl rfl (fun hb => Spec.fieldAddrO fd24_1 (Has.cv (Has.s rfl) (Cv.isvP rfl))) ?_
 refine wg rfl rfl (fun hb => Spec.loadF (i := 1) ty3 rfl (Has.u rfl hb) rfl (HasG.s rfl)) ?_
 refine wg rfl rfl (fun hb => Spec.geqI (Has.u rfl hb) (Has.u rfl hb)) ?_
 refine wo (Spec.or (Has.s rfl) (fun h => Has.u rfl h)) ?_
 refine mv ?_
 refine wg rfl rfl (fun hb => Spec.fieldAddrO fd26_4 (Has.cv (Has.s rfl) (Cv.isvP rfl))) ?_
 refine wg rfl rfl (fun hb => Spec.loadF (i := 4) ty3 rfl (Has.u rfl hb) rfl (HasG.s rfl)) ?_
 refine wg rfl rfl (fun hb => Spec.lssI (Has.u rfl hb) Has.int) ?_
 refine wo (Spec.or (Has.s rfl) (fun h => Has.u rfl h)) ?_
 refine mv ?_
 refine wg rfl rfl (fun hb => Spec.fieldAddrO fd26_4 (Has.cv (Has.s rfl) (Cv.isvP rfl))) ?_
 refine wg rfl rfl (fun hb => Spec.loadF (i := 4) ty3 rfl (Has.u rfl hb) rfl (HasG.s rfl)) ?_
 refine wg rfl rfl (fun hb => Spec.fieldAddrO fd26_3 (Has.cv (Has.s rfl) (Cv.isvP rfl))) ?_
 refine wg rfl rfl (fun hb => Spec.loadF (i := 3) ty3 rfl (Has.u rfl hb) rfl (HasG.s rfl)) ?_
 refine wg rfl rfl (fun hb => Spec.gtrI (Has.u rfl hb) (Has.u rfl hb)) ?_
 refine wo (Spec.or (Has.s rfl) (fun h => Has.u rfl h)) ?_
 refine mv ?_
 refine wg rfl rfl (fun hb => Spec.fieldAddrO fd26_3 (Has.cv (Has.s rfl) (Cv.isvP rfl))) ?_
 refine wg rfl rfl (fun hb => Spec.loadF (i := 3) ty3 rfl (Has.u rfl hb) rfl (HasG.s rfl)) ?_
 refine wg rfl rfl (fun hb => Spec.move (Has.s rfl)) ?_
 refine wg rfl rfl (fun hb => Spec.gtrI (Has.u rfl hb) (Has.u rfl hb)) ?_
 refine wo (Spec.or (Has.s rfl) (fun h => Has.u rfl h)) ?_
 refine Walk.nil ?_
 refine Leaf.thenN ?_
 refine CWalk.cond rfl (fun hb => ?_) (fun hb => ?_)
 ·have hm := cond_t hb hm
  refine CWalk.seq ?_
  refine CWalk.region ?_
  refine wo (Spec.assign Has.int) ?_
  refine Walk.nil ?_
  refine Leaf.thenN ?_
  refine CWalk.ret ?_
  refine Leaf.thenR ?_
  obtain rfl := Option.some.inj hm
  exact Leaf.retC1 rfl (HasR.cv (HasR.tmp (Has.s rfl)) Cv.fl)
 ·have hm := cond_f hb hm
  refine CWalk.skip ?_
  refine Leaf.thenN ?_
  refine CWalk.seq ?_
  refine CWalk.seq ?_
  refine CWalk.region ?_
  refine wo (Spec.fieldAddrO fd26_2 (Has.cv (Has.s rfl) (Cv.isvP rfl))) ?_
  refine wo (Spec.loadF (i := 2) ty4 rfl (Has.s rfl) rfl (HasG.s rfl)) ?_
  refine mv ?_
  refine wg rfl rfl (fun hb => Spec.fieldAddrO fd26_1 (Has.cv (Has.s rfl) (Cv.isvP rfl))) ?_
  refine wg rfl rfl (fun hb => Spec.loadF (i := 1) ty3 rfl (Has.u rfl hb) rfl (HasG.s rfl)) ?_
  refine wg rfl rfl (fun hb => Spec.eqlI (Has.u rfl hb) Has.int) ?_
  refine wo (Spec.and (Has.s rfl) (fun h => Has.u rfl h)) ?_
  refine mv ?_
  refine wg rfl rfl (fun hb => Spec.fieldAddrO fd26_2 (Has.cv (Has.s rfl) (Cv.isvP rfl))) ?_
  refine wg rfl rfl (fun hb => Spec.loadF (i := 2) ty4 rfl (Has.u rfl hb) rfl (HasG.s rfl)) ?_
  refine wg rfl rfl (fun hb => Spec.not (Has.u rfl hb)) ?_
  refine wg rfl rfl (fun hb => Spec.move (Has.u rfl hb)) ?_
  refine Walk.opgu rfl rfl rfl (fun hb => Spec.fieldAddrO fd26_3 (Has.cv (Has.s rfl) (Cv.isvP rfl))) ?_
  refine Walk.opgu rfl rfl rfl (fun hb => Spec.loadF (i := 3) ty3 rfl (Has.u rfl hb) rfl (HasG.s rfl)) ?_
  refine Walk.opgu rfl rfl rfl (fun hb => Spec.gtrI (Has.u rfl hb) Has.int) ?_
  refine wg rfl rfl (fun hb => Spec.and (Has.u rfl hb) (fun h => Has.u rfl ⟨hb, h⟩)) ?_
  refine wo (Spec.or (Has.s rfl) (fun h => Has.u rfl h)) ?_
  refine Walk.nil ?_
  refine Leaf.thenN ?_
  refine CWalk.cond rfl (fun hb => ?_) (fun hb => ?_)
  ·have hm := cond_t hb hm
   refine CWalk.seq ?_
   refine CWalk.region ?_
   refine wo (Spec.assign Has.int) ?_
   refine Walk.nil ?_
   refine Leaf.thenN ?_
   refine CWalk.ret ?_
   refine Leaf.thenR ?_
   obtain rfl := Option.some.inj hm
   exact Leaf.retC1 rfl (HasR.cv (HasR.tmp (Has.s rfl)) Cv.fl)
  ·have hm := cond_f hb hm
   refine CWalk.skip ?_
   refine Leaf.thenN ?_
   refine CWalk.seq ?_
   refine CWalk.region ?_
   refine wo (Spec.assign Has.int) ?_
   refine Walk.nil ?_
   refine Leaf.thenN ?_
   refine CWalk.ret ?_
   obtain rfl := Option.some.inj hm
   exact Leaf.retC1 rfl (HasR.cv (HasR.tmp (Has.s rfl)) Cv.fl)

def loss_Die_J1 (a1 : Loss) (j2 : Int) (j3 : Bool) (j4 : Int) (j5 : Int) (j6 : Bool) (j7 : Bool) : Option (Loss × Int) :=
  some ((Loss.mk a1.Events j2 j3 j4 j5 j6 j7), (0 : Int))
def loss_Die_J2 (a1 : Loss) (j8 : Bool) : Option (Loss × Int) :=
  (loss_Die_J1 a1 a1.Lost a1.Spare a1.Pos a1.Done j8 true)
def loss_Die_J3 (a1 : Loss) (a2 : Int) : Option (Loss × Int) :=
  (loss_Die_J1 a1 a2 false (0 : Int) (0 : Int) a1.NoLog a1.Broken)
/-- freeboard/loss.Die -/
def loss_Die (a0 : Config) (a1 : Loss) (a2 : Int) (a3 : Bool) : Option (Loss × Int) :=
  Option.bind (loss_Check a0 a1) (fun x1 => (bif (x1 != (0 : Int)) then some ((Loss.mk (0 : UInt32) (0 : Int) false (0 : Int) (0 : Int) false false), x1) else (bif ((decide (a2 < (0 : Int))) || (decide (a2 > a0.Members))) then some ((Loss.mk (0 : UInt32) (0 : Int) false (0 : Int) (0 : Int) false false), (2 : Int)) else (bif ((a2 == a0.Members) && (!a3)) then (loss_Die_J1 a1 a1.Lost a1.Spare a1.Pos a1.Done true a1.Broken) else (bif (a2 == a0.Members) then (loss_Die_J2 a1 true) else (bif ((a1.Lost != (-1 : Int)) && (a1.Lost != a2)) then (loss_Die_J2 a1 a1.NoLog) else (loss_Die_J3 a1 a2)))))))
set_option maxRecDepth 100000 in
set_option maxHeartbeats 2000000 in
theorem loss_Die_c (a0 : Config) (a1 : Loss) (a2 : Int) (a3 : Bool) {r : Loss × Int} (hm : loss_Die a0 a1 a2 a3 = some r) : Ctr Try.prog 10 [.rep 0 a0, .rep 0 a1, .rep 0 a2, .rep 0 a3] (.tup2 (.fl r.1) (.fl r.2)) [] := by
 refine ctr_of_walk [[]] 40 Try.func10 rfl rfl rfl rfl (fun w0 om => ?_)
 unfold loss_Die at hm
 refine CWalk.sub (G' := [.fact 0 (.rep [] (a0 : Config)), .fact 1 (.rep [] (a1 : Loss)), .fact 2 (.rep [] (a2 : Int)), .fact 3 (.rep [] (a3 : Bool))]) (Sub.cons (Has.fl (Has.s rfl)) (Sub.cons (Has.fl (Has.s rfl)) (Sub.cons (Has.fl (Has.s rfl)) (Sub.cons (Has.fl (Has.s rfl)) Sub.nil)))) ?_
 refine CWalk.seq ?_
 refine CWalk.region ?_
 refine ws (Step.boxObj (ls := [(false, 1, Fact.rep [] a0.Id), (false, 1, Fact.rep [] a0.Members), (false, 1, Fact.rep [] a0.Chunk), (false, 1, Fact.rep [] a0.Rows), (false, 1, Fact.rep [] a0.Log), (false, 1, Fact.rep [] a0.Heads)]) 10 rfl rfl rfl rfl (HasL.flds (Has.cv (Has.s rfl) (Cv.trans (Cv.opens (chConfig a0)) (Cv.flds (CvL.cons Cv.fl (CvL.cons Cv.fl (CvL.cons Cv.fl (CvL.cons Cv.fl (CvL.cons Cv.fl (CvL.cons Cv.fl CvL.nil))))))))))) ?_
 refine ws (Step.boxObj (ls := [(false, 1, Fact.rep [] a1.Events), (false, 1, Fact.rep [] a1.Lost), (false, 1, Fact.rep [] a1.Spare), (false, 1, Fact.rep [] a1.Pos), (false, 1, Fact.rep [] a1.Done), (false, 1, Fact.rep [] a1.NoLog), (false, 1, Fact.rep [] a1.Broken)]) 17 rfl rfl rfl rfl (HasL.flds (Has.cv (Has.s rfl) (Cv.trans (Cv.opens (chLoss a1)) (Cv.flds (CvL.cons Cv.fl (CvL.cons Cv.fl (CvL.cons Cv.fl (CvL.cons Cv.fl (CvL.cons Cv.fl (CvL.cons Cv.fl (CvL.cons Cv.fl CvL.nil)))))))))))) ?_
 refine ws (Step.allocObj (ls := [(false, 1, Fact.rep [] ((0 : UInt32) : UInt32)), (false, 1, Fact.rep [] ((0 : Int) : Int)), (false, 1, Fact.rep [] (false : Bool)), (false, 1, Fact.rep [] ((0 : Int) : Int)), (false, 1, Fact.rep [] ((0 : Int) : Int)), (false, 1, Fact.rep [] (false : Bool)), (false, 1, Fact.rep [] (false : Bool))]) 25 rfl rfl rfl rfl zl26) ?_
 refine wo (Spec.assign Has.int) ?_
 refine Walk.nil ?_
 refine Leaf.thenN ?_
 refine CWalk.seq ?_
 refine CWalk.seq ?_
 refine CWalk.region ?_
 refine wo (Spec.loadObj (ls := [(false, 1, Fact.rep [] a0.Id), (false, 1, Fact.rep [] a0.Members), (false, 1, Fact.rep [] a0.Chunk), (false, 1, Fact.rep [] a0.Rows), (false, 1, Fact.rep [] a0.Log), (false, 1, Fact.rep [] a0.Heads)]) ty24 rfl rfl (Has.s rfl) rfl (HasGs.cons (HasG.s rfl) (HasGs.cons (HasG.s rfl) (HasGs.cons (HasG.s rfl) (HasGs.cons (HasG.s rfl) (HasGs.cons (HasG.s rfl) (HasGs.cons (HasG.s rfl) HasGs.nil))))))) ?_
 refine wo (Spec.loadObj (ls := [(false, 1, Fact.rep [] a1.Events), (false, 1, Fact.rep [] a1.Lost), (false, 1, Fact.rep [] a1.Spare), (false, 1, Fact.rep [] a1.Pos), (false, 1, Fact.rep [] a1.Done), (false, 1, Fact.rep [] a1.NoLog), (false, 1, Fact.rep [] a1.Broken)]) ty26 rfl rfl (Has.s rfl) rfl (HasGs.cons (HasG.s rfl) (HasGs.cons (HasG.s rfl) (HasGs.cons (HasG.s rfl) (HasGs.cons (HasG.s rfl) (HasGs.cons (HasG.s rfl) (HasGs.cons (HasG.s rfl) (HasGs.cons (HasG.s rfl) HasGs.nil)))))))) ?_
 obtain ⟨x1, hx1, hm⟩ := bind_some hm
 refine wo (f := Fact.rep [] (x1 : Int)) (Spec.callE [] 33 rfl en18 (loss_Check_c a0 a1 hx1) (HasAll.cons (Has.fl (Has.cv (Has.s rfl) (Cv.trans (Cv.flds (CvL.cons Cv.fl (CvL.cons Cv.fl (CvL.cons Cv.fl (CvL.cons Cv.fl (CvL.cons Cv.fl (CvL.cons Cv.fl CvL.nil))))))) (Cv.close (T := []) (chConfig a0))))) (HasAll.cons (Has.fl (Has.cv (Has.s rfl) (Cv.trans (Cv.flds (CvL.cons Cv.fl (CvL.cons Cv.fl (CvL.cons Cv.fl (CvL.cons Cv.fl (CvL.cons Cv.fl (CvL.cons Cv.fl (CvL.cons Cv.fl CvL.nil)))))))) (Cv.close (T := []) (chLoss a1))))) HasAll.nil))) ?_
 refine wo (Spec.assign (Has.s rfl)) ?_
 refine Walk.nil ?_
 refine Leaf.thenN ?_
 refine CWalk.seq ?_
 refine CWalk.region ?_
 refine mv ?_
 refine wo (Spec.neqI (Has.s rfl) Has.int) ?_
 refine Walk.nil ?_
 refine Leaf.thenN ?_
 refine CWalk.cond rfl (fun hb => ?_) (fun hb => ?_)
 ·have hm := cond_t hb hm
  refine CWalk.seq ?_
  refine CWalk.region ?_
  refine wo (Spec.build (us := []) (ls' := [(false, 1, Fact.rep [] ((0 : UInt32) : UInt32)), (false, 1, Fact.rep [] ((0 : Int) : Int)), (false, 1, Fact.rep [] (false : Bool)), (false, 1, Fact.rep [] ((0 : Int) : Int)), (false, 1, Fact.rep [] ((0 : Int) : Int)), (false, 1, Fact.rep [] (false : Bool)), (false, 1, Fact.rep [] (false : Bool))]) bd26 rfl BP.nil) ?_
  refine mv ?_
  refine ws (Step.storeObj (ls := [(false, 1, Fact.rep [] ((0 : UInt32) : UInt32)), (false, 1, Fact.rep [] ((0 : Int) : Int)), (false, 1, Fact.rep [] (false : Bool)), (false, 1, Fact.rep [] ((0 : Int) : Int)), (false, 1, Fact.rep [] ((0 : Int) : Int)), (false, 1, Fact.rep [] (false : Bool)), (false, 1, Fact.rep [] (false : Bool))]) rfl ty26 rfl rfl (Has.s rfl) rfl (HasL.flds (Has.s rfl)) rfl) ?_
  refine wo (Spec.assign (Has.s rfl)) ?_
  refine Walk.nil ?_
  refine Leaf.thenN ?_
  refine CWalk.ret ?_
  refine Leaf.thenR ?_
  obtain rfl := Option.some.inj hm
  exact Leaf.retC2 rfl (HasR.cv (HasR.obj (ls := [(false, 1, Fact.rep [] ((0 : UInt32) : UInt32)), (false, 1, Fact.rep [] ((0 : Int) : Int)), (false, 1, Fact.rep [] (false : Bool)), (false, 1, Fact.rep [] ((0 : Int) : Int)), (false, 1, Fact.rep [] ((0 : Int) : Int)), (false, 1, Fact.rep [] (false : Bool)), (false, 1, Fact.rep [] (false : Bool))]) ty26 rfl rfl (Has.s rfl) rfl (HasGs.cons (HasG.s rfl) (HasGs.cons (HasG.s rfl) (HasGs.cons (HasG.s rfl) (HasGs.cons (HasG.s rfl) (HasGs.cons (HasG.s rfl) (HasGs.cons (HasG.s rfl) (HasGs.cons (HasG.s rfl) HasGs.nil)))))))) (Cv.trans (Cv.trans (Cv.flds (CvL.cons Cv.fl (CvL.cons Cv.fl (CvL.cons Cv.fl (CvL.cons Cv.fl (CvL.cons Cv.fl (CvL.cons Cv.fl (CvL.cons Cv.fl CvL.nil)))))))) (Cv.close (T := []) (chLoss (Loss.mk (0 : UInt32) (0 : Int) false (0 : Int) (0 : Int) false false)))) Cv.fl)) (HasR.cv (HasR.tmp (Has.s rfl)) Cv.fl)
 ·have hm := cond_f hb hm
  refine CWalk.skip ?_
  refine Leaf.thenN ?_
  refine CWalk.seq ?_
  refine CWalk.seq ?_
  refine CWalk.region ?_
  refine mv ?_
  refine wo (Spec.lssI (Has.s rfl) Has.int) ?_
  refine mv ?_
  refine wg rfl rfl (fun hb => Spec.move (Has.s rfl)) ?_
  refine wg rfl rfl (fun hb => Spec.fieldAddrO fd24_1 (Has.cv (Has.s rfl) (Cv.isvP rfl))) ?_
  refine wg rfl rfl (fun hb => Spec.loadF (i := 1) ty3 rfl (Has.u rfl hb) rfl (HasG.s rfl)) ?_
  refine wg rfl rfl (fun hb => Spec.gtrI (Has.u rfl hb) (Has.u rfl hb)) ?_
  refine wo (Spec.or (Has.s rfl) (fun h => Has.u rfl h)) ?_
  refine Walk.nil ?_
  refine Leaf.thenN ?_
  refine CWalk.cond rfl (fun hb => ?_) (fun hb => ?_)
  ·have hm := cond_t hb hm
   refine CWalk.seq ?_
   refine CWalk.region ?_
   refine wo (Spec.build (us := []) (ls' := [(false, 1, Fact.rep [] ((0 : UInt32) : UInt32)), (false, 1, Fact.rep [] ((0 : Int) : Int)), (false, 1, Fact.rep [] (false : Bool)), (false, 1, Fact.rep [] ((0 : Int) : Int)), (false, 1, Fact.rep [] ((0 : Int) : Int)), (false, 1, Fact.rep [] (false : Bool)), (false, 1, Fact.rep [] (false : Bool))]) bd26 rfl BP.nil) ?_
   refine ws (Step.storeObj (ls := [(false, 1, Fact.rep [] ((0 : UInt32) : UInt32)), (false, 1, Fact.rep [] ((0 : Int) : Int)), (false, 1, Fact.rep [] (false : Bool)), (false, 1, Fact.rep [] ((0 : Int) : Int)), (false, 1, Fact.rep [] ((0 : Int) : Int)), (false, 1, Fact.rep [] (false : Bool)), (false, 1, Fact.rep [] (false : Bool))]) rfl ty26 rfl rfl (Has.s rfl) rfl (HasL.flds (Has.s rfl)) rfl) ?_
   refine wo (Spec.assign Has.int) ?_
   refine Walk.nil ?_
   refine Leaf.thenN ?_
   refine CWalk.ret ?_
   refine Leaf.thenR ?_
   obtain rfl := Option.some.inj hm
   exact Leaf.retC2 rfl (HasR.cv (HasR.obj (ls := [(false, 1, Fact.rep [] ((0 : UInt32) : UInt32)), (false, 1, Fact.rep [] ((0 : Int) : Int)), (false, 1, Fact.rep [] (false : Bool)), (false, 1, Fact.rep [] ((0 : Int) : Int)), (false, 1, Fact.rep [] ((0 : Int) : Int)), (false, 1, Fact.rep [] (false : Bool)), (false, 1, Fact.rep [] (false : Bool))]) ty26 rfl rfl (Has.s rfl) rfl (HasGs.cons (HasG.s rfl) (HasGs.cons (HasG.s rfl) (HasGs.cons (HasG.s rfl) (HasGs.cons (HasG.s rfl) (HasGs.cons (HasG.s rfl) (HasGs.cons (HasG.s rfl) (HasGs.cons (HasG.s rfl) HasGs.nil)))))))) (Cv.trans (Cv.trans (Cv.flds (CvL.cons Cv.fl (CvL.cons Cv.fl (CvL.cons Cv.fl (CvL.cons Cv.fl (CvL.cons Cv.fl (CvL.cons Cv.fl (CvL.cons Cv.fl CvL.nil)))))))) (Cv.close (T := []) (chLoss (Loss.mk (0 : UInt32) (0 : Int) false (0 : Int) (0 : Int) false false)))) Cv.fl)) (HasR.cv (HasR.tmp (Has.s rfl)) Cv.fl)
  ·have hm := cond_f hb hm
   refine CWalk.skip ?_
   refine Leaf.thenN ?_
   refine CWalk.seq ?_
   refine CWalk.region ?_
   refine wo (Spec.loadObj (ls := [(false, 1, Fact.rep [] a1.Events), (false, 1, Fact.rep [] a1.Lost), (false, 1, Fact.rep [] a1.Spare), (false, 1, Fact.rep [] a1.Pos), (false, 1, Fact.rep [] a1.Done), (false, 1, Fact.rep [] a1.NoLog), (false, 1, Fact.rep [] a1.Broken)]) ty26 rfl rfl (Has.s rfl) rfl (HasGs.cons (HasG.s rfl) (HasGs.cons (HasG.s rfl) (HasGs.cons (HasG.s rfl) (HasGs.cons (HasG.s rfl) (HasGs.cons (HasG.s rfl) (HasGs.cons (HasG.s rfl) (HasGs.cons (HasG.s rfl) HasGs.nil)))))))) ?_
   refine wo (Spec.build (us := [(0, .tmp 28)]) (ls' := [(true, 7, Fact.flds [(false, 1, Fact.rep [] a1.Events), (false, 1, Fact.rep [] a1.Lost), (false, 1, Fact.rep [] a1.Spare), (false, 1, Fact.rep [] a1.Pos), (false, 1, Fact.rep [] a1.Done), (false, 1, Fact.rep [] a1.NoLog), (false, 1, Fact.rep [] a1.Broken)])]) bd80 rfl (BP.cons rfl rfl (Has.cv (Has.s rfl) (Cv.trans (Cv.flds (CvL.cons Cv.fl (CvL.cons Cv.fl (CvL.cons Cv.fl (CvL.cons Cv.fl (CvL.cons Cv.fl (CvL.cons Cv.fl (CvL.cons Cv.fl CvL.nil)))))))) (Cv.close (T := []) (chLoss a1)))) (Has.s rfl) BP.nil)) ?_
   refine ws (Step.boxObj (ls := [(false, 1, Fact.rep [] a1.Events), (false, 1, Fact.rep [] a1.Lost), (false, 1, Fact.rep [] a1.Spare), (false, 1, Fact.rep [] a1.Pos), (false, 1, Fact.rep [] a1.Done), (false, 1, Fact.rep [] a1.NoLog), (false, 1, Fact.rep [] a1.Broken)]) 34 rfl rfl rfl rfl (HasL.flds (Has.cv (Has.s rfl) (Cv.flat (FlatR.sub (FlatR.cons (FlatR.cons (FlatR.cons (FlatR.cons (FlatR.cons (FlatR.cons (FlatR.cons FlatR.nil))))))) rfl FlatR.nil))))) ?_
   refine wo (Spec.assign (Has.s rfl)) ?_
   refine Walk.nil ?_
   refine Leaf.thenN ?_
   refine CWalk.seq ?_
   refine CWalk.region ?_
   refine mv ?_
   refine wo (Spec.loadObj (ls := [(false, 1, Fact.rep [] a0.Id), (false, 1, Fact.rep [] a0.Members), (false, 1, Fact.rep [] a0.Chunk), (false, 1, Fact.rep [] a0.Rows), (false, 1, Fact.rep [] a0.Log), (false, 1, Fact.rep [] a0.Heads)]) ty24 rfl rfl (Has.s rfl) rfl (HasGs.cons (HasG.s rfl) (HasGs.cons (HasG.s rfl) (HasGs.cons (HasG.s rfl) (HasGs.cons (HasG.s rfl) (HasGs.cons (HasG.s rfl) (HasGs.cons (HasG.s rfl) HasGs.nil))))))) ?_
   refine mv ?_
   refine mv ?_
   refine Walk.inline (S := Int × Bool × Int × Int × Bool × Bool) (fun p : Int × Bool × Int × Int × Bool × Bool => [.fact 8 (.isv 25), .fact 11 (.isv 34), .fact 35 (.top), .fact 100026 (.at 26 (.rep [] ((0 : UInt32) : UInt32))), .fact 100027 (.at 27 (.rep [] ((0 : Int) : Int))), .fact 100028 (.at 28 (.rep [] (false : Bool))), .fact 100029 (.at 29 (.rep [] ((0 : Int) : Int))), .fact 100030 (.at 30 (.rep [] ((0 : Int) : Int))), .fact 100031 (.at 31 (.rep [] (false : Bool))), .fact 100032 (.at 32 (.rep [] (false : Bool))), .fact 100035 (.at 35 (.rep [] a1.Events)), .fact 100036 (.at 36 (.rep [] p.1)), .fact 100037 (.at 37 (.rep [] p.2.1)), .fact 100038 (.at 38 (.rep [] p.2.2.1)), .fact 100039 (.at 39 (.rep [] p.2.2.2.1)), .fact 100040 (.at 40 (.rep [] p.2.2.2.2.1)), .fact 100041 (.at 41 (.rep [] p.2.2.2.2.2)), .fact 100025 (.obj 25 [(false, 1), (false, 1), (false, 1), (false, 1), (false, 1), (false, 1), (false, 1)]), .fact 100034 (.obj 34 [(false, 1), (false, 1), (false, 1), (false, 1), (false, 1), (false, 1), (false, 1)])]) (fun p : Int × Bool × Int × Int × Bool × Bool => loss_Die_J1 a1 p.1 p.2.1 p.2.2.1 p.2.2.2.1 p.2.2.2.2.1 p.2.2.2.2.2 = some r) (fun u1 => [.fact 100026 (.at 26 (.rep [] ((0 : UInt32) : UInt32))), .fact 100027 (.at 27 (.rep [] ((0 : Int) : Int))), .fact 100028 (.at 28 (.rep [] (false : Bool))), .fact 100029 (.at 29 (.rep [] ((0 : Int) : Int))), .fact 100030 (.at 30 (.rep [] ((0 : Int) : Int))), .fact 100031 (.at 31 (.rep [] (false : Bool))), .fact 100032 (.at 32 (.rep [] (false : Bool))), .fact 100035 (.at 35 (.rep [] a1.Events)), .fact 100036 (.at 36 (.rep [] a1.Lost)), .fact 100037 (.at 37 (.rep [] a1.Spare)), .fact 100038 (.at 38 (.rep [] a1.Pos)), .fact 100039 (.at 39 (.rep [] a1.Done)), .fact 100040 (.at 40 (.rep [] a1.NoLog)), .fact 100041 (.at 41 (.rep [] a1.Broken)), .fact 902008 (.cst (u1 8) (Fact.isv 25)), .fact 902011 (.cst (u1 11) (Fact.isv 34)), .fact 100025 (.obj 25 [(false, 1), (false, 1), (false, 1), (false, 1), (false, 1), (false, 1), (false, 1)]), .fact 100034 (.obj 34 [(false, 1), (false, 1), (false, 1), (false, 1), (false, 1), (false, 1), (false, 1)])]) (FA := [Fact.isv 34, Fact.flds [(false, 1, Fact.rep [] a0.Id), (false, 1, Fact.rep [] a0.Members), (false, 1, Fact.rep [] a0.Chunk), (false, 1, Fact.rep [] a0.Rows), (false, 1, Fact.rep [] a0.Log), (false, 1, Fact.rep [] a0.Heads)], Fact.rep [] (a2 : Int), Fact.rep [] (a3 : Bool)]) rfl Try.func35 rfl rfl rfl (CallOk.fn en35 (HasF.cons (Has.s rfl) (HasF.cons (Has.s rfl) (HasF.cons (Has.s rfl) (HasF.cons (Has.s rfl) HasF.nil))))) (fun u1 => (ck (ck (ck (ck (ck (ck (ck (ck (ck (ck (ck (ck (ck (ck (cs 902000 8 (cs 902000 11 (ck (ck Carry.nil))))))))))))))))))) (fun u1 => ?_) ?_
   ·refine CWalk.seq ?_
    refine CWalk.region ?_
    refine ws (Step.boxObj (ls := [(false, 1, Fact.rep [] a0.Id), (false, 1, Fact.rep [] a0.Members), (false, 1, Fact.rep [] a0.Chunk), (false, 1, Fact.rep [] a0.Rows), (false, 1, Fact.rep [] a0.Log), (false, 1, Fact.rep [] a0.Heads)]) 42 rfl rfl rfl rfl (HasL.flds (Has.s rfl))) ?_
    refine Walk.nil ?_
    refine Leaf.thenN ?_
    refine CWalk.block ?_
    refine CWalk.seq ?_
    refine CWalk.block ?_
    refine CWalk.seqJ (fun p : Bool => [.fact 0 (.isv 34), .fact 902008 (.cst (u1 8) (Fact.isv 25)), .fact 902011 (.cst (u1 11) (Fact.isv 34)), .fact 100035 (.at 35 (.rep [] a1.Events)), .fact 100036 (.at 36 (.rep [] a1.Lost)), .fact 100037 (.at 37 (.rep [] a1.Spare)), .fact 100038 (.at 38 (.rep [] a1.Pos)), .fact 100039 (.at 39 (.rep [] a1.Done)), .fact 100040 (.at 40 (.rep [] (p : Bool))), .fact 100041 (.at 41 (.rep [] a1.Broken)), .fact 100026 (.at 26 (.rep [] ((0 : UInt32) : UInt32))), .fact 100027 (.at 27 (.rep [] ((0 : Int) : Int))), .fact 100028 (.at 28 (.rep [] (false : Bool))), .fact 100029 (.at 29 (.rep [] ((0 : Int) : Int))), .fact 100030 (.at 30 (.rep [] ((0 : Int) : Int))), .fact 100031 (.at 31 (.rep [] (false : Bool))), .fact 100032 (.at 32 (.rep [] (false : Bool))), .fact 100034 (.obj 34 [(false, 1), (false, 1), (false, 1), (false, 1), (false, 1), (false, 1), (false, 1)]), .fact 100025 (.obj 25 [(false, 1), (false, 1), (false, 1), (false, 1), (false, 1), (false, 1), (false, 1)])]) (fun p : Bool => loss_Die_J2 a1 p = some r) ?_ ?_
    ·rintro j8 hm
     replace hm : loss_Die_J2 a1 j8 = some r := hm
     unfold loss_Die_J2 at hm
     show CWalk _ [.fact 0 (.isv 34), .fact 902008 (.cst (u1 8) (Fact.isv 25)), .fact 902011 (.cst (u1 11) (Fact.isv 34)), .fact 100035 (.at 35 (.rep [] a1.Events)), .fact 100036 (.at 36 (.rep [] a1.Lost)), .fact 100037 (.at 37 (.rep [] a1.Spare)), .fact 100038 (.at 38 (.rep [] a1.Pos)), .fact 100039 (.at 39 (.rep [] a1.Done)), .fact 100040 (.at 40 (.rep [] (j8 : Bool))), .fact 100041 (.at 41 (.rep [] a1.Broken)), .fact 100026 (.at 26 (.rep [] ((0 : UInt32) : UInt32))), .fact 100027 (.at 27 (.rep [] ((0 : Int) : Int))), .fact 100028 (.at 28 (.rep [] (false : Bool))), .fact 100029 (.at 29 (.rep [] ((0 : Int) : Int))), .fact 100030 (.at 30 (.rep [] ((0 : Int) : Int))), .fact 100031 (.at 31 (.rep [] (false : Bool))), .fact 100032 (.at 32 (.rep [] (false : Bool))), .fact 100034 (.obj 34 [(false, 1), (false, 1), (false, 1), (false, 1), (false, 1), (false, 1), (false, 1)]), .fact 100025 (.obj 25 [(false, 1), (false, 1), (false, 1), (false, 1), (false, 1), (false, 1), (false, 1)])] _ _
     refine CWalk.seq ?_
     refine CWalk.region ?_
     refine mv ?_
     refine wo (Spec.nilCheckI (Has.s rfl) rfl) ?_
     refine wo (Spec.fieldAddrO fd80_0 (Has.cv (Has.s rfl) (Cv.isvP rfl))) ?_
     refine wo (Spec.fieldAddrO fd26_6 (Has.s rfl)) ?_
     refine ws (Step.storeF (i := 6) (f := Fact.rep [] (true : Bool)) rfl ty4 rfl (Has.s rfl) rfl Has.bool Has.bool rfl) ?_
     refine Walk.nil ?_
     refine Leaf.thenN ?_
     refine CWalk.exit ?_
     refine Leaf.blockO rfl ?_
     refine Leaf.thenE ?_
     refine Leaf.blockE ?_
     exact Leaf.inN (Leaf.in0 (f0 := Fact.top) (a1.Lost, a1.Spare, a1.Pos, a1.Done, j8, true) hm rfl rfl (fun _ _ => trivial) (ls 902008 (ls 902011 (Low.res (lf (lf (lf (lf (lf (lf (lf (lf (lf (lf (lf (lf (lf (lf (lo (lo Low.nil))))))))))))))))))))
    ·refine CWalk.block ?_
     refine CWalk.seq ?_
     refine CWalk.block ?_
     refine CWalk.seq ?_
     refine CWalk.block ?_
     refine CWalk.seq ?_
     refine CWalk.seq ?_
     refine CWalk.seq ?_
     refine CWalk.region ?_
     refine mv ?_
     refine wo (Spec.fieldAddrO fd24_1 (Has.cv (Has.s rfl) (Cv.isvP rfl))) ?_
     refine wo (Spec.loadF (i := 1) ty3 rfl (Has.s rfl) rfl (HasG.s rfl)) ?_
     refine wo (Spec.eqlI (Has.s rfl) (Has.s rfl)) ?_
     refine mv ?_
     refine wg rfl rfl (fun hb => Spec.move (Has.s rfl)) ?_
     refine wg rfl rfl (fun hb => Spec.not (Has.u rfl hb)) ?_
     refine wo (Spec.and (Has.s rfl) (fun h => Has.u rfl h)) ?_
     refine wo (Spec.assign (Has.s rfl)) ?_
     refine Walk.nil ?_
     refine Leaf.thenN ?_
     refine CWalk.cond rfl (fun hb => ?_) (fun hb => ?_)
     ·have hm := cond_t hb hm
      refine CWalk.exit ?_
      refine Leaf.thenE ?_
      refine Leaf.thenE ?_
      refine Leaf.blockE ?_
      refine Leaf.thenN ?_
      refine CWalk.seq ?_
      refine CWalk.region ?_
      refine mv ?_
      refine wo (Spec.nilCheckI (Has.s rfl) rfl) ?_
      refine wo (Spec.fieldAddrO fd80_0 (Has.cv (Has.s rfl) (Cv.isvP rfl))) ?_
      refine wo (Spec.fieldAddrO fd26_5 (Has.s rfl)) ?_
      refine ws (Step.storeF (i := 5) (f := Fact.rep [] (true : Bool)) rfl ty4 rfl (Has.s rfl) rfl Has.bool Has.bool rfl) ?_
      refine Walk.nil ?_
      refine Leaf.thenN ?_
      refine CWalk.exit ?_
      refine Leaf.blockO rfl ?_
      refine Leaf.thenE ?_
      refine Leaf.blockO rfl ?_
      refine Leaf.thenE ?_
      refine Leaf.blockO rfl ?_
      refine Leaf.thenE ?_
      refine Leaf.blockE ?_
      exact Leaf.inN (Leaf.in0 (f0 := Fact.top) (a1.Lost, a1.Spare, a1.Pos, a1.Done, true, a1.Broken) hm rfl rfl (fun _ _ => trivial) (ls 902008 (ls 902011 (Low.res (lf (lf (lf (lf (lf (lf (lf (lf (lf (lf (lf (lf (lf (lf (lo (lo Low.nil))))))))))))))))))))
     ·have hm := cond_f hb hm
      refine CWalk.skip ?_
      refine Leaf.thenN ?_
      refine CWalk.seq ?_
      refine CWalk.seq ?_
      refine CWalk.region ?_
      refine mv ?_
      refine wo (Spec.fieldAddrO fd24_1 (Has.cv (Has.s rfl) (Cv.isvP rfl))) ?_
      refine wo (Spec.loadF (i := 1) ty3 rfl (Has.s rfl) rfl (HasG.s rfl)) ?_
      refine wo (Spec.eqlI (Has.s rfl) (Has.s rfl)) ?_
      refine wo (Spec.assign (Has.s rfl)) ?_
      refine Walk.nil ?_
      refine Leaf.thenN ?_
      refine CWalk.cond rfl (fun hb => ?_) (fun hb => ?_)
      ·have hm := cond_t hb hm
       refine CWalk.exit ?_
       refine Leaf.thenE ?_
       refine Leaf.thenE ?_
       refine Leaf.blockO rfl ?_
       refine Leaf.thenE ?_
       refine Leaf.blockE ?_
       refine Leaf.thenN ?_
       refine CWalk.region ?_
       refine mv ?_
       refine wo (Spec.nilCheckI (Has.s rfl) rfl) ?_
       refine wo (Spec.fieldAddrO fd80_0 (Has.cv (Has.s rfl) (Cv.isvP rfl))) ?_
       refine wo (Spec.fieldAddrO fd26_5 (Has.s rfl)) ?_
       refine ws (Step.storeF (i := 5) (f := Fact.rep [] (true : Bool)) rfl ty4 rfl (Has.s rfl) rfl Has.bool Has.bool rfl) ?_
       refine Walk.nil ?_
       refine Leaf.blockN ?_
       exact Leaf.join true hm (sn (sc (sc (sf (sf (sf (sf (sf (sf (sf (sf (sf (sf (sf (sf (sf (sf (sn (sn Sub.nil)))))))))))))))))))
      ·have hm := cond_f hb hm
       refine CWalk.skip ?_
       refine Leaf.thenN ?_
       refine CWalk.seq ?_
       refine CWalk.region ?_
       refine mv ?_
       refine wo (Spec.nilCheckI (Has.s rfl) rfl) ?_
       refine wo (Spec.fieldAddrO fd80_0 (Has.cv (Has.s rfl) (Cv.isvP rfl))) ?_
       refine wo (Spec.fieldAddrO fd26_1 (Has.s rfl)) ?_
       refine wo (Spec.loadF (i := 1) ty3 rfl (Has.s rfl) rfl (HasG.s rfl)) ?_
       refine wo (Spec.neqI (Has.s rfl) Has.int) ?_
       refine mv ?_
       refine wg rfl rfl (fun hb => Spec.move (Has.s rfl)) ?_
       refine wg rfl rfl (fun hb => Spec.nilCheckI (Has.u rfl hb) rfl) ?_
       refine wg rfl rfl (fun hb => Spec.fieldAddrO fd80_0 (Has.cv (Has.u rfl hb) (Cv.isvP rfl))) ?_
       refine wg rfl rfl (fun hb => Spec.fieldAddrO fd26_1 (Has.u rfl hb)) ?_
       refine wg rfl rfl (fun hb => Spec.loadF (i := 1) ty3 rfl (Has.u rfl hb) rfl (HasG.s rfl)) ?_
       refine wg rfl rfl (fun hb => Spec.move (Has.s rfl)) ?_
       refine wg rfl rfl (fun hb => Spec.neqI (Has.u rfl hb) (Has.u rfl hb)) ?_
       refine wo (Spec.and (Has.s rfl) (fun h => Has.u rfl h)) ?_
       refine wo (Spec.assign (Has.s rfl)) ?_
       refine Walk.nil ?_
       refine Leaf.thenN ?_
       refine CWalk.cond rfl (fun hb => ?_) (fun hb => ?_)
       ·have hm := cond_t hb hm
        refine CWalk.exit ?_
        refine Leaf.thenE ?_
        refine Leaf.blockO rfl ?_
        refine Leaf.thenE ?_
        refine Leaf.blockO rfl ?_
        refine Leaf.thenE ?_
        refine Leaf.blockE ?_
        exact Leaf.join a1.NoLog hm (sn (sc (sc (sf (sf (sf (sf (sf (sf (sf (sf (sf (sf (sf (sf (sf (sf (sn (sn Sub.nil)))))))))))))))))))
       ·have hm := cond_f hb hm
        refine CWalk.skip ?_
        refine Leaf.thenN ?_
        refine CWalk.exit ?_
        refine Leaf.blockO rfl ?_
        refine Leaf.thenE ?_
        refine Leaf.blockO rfl ?_
        refine Leaf.thenE ?_
        refine Leaf.blockO rfl ?_
        refine Leaf.thenE ?_
        refine Leaf.blockE ?_
        refine Leaf.thenN ?_
        refine CWalk.seq ?_
        refine CWalk.region ?_
        refine mv ?_
        refine mv ?_
        refine Walk.inline (S := Unit) (fun p : Unit => [.fact 52 (.top), .fact 902008 (.cst (u1 8) (Fact.isv 25)), .fact 902011 (.cst (u1 11) (Fact.isv 34)), .fact 100026 (.at 26 (.rep [] ((0 : UInt32) : UInt32))), .fact 100027 (.at 27 (.rep [] ((0 : Int) : Int))), .fact 100028 (.at 28 (.rep [] (false : Bool))), .fact 100029 (.at 29 (.rep [] ((0 : Int) : Int))), .fact 100030 (.at 30 (.rep [] ((0 : Int) : Int))), .fact 100031 (.at 31 (.rep [] (false : Bool))), .fact 100032 (.at 32 (.rep [] (false : Bool))), .fact 100035 (.at 35 (.rep [] a1.Events)), .fact 100036 (.at 36 (.rep [] (a2 : Int))), .fact 100037 (.at 37 (.rep [] (false : Bool))), .fact 100038 (.at 38 (.rep [] ((0 : Int) : Int))), .fact 100039 (.at 39 (.rep [] ((0 : Int) : Int))), .fact 100040 (.at 40 (.rep [] a1.NoLog)), .fact 100041 (.at 41 (.rep [] a1.Broken)), .fact 100025 (.obj 25 [(false, 1), (false, 1), (false, 1), (false, 1), (false, 1), (false, 1), (false, 1)]), .fact 100034 (.obj 34 [(false, 1), (false, 1), (false, 1), (false, 1), (false, 1), (false, 1), (false, 1)])]) (fun p : Unit => loss_Die_J3 a1 a2 = some r) (fun u2 => [.fact 100026 (.at 26 (.rep [] ((0 : UInt32) : UInt32))), .fact 100027 (.at 27 (.rep [] ((0 : Int) : Int))), .fact 100028 (.at 28 (.rep [] (false : Bool))), .fact 100029 (.at 29 (.rep [] ((0 : Int) : Int))), .fact 100030 (.at 30 (.rep [] ((0 : Int) : Int))), .fact 100031 (.at 31 (.rep [] (false : Bool))), .fact 100032 (.at 32 (.rep [] (false : Bool))), .fact 100035 (.at 35 (.rep [] a1.Events)), .fact 100036 (.at 36 (.rep [] a1.Lost)), .fact 100037 (.at 37 (.rep [] a1.Spare)), .fact 100038 (.at 38 (.rep [] a1.Pos)), .fact 100039 (.at 39 (.rep [] a1.Done)), .fact 100040 (.at 40 (.rep [] a1.NoLog)), .fact 100041 (.at 41 (.rep [] a1.Broken)), .fact 902008 (.cst (u1 8) (Fact.isv 25)), .fact 902011 (.cst (u1 11) (Fact.isv 34)), .fact 100025 (.obj 25 [(false, 1), (false, 1), (false, 1), (false, 1), (false, 1), (false, 1), (false, 1)]), .fact 100034 (.obj 34 [(false, 1), (false, 1), (false, 1), (false, 1), (false, 1), (false, 1), (false, 1)])]) (FA := [Fact.isv 34, Fact.rep [] (a2 : Int)]) rfl Try.func37 rfl rfl rfl (CallOk.fn en37 (HasF.cons (Has.s rfl) (HasF.cons (Has.s rfl) HasF.nil))) (fun u2 => (ck (ck (ck (ck (ck (ck (ck (ck (ck (ck (ck (ck (ck (ck (ck (ck (ck (ck Carry.nil))))))))))))))))))) (fun u2 => ?_) ?_
        ·refine CWalk.region ?_
         refine mv ?_
         refine mv ?_
         refine mv ?_
         refine mv ?_
         refine mv ?_
         refine wo (Spec.nilCheckI (Has.s rfl) rfl) ?_
         refine wo (Spec.fieldAddrO fd80_0 (Has.cv (Has.s rfl) (Cv.isvP rfl))) ?_
         refine wo (Spec.fieldAddrO fd26_1 (Has.s rfl)) ?_
         refine ws (Step.storeF (i := 1) (f := Fact.rep [] (a2 : Int)) rfl ty3 rfl (Has.s rfl) rfl (Has.s rfl) (Has.s rfl) rfl) ?_
         refine wo (Spec.nilCheckI (Has.s rfl) rfl) ?_
         refine wo (Spec.fieldAddrO fd80_0 (Has.cv (Has.s rfl) (Cv.isvP rfl))) ?_
         refine wo (Spec.fieldAddrO fd26_2 (Has.s rfl)) ?_
         refine ws (Step.storeF (i := 2) (f := Fact.rep [] (false : Bool)) rfl ty4 rfl (Has.s rfl) rfl Has.bool Has.bool rfl) ?_
         refine wo (Spec.nilCheckI (Has.s rfl) rfl) ?_
         refine wo (Spec.fieldAddrO fd80_0 (Has.cv (Has.s rfl) (Cv.isvP rfl))) ?_
         refine wo (Spec.fieldAddrO fd26_3 (Has.s rfl)) ?_
         refine ws (Step.storeF (i := 3) (f := Fact.rep [] ((0 : Int) : Int)) rfl ty3 rfl (Has.s rfl) rfl Has.int Has.int rfl) ?_
         refine wo (Spec.nilCheckI (Has.s rfl) rfl) ?_
         refine wo (Spec.fieldAddrO fd80_0 (Has.cv (Has.s rfl) (Cv.isvP rfl))) ?_
         refine wo (Spec.fieldAddrO fd26_4 (Has.s rfl)) ?_
         refine ws (Step.storeF (i := 4) (f := Fact.rep [] ((0 : Int) : Int)) rfl ty3 rfl (Has.s rfl) rfl Has.int Has.int rfl) ?_
         refine Walk.nil ?_
         exact Leaf.inN (Leaf.in0 (f0 := Fact.top) () hm rfl rfl (fun _ _ => trivial) (Low.res (lc (lc (lf (lf (lf (lf (lf (lf (lf (lf (lf (lf (lf (lf (lf (lf (lo (lo Low.nil))))))))))))))))))))
        ·rintro _ hm
         replace hm : loss_Die_J3 a1 a2 = some r := hm
         unfold loss_Die_J3 at hm
         show Walk _ _ _ [.fact 52 (.top), .fact 902008 (.cst (u1 8) (Fact.isv 25)), .fact 902011 (.cst (u1 11) (Fact.isv 34)), .fact 100026 (.at 26 (.rep [] ((0 : UInt32) : UInt32))), .fact 100027 (.at 27 (.rep [] ((0 : Int) : Int))), .fact 100028 (.at 28 (.rep [] (false : Bool))), .fact 100029 (.at 29 (.rep [] ((0 : Int) : Int))), .fact 100030 (.at 30 (.rep [] ((0 : Int) : Int))), .fact 100031 (.at 31 (.rep [] (false : Bool))), .fact 100032 (.at 32 (.rep [] (false : Bool))), .fact 100035 (.at 35 (.rep [] a1.Events)), .fact 100036 (.at 36 (.rep [] (a2 : Int))), .fact 100037 (.at 37 (.rep [] (false : Bool))), .fact 100038 (.at 38 (.rep [] ((0 : Int) : Int))), .fact 100039 (.at 39 (.rep [] ((0 : Int) : Int))), .fact 100040 (.at 40 (.rep [] a1.NoLog)), .fact 100041 (.at 41 (.rep [] a1.Broken)), .fact 100025 (.obj 25 [(false, 1), (false, 1), (false, 1), (false, 1), (false, 1), (false, 1), (false, 1)]), .fact 100034 (.obj 34 [(false, 1), (false, 1), (false, 1), (false, 1), (false, 1), (false, 1), (false, 1)])] _
         refine Walk.nil ?_
         refine Leaf.thenN ?_
         refine CWalk.exit ?_
         refine Leaf.blockE ?_
         exact Leaf.inN (Leaf.in0 (f0 := Fact.top) (a2, false, (0 : Int), (0 : Int), a1.NoLog, a1.Broken) hm rfl rfl (fun _ _ => trivial) (ls 902008 (ls 902011 (Low.res (lf (lf (lf (lf (lf (lf (lf (lf (lf (lf (lf (lf (lf (lf (lo (lo Low.nil))))))))))))))))))))
   ·rintro ⟨j2, j3, j4, j5, j6, j7⟩ hm
    replace hm : loss_Die_J1 a1 j2 j3 j4 j5 j6 j7 = some r := hm
    unfold loss_Die_J1 at hm
    show Walk _ _ _ [.fact 8 (.isv 25), .fact 11 (.isv 34), .fact 35 (.top), .fact 100026 (.at 26 (.rep [] ((0 : UInt32) : UInt32))), .fact 100027 (.at 27 (.rep [] ((0 : Int) : Int))), .fact 100028 (.at 28 (.rep [] (false : Bool))), .fact 100029 (.at 29 (.rep [] ((0 : Int) : Int))), .fact 100030 (.at 30 (.rep [] ((0 : Int) : Int))), .fact 100031 (.at 31 (.rep [] (false : Bool))), .fact 100032 (.at 32 (.rep [] (false : Bool))), .fact 100035 (.at 35 (.rep [] a1.Events)), .fact 100036 (.at 36 (.rep [] (j2 : Int))), .fact 100037 (.at 37 (.rep [] (j3 : Bool))), .fact 100038 (.at 38 (.rep [] (j4 : Int))), .fact 100039 (.at 39 (.rep [] (j5 : Int))), .fact 100040 (.at 40 (.rep [] (j6 : Bool))), .fact 100041 (.at 41 (.rep [] (j7 : Bool))), .fact 100025 (.obj 25 [(false, 1), (false, 1), (false, 1), (false, 1), (false, 1), (false, 1), (false, 1)]), .fact 100034 (.obj 34 [(false, 1), (false, 1), (false, 1), (false, 1), (false, 1), (false, 1), (false, 1)])] _
    refine Walk.nil ?_
    refine Leaf.thenN ?_
    refine CWalk.seq ?_
    refine CWalk.region ?_
    refine mv ?_
    refine wo (Spec.nilCheckI (Has.s rfl) rfl) ?_
    refine wo (Spec.fieldAddrO fd80_0 (Has.cv (Has.s rfl) (Cv.isvP rfl))) ?_
    refine wo (Spec.loadParts (i := 0) (a := []) (b := []) (ls := [(false, 1, Fact.rep [] a1.Events), (false, 1, Fact.rep [] (j2 : Int)), (false, 1, Fact.rep [] (j3 : Bool)), (false, 1, Fact.rep [] (j4 : Int)), (false, 1, Fact.rep [] (j5 : Int)), (false, 1, Fact.rep [] (j6 : Bool)), (false, 1, Fact.rep [] (j7 : Bool))]) ty26 rfl rfl rfl rfl rfl (Has.s rfl) rfl (HasGs.cons (HasG.s rfl) (HasGs.cons (HasG.s rfl) (HasGs.cons (HasG.s rfl) (HasGs.cons (HasG.s rfl) (HasGs.cons (HasG.s rfl) (HasGs.cons (HasG.s rfl) (HasGs.cons (HasG.s rfl) HasGs.nil)))))))) ?_
    refine ws (Step.storeObj (ls := [(false, 1, Fact.rep [] a1.Events), (false, 1, Fact.rep [] (j2 : Int)), (false, 1, Fact.rep [] (j3 : Bool)), (false, 1, Fact.rep [] (j4 : Int)), (false, 1, Fact.rep [] (j5 : Int)), (false, 1, Fact.rep [] (j6 : Bool)), (false, 1, Fact.rep [] (j7 : Bool))]) rfl ty26 rfl rfl (Has.s rfl) rfl (HasL.flds (Has.s rfl)) rfl) ?_
    refine wo (Spec.assign Has.int) ?_
    refine Walk.nil ?_
    refine Leaf.thenN ?_
    refine CWalk.ret ?_
    obtain rfl := Option.some.inj hm
    exact Leaf.retC2 rfl (HasR.cv (HasR.obj (ls := [(false, 1, Fact.rep [] a1.Events), (false, 1, Fact.rep [] (j2 : Int)), (false, 1, Fact.rep [] (j3 : Bool)), (false, 1, Fact.rep [] (j4 : Int)), (false, 1, Fact.rep [] (j5 : Int)), (false, 1, Fact.rep [] (j6 : Bool)), (false, 1, Fact.rep [] (j7 : Bool))]) ty26 rfl rfl (Has.s rfl) rfl (HasGs.cons (HasG.s rfl) (HasGs.cons (HasG.s rfl) (HasGs.cons (HasG.s rfl) (HasGs.cons (HasG.s rfl) (HasGs.cons (HasG.s rfl) (HasGs.cons (HasG.s rfl) (HasGs.cons (HasG.s rfl) HasGs.nil)))))))) (Cv.trans (Cv.trans (Cv.flds (CvL.cons Cv.fl (CvL.cons Cv.fl (CvL.cons Cv.fl (CvL.cons Cv.fl (CvL.cons Cv.fl (CvL.cons Cv.fl (CvL.cons Cv.fl CvL.nil)))))))) (Cv.close (T := []) (chLoss (Loss.mk a1.Events j2 j3 j4 j5 j6 j7)))) Cv.fl)) (HasR.cv (HasR.tmp (Has.s rfl)) Cv.fl)

def loss_Spare_J1 (a1 : Loss) (j2 : Bool) : Option (Loss × Int) :=
  (bif j2 then some ((Loss.mk (0 : UInt32) (0 : Int) false (0 : Int) (0 : Int) false false), (6 : Int)) else some ((Loss.mk a1.Events a1.Lost true a1.Pos a1.Done a1.NoLog a1.Broken), (0 : Int)))
/-- freeboard/loss.Spare -/
def loss_Spare (a0 : Config) (a1 : Loss) : Option (Loss × Int) :=
  Option.bind (loss_Check a0 a1) (fun x1 => (bif (x1 != (0 : Int)) then some ((Loss.mk (0 : UInt32) (0 : Int) false (0 : Int) (0 : Int) false false), x1) else (bif a1.Broken then some ((Loss.mk (0 : UInt32) (0 : Int) false (0 : Int) (0 : Int) false false), (230 : Int)) else (bif (a1.Lost == (-1 : Int)) then (loss_Spare_J1 a1 (a1.Lost == (-1 : Int))) else (loss_Spare_J1 a1 a1.Spare)))))
set_option maxRecDepth 100000 in
set_option maxHeartbeats 2000000 in
theorem loss_Spare_c (a0 : Config) (a1 : Loss) {r : Loss × Int} (hm : loss_Spare a0 a1 = some r) : Ctr Try.prog 12 [.rep 0 a0, .rep 0 a1] (.tup2 (.fl r.1) (.fl r.2)) [] := by
 refine ctr_of_walk [[]] 28 Try.func12 rfl rfl rfl rfl (fun w0 om => ?_)
 unfold loss_Spare at hm
 refine CWalk.sub (G' := [.fact 0 (.rep [] (a0 : Config)), .fact 1 (.rep [] (a1 : Loss))]) (Sub.cons (Has.fl (Has.s rfl)) (Sub.cons (Has.fl (Has.s rfl)) Sub.nil)) ?_
 refine CWalk.seq ?_
 refine CWalk.region ?_
 refine ws (Step.boxObj (ls := [(false, 1, Fact.rep [] a0.Id), (false, 1, Fact.rep [] a0.Members), (false, 1, Fact.rep [] a0.Chunk), (false, 1, Fact.rep [] a0.Rows), (false, 1, Fact.rep [] a0.Log), (false, 1, Fact.rep [] a0.Heads)]) 10 rfl rfl rfl rfl (HasL.flds (Has.cv (Has.s rfl) (Cv.trans (Cv.opens (chConfig a0)) (Cv.flds (CvL.cons Cv.fl (CvL.cons Cv.fl (CvL.cons Cv.fl (CvL.cons Cv.fl (CvL.cons Cv.fl (CvL.cons Cv.fl CvL.nil))))))))))) ?_
 refine ws (Step.boxObj (ls := [(false, 1, Fact.rep [] a1.Events), (false, 1, Fact.rep [] a1.Lost), (false, 1, Fact.rep [] a1.Spare), (false, 1, Fact.rep [] a1.Pos), (false, 1, Fact.rep [] a1.Done), (false, 1, Fact.rep [] a1.NoLog), (false, 1, Fact.rep [] a1.Broken)]) 17 rfl rfl rfl rfl (HasL.flds (Has.cv (Has.s rfl) (Cv.trans (Cv.opens (chLoss a1)) (Cv.flds (CvL.cons Cv.fl (CvL.cons Cv.fl (CvL.cons Cv.fl (CvL.cons Cv.fl (CvL.cons Cv.fl (CvL.cons Cv.fl (CvL.cons Cv.fl CvL.nil)))))))))))) ?_
 refine ws (Step.allocObj (ls := [(false, 1, Fact.rep [] ((0 : UInt32) : UInt32)), (false, 1, Fact.rep [] ((0 : Int) : Int)), (false, 1, Fact.rep [] (false : Bool)), (false, 1, Fact.rep [] ((0 : Int) : Int)), (false, 1, Fact.rep [] ((0 : Int) : Int)), (false, 1, Fact.rep [] (false : Bool)), (false, 1, Fact.rep [] (false : Bool))]) 25 rfl rfl rfl rfl zl26) ?_
 refine wo (Spec.assign Has.int) ?_
 refine Walk.nil ?_
 refine Leaf.thenN ?_
 refine CWalk.seq ?_
 refine CWalk.region ?_
 refine wo (Spec.loadObj (ls := [(false, 1, Fact.rep [] a0.Id), (false, 1, Fact.rep [] a0.Members), (false, 1, Fact.rep [] a0.Chunk), (false, 1, Fact.rep [] a0.Rows), (false, 1, Fact.rep [] a0.Log), (false, 1, Fact.rep [] a0.Heads)]) ty24 rfl rfl (Has.s rfl) rfl (HasGs.cons (HasG.s rfl) (HasGs.cons (HasG.s rfl) (HasGs.cons (HasG.s rfl) (HasGs.cons (HasG.s rfl) (HasGs.cons (HasG.s rfl) (HasGs.cons (HasG.s rfl) HasGs.nil))))))) ?_
 refine wo (Spec.loadObj (ls := [(false, 1, Fact.rep [] a1.Events), (false, 1, Fact.rep [] a1.Lost), (false, 1, Fact.rep [] a1.Spare), (false, 1, Fact.rep [] a1.Pos), (false, 1, Fact.rep [] a1.Done), (false, 1, Fact.rep [] a1.NoLog), (false, 1, Fact.rep [] a1.Broken)]) ty26 rfl rfl (Has.s rfl) rfl (HasGs.cons (HasG.s rfl) (HasGs.cons (HasG.s rfl) (HasGs.cons (HasG.s rfl) (HasGs.cons (HasG.s rfl) (HasGs.cons (HasG.s rfl) (HasGs.cons (HasG.s rfl) (HasGs.cons (HasG.s rfl) HasGs.nil)))))))) ?_
 obtain ⟨x1, hx1, hm⟩ := bind_some hm
 refine wo (f := Fact.rep [] (x1 : Int)) (Spec.callE [] 33 rfl en18 (loss_Check_c a0 a1 hx1) (HasAll.cons (Has.fl (Has.cv (Has.s rfl) (Cv.trans (Cv.flds (CvL.cons Cv.fl (CvL.cons Cv.fl (CvL.cons Cv.fl (CvL.cons Cv.fl (CvL.cons Cv.fl (CvL.cons Cv.fl CvL.nil))))))) (Cv.close (T := []) (chConfig a0))))) (HasAll.cons (Has.fl (Has.cv (Has.s rfl) (Cv.trans (Cv.flds (CvL.cons Cv.fl (CvL.cons Cv.fl (CvL.cons Cv.fl (CvL.cons Cv.fl (CvL.cons Cv.fl (CvL.cons Cv.fl (CvL.cons Cv.fl CvL.nil)))))))) (Cv.close (T := []) (chLoss a1))))) HasAll.nil))) ?_
 refine wo (Spec.assign (Has.s rfl)) ?_
 refine Walk.nil ?_
 refine Leaf.thenN ?_
 refine CWalk.seq ?_
 refine CWalk.block ?_
 refine CWalk.seq ?_
 refine CWalk.region ?_
 refine mv ?_
 refine wo (Spec.neqI (Has.s rfl) Has.int) ?_
 refine wo (Spec.assign (Has.s rfl)) ?_
 refine Walk.nil ?_
 refine Leaf.thenN ?_
 refine CWalk.cond rfl (fun hb => ?_) (fun hb => ?_)
 ·have hm := cond_t hb hm
  refine CWalk.seq ?_
  refine CWalk.region ?_
  refine wo (Spec.build (us := []) (ls' := [(false, 1, Fact.rep [] ((0 : UInt32) : UInt32)), (false, 1, Fact.rep [] ((0 : Int) : Int)), (false, 1, Fact.rep [] (false : Bool)), (false, 1, Fact.rep [] ((0 : Int) : Int)), (false, 1, Fact.rep [] ((0 : Int) : Int)), (false, 1, Fact.rep [] (false : Bool)), (false, 1, Fact.rep [] (false : Bool))]) bd26 rfl BP.nil) ?_
  refine mv ?_
  refine ws (Step.storeObj (ls := [(false, 1, Fact.rep [] ((0 : UInt32) : UInt32)), (false, 1, Fact.rep [] ((0 : Int) : Int)), (false, 1, Fact.rep [] (false : Bool)), (false, 1, Fact.rep [] ((0 : Int) : Int)), (false, 1, Fact.rep [] ((0 : Int) : Int)), (false, 1, Fact.rep [] (false : Bool)), (false, 1, Fact.rep [] (false : Bool))]) rfl ty26 rfl rfl (Has.s rfl) rfl (HasL.flds (Has.s rfl)) rfl) ?_
  refine wo (Spec.assign (Has.s rfl)) ?_
  refine Walk.nil ?_
  refine Leaf.thenN ?_
  refine CWalk.ret ?_
  refine Leaf.blockR ?_
  refine Leaf.thenR ?_
  obtain rfl := Option.some.inj hm
  exact Leaf.retC2 rfl (HasR.cv (HasR.obj (ls := [(false, 1, Fact.rep [] ((0 : UInt32) : UInt32)), (false, 1, Fact.rep [] ((0 : Int) : Int)), (false, 1, Fact.rep [] (false : Bool)), (false, 1, Fact.rep [] ((0 : Int) : Int)), (false, 1, Fact.rep [] ((0 : Int) : Int)), (false, 1, Fact.rep [] (false : Bool)), (false, 1, Fact.rep [] (false : Bool))]) ty26 rfl rfl (Has.s rfl) rfl (HasGs.cons (HasG.s rfl) (HasGs.cons (HasG.s rfl) (HasGs.cons (HasG.s rfl) (HasGs.cons (HasG.s rfl) (HasGs.cons (HasG.s rfl) (HasGs.cons (HasG.s rfl) (HasGs.cons (HasG.s rfl) HasGs.nil)))))))) (Cv.trans (Cv.trans (Cv.flds (CvL.cons Cv.fl (CvL.cons Cv.fl (CvL.cons Cv.fl (CvL.cons Cv.fl (CvL.cons Cv.fl (CvL.cons Cv.fl (CvL.cons Cv.fl CvL.nil)))))))) (Cv.close (T := []) (chLoss (Loss.mk (0 : UInt32) (0 : Int) false (0 : Int) (0 : Int) false false)))) Cv.fl)) (HasR.cv (HasR.tmp (Has.s rfl)) Cv.fl)
 ·have hm := cond_f hb hm
  refine CWalk.seq ?_
  refine CWalk.region ?_
  refine wo (Spec.fieldAddrO fd26_6 (Has.cv (Has.s rfl) (Cv.isvP rfl))) ?_
  refine wo (Spec.loadF (i := 6) ty4 rfl (Has.s rfl) rfl (HasG.s rfl)) ?_
  refine wo (Spec.assign (Has.s rfl)) ?_
  refine Walk.nil ?_
  refine Leaf.thenN ?_
  refine CWalk.cond rfl (fun hb => ?_) (fun hb => ?_)
  ·have hm := cond_t hb hm
   refine CWalk.seq ?_
   refine CWalk.region ?_
   refine wo (Spec.build (us := []) (ls' := [(false, 1, Fact.rep [] ((0 : UInt32) : UInt32)), (false, 1, Fact.rep [] ((0 : Int) : Int)), (false, 1, Fact.rep [] (false : Bool)), (false, 1, Fact.rep [] ((0 : Int) : Int)), (false, 1, Fact.rep [] ((0 : Int) : Int)), (false, 1, Fact.rep [] (false : Bool)), (false, 1, Fact.rep [] (false : Bool))]) bd26 rfl BP.nil) ?_
   refine ws (Step.storeObj (ls := [(false, 1, Fact.rep [] ((0 : UInt32) : UInt32)), (false, 1, Fact.rep [] ((0 : Int) : Int)), (false, 1, Fact.rep [] (false : Bool)), (false, 1, Fact.rep [] ((0 : Int) : Int)), (false, 1, Fact.rep [] ((0 : Int) : Int)), (false, 1, Fact.rep [] (false : Bool)), (false, 1, Fact.rep [] (false : Bool))]) rfl ty26 rfl rfl (Has.s rfl) rfl (HasL.flds (Has.s rfl)) rfl) ?_
   refine wo (Spec.assign Has.int) ?_
   refine Walk.nil ?_
   refine Leaf.thenN ?_
   refine CWalk.ret ?_
   refine Leaf.blockR ?_
   refine Leaf.thenR ?_
   obtain rfl := Option.some.inj hm
   exact Leaf.retC2 rfl (HasR.cv (HasR.obj (ls := [(false, 1, Fact.rep [] ((0 : UInt32) : UInt32)), (false, 1, Fact.rep [] ((0 : Int) : Int)), (false, 1, Fact.rep [] (false : Bool)), (false, 1, Fact.rep [] ((0 : Int) : Int)), (false, 1, Fact.rep [] ((0 : Int) : Int)), (false, 1, Fact.rep [] (false : Bool)), (false, 1, Fact.rep [] (false : Bool))]) ty26 rfl rfl (Has.s rfl) rfl (HasGs.cons (HasG.s rfl) (HasGs.cons (HasG.s rfl) (HasGs.cons (HasG.s rfl) (HasGs.cons (HasG.s rfl) (HasGs.cons (HasG.s rfl) (HasGs.cons (HasG.s rfl) (HasGs.cons (HasG.s rfl) HasGs.nil)))))))) (Cv.trans (Cv.trans (Cv.flds (CvL.cons Cv.fl (CvL.cons Cv.fl (CvL.cons Cv.fl (CvL.cons Cv.fl (CvL.cons Cv.fl (CvL.cons Cv.fl (CvL.cons Cv.fl CvL.nil)))))))) (Cv.close (T := []) (chLoss (Loss.mk (0 : UInt32) (0 : Int) false (0 : Int) (0 : Int) false false)))) Cv.fl)) (HasR.cv (HasR.tmp (Has.s rfl)) Cv.fl)
  ·have hm := cond_f hb hm
   refine CWalk.seqJ (fun p : Bool => [.fact 3 (.isv 17), .fact 4 (.isv 25), .fact 19 (.rep [] (p : Bool)), .fact 100018 (.at 18 (.rep [] a1.Events)), .fact 100019 (.at 19 (.rep [] a1.Lost)), .fact 100020 (.at 20 (.rep [] a1.Spare)), .fact 100021 (.at 21 (.rep [] a1.Pos)), .fact 100022 (.at 22 (.rep [] a1.Done)), .fact 100023 (.at 23 (.rep [] a1.NoLog)), .fact 100024 (.at 24 (.rep [] a1.Broken)), .fact 100026 (.at 26 (.rep [] ((0 : UInt32) : UInt32))), .fact 100027 (.at 27 (.rep [] ((0 : Int) : Int))), .fact 100028 (.at 28 (.rep [] (false : Bool))), .fact 100029 (.at 29 (.rep [] ((0 : Int) : Int))), .fact 100030 (.at 30 (.rep [] ((0 : Int) : Int))), .fact 100031 (.at 31 (.rep [] (false : Bool))), .fact 100032 (.at 32 (.rep [] (false : Bool))), .fact 100017 (.obj 17 [(false, 1), (false, 1), (false, 1), (false, 1), (false, 1), (false, 1), (false, 1)]), .fact 100025 (.obj 25 [(false, 1), (false, 1), (false, 1), (false, 1), (false, 1), (false, 1), (false, 1)])]) (fun p : Bool => loss_Spare_J1 a1 p = some r) ?_ ?_
   ·rintro j2 hm
    replace hm : loss_Spare_J1 a1 j2 = some r := hm
    unfold loss_Spare_J1 at hm
    show CWalk _ [.fact 3 (.isv 17), .fact 4 (.isv 25), .fact 19 (.rep [] (j2 : Bool)), .fact 100018 (.at 18 (.rep [] a1.Events)), .fact 100019 (.at 19 (.rep [] a1.Lost)), .fact 100020 (.at 20 (.rep [] a1.Spare)), .fact 100021 (.at 21 (.rep [] a1.Pos)), .fact 100022 (.at 22 (.rep [] a1.Done)), .fact 100023 (.at 23 (.rep [] a1.NoLog)), .fact 100024 (.at 24 (.rep [] a1.Broken)), .fact 100026 (.at 26 (.rep [] ((0 : UInt32) : UInt32))), .fact 100027 (.at 27 (.rep [] ((0 : Int) : Int))), .fact 100028 (.at 28 (.rep [] (false : Bool))), .fact 100029 (.at 29 (.rep [] ((0 : Int) : Int))), .fact 100030 (.at 30 (.rep [] ((0 : Int) : Int))), .fact 100031 (.at 31 (.rep [] (false : Bool))), .fact 100032 (.at 32 (.rep [] (false : Bool))), .fact 100017 (.obj 17 [(false, 1), (false, 1), (false, 1), (false, 1), (false, 1), (false, 1), (false, 1)]), .fact 100025 (.obj 25 [(false, 1), (false, 1), (false, 1), (false, 1), (false, 1), (false, 1), (false, 1)])] _ _
    refine CWalk.cond rfl (fun hb => ?_) (fun hb => ?_)
    ·have hm := cond_t hb hm
     refine CWalk.seq ?_
     refine CWalk.region ?_
     refine wo (Spec.build (us := []) (ls' := [(false, 1, Fact.rep [] ((0 : UInt32) : UInt32)), (false, 1, Fact.rep [] ((0 : Int) : Int)), (false, 1, Fact.rep [] (false : Bool)), (false, 1, Fact.rep [] ((0 : Int) : Int)), (false, 1, Fact.rep [] ((0 : Int) : Int)), (false, 1, Fact.rep [] (false : Bool)), (false, 1, Fact.rep [] (false : Bool))]) bd26 rfl BP.nil) ?_
     refine ws (Step.storeObj (ls := [(false, 1, Fact.rep [] ((0 : UInt32) : UInt32)), (false, 1, Fact.rep [] ((0 : Int) : Int)), (false, 1, Fact.rep [] (false : Bool)), (false, 1, Fact.rep [] ((0 : Int) : Int)), (false, 1, Fact.rep [] ((0 : Int) : Int)), (false, 1, Fact.rep [] (false : Bool)), (false, 1, Fact.rep [] (false : Bool))]) rfl ty26 rfl rfl (Has.s rfl) rfl (HasL.flds (Has.s rfl)) rfl) ?_
     refine wo (Spec.assign Has.int) ?_
     refine Walk.nil ?_
     refine Leaf.thenN ?_
     refine CWalk.ret ?_
     refine Leaf.blockR ?_
     refine Leaf.thenR ?_
     obtain rfl := Option.some.inj hm
     exact Leaf.retC2 rfl (HasR.cv (HasR.obj (ls := [(false, 1, Fact.rep [] ((0 : UInt32) : UInt32)), (false, 1, Fact.rep [] ((0 : Int) : Int)), (false, 1, Fact.rep [] (false : Bool)), (false, 1, Fact.rep [] ((0 : Int) : Int)), (false, 1, Fact.rep [] ((0 : Int) : Int)), (false, 1, Fact.rep [] (false : Bool)), (false, 1, Fact.rep [] (false : Bool))]) ty26 rfl rfl (Has.s rfl) rfl (HasGs.cons (HasG.s rfl) (HasGs.cons (HasG.s rfl) (HasGs.cons (HasG.s rfl) (HasGs.cons (HasG.s rfl) (HasGs.cons (HasG.s rfl) (HasGs.cons (HasG.s rfl) (HasGs.cons (HasG.s rfl) HasGs.nil)))))))) (Cv.trans (Cv.trans (Cv.flds (CvL.cons Cv.fl (CvL.cons Cv.fl (CvL.cons Cv.fl (CvL.cons Cv.fl (CvL.cons Cv.fl (CvL.cons Cv.fl (CvL.cons Cv.fl CvL.nil)))))))) (Cv.close (T := []) (chLoss (Loss.mk (0 : UInt32) (0 : Int) false (0 : Int) (0 : Int) false false)))) Cv.fl)) (HasR.cv (HasR.tmp (Has.s rfl)) Cv.fl)
    ·have hm := cond_f hb hm
     refine CWalk.skip ?_
     refine Leaf.blockN ?_
     refine Leaf.thenN ?_
     refine CWalk.seq ?_
     refine CWalk.region ?_
     refine wo (Spec.fieldAddrO fd26_2 (Has.cv (Has.s rfl) (Cv.isvP rfl))) ?_
     refine ws (Step.storeF (i := 2) (f := Fact.rep [] (true : Bool)) rfl ty4 rfl (Has.s rfl) rfl Has.bool Has.bool rfl) ?_
     refine Walk.nil ?_
     refine Leaf.thenN ?_
     refine CWalk.seq ?_
     refine CWalk.region ?_
     refine wo (Spec.loadObj (ls := [(false, 1, Fact.rep [] a1.Events), (false, 1, Fact.rep [] a1.Lost), (false, 1, Fact.rep [] (true : Bool)), (false, 1, Fact.rep [] a1.Pos), (false, 1, Fact.rep [] a1.Done), (false, 1, Fact.rep [] a1.NoLog), (false, 1, Fact.rep [] a1.Broken)]) ty26 rfl rfl (Has.s rfl) rfl (HasGs.cons (HasG.s rfl) (HasGs.cons (HasG.s rfl) (HasGs.cons (HasG.s rfl) (HasGs.cons (HasG.s rfl) (HasGs.cons (HasG.s rfl) (HasGs.cons (HasG.s rfl) (HasGs.cons (HasG.s rfl) HasGs.nil)))))))) ?_
     refine ws (Step.storeObj (ls := [(false, 1, Fact.rep [] a1.Events), (false, 1, Fact.rep [] a1.Lost), (false, 1, Fact.rep [] (true : Bool)), (false, 1, Fact.rep [] a1.Pos), (false, 1, Fact.rep [] a1.Done), (false, 1, Fact.rep [] a1.NoLog), (false, 1, Fact.rep [] a1.Broken)]) rfl ty26 rfl rfl (Has.s rfl) rfl (HasL.flds (Has.s rfl)) rfl) ?_
     refine wo (Spec.assign Has.int) ?_
     refine Walk.nil ?_
     refine Leaf.thenN ?_
     refine CWalk.ret ?_
     obtain rfl := Option.some.inj hm
     exact Leaf.retC2 rfl (HasR.cv (HasR.obj (ls := [(false, 1, Fact.rep [] a1.Events), (false, 1, Fact.rep [] a1.Lost), (false, 1, Fact.rep [] (true : Bool)), (false, 1, Fact.rep [] a1.Pos), (false, 1, Fact.rep [] a1.Done), (false, 1, Fact.rep [] a1.NoLog), (false, 1, Fact.rep [] a1.Broken)]) ty26 rfl rfl (Has.s rfl) rfl (HasGs.cons (HasG.s rfl) (HasGs.cons (HasG.s rfl) (HasGs.cons (HasG.s rfl) (HasGs.cons (HasG.s rfl) (HasGs.cons (HasG.s rfl) (HasGs.cons (HasG.s rfl) (HasGs.cons (HasG.s rfl) HasGs.nil)))))))) (Cv.trans (Cv.trans (Cv.flds (CvL.cons Cv.fl (CvL.cons Cv.fl (CvL.cons Cv.fl (CvL.cons Cv.fl (CvL.cons Cv.fl (CvL.cons Cv.fl (CvL.cons Cv.fl CvL.nil)))))))) (Cv.close (T := []) (chLoss (Loss.mk a1.Events a1.Lost true a1.Pos a1.Done a1.NoLog a1.Broken)))) Cv.fl)) (HasR.cv (HasR.tmp (Has.s rfl)) Cv.fl)
   ·refine CWalk.seq ?_
    refine CWalk.region ?_
    refine wo (Spec.fieldAddrO fd26_1 (Has.cv (Has.s rfl) (Cv.isvP rfl))) ?_
    refine wo (Spec.loadF (i := 1) ty3 rfl (Has.s rfl) rfl (HasG.s rfl)) ?_
    refine wo (Spec.eqlI (Has.s rfl) Has.int) ?_
    refine wo (Spec.assign (Has.s rfl)) ?_
    refine Walk.nil ?_
    refine Leaf.thenN ?_
    refine CWalk.cond rfl (fun hb => ?_) (fun hb => ?_)
    ·have hm := cond_t hb hm
     refine CWalk.skip ?_
     exact Leaf.join (a1.Lost == (-1 : Int)) hm (sn (sn (st (sf (sf (sf (sf (sf (sf (sf (sf (sf (sf (sf (sf (sf (sf (sn (sn Sub.nil)))))))))))))))))))
    ·have hm := cond_f hb hm
     refine CWalk.region ?_
     refine wo (Spec.fieldAddrO fd26_2 (Has.cv (Has.s rfl) (Cv.isvP rfl))) ?_
     refine wo (Spec.loadF (i := 2) ty4 rfl (Has.s rfl) rfl (HasG.s rfl)) ?_
     refine wo (Spec.assign (Has.s rfl)) ?_
     refine Walk.nil ?_
     exact Leaf.join a1.Spare hm (sn (sn (st (sf (sf (sf (sf (sf (sf (sf (sf (sf (sf (sf (sf (sf (sf (sn (sn Sub.nil)))))))))))))))))))

/-- freeboard/loss.Go -/
def loss_Go (a0 : Config) (a1 : Loss) : Option (Loss × Int) :=
  Option.bind (loss_Check a0 a1) (fun x1 => (bif (x1 != (0 : Int)) then some ((Loss.mk (0 : UInt32) (0 : Int) false (0 : Int) (0 : Int) false false), x1) else Option.bind (shape_Stripes a0) (fun x2 => (bif ((!a1.Spare) || (a1.Pos == x2.1)) then some ((Loss.mk (0 : UInt32) (0 : Int) false (0 : Int) (0 : Int) false false), (6 : Int)) else some ((Loss.mk a1.Events a1.Lost a1.Spare (wI (a1.Pos + (1 : Int))) a1.Done a1.NoLog a1.Broken), (0 : Int))))))
set_option maxRecDepth 100000 in
set_option maxHeartbeats 2000000 in
theorem loss_Go_c (a0 : Config) (a1 : Loss) {r : Loss × Int} (hm : loss_Go a0 a1 = some r) : Ctr Try.prog 14 [.rep 0 a0, .rep 0 a1] (.tup2 (.fl r.1) (.fl r.2)) [] := by
 refine ctr_of_walk [[]] 36 Try.func14 rfl rfl rfl rfl (fun w0 om => ?_)
 unfold loss_Go at hm
 refine CWalk.sub (G' := [.fact 0 (.rep [] (a0 : Config)), .fact 1 (.rep [] (a1 : Loss))]) (Sub.cons (Has.fl (Has.s rfl)) (Sub.cons (Has.fl (Has.s rfl)) Sub.nil)) ?_
 refine CWalk.seq ?_
 refine CWalk.region ?_
 refine ws (Step.boxObj (ls := [(false, 1, Fact.rep [] a0.Id), (false, 1, Fact.rep [] a0.Members), (false, 1, Fact.rep [] a0.Chunk), (false, 1, Fact.rep [] a0.Rows), (false, 1, Fact.rep [] a0.Log), (false, 1, Fact.rep [] a0.Heads)]) 10 rfl rfl rfl rfl (HasL.flds (Has.cv (Has.s rfl) (Cv.trans (Cv.opens (chConfig a0)) (Cv.flds (CvL.cons Cv.fl (CvL.cons Cv.fl (CvL.cons Cv.fl (CvL.cons Cv.fl (CvL.cons Cv.fl (CvL.cons Cv.fl CvL.nil))))))))))) ?_
 refine ws (Step.boxObj (ls := [(false, 1, Fact.rep [] a1.Events), (false, 1, Fact.rep [] a1.Lost), (false, 1, Fact.rep [] a1.Spare), (false, 1, Fact.rep [] a1.Pos), (false, 1, Fact.rep [] a1.Done), (false, 1, Fact.rep [] a1.NoLog), (false, 1, Fact.rep [] a1.Broken)]) 17 rfl rfl rfl rfl (HasL.flds (Has.cv (Has.s rfl) (Cv.trans (Cv.opens (chLoss a1)) (Cv.flds (CvL.cons Cv.fl (CvL.cons Cv.fl (CvL.cons Cv.fl (CvL.cons Cv.fl (CvL.cons Cv.fl (CvL.cons Cv.fl (CvL.cons Cv.fl CvL.nil)))))))))))) ?_
 refine ws (Step.allocObj (ls := [(false, 1, Fact.rep [] ((0 : UInt32) : UInt32)), (false, 1, Fact.rep [] ((0 : Int) : Int)), (false, 1, Fact.rep [] (false : Bool)), (false, 1, Fact.rep [] ((0 : Int) : Int)), (false, 1, Fact.rep [] ((0 : Int) : Int)), (false, 1, Fact.rep [] (false : Bool)), (false, 1, Fact.rep [] (false : Bool))]) 25 rfl rfl rfl rfl zl26) ?_
 refine wo (Spec.assign Has.int) ?_
 refine Walk.nil ?_
 refine Leaf.thenN ?_
 refine CWalk.seq ?_
 refine CWalk.seq ?_
 refine CWalk.region ?_
 refine wo (Spec.loadObj (ls := [(false, 1, Fact.rep [] a0.Id), (false, 1, Fact.rep [] a0.Members), (false, 1, Fact.rep [] a0.Chunk), (false, 1, Fact.rep [] a0.Rows), (false, 1, Fact.rep [] a0.Log), (false, 1, Fact.rep [] a0.Heads)]) ty24 rfl rfl (Has.s rfl) rfl (HasGs.cons (HasG.s rfl) (HasGs.cons (HasG.s rfl) (HasGs.cons (HasG.s rfl) (HasGs.cons (HasG.s rfl) (HasGs.cons (HasG.s rfl) (HasGs.cons (HasG.s rfl) HasGs.nil))))))) ?_
 refine wo (Spec.loadObj (ls := [(false, 1, Fact.rep [] a1.Events), (false, 1, Fact.rep [] a1.Lost), (false, 1, Fact.rep [] a1.Spare), (false, 1, Fact.rep [] a1.Pos), (false, 1, Fact.rep [] a1.Done), (false, 1, Fact.rep [] a1.NoLog), (false, 1, Fact.rep [] a1.Broken)]) ty26 rfl rfl (Has.s rfl) rfl (HasGs.cons (HasG.s rfl) (HasGs.cons (HasG.s rfl) (HasGs.cons (HasG.s rfl) (HasGs.cons (HasG.s rfl) (HasGs.cons (HasG.s rfl) (HasGs.cons (HasG.s rfl) (HasGs.cons (HasG.s rfl) HasGs.nil)))))))) ?_
 obtain ⟨x1, hx1, hm⟩ := bind_some hm
 refine wo (f := Fact.rep [] (x1 : Int)) (Spec.callE [] 33 rfl en18 (loss_Check_c a0 a1 hx1) (HasAll.cons (Has.fl (Has.cv (Has.s rfl) (Cv.trans (Cv.flds (CvL.cons Cv.fl (CvL.cons Cv.fl (CvL.cons Cv.fl (CvL.cons Cv.fl (CvL.cons Cv.fl (CvL.cons Cv.fl CvL.nil))))))) (Cv.close (T := []) (chConfig a0))))) (HasAll.cons (Has.fl (Has.cv (Has.s rfl) (Cv.trans (Cv.flds (CvL.cons Cv.fl (CvL.cons Cv.fl (CvL.cons Cv.fl (CvL.cons Cv.fl (CvL.cons Cv.fl (CvL.cons Cv.fl (CvL.cons Cv.fl CvL.nil)))))))) (Cv.close (T := []) (chLoss a1))))) HasAll.nil))) ?_
 refine wo (Spec.assign (Has.s rfl)) ?_
 refine Walk.nil ?_
 refine Leaf.thenN ?_
 refine CWalk.seq ?_
 refine CWalk.region ?_
 refine mv ?_
 refine wo (Spec.neqI (Has.s rfl) Has.int) ?_
 refine Walk.nil ?_
 refine Leaf.thenN ?_
 refine CWalk.cond rfl (fun hb => ?_) (fun hb => ?_)
 ·have hm := cond_t hb hm
  refine CWalk.seq ?_
  refine CWalk.region ?_
  refine wo (Spec.build (us := []) (ls' := [(false, 1, Fact.rep [] ((0 : UInt32) : UInt32)), (false, 1, Fact.rep [] ((0 : Int) : Int)), (false, 1, Fact.rep [] (false : Bool)), (false, 1, Fact.rep [] ((0 : Int) : Int)), (false, 1, Fact.rep [] ((0 : Int) : Int)), (false, 1, Fact.rep [] (false : Bool)), (false, 1, Fact.rep [] (false : Bool))]) bd26 rfl BP.nil) ?_
  refine mv ?_
  refine ws (Step.storeObj (ls := [(false, 1, Fact.rep [] ((0 : UInt32) : UInt32)), (false, 1, Fact.rep [] ((0 : Int) : Int)), (false, 1, Fact.rep [] (false : Bool)), (false, 1, Fact.rep [] ((0 : Int) : Int)), (false, 1, Fact.rep [] ((0 : Int) : Int)), (false, 1, Fact.rep [] (false : Bool)), (false, 1, Fact.rep [] (false : Bool))]) rfl ty26 rfl rfl (Has.s rfl) rfl (HasL.flds (Has.s rfl)) rfl) ?_
  refine wo (Spec.assign (Has.s rfl)) ?_
  refine Walk.nil ?_
  refine Leaf.thenN ?_
  refine CWalk.ret ?_
  refine Leaf.thenR ?_
  obtain rfl := Option.some.inj hm
  exact Leaf.retC2 rfl (HasR.cv (HasR.obj (ls := [(false, 1, Fact.rep [] ((0 : UInt32) : UInt32)), (false, 1, Fact.rep [] ((0 : Int) : Int)), (false, 1, Fact.rep [] (false : Bool)), (false, 1, Fact.rep [] ((0 : Int) : Int)), (false, 1, Fact.rep [] ((0 : Int) : Int)), (false, 1, Fact.rep [] (false : Bool)), (false, 1, Fact.rep [] (false : Bool))]) ty26 rfl rfl (Has.s rfl) rfl (HasGs.cons (HasG.s rfl) (HasGs.cons (HasG.s rfl) (HasGs.cons (HasG.s rfl) (HasGs.cons (HasG.s rfl) (HasGs.cons (HasG.s rfl) (HasGs.cons (HasG.s rfl) (HasGs.cons (HasG.s rfl) HasGs.nil)))))))) (Cv.trans (Cv.trans (Cv.flds (CvL.cons Cv.fl (CvL.cons Cv.fl (CvL.cons Cv.fl (CvL.cons Cv.fl (CvL.cons Cv.fl (CvL.cons Cv.fl (CvL.cons Cv.fl CvL.nil)))))))) (Cv.close (T := []) (chLoss (Loss.mk (0 : UInt32) (0 : Int) false (0 : Int) (0 : Int) false false)))) Cv.fl)) (HasR.cv (HasR.tmp (Has.s rfl)) Cv.fl)
 ·have hm := cond_f hb hm
  refine CWalk.skip ?_
  refine Leaf.thenN ?_
  refine CWalk.seq ?_
  refine CWalk.seq ?_
  refine CWalk.region ?_
  refine wo (Spec.loadObj (ls := [(false, 1, Fact.rep [] a0.Id), (false, 1, Fact.rep [] a0.Members), (false, 1, Fact.rep [] a0.Chunk), (false, 1, Fact.rep [] a0.Rows), (false, 1, Fact.rep [] a0.Log), (false, 1, Fact.rep [] a0.Heads)]) ty24 rfl rfl (Has.s rfl) rfl (HasGs.cons (HasG.s rfl) (HasGs.cons (HasG.s rfl) (HasGs.cons (HasG.s rfl) (HasGs.cons (HasG.s rfl) (HasGs.cons (HasG.s rfl) (HasGs.cons (HasG.s rfl) HasGs.nil))))))) ?_
  obtain ⟨x2, hx2, hm⟩ := bind_some hm
  refine wo (f := Fact.tup2 (Fact.rep [] x2.1) (Fact.rep [] x2.2)) (Spec.callE [] 34 rfl en32 (shape_Stripes_c a0 hx2) (HasAll.cons (Has.fl (Has.cv (Has.s rfl) (Cv.trans (Cv.flds (CvL.cons Cv.fl (CvL.cons Cv.fl (CvL.cons Cv.fl (CvL.cons Cv.fl (CvL.cons Cv.fl (CvL.cons Cv.fl CvL.nil))))))) (Cv.close (T := []) (chConfig a0))))) HasAll.nil)) ?_
  refine mv ?_
  refine wo (Spec.ext0 (Has.s rfl)) ?_
  refine wo (Spec.ext1 (Has.s rfl)) ?_
  refine wo (Spec.assign (Has.s rfl)) ?_
  refine wo (Spec.assign (Has.s rfl)) ?_
  refine Walk.nil ?_
  refine Leaf.thenN ?_
  refine CWalk.seq ?_
  refine CWalk.region ?_
  refine wo (Spec.fieldAddrO fd26_2 (Has.cv (Has.s rfl) (Cv.isvP rfl))) ?_
  refine wo (Spec.loadF (i := 2) ty4 rfl (Has.s rfl) rfl (HasG.s rfl)) ?_
  refine wo (Spec.not (Has.s rfl)) ?_
  refine mv ?_
  refine wg rfl rfl (fun hb => Spec.fieldAddrO fd26_3 (Has.cv (Has.s rfl) (Cv.isvP rfl))) ?_
  refine wg rfl rfl (fun hb => Spec.loadF (i := 3) ty3 rfl (Has.u rfl hb) rfl (HasG.s rfl)) ?_
  refine wg rfl rfl (fun hb => Spec.move (Has.s rfl)) ?_
  refine wg rfl rfl (fun hb => Spec.eqlI (Has.u rfl hb) (Has.u rfl hb)) ?_
  refine wo (Spec.or (Has.s rfl) (fun h => Has.u rfl h)) ?_
  refine Walk.nil ?_
  refine Leaf.thenN ?_
  refine CWalk.cond rfl (fun hb => ?_) (fun hb => ?_)
  ·have hm := cond_t hb hm
   refine CWalk.seq ?_
   refine CWalk.region ?_
   refine wo (Spec.build (us := []) (ls' := [(false, 1, Fact.rep [] ((0 : UInt32) : UInt32)), (false, 1, Fact.rep [] ((0 : Int) : Int)), (false, 1, Fact.rep [] (false : Bool)), (false, 1, Fact.rep [] ((0 : Int) : Int)), (false, 1, Fact.rep [] ((0 : Int) : Int)), (false, 1, Fact.rep [] (false : Bool)), (false, 1, Fact.rep [] (false : Bool))]) bd26 rfl BP.nil) ?_
   refine ws (Step.storeObj (ls := [(false, 1, Fact.rep [] ((0 : UInt32) : UInt32)), (false, 1, Fact.rep [] ((0 : Int) : Int)), (false, 1, Fact.rep [] (false : Bool)), (false, 1, Fact.rep [] ((0 : Int) : Int)), (false, 1, Fact.rep [] ((0 : Int) : Int)), (false, 1, Fact.rep [] (false : Bool)), (false, 1, Fact.rep [] (false : Bool))]) rfl ty26 rfl rfl (Has.s rfl) rfl (HasL.flds (Has.s rfl)) rfl) ?_
   refine wo (Spec.assign Has.int) ?_
   refine Walk.nil ?_
   refine Leaf.thenN ?_
   refine CWalk.ret ?_
   refine Leaf.thenR ?_
   obtain rfl := Option.some.inj hm
   exact Leaf.retC2 rfl (HasR.cv (HasR.obj (ls := [(false, 1, Fact.rep [] ((0 : UInt32) : UInt32)), (false, 1, Fact.rep [] ((0 : Int) : Int)), (false, 1, Fact.rep [] (false : Bool)), (false, 1, Fact.rep [] ((0 : Int) : Int)), (false, 1, Fact.rep [] ((0 : Int) : Int)), (false, 1, Fact.rep [] (false : Bool)), (false, 1, Fact.rep [] (false : Bool))]) ty26 rfl rfl (Has.s rfl) rfl (HasGs.cons (HasG.s rfl) (HasGs.cons (HasG.s rfl) (HasGs.cons (HasG.s rfl) (HasGs.cons (HasG.s rfl) (HasGs.cons (HasG.s rfl) (HasGs.cons (HasG.s rfl) (HasGs.cons (HasG.s rfl) HasGs.nil)))))))) (Cv.trans (Cv.trans (Cv.flds (CvL.cons Cv.fl (CvL.cons Cv.fl (CvL.cons Cv.fl (CvL.cons Cv.fl (CvL.cons Cv.fl (CvL.cons Cv.fl (CvL.cons Cv.fl CvL.nil)))))))) (Cv.close (T := []) (chLoss (Loss.mk (0 : UInt32) (0 : Int) false (0 : Int) (0 : Int) false false)))) Cv.fl)) (HasR.cv (HasR.tmp (Has.s rfl)) Cv.fl)
  ·have hm := cond_f hb hm
   refine CWalk.skip ?_
   refine Leaf.thenN ?_
   refine CWalk.seq ?_
   refine CWalk.region ?_
   refine wo (Spec.fieldAddrO fd26_3 (Has.cv (Has.s rfl) (Cv.isvP rfl))) ?_
   refine wo (Spec.loadF (i := 3) ty3 rfl (Has.s rfl) rfl (HasG.s rfl)) ?_
   refine wo (Spec.addI (Has.s rfl) Has.int) ?_
   refine wo (Spec.fieldAddrO fd26_3 (Has.cv (Has.s rfl) (Cv.isvP rfl))) ?_
   refine ws (Step.storeF (i := 3) (f := Fact.rep [] ((wI (a1.Pos + (1 : Int))) : Int)) rfl ty3 rfl (Has.s rfl) rfl (Has.s rfl) (Has.s rfl) rfl) ?_
   refine Walk.nil ?_
   refine Leaf.thenN ?_
   refine CWalk.seq ?_
   refine CWalk.region ?_
   refine wo (Spec.loadObj (ls := [(false, 1, Fact.rep [] a1.Events), (false, 1, Fact.rep [] a1.Lost), (false, 1, Fact.rep [] a1.Spare), (false, 1, Fact.rep [] ((wI (a1.Pos + (1 : Int))) : Int)), (false, 1, Fact.rep [] a1.Done), (false, 1, Fact.rep [] a1.NoLog), (false, 1, Fact.rep [] a1.Broken)]) ty26 rfl rfl (Has.s rfl) rfl (HasGs.cons (HasG.s rfl) (HasGs.cons (HasG.s rfl) (HasGs.cons (HasG.s rfl) (HasGs.cons (HasG.s rfl) (HasGs.cons (HasG.s rfl) (HasGs.cons (HasG.s rfl) (HasGs.cons (HasG.s rfl) HasGs.nil)))))))) ?_
   refine ws (Step.storeObj (ls := [(false, 1, Fact.rep [] a1.Events), (false, 1, Fact.rep [] a1.Lost), (false, 1, Fact.rep [] a1.Spare), (false, 1, Fact.rep [] ((wI (a1.Pos + (1 : Int))) : Int)), (false, 1, Fact.rep [] a1.Done), (false, 1, Fact.rep [] a1.NoLog), (false, 1, Fact.rep [] a1.Broken)]) rfl ty26 rfl rfl (Has.s rfl) rfl (HasL.flds (Has.s rfl)) rfl) ?_
   refine wo (Spec.assign Has.int) ?_
   refine Walk.nil ?_
   refine Leaf.thenN ?_
   refine CWalk.ret ?_
   obtain rfl := Option.some.inj hm
   exact Leaf.retC2 rfl (HasR.cv (HasR.obj (ls := [(false, 1, Fact.rep [] a1.Events), (false, 1, Fact.rep [] a1.Lost), (false, 1, Fact.rep [] a1.Spare), (false, 1, Fact.rep [] ((wI (a1.Pos + (1 : Int))) : Int)), (false, 1, Fact.rep [] a1.Done), (false, 1, Fact.rep [] a1.NoLog), (false, 1, Fact.rep [] a1.Broken)]) ty26 rfl rfl (Has.s rfl) rfl (HasGs.cons (HasG.s rfl) (HasGs.cons (HasG.s rfl) (HasGs.cons (HasG.s rfl) (HasGs.cons (HasG.s rfl) (HasGs.cons (HasG.s rfl) (HasGs.cons (HasG.s rfl) (HasGs.cons (HasG.s rfl) HasGs.nil)))))))) (Cv.trans (Cv.trans (Cv.flds (CvL.cons Cv.fl (CvL.cons Cv.fl (CvL.cons Cv.fl (CvL.cons Cv.fl (CvL.cons Cv.fl (CvL.cons Cv.fl (CvL.cons Cv.fl CvL.nil)))))))) (Cv.close (T := []) (chLoss (Loss.mk a1.Events a1.Lost a1.Spare (wI (a1.Pos + (1 : Int))) a1.Done a1.NoLog a1.Broken)))) Cv.fl)) (HasR.cv (HasR.tmp (Has.s rfl)) Cv.fl)

def loss_Missing_J1 (a1 : Loss) (a2 : Int) (j3 : Bool) : Option (Int × Int) :=
  (bif j3 then some ((0 : Int), (2 : Int)) else (bif (a1.Spare && (decide (a2 < a1.Pos))) then some ((-1 : Int), (0 : Int)) else some (a1.Lost, (0 : Int))))
/-- freeboard/loss.Missing -/
def loss_Missing (a0 : Config) (a1 : Loss) (a2 : Int) : Option (Int × Int) :=
  Option.bind (loss_Check a0 a1) (fun x1 => (bif (x1 != (0 : Int)) then some ((0 : Int), x1) else Option.bind (shape_Stripes a0) (fun x2 => (bif (decide (a2 < (0 : Int))) then (loss_Missing_J1 a1 a2 (decide (a2 < (0 : Int)))) else (loss_Missing_J1 a1 a2 (decide (a2 ≥ x2.1)))))))
set_option maxRecDepth 100000 in
set_option maxHeartbeats 2000000 in
theorem loss_Missing_c (a0 : Config) (a1 : Loss) (a2 : Int) {r : Int × Int} (hm : loss_Missing a0 a1 a2 = some r) : Ctr Try.prog 8 [.rep 0 a0, .rep 0 a1, .rep 0 a2] (.tup2 (.fl r.1) (.fl r.2)) [] := by
 refine ctr_of_walk [[]] 39 Try.func8 rfl rfl rfl rfl (fun w0 om => ?_)
 unfold loss_Missing at hm
 refine CWalk.sub (G' := [.fact 0 (.rep [] (a0 : Config)), .fact 1 (.rep [] (a1 : Loss)), .fact 2 (.rep [] (a2 : Int))]) (Sub.cons (Has.fl (Has.s rfl)) (Sub.cons (Has.fl (Has.s rfl)) (Sub.cons (Has.fl (Has.s rfl)) Sub.nil))) ?_
 refine CWalk.seq ?_
 refine CWalk.region ?_
 refine ws (Step.boxObj (ls := [(false, 1, Fact.rep [] a0.Id), (false, 1, Fact.rep [] a0.Members), (false, 1, Fact.rep [] a0.Chunk), (false, 1, Fact.rep [] a0.Rows), (false, 1, Fact.rep [] a0.Log), (false, 1, Fact.rep [] a0.Heads)]) 10 rfl rfl rfl rfl (HasL.flds (Has.cv (Has.s rfl) (Cv.trans (Cv.opens (chConfig a0)) (Cv.flds (CvL.cons Cv.fl (CvL.cons Cv.fl (CvL.cons Cv.fl (CvL.cons Cv.fl (CvL.cons Cv.fl (CvL.cons Cv.fl CvL.nil))))))))))) ?_
 refine ws (Step.boxObj (ls := [(false, 1, Fact.rep [] a1.Events), (false, 1, Fact.rep [] a1.Lost), (false, 1, Fact.rep [] a1.Spare), (false, 1, Fact.rep [] a1.Pos), (false, 1, Fact.rep [] a1.Done), (false, 1, Fact.rep [] a1.NoLog), (false, 1, Fact.rep [] a1.Broken)]) 17 rfl rfl rfl rfl (HasL.flds (Has.cv (Has.s rfl) (Cv.trans (Cv.opens (chLoss a1)) (Cv.flds (CvL.cons Cv.fl (CvL.cons Cv.fl (CvL.cons Cv.fl (CvL.cons Cv.fl (CvL.cons Cv.fl (CvL.cons Cv.fl (CvL.cons Cv.fl CvL.nil)))))))))))) ?_
 refine wo (Spec.assign Has.int) ?_
 refine wo (Spec.assign Has.int) ?_
 refine Walk.nil ?_
 refine Leaf.thenN ?_
 refine CWalk.seq ?_
 refine CWalk.seq ?_
 refine CWalk.region ?_
 refine wo (Spec.loadObj (ls := [(false, 1, Fact.rep [] a0.Id), (false, 1, Fact.rep [] a0.Members), (false, 1, Fact.rep [] a0.Chunk), (false, 1, Fact.rep [] a0.Rows), (false, 1, Fact.rep [] a0.Log), (false, 1, Fact.rep [] a0.Heads)]) ty24 rfl rfl (Has.s rfl) rfl (HasGs.cons (HasG.s rfl) (HasGs.cons (HasG.s rfl) (HasGs.cons (HasG.s rfl) (HasGs.cons (HasG.s rfl) (HasGs.cons (HasG.s rfl) (HasGs.cons (HasG.s rfl) HasGs.nil))))))) ?_
 refine wo (Spec.loadObj (ls := [(false, 1, Fact.rep [] a1.Events), (false, 1, Fact.rep [] a1.Lost), (false, 1, Fact.rep [] a1.Spare), (false, 1, Fact.rep [] a1.Pos), (false, 1, Fact.rep [] a1.Done), (false, 1, Fact.rep [] a1.NoLog), (false, 1, Fact.rep [] a1.Broken)]) ty26 rfl rfl (Has.s rfl) rfl (HasGs.cons (HasG.s rfl) (HasGs.cons (HasG.s rfl) (HasGs.cons (HasG.s rfl) (HasGs.cons (HasG.s rfl) (HasGs.cons (HasG.s rfl) (HasGs.cons (HasG.s rfl) (HasGs.cons (HasG.s rfl) HasGs.nil)))))))) ?_
 obtain ⟨x1, hx1, hm⟩ := bind_some hm
 refine wo (f := Fact.rep [] (x1 : Int)) (Spec.callE [] 25 rfl en18 (loss_Check_c a0 a1 hx1) (HasAll.cons (Has.fl (Has.cv (Has.s rfl) (Cv.trans (Cv.flds (CvL.cons Cv.fl (CvL.cons Cv.fl (CvL.cons Cv.fl (CvL.cons Cv.fl (CvL.cons Cv.fl (CvL.cons Cv.fl CvL.nil))))))) (Cv.close (T := []) (chConfig a0))))) (HasAll.cons (Has.fl (Has.cv (Has.s rfl) (Cv.trans (Cv.flds (CvL.cons Cv.fl (CvL.cons Cv.fl (CvL.cons Cv.fl (CvL.cons Cv.fl (CvL.cons Cv.fl (CvL.cons Cv.fl (CvL.cons Cv.fl CvL.nil)))))))) (Cv.close (T := []) (chLoss a1))))) HasAll.nil))) ?_
 refine wo (Spec.assign (Has.s rfl)) ?_
 refine Walk.nil ?_
 refine Leaf.thenN ?_
 refine CWalk.seq ?_
 refine CWalk.region ?_
 refine mv ?_
 refine wo (Spec.neqI (Has.s rfl) Has.int) ?_
 refine Walk.nil ?_
 refine Leaf.thenN ?_
 refine CWalk.cond rfl (fun hb => ?_) (fun hb => ?_)
 ·have hm := cond_t hb hm
  refine CWalk.seq ?_
  refine CWalk.region ?_
  refine mv ?_
  refine wo (Spec.assign Has.int) ?_
  refine wo (Spec.assign (Has.s rfl)) ?_
  refine Walk.nil ?_
  refine Leaf.thenN ?_
  refine CWalk.ret ?_
  refine Leaf.thenR ?_
  obtain rfl := Option.some.inj hm
  exact Leaf.retC2 rfl (HasR.cv (HasR.tmp (Has.s rfl)) Cv.fl) (HasR.cv (HasR.tmp (Has.s rfl)) Cv.fl)
 ·have hm := cond_f hb hm
  refine CWalk.skip ?_
  refine Leaf.thenN ?_
  refine CWalk.seq ?_
  refine CWalk.region ?_
  refine wo (Spec.loadObj (ls := [(false, 1, Fact.rep [] a0.Id), (false, 1, Fact.rep [] a0.Members), (false, 1, Fact.rep [] a0.Chunk), (false, 1, Fact.rep [] a0.Rows), (false, 1, Fact.rep [] a0.Log), (false, 1, Fact.rep [] a0.Heads)]) ty24 rfl rfl (Has.s rfl) rfl (HasGs.cons (HasG.s rfl) (HasGs.cons (HasG.s rfl) (HasGs.cons (HasG.s rfl) (HasGs.cons (HasG.s rfl) (HasGs.cons (HasG.s rfl) (HasGs.cons (HasG.s rfl) HasGs.nil))))))) ?_
  obtain ⟨x2, hx2, hm⟩ := bind_some hm
  refine wo (f := Fact.tup2 (Fact.rep [] x2.1) (Fact.rep [] x2.2)) (Spec.callE [] 26 rfl en32 (shape_Stripes_c a0 hx2) (HasAll.cons (Has.fl (Has.cv (Has.s rfl) (Cv.trans (Cv.flds (CvL.cons Cv.fl (CvL.cons Cv.fl (CvL.cons Cv.fl (CvL.cons Cv.fl (CvL.cons Cv.fl (CvL.cons Cv.fl CvL.nil))))))) (Cv.close (T := []) (chConfig a0))))) HasAll.nil)) ?_
  refine mv ?_
  refine wo (Spec.ext0 (Has.s rfl)) ?_
  refine wo (Spec.ext1 (Has.s rfl)) ?_
  refine wo (Spec.assign (Has.s rfl)) ?_
  refine wo (Spec.assign (Has.s rfl)) ?_
  refine Walk.nil ?_
  refine Leaf.thenN ?_
  refine CWalk.seq ?_
  refine CWalk.block ?_
  refine CWalk.seqJ (fun p : Bool => [.fact 2 (.rep [] (a2 : Int)), .fact 4 (.isv 17), .fact 22 (.rep [] (p : Bool)), .fact 100018 (.at 18 (.rep [] a1.Events)), .fact 100019 (.at 19 (.rep [] a1.Lost)), .fact 100020 (.at 20 (.rep [] a1.Spare)), .fact 100021 (.at 21 (.rep [] a1.Pos)), .fact 100022 (.at 22 (.rep [] a1.Done)), .fact 100023 (.at 23 (.rep [] a1.NoLog)), .fact 100024 (.at 24 (.rep [] a1.Broken)), .fact 100017 (.obj 17 [(false, 1), (false, 1), (false, 1), (false, 1), (false, 1), (false, 1), (false, 1)])]) (fun p : Bool => loss_Missing_J1 a1 a2 p = some r) ?_ ?_
  ·rintro j3 hm
   replace hm : loss_Missing_J1 a1 a2 j3 = some r := hm
   unfold loss_Missing_J1 at hm
   show CWalk _ [.fact 2 (.rep [] (a2 : Int)), .fact 4 (.isv 17), .fact 22 (.rep [] (j3 : Bool)), .fact 100018 (.at 18 (.rep [] a1.Events)), .fact 100019 (.at 19 (.rep [] a1.Lost)), .fact 100020 (.at 20 (.rep [] a1.Spare)), .fact 100021 (.at 21 (.rep [] a1.Pos)), .fact 100022 (.at 22 (.rep [] a1.Done)), .fact 100023 (.at 23 (.rep [] a1.NoLog)), .fact 100024 (.at 24 (.rep [] a1.Broken)), .fact 100017 (.obj 17 [(false, 1), (false, 1), (false, 1), (false, 1), (false, 1), (false, 1), (false, 1)])] _ _
   refine CWalk.cond rfl (fun hb => ?_) (fun hb => ?_)
   ·have hm := cond_t hb hm
    refine CWalk.seq ?_
    refine CWalk.region ?_
    refine wo (Spec.assign Has.int) ?_
    refine wo (Spec.assign Has.int) ?_
    refine Walk.nil ?_
    refine Leaf.thenN ?_
    refine CWalk.ret ?_
    refine Leaf.blockR ?_
    refine Leaf.thenR ?_
    obtain rfl := Option.some.inj hm
    exact Leaf.retC2 rfl (HasR.cv (HasR.tmp (Has.s rfl)) Cv.fl) (HasR.cv (HasR.tmp (Has.s rfl)) Cv.fl)
   ·have hm := cond_f hb hm
    refine CWalk.seq ?_
    refine CWalk.region ?_
    refine wo (Spec.fieldAddrO fd26_2 (Has.cv (Has.s rfl) (Cv.isvP rfl))) ?_
    refine wo (Spec.loadF (i := 2) ty4 rfl (Has.s rfl) rfl (HasG.s rfl)) ?_
    refine mv ?_
    refine wg rfl rfl (fun hb => Spec.move (Has.s rfl)) ?_
    refine wg rfl rfl (fun hb => Spec.fieldAddrO fd26_3 (Has.cv (Has.s rfl) (Cv.isvP rfl))) ?_
    refine wg rfl rfl (fun hb => Spec.loadF (i := 3) ty3 rfl (Has.u rfl hb) rfl (HasG.s rfl)) ?_
    refine wg rfl rfl (fun hb => Spec.lssI (Has.u rfl hb) (Has.u rfl hb)) ?_
    refine wo (Spec.and (Has.s rfl) (fun h => Has.u rfl h)) ?_
    refine wo (Spec.assign (Has.s rfl)) ?_
    refine Walk.nil ?_
    refine Leaf.thenN ?_
    refine CWalk.cond rfl (fun hb => ?_) (fun hb => ?_)
    ·have hm := cond_t hb hm
     refine CWalk.seq ?_
     refine CWalk.region ?_
     refine wo (Spec.assign Has.int) ?_
     refine wo (Spec.assign Has.int) ?_
     refine Walk.nil ?_
     refine Leaf.thenN ?_
     refine CWalk.ret ?_
     refine Leaf.blockR ?_
     refine Leaf.thenR ?_
     obtain rfl := Option.some.inj hm
     exact Leaf.retC2 rfl (HasR.cv (HasR.tmp (Has.s rfl)) Cv.fl) (HasR.cv (HasR.tmp (Has.s rfl)) Cv.fl)
    ·have hm := cond_f hb hm
     refine CWalk.skip ?_
     refine Leaf.blockN ?_
     refine Leaf.thenN ?_
     refine CWalk.seq ?_
     refine CWalk.region ?_
     refine wo (Spec.fieldAddrO fd26_1 (Has.cv (Has.s rfl) (Cv.isvP rfl))) ?_
     refine wo (Spec.loadF (i := 1) ty3 rfl (Has.s rfl) rfl (HasG.s rfl)) ?_
     refine wo (Spec.assign (Has.s rfl)) ?_
     refine wo (Spec.assign Has.int) ?_
     refine Walk.nil ?_
     refine Leaf.thenN ?_
     refine CWalk.ret ?_
     obtain rfl := Option.some.inj hm
     exact Leaf.retC2 rfl (HasR.cv (HasR.tmp (Has.s rfl)) Cv.fl) (HasR.cv (HasR.tmp (Has.s rfl)) Cv.fl)
  ·refine CWalk.seq ?_
   refine CWalk.region ?_
   refine mv ?_
   refine wo (Spec.lssI (Has.s rfl) Has.int) ?_
   refine wo (Spec.assign (Has.s rfl)) ?_
   refine Walk.nil ?_
   refine Leaf.thenN ?_
   refine CWalk.cond rfl (fun hb => ?_) (fun hb => ?_)
   ·have hm := cond_t hb hm
    refine CWalk.skip ?_
    exact Leaf.join (decide (a2 < (0 : Int))) hm (st (sn (st (sf (sf (sf (sf (sf (sf (sf (sn Sub.nil)))))))))))
   ·have hm := cond_f hb hm
    refine CWalk.region ?_
    refine mv ?_
    refine mv ?_
    refine wo (Spec.geqI (Has.s rfl) (Has.s rfl)) ?_
    refine wo (Spec.assign (Has.s rfl)) ?_
    refine Walk.nil ?_
    exact Leaf.join (decide (a2 ≥ x2.1)) hm (st (sn (st (sf (sf (sf (sf (sf (sf (sf (sn Sub.nil)))))))))))

/-- freeboard/freeboardlaw23.misses -/
def law23_misses (a0 : Loss) (a1 : Int) (a2 : Int) : Option (Bool) :=
  Option.bind (law23_three) (fun x1 => Option.bind (loss_Missing x1 a0 (0 : Int)) (fun x2 => Option.bind (law23_three) (fun x3 => Option.bind (loss_Missing x3 a0 (1 : Int)) (fun x4 => some ((((x2.2 == (0 : Int)) && (x4.2 == (0 : Int))) && (x2.1 == a1)) && (x4.1 == a2))))))
set_option maxRecDepth 100000 in
set_option maxHeartbeats 2000000 in
theorem law23_misses_c (a0 : Loss) (a1 : Int) (a2 : Int) {r : Bool} (hm : law23_misses a0 a1 a2 = some r) : Ctr Try.prog 23 [.rep 0 a0, .rep 0 a1, .rep 0 a2] (.fl r) [] := by
 refine ctr_of_walk [[]] 39 Try.func23 rfl rfl rfl rfl (fun w0 om => ?_)
 unfold law23_misses at hm
 refine CWalk.sub (G' := [.fact 0 (.rep [] (a0 : Loss)), .fact 1 (.rep [] (a1 : Int)), .fact 2 (.rep [] (a2 : Int))]) (Sub.cons (Has.fl (Has.s rfl)) (Sub.cons (Has.fl (Has.s rfl)) (Sub.cons (Has.fl (Has.s rfl)) Sub.nil))) ?_
 refine CWalk.seq ?_
 refine CWalk.region ?_
 refine ws (Step.boxObj (ls := [(false, 1, Fact.rep [] a0.Events), (false, 1, Fact.rep [] a0.Lost), (false, 1, Fact.rep [] a0.Spare), (false, 1, Fact.rep [] a0.Pos), (false, 1, Fact.rep [] a0.Done), (false, 1, Fact.rep [] a0.NoLog), (false, 1, Fact.rep [] a0.Broken)]) 10 rfl rfl rfl rfl (HasL.flds (Has.cv (Has.s rfl) (Cv.trans (Cv.opens (chLoss a0)) (Cv.flds (CvL.cons Cv.fl (CvL.cons Cv.fl (CvL.cons Cv.fl (CvL.cons Cv.fl (CvL.cons Cv.fl (CvL.cons Cv.fl (CvL.cons Cv.fl CvL.nil)))))))))))) ?_
 refine wo (Spec.assign Has.bool) ?_
 refine Walk.nil ?_
 refine Leaf.thenN ?_
 refine CWalk.seq ?_
 obtain ⟨x1, hx1, hm⟩ := bind_some hm
 obtain ⟨x2, hx2, hm⟩ := bind_some hm
 refine CWalk.drawM [[], [], [0, 1], [0, 1, 2], [0, 1, 2, 3], [0, 1, 2, 3], [0, 1, 2, 3, 4], [0, 1, 2, 3, 4, 5, 6]] [[.fact 12 (.rep [] (x1 : Config))], [.fact 13 (.flds [(false, 1, Fact.rep [] a0.Events), (false, 1, Fact.rep [] a0.Lost), (false, 1, Fact.rep [] a0.Spare), (false, 1, Fact.rep [] a0.Pos), (false, 1, Fact.rep [] a0.Done), (false, 1, Fact.rep [] a0.NoLog), (false, 1, Fact.rep [] a0.Broken)])], [.fact 14 (.tup2 (Fact.rep [] x2.1) (Fact.rep [] x2.2))], [.fact 11 (.tup2 (Fact.rep [] x2.1) (Fact.rep [] x2.2))], [.fact 15 (.rep [] x2.1)], [.fact 16 (.rep [] x2.2)], [.fact 7 (.rep [] x2.1)], [.fact 8 (.rep [] x2.2)]] mixed (by kernel_rfl) (ao (so (Spec.callE [] 18 rfl en24 (law23_three_c  hx1) HasAll.nil)) (ao (so (Spec.loadObj (ls := [(false, 1, Fact.rep [] a0.Events), (false, 1, Fact.rep [] a0.Lost), (false, 1, Fact.rep [] a0.Spare), (false, 1, Fact.rep [] a0.Pos), (false, 1, Fact.rep [] a0.Done), (false, 1, Fact.rep [] a0.NoLog), (false, 1, Fact.rep [] a0.Broken)]) ty26 rfl rfl (Has.s rfl) rfl (HasGs.cons (HasG.s rfl) (HasGs.cons (HasG.s rfl) (HasGs.cons (HasG.s rfl) (HasGs.cons (HasG.s rfl) (HasGs.cons (HasG.s rfl) (HasGs.cons (HasG.s rfl) (HasGs.cons (HasG.s rfl) HasGs.nil))))))))) (ao (so (Spec.callE [] 19 rfl en8 (loss_Missing_c x1 a0 (0 : Int) hx2) (HasAll.cons (Has.fl (Has.s rfl)) (HasAll.cons (Has.fl (Has.cv (Has.s rfl) (Cv.trans (Cv.flds (CvL.cons Cv.fl (CvL.cons Cv.fl (CvL.cons Cv.fl (CvL.cons Cv.fl (CvL.cons Cv.fl (CvL.cons Cv.fl (CvL.cons Cv.fl CvL.nil)))))))) (Cv.close (T := []) (chLoss a0))))) (HasAll.cons (Has.fl Has.int) HasAll.nil))))) (ao (so (Spec.move (Has.s rfl))) (ao (so (Spec.ext0 (Has.s rfl))) (ao (so (Spec.ext1 (Has.s rfl))) (ao (so (Spec.assign (Has.s rfl))) (ao (so (Spec.assign (Has.s rfl))) AllM.nil)))))))) ?_
 refine Leaf.thenN ?_
 refine CWalk.seq ?_
 obtain ⟨x3, hx3, hm⟩ := bind_some hm
 obtain ⟨x4, hx4, hm⟩ := bind_some hm
 refine CWalk.drawM [[], [], [0, 1], [0, 1, 2], [0, 1, 2, 3], [0, 1, 2, 3], [0, 1, 2, 3, 4], [0, 1, 2, 3, 4, 5, 6]] [[.fact 18 (.rep [] (x3 : Config))], [.fact 19 (.flds [(false, 1, Fact.rep [] a0.Events), (false, 1, Fact.rep [] a0.Lost), (false, 1, Fact.rep [] a0.Spare), (false, 1, Fact.rep [] a0.Pos), (false, 1, Fact.rep [] a0.Done), (false, 1, Fact.rep [] a0.NoLog), (false, 1, Fact.rep [] a0.Broken)])], [.fact 20 (.tup2 (Fact.rep [] x4.1) (Fact.rep [] x4.2))], [.fact 17 (.tup2 (Fact.rep [] x4.1) (Fact.rep [] x4.2))], [.fact 21 (.rep [] x4.1)], [.fact 22 (.rep [] x4.2)], [.fact 9 (.rep [] x4.1)], [.fact 10 (.rep [] x4.2)]] mixed (by kernel_rfl) (ao (so (Spec.callE [] 20 rfl en24 (law23_three_c  hx3) HasAll.nil)) (ao (so (Spec.loadObj (ls := [(false, 1, Fact.rep [] a0.Events), (false, 1, Fact.rep [] a0.Lost), (false, 1, Fact.rep [] a0.Spare), (false, 1, Fact.rep [] a0.Pos), (false, 1, Fact.rep [] a0.Done), (false, 1, Fact.rep [] a0.NoLog), (false, 1, Fact.rep [] a0.Broken)]) ty26 rfl rfl (Has.s rfl) rfl (HasGs.cons (HasG.s rfl) (HasGs.cons (HasG.s rfl) (HasGs.cons (HasG.s rfl) (HasGs.cons (HasG.s rfl) (HasGs.cons (HasG.s rfl) (HasGs.cons (HasG.s rfl) (HasGs.cons (HasG.s rfl) HasGs.nil))))))))) (ao (so (Spec.callE [] 21 rfl en8 (loss_Missing_c x3 a0 (1 : Int) hx4) (HasAll.cons (Has.fl (Has.s rfl)) (HasAll.cons (Has.fl (Has.cv (Has.s rfl) (Cv.trans (Cv.flds (CvL.cons Cv.fl (CvL.cons Cv.fl (CvL.cons Cv.fl (CvL.cons Cv.fl (CvL.cons Cv.fl (CvL.cons Cv.fl (CvL.cons Cv.fl CvL.nil)))))))) (Cv.close (T := []) (chLoss a0))))) (HasAll.cons (Has.fl Has.int) HasAll.nil))))) (ao (so (Spec.move (Has.s rfl))) (ao (so (Spec.ext0 (Has.s rfl))) (ao (so (Spec.ext1 (Has.s rfl))) (ao (so (Spec.assign (Has.s rfl))) (ao (so (Spec.assign (Has.s rfl))) AllM.nil)))))))) ?_
 refine Leaf.thenN ?_
 refine CWalk.seq ?_
 refine CWalk.region ?_
 refine mv ?_
 refine wo (Spec.eqlI (Has.s rfl) Has.int) ?_
 refine mv ?_
 refine wg rfl rfl (fun hb => Spec.move (Has.s rfl)) ?_
 refine wg rfl rfl (fun hb => Spec.eqlI (Has.u rfl hb) Has.int) ?_
 refine wo (Spec.and (Has.s rfl) (fun h => Has.u rfl h)) ?_
 refine mv ?_
 refine wg rfl rfl (fun hb => Spec.move (Has.s rfl)) ?_
 refine wg rfl rfl (fun hb => Spec.move (Has.s rfl)) ?_
 refine wg rfl rfl (fun hb => Spec.eqlI (Has.u rfl hb) (Has.u rfl hb)) ?_
 refine wo (Spec.and (Has.s rfl) (fun h => Has.u rfl h)) ?_
 refine mv ?_
 refine wg rfl rfl (fun hb => Spec.move (Has.s rfl)) ?_
 refine wg rfl rfl (fun hb => Spec.move (Has.s rfl)) ?_
 refine wg rfl rfl (fun hb => Spec.eqlI (Has.u rfl hb) (Has.u rfl hb)) ?_
 refine wo (Spec.and (Has.s rfl) (fun h => Has.u rfl h)) ?_
 refine wo (Spec.assign (Has.s rfl)) ?_
 refine Walk.nil ?_
 refine Leaf.thenN ?_
 refine CWalk.ret ?_
 obtain rfl := Option.some.inj hm
 exact Leaf.retC1 rfl (HasR.cv (HasR.tmp (Has.s rfl)) Cv.fl)

/-- freeboard/freeboardlaw23.alive -/
def law23_alive : Option (Bool) :=
  Option.bind (law23_three) (fun x1 => Option.bind (law23_nobody) (fun x2 => Option.bind (loss_Die x1 x2 (1 : Int) false) (fun x3 => Option.bind (law23_three) (fun x4 => Option.bind (loss_Spare x4 x3.1) (fun x5 => Option.bind (law23_three) (fun x6 => Option.bind (loss_Go x6 x5.1) (fun x7 => Option.bind (gO ((((x3.2 == (0 : Int)) && (x5.2 == (0 : Int))) && (x7.2 == (0 : Int)))) (law23_nobody)) (fun x8 => Option.bind (gO ((((x3.2 == (0 : Int)) && (x5.2 == (0 : Int))) && (x7.2 == (0 : Int)))) (law23_misses x8 (-1 : Int) (-1 : Int))) (fun x9 => Option.bind (gO (((((x3.2 == (0 : Int)) && (x5.2 == (0 : Int))) && (x7.2 == (0 : Int))) && x9)) (law23_misses x3.1 (1 : Int) (1 : Int))) (fun x10 => Option.bind (gO ((((((x3.2 == (0 : Int)) && (x5.2 == (0 : Int))) && (x7.2 == (0 : Int))) && x9) && x10)) (law23_misses x5.1 (1 : Int) (1 : Int))) (fun x11 => Option.bind (gO (((((((x3.2 == (0 : Int)) && (x5.2 == (0 : Int))) && (x7.2 == (0 : Int))) && x9) && x10) && x11)) (law23_misses x7.1 (-1 : Int) (1 : Int))) (fun x12 => some (((((((x3.2 == (0 : Int)) && (x5.2 == (0 : Int))) && (x7.2 == (0 : Int))) && x9) && x10) && x11) && x12)))))))))))))
set_option maxRecDepth 100000 in
set_option maxHeartbeats 2000000 in
theorem law23_alive_c {r : Bool} (hm : law23_alive = some r) : Ctr Try.prog 20 [] (.fl r) [] := by
 refine ctr_of_walk [[]] 51 Try.func20 rfl rfl rfl rfl (fun w0 om => ?_)
 unfold law23_alive at hm
 refine CWalk.sub (G' := []) (Sub.nil) ?_
 refine CWalk.seq ?_
 refine CWalk.region ?_
 refine wo (Spec.assign Has.bool) ?_
 refine Walk.nil ?_
 refine Leaf.thenN ?_
 refine CWalk.seq ?_
 refine CWalk.region ?_
 obtain ⟨x1, hx1, hm⟩ := bind_some hm
 refine wo (f := Fact.rep [] (x1 : Config)) (Spec.callE [] 10 rfl en24 (law23_three_c  hx1) HasAll.nil) ?_
 obtain ⟨x2, hx2, hm⟩ := bind_some hm
 refine wo (f := Fact.rep [] (x2 : Loss)) (Spec.callE [] 11 rfl en21 (law23_nobody_c  hx2) HasAll.nil) ?_
 obtain ⟨x3, hx3, hm⟩ := bind_some hm
 refine wo (f := Fact.tup2 (Fact.rep [] x3.1) (Fact.rep [] x3.2)) (Spec.callE [] 12 rfl en10 (loss_Die_c x1 x2 (1 : Int) false hx3) (HasAll.cons (Has.fl (Has.s rfl)) (HasAll.cons (Has.fl (Has.s rfl)) (HasAll.cons (Has.fl Has.int) (HasAll.cons (Has.fl Has.bool) HasAll.nil))))) ?_
 refine mv ?_
 refine wo (Spec.ext0 (Has.s rfl)) ?_
 refine wo (Spec.ext1 (Has.s rfl)) ?_
 refine ws (Step.allocObj (ls := [(false, 1, Fact.rep [] ((0 : UInt32) : UInt32)), (false, 1, Fact.rep [] ((0 : Int) : Int)), (false, 1, Fact.rep [] (false : Bool)), (false, 1, Fact.rep [] ((0 : Int) : Int)), (false, 1, Fact.rep [] ((0 : Int) : Int)), (false, 1, Fact.rep [] (false : Bool)), (false, 1, Fact.rep [] (false : Bool))]) 13 rfl rfl rfl rfl zl26) ?_
 refine ws (Step.storeObj (ls := [(false, 1, Fact.rep [] x3.1.Events), (false, 1, Fact.rep [] x3.1.Lost), (false, 1, Fact.rep [] x3.1.Spare), (false, 1, Fact.rep [] x3.1.Pos), (false, 1, Fact.rep [] x3.1.Done), (false, 1, Fact.rep [] x3.1.NoLog), (false, 1, Fact.rep [] x3.1.Broken)]) rfl ty26 rfl rfl (Has.s rfl) rfl (HasL.flds (Has.cv (Has.s rfl) (Cv.trans (Cv.opens (chLoss x3.1)) (Cv.flds (CvL.cons Cv.fl (CvL.cons Cv.fl (CvL.cons Cv.fl (CvL.cons Cv.fl (CvL.cons Cv.fl (CvL.cons Cv.fl (CvL.cons Cv.fl CvL.nil))))))))))) rfl) ?_
 refine wo (Spec.assign (Has.s rfl)) ?_
 refine Walk.nil ?_
 refine Leaf.thenN ?_
 refine CWalk.seq ?_
 obtain ⟨x4, hx4, hm⟩ := bind_some hm
 obtain ⟨x5, hx5, hm⟩ := bind_some hm
 refine CWalk.drawM [[], [], [0, 1], [0, 1, 2], [0, 1, 2, 3], [0, 1, 2, 3], [], [0, 1, 2, 3, 4, 6], [0, 1, 2, 3, 4, 5, 6, 7]] [[.fact 14 (.rep [] (x4 : Config))], [.fact 15 (.flds [(false, 1, Fact.rep [] x3.1.Events), (false, 1, Fact.rep [] x3.1.Lost), (false, 1, Fact.rep [] x3.1.Spare), (false, 1, Fact.rep [] x3.1.Pos), (false, 1, Fact.rep [] x3.1.Done), (false, 1, Fact.rep [] x3.1.NoLog), (false, 1, Fact.rep [] x3.1.Broken)])], [.fact 16 (.tup2 (Fact.rep [] x5.1) (Fact.rep [] x5.2))], [.fact 13 (.tup2 (Fact.rep [] x5.1) (Fact.rep [] x5.2))], [.fact 17 (.rep [] x5.1)], [.fact 18 (.rep [] x5.2)], [.fact 3 (.isv 23), .fact 100023 (.obj 23 [(false, 1), (false, 1), (false, 1), (false, 1), (false, 1), (false, 1), (false, 1)]), .fact 100024 (.at 24 (.rep [] ((0 : UInt32) : UInt32))), .fact 100025 (.at 25 (.rep [] ((0 : Int) : Int))), .fact 100026 (.at 26 (.rep [] (false : Bool))), .fact 100027 (.at 27 (.rep [] ((0 : Int) : Int))), .fact 100028 (.at 28 (.rep [] ((0 : Int) : Int))), .fact 100029 (.at 29 (.rep [] (false : Bool))), .fact 100030 (.at 30 (.rep [] (false : Bool))), .killId 23, .killId 24, .killId 25, .killId 26, .killId 27, .killId 28, .killId 29, .killId 30], [.fact 100023 (.obj 23 [(false, 1), (false, 1), (false, 1), (false, 1), (false, 1), (false, 1), (false, 1)]), .fact 100024 (.at 24 (.rep [] x5.1.Events)), .fact 100025 (.at 25 (.rep [] x5.1.Lost)), .fact 100026 (.at 26 (.rep [] x5.1.Spare)), .fact 100027 (.at 27 (.rep [] x5.1.Pos)), .fact 100028 (.at 28 (.rep [] x5.1.Done)), .fact 100029 (.at 29 (.rep [] x5.1.NoLog)), .fact 100030 (.at 30 (.rep [] x5.1.Broken)), .kill 23, .killId 24, .killId 25, .killId 26, .killId 27, .killId 28, .killId 29, .killId 30], [.fact 4 (.rep [] x5.2)]] mixed (by kernel_rfl) (ao (so (Spec.callE [] 21 rfl en24 (law23_three_c  hx4) HasAll.nil)) (ao (so (Spec.loadObj (ls := [(false, 1, Fact.rep [] x3.1.Events), (false, 1, Fact.rep [] x3.1.Lost), (false, 1, Fact.rep [] x3.1.Spare), (false, 1, Fact.rep [] x3.1.Pos), (false, 1, Fact.rep [] x3.1.Done), (false, 1, Fact.rep [] x3.1.NoLog), (false, 1, Fact.rep [] x3.1.Broken)]) ty26 rfl rfl (Has.s rfl) rfl (HasGs.cons (HasG.s rfl) (HasGs.cons (HasG.s rfl) (HasGs.cons (HasG.s rfl) (HasGs.cons (HasG.s rfl) (HasGs.cons (HasG.s rfl) (HasGs.cons (HasG.s rfl) (HasGs.cons (HasG.s rfl) HasGs.nil))))))))) (ao (so (Spec.callE [] 22 rfl en12 (loss_Spare_c x4 x3.1 hx5) (HasAll.cons (Has.fl (Has.s rfl)) (HasAll.cons (Has.fl (Has.cv (Has.s rfl) (Cv.trans (Cv.flds (CvL.cons Cv.fl (CvL.cons Cv.fl (CvL.cons Cv.fl (CvL.cons Cv.fl (CvL.cons Cv.fl (CvL.cons Cv.fl (CvL.cons Cv.fl CvL.nil)))))))) (Cv.close (T := []) (chLoss x3.1))))) HasAll.nil)))) (ao (so (Spec.move (Has.s rfl))) (ao (so (Spec.ext0 (Has.s rfl))) (ao (so (Spec.ext1 (Has.s rfl))) (ao (StepG.stE (Step.allocObj (ls := [(false, 1, Fact.rep [] ((0 : UInt32) : UInt32)), (false, 1, Fact.rep [] ((0 : Int) : Int)), (false, 1, Fact.rep [] (false : Bool)), (false, 1, Fact.rep [] ((0 : Int) : Int)), (false, 1, Fact.rep [] ((0 : Int) : Int)), (false, 1, Fact.rep [] (false : Bool)), (false, 1, Fact.rep [] (false : Bool))]) 23 rfl rfl rfl rfl zl26)) (ao (StepG.stE (Step.storeObj (ls := [(false, 1, Fact.rep [] x5.1.Events), (false, 1, Fact.rep [] x5.1.Lost), (false, 1, Fact.rep [] x5.1.Spare), (false, 1, Fact.rep [] x5.1.Pos), (false, 1, Fact.rep [] x5.1.Done), (false, 1, Fact.rep [] x5.1.NoLog), (false, 1, Fact.rep [] x5.1.Broken)]) rfl ty26 rfl rfl (Has.s rfl) rfl (HasL.flds (Has.cv (Has.s rfl) (Cv.trans (Cv.opens (chLoss x5.1)) (Cv.flds (CvL.cons Cv.fl (CvL.cons Cv.fl (CvL.cons Cv.fl (CvL.cons Cv.fl (CvL.cons Cv.fl (CvL.cons Cv.fl (CvL.cons Cv.fl CvL.nil))))))))))) rfl)) (ao (so (Spec.assign (Has.s rfl))) AllM.nil))))))))) ?_
 refine Leaf.thenN ?_
 refine CWalk.seq ?_
 obtain ⟨x6, hx6, hm⟩ := bind_some hm
 obtain ⟨x7, hx7, hm⟩ := bind_some hm
 refine CWalk.drawM [[], [], [0, 1], [0, 1, 2], [0, 1, 2, 3], [0, 1, 2, 3], [], [0, 1, 2, 3, 4, 6], [0, 1, 2, 3, 4, 5, 6, 7]] [[.fact 20 (.rep [] (x6 : Config))], [.fact 21 (.flds [(false, 1, Fact.rep [] x5.1.Events), (false, 1, Fact.rep [] x5.1.Lost), (false, 1, Fact.rep [] x5.1.Spare), (false, 1, Fact.rep [] x5.1.Pos), (false, 1, Fact.rep [] x5.1.Done), (false, 1, Fact.rep [] x5.1.NoLog), (false, 1, Fact.rep [] x5.1.Broken)])], [.fact 22 (.tup2 (Fact.rep [] x7.1) (Fact.rep [] x7.2))], [.fact 19 (.tup2 (Fact.rep [] x7.1) (Fact.rep [] x7.2))], [.fact 23 (.rep [] x7.1)], [.fact 24 (.rep [] x7.2)], [.fact 5 (.isv 33), .fact 100033 (.obj 33 [(false, 1), (false, 1), (false, 1), (false, 1), (false, 1), (false, 1), (false, 1)]), .fact 100034 (.at 34 (.rep [] ((0 : UInt32) : UInt32))), .fact 100035 (.at 35 (.rep [] ((0 : Int) : Int))), .fact 100036 (.at 36 (.rep [] (false : Bool))), .fact 100037 (.at 37 (.rep [] ((0 : Int) : Int))), .fact 100038 (.at 38 (.rep [] ((0 : Int) : Int))), .fact 100039 (.at 39 (.rep [] (false : Bool))), .fact 100040 (.at 40 (.rep [] (false : Bool))), .killId 33, .killId 34, .killId 35, .killId 36, .killId 37, .killId 38, .killId 39, .killId 40], [.fact 100033 (.obj 33 [(false, 1), (false, 1), (false, 1), (false, 1), (false, 1), (false, 1), (false, 1)]), .fact 100034 (.at 34 (.rep [] x7.1.Events)), .fact 100035 (.at 35 (.rep [] x7.1.Lost)), .fact 100036 (.at 36 (.rep [] x7.1.Spare)), .fact 100037 (.at 37 (.rep [] x7.1.Pos)), .fact 100038 (.at 38 (.rep [] x7.1.Done)), .fact 100039 (.at 39 (.rep [] x7.1.NoLog)), .fact 100040 (.at 40 (.rep [] x7.1.Broken)), .kill 33, .killId 34, .killId 35, .killId 36, .killId 37, .killId 38, .killId 39, .killId 40], [.fact 6 (.rep [] x7.2)]] mixed (by kernel_rfl) (ao (so (Spec.callE [] 31 rfl en24 (law23_three_c  hx6) HasAll.nil)) (ao (so (Spec.loadObj (ls := [(false, 1, Fact.rep [] x5.1.Events), (false, 1, Fact.rep [] x5.1.Lost), (false, 1, Fact.rep [] x5.1.Spare), (false, 1, Fact.rep [] x5.1.Pos), (false, 1, Fact.rep [] x5.1.Done), (false, 1, Fact.rep [] x5.1.NoLog), (false, 1, Fact.rep [] x5.1.Broken)]) ty26 rfl rfl (Has.s rfl) rfl (HasGs.cons (HasG.s rfl) (HasGs.cons (HasG.s rfl) (HasGs.cons (HasG.s rfl) (HasGs.cons (HasG.s rfl) (HasGs.cons (HasG.s rfl) (HasGs.cons (HasG.s rfl) (HasGs.cons (HasG.s rfl) HasGs.nil))))))))) (ao (so (Spec.callE [] 32 rfl en14 (loss_Go_c x6 x5.1 hx7) (HasAll.cons (Has.fl (Has.s rfl)) (HasAll.cons (Has.fl (Has.cv (Has.s rfl) (Cv.trans (Cv.flds (CvL.cons Cv.fl (CvL.cons Cv.fl (CvL.cons Cv.fl (CvL.cons Cv.fl (CvL.cons Cv.fl (CvL.cons Cv.fl (CvL.cons Cv.fl CvL.nil)))))))) (Cv.close (T := []) (chLoss x5.1))))) HasAll.nil)))) (ao (so (Spec.move (Has.s rfl))) (ao (so (Spec.ext0 (Has.s rfl))) (ao (so (Spec.ext1 (Has.s rfl))) (ao (StepG.stE (Step.allocObj (ls := [(false, 1, Fact.rep [] ((0 : UInt32) : UInt32)), (false, 1, Fact.rep [] ((0 : Int) : Int)), (false, 1, Fact.rep [] (false : Bool)), (false, 1, Fact.rep [] ((0 : Int) : Int)), (false, 1, Fact.rep [] ((0 : Int) : Int)), (false, 1, Fact.rep [] (false : Bool)), (false, 1, Fact.rep [] (false : Bool))]) 33 rfl rfl rfl rfl zl26)) (ao (StepG.stE (Step.storeObj (ls := [(false, 1, Fact.rep [] x7.1.Events), (false, 1, Fact.rep [] x7.1.Lost), (false, 1, Fact.rep [] x7.1.Spare), (false, 1, Fact.rep [] x7.1.Pos), (false, 1, Fact.rep [] x7.1.Done), (false, 1, Fact.rep [] x7.1.NoLog), (false, 1, Fact.rep [] x7.1.Broken)]) rfl ty26 rfl rfl (Has.s rfl) rfl (HasL.flds (Has.cv (Has.s rfl) (Cv.trans (Cv.opens (chLoss x7.1)) (Cv.flds (CvL.cons Cv.fl (CvL.cons Cv.fl (CvL.cons Cv.fl (CvL.cons Cv.fl (CvL.cons Cv.fl (CvL.cons Cv.fl (CvL.cons Cv.fl CvL.nil))))))))))) rfl)) (ao (so (Spec.assign (Has.s rfl))) AllM.nil))))))))) ?_
 refine Leaf.thenN ?_
 refine CWalk.seq ?_
 refine CWalk.region ?_
 refine mv ?_
 refine wo (Spec.eqlI (Has.s rfl) Has.int) ?_
 refine mv ?_
 refine wg rfl rfl (fun hb => Spec.move (Has.s rfl)) ?_
 refine wg rfl rfl (fun hb => Spec.eqlI (Has.u rfl hb) Has.int) ?_
 refine wo (Spec.and (Has.s rfl) (fun h => Has.u rfl h)) ?_
 refine mv ?_
 refine wg rfl rfl (fun hb => Spec.move (Has.s rfl)) ?_
 refine wg rfl rfl (fun hb => Spec.eqlI (Has.u rfl hb) Has.int) ?_
 refine wo (Spec.and (Has.s rfl) (fun h => Has.u rfl h)) ?_
 refine mv ?_
 obtain ⟨x8, hx8, hm⟩ := bind_some hm
 refine wg (f := Fact.rep [] (x8 : Loss)) rfl rfl (fun hb => Spec.callE [] 41 rfl en21 (law23_nobody_c  (gO_t hx8 hb)) HasAll.nil) ?_
 obtain ⟨x9, hx9, hm⟩ := bind_some hm
 refine wg (f := Fact.rep [] (x9 : Bool)) rfl rfl (fun hb => Spec.callE [] 42 rfl en23 (law23_misses_c x8 (-1 : Int) (-1 : Int) (gO_t hx9 hb)) (HasAll.cons (Has.fl (Has.u rfl hb)) (HasAll.cons (Has.fl Has.int) (HasAll.cons (Has.fl Has.int) HasAll.nil)))) ?_
 refine wo (Spec.and (Has.s rfl) (fun h => Has.u rfl h)) ?_
 refine mv ?_
 refine wg rfl rfl (fun hb => Spec.loadObj (ls := [(false, 1, Fact.rep [] x3.1.Events), (false, 1, Fact.rep [] x3.1.Lost), (false, 1, Fact.rep [] x3.1.Spare), (false, 1, Fact.rep [] x3.1.Pos), (false, 1, Fact.rep [] x3.1.Done), (false, 1, Fact.rep [] x3.1.NoLog), (false, 1, Fact.rep [] x3.1.Broken)]) ty26 rfl rfl (Has.s rfl) rfl (HasGs.cons (HasG.s rfl) (HasGs.cons (HasG.s rfl) (HasGs.cons (HasG.s rfl) (HasGs.cons (HasG.s rfl) (HasGs.cons (HasG.s rfl) (HasGs.cons (HasG.s rfl) (HasGs.cons (HasG.s rfl) HasGs.nil)))))))) ?_
 obtain ⟨x10, hx10, hm⟩ := bind_some hm
 refine wg (f := Fact.rep [] (x10 : Bool)) rfl rfl (fun hb => Spec.callE [] 43 rfl en23 (law23_misses_c x3.1 (1 : Int) (1 : Int) (gO_t hx10 hb)) (HasAll.cons (Has.fl (Has.cv (Has.u rfl hb) (Cv.trans (Cv.flds (CvL.cons Cv.fl (CvL.cons Cv.fl (CvL.cons Cv.fl (CvL.cons Cv.fl (CvL.cons Cv.fl (CvL.cons Cv.fl (CvL.cons Cv.fl CvL.nil)))))))) (Cv.close (T := []) (chLoss x3.1))))) (HasAll.cons (Has.fl Has.int) (HasAll.cons (Has.fl Has.int) HasAll.nil)))) ?_
 refine wo (Spec.and (Has.s rfl) (fun h => Has.u rfl h)) ?_
 refine mv ?_
 refine wg rfl rfl (fun hb => Spec.loadObj (ls := [(false, 1, Fact.rep [] x5.1.Events), (false, 1, Fact.rep [] x5.1.Lost), (false, 1, Fact.rep [] x5.1.Spare), (false, 1, Fact.rep [] x5.1.Pos), (false, 1, Fact.rep [] x5.1.Done), (false, 1, Fact.rep [] x5.1.NoLog), (false, 1, Fact.rep [] x5.1.Broken)]) ty26 rfl rfl (Has.s rfl) rfl (HasGs.cons (HasG.s rfl) (HasGs.cons (HasG.s rfl) (HasGs.cons (HasG.s rfl) (HasGs.cons (HasG.s rfl) (HasGs.cons (HasG.s rfl) (HasGs.cons (HasG.s rfl) (HasGs.cons (HasG.s rfl) HasGs.nil)))))))) ?_
 obtain ⟨x11, hx11, hm⟩ := bind_some hm
 refine wg (f := Fact.rep [] (x11 : Bool)) rfl rfl (fun hb => Spec.callE [] 44 rfl en23 (law23_misses_c x5.1 (1 : Int) (1 : Int) (gO_t hx11 hb)) (HasAll.cons (Has.fl (Has.cv (Has.u rfl hb) (Cv.trans (Cv.flds (CvL.cons Cv.fl (CvL.cons Cv.fl (CvL.cons Cv.fl (CvL.cons Cv.fl (CvL.cons Cv.fl (CvL.cons Cv.fl (CvL.cons Cv.fl CvL.nil)))))))) (Cv.close (T := []) (chLoss x5.1))))) (HasAll.cons (Has.fl Has.int) (HasAll.cons (Has.fl Has.int) HasAll.nil)))) ?_
 refine wo (Spec.and (Has.s rfl) (fun h => Has.u rfl h)) ?_
 refine mv ?_
 refine wg rfl rfl (fun hb => Spec.loadObj (ls := [(false, 1, Fact.rep [] x7.1.Events), (false, 1, Fact.rep [] x7.1.Lost), (false, 1, Fact.rep [] x7.1.Spare), (false, 1, Fact.rep [] x7.1.Pos), (false, 1, Fact.rep [] x7.1.Done), (false, 1, Fact.rep [] x7.1.NoLog), (false, 1, Fact.rep [] x7.1.Broken)]) ty26 rfl rfl (Has.s rfl) rfl (HasGs.cons (HasG.s rfl) (HasGs.cons (HasG.s rfl) (HasGs.cons (HasG.s rfl) (HasGs.cons (HasG.s rfl) (HasGs.cons (HasG.s rfl) (HasGs.cons (HasG.s rfl) (HasGs.cons (HasG.s rfl) HasGs.nil)))))))) ?_
 obtain ⟨x12, hx12, hm⟩ := bind_some hm
 refine wg (f := Fact.rep [] (x12 : Bool)) rfl rfl (fun hb => Spec.callE [] 45 rfl en23 (law23_misses_c x7.1 (-1 : Int) (1 : Int) (gO_t hx12 hb)) (HasAll.cons (Has.fl (Has.cv (Has.u rfl hb) (Cv.trans (Cv.flds (CvL.cons Cv.fl (CvL.cons Cv.fl (CvL.cons Cv.fl (CvL.cons Cv.fl (CvL.cons Cv.fl (CvL.cons Cv.fl (CvL.cons Cv.fl CvL.nil)))))))) (Cv.close (T := []) (chLoss x7.1))))) (HasAll.cons (Has.fl Has.int) (HasAll.cons (Has.fl Has.int) HasAll.nil)))) ?_
 refine wo (Spec.and (Has.s rfl) (fun h => Has.u rfl h)) ?_
 refine wo (Spec.assign (Has.s rfl)) ?_
 refine Walk.nil ?_
 refine Leaf.thenN ?_
 refine CWalk.ret ?_
 obtain rfl := Option.some.inj hm
 exact Leaf.retC1 rfl (HasR.cv (HasR.tmp (Has.s rfl)) Cv.fl)

/-- freeboard/label.Check -/
def label_Check (a0 : Label) : Option (Int) :=
  Option.bind (shape_Stripes (Config.mk a0.Id a0.Members a0.Chunk a0.Rows a0.Log (2 : Int))) (fun x1 => (bif (((((((((x1.2 != (0 : Int)) || (decide ((a0.Events.toNat : Int) > ((2147483648 : UInt32).toNat : Int)))) || (decide (a0.Me < (0 : Int)))) || (decide (a0.Me ≥ a0.Members))) || (decide (a0.Done < (0 : Int)))) || (decide (a0.Done > x1.1))) || (decide (a0.Lost < (-1 : Int)))) || (decide (a0.Lost ≥ a0.Members))) || ((a0.Lost == (-1 : Int)) && (decide (a0.Done > (0 : Int))))) then some (8 : Int) else some (0 : Int)))
set_option maxRecDepth 100000 in
set_option maxHeartbeats 2000000 in
theorem label_Check_c (a0 : Label) {r : Int} (hm : label_Check a0 = some r) : Ctr Try.prog 56 [.rep 0 a0] (.fl r) [] := by
 refine ctr_of_walk [[]] 74 Try.func56 rfl rfl rfl rfl (fun w0 om => ?_)
 unfold label_Check at hm
 refine CWalk.sub (G' := [.fact 0 (.rep [] (a0 : Label))]) (Sub.cons (Has.fl (Has.s rfl)) Sub.nil) ?_
 refine CWalk.seq ?_
 refine CWalk.region ?_
 refine ws (Step.boxObj (ls := [(false, 1, Fact.rep [] a0.Id), (false, 1, Fact.rep [] a0.Events), (false, 1, Fact.rep [] a0.Members), (false, 1, Fact.rep [] a0.Chunk), (false, 1, Fact.rep [] a0.Rows), (false, 1, Fact.rep [] a0.Log), (false, 1, Fact.rep [] a0.Me), (false, 1, Fact.rep [] a0.Lost), (false, 1, Fact.rep [] a0.Done), (false, 1, Fact.rep [] a0.Open)]) 10 rfl rfl rfl rfl (HasL.flds (Has.cv (Has.s rfl) (Cv.trans (Cv.opens (chLabel a0)) (Cv.flds (CvL.cons Cv.fl (CvL.cons Cv.fl (CvL.cons Cv.fl (CvL.cons Cv.fl (CvL.cons Cv.fl (CvL.cons Cv.fl (CvL.cons Cv.fl (CvL.cons Cv.fl (CvL.cons Cv.fl (CvL.cons Cv.fl CvL.nil))))))))))))))) ?_
 refine wo (Spec.assign Has.int) ?_
 refine Walk.nil ?_
 refine Leaf.thenN ?_
 refine CWalk.seq ?_
 refine CWalk.region ?_
 refine wo (Spec.fieldAddrO fd71_0 (Has.cv (Has.s rfl) (Cv.isvP rfl))) ?_
 refine wo (Spec.loadF (i := 0) ty22 rfl (Has.s rfl) rfl (HasG.s rfl)) ?_
 refine wo (Spec.fieldAddrO fd71_2 (Has.cv (Has.s rfl) (Cv.isvP rfl))) ?_
 refine wo (Spec.loadF (i := 2) ty3 rfl (Has.s rfl) rfl (HasG.s rfl)) ?_
 refine wo (Spec.fieldAddrO fd71_3 (Has.cv (Has.s rfl) (Cv.isvP rfl))) ?_
 refine wo (Spec.loadF (i := 3) ty3 rfl (Has.s rfl) rfl (HasG.s rfl)) ?_
 refine wo (Spec.fieldAddrO fd71_4 (Has.cv (Has.s rfl) (Cv.isvP rfl))) ?_
 refine wo (Spec.loadF (i := 4) ty3 rfl (Has.s rfl) rfl (HasG.s rfl)) ?_
 refine wo (Spec.fieldAddrO fd71_5 (Has.cv (Has.s rfl) (Cv.isvP rfl))) ?_
 refine wo (Spec.loadF (i := 5) ty3 rfl (Has.s rfl) rfl (HasG.s rfl)) ?_
 refine wo (Spec.build (us := [(0, .tmp 7), (1, .tmp 9), (2, .tmp 11), (3, .tmp 13), (4, .tmp 15), (5, .const (.int .i64 2))]) (ls' := [(false, 1, Fact.rep [] a0.Id), (false, 1, Fact.rep [] a0.Members), (false, 1, Fact.rep [] a0.Chunk), (false, 1, Fact.rep [] a0.Rows), (false, 1, Fact.rep [] a0.Log), (false, 1, Fact.rep [] ((2 : Int) : Int))]) bd24 rfl (BP.cons rfl rfl (Has.s rfl) (Has.s rfl) (BP.cons rfl rfl (Has.s rfl) (Has.s rfl) (BP.cons rfl rfl (Has.s rfl) (Has.s rfl) (BP.cons rfl rfl (Has.s rfl) (Has.s rfl) (BP.cons rfl rfl (Has.s rfl) (Has.s rfl) (BP.cons rfl rfl Has.int Has.int BP.nil))))))) ?_
 refine ws (Step.allocObj (ls := [(false, 1, Fact.rep [] ((0 : UInt32) : UInt32)), (false, 1, Fact.rep [] ((0 : Int) : Int)), (false, 1, Fact.rep [] ((0 : Int) : Int)), (false, 1, Fact.rep [] ((0 : Int) : Int)), (false, 1, Fact.rep [] ((0 : Int) : Int)), (false, 1, Fact.rep [] ((0 : Int) : Int))]) 21 rfl rfl rfl rfl zl24) ?_
 refine ws (Step.storeObj (ls := [(false, 1, Fact.rep [] a0.Id), (false, 1, Fact.rep [] a0.Members), (false, 1, Fact.rep [] a0.Chunk), (false, 1, Fact.rep [] a0.Rows), (false, 1, Fact.rep [] a0.Log), (false, 1, Fact.rep [] ((2 : Int) : Int))]) rfl ty24 rfl rfl (Has.s rfl) rfl (HasL.flds (Has.s rfl)) rfl) ?_
 refine Walk.nil ?_
 refine Leaf.thenN ?_
 refine CWalk.seq ?_
 refine CWalk.region ?_
 refine wo (Spec.loadObj (ls := [(false, 1, Fact.rep [] a0.Id), (false, 1, Fact.rep [] a0.Members), (false, 1, Fact.rep [] a0.Chunk), (false, 1, Fact.rep [] a0.Rows), (false, 1, Fact.rep [] a0.Log), (false, 1, Fact.rep [] ((2 : Int) : Int))]) ty24 rfl rfl (Has.s rfl) rfl (HasGs.cons (HasG.s rfl) (HasGs.cons (HasG.s rfl) (HasGs.cons (HasG.s rfl) (HasGs.cons (HasG.s rfl) (HasGs.cons (HasG.s rfl) (HasGs.cons (HasG.s rfl) HasGs.nil))))))) ?_
 obtain ⟨x1, hx1, hm⟩ := bind_some hm
 refine wo (f := Fact.tup2 (Fact.rep [] x1.1) (Fact.rep [] x1.2)) (Spec.callE [] 28 rfl en32 (shape_Stripes_c (Config.mk a0.Id a0.Members a0.Chunk a0.Rows a0.Log (2 : Int)) hx1) (HasAll.cons (Has.fl (Has.cv (Has.s rfl) (Cv.trans (Cv.flds (CvL.cons Cv.fl (CvL.cons Cv.fl (CvL.cons Cv.fl (CvL.cons Cv.fl (CvL.cons Cv.fl (CvL.cons Cv.fl CvL.nil))))))) (Cv.close (T := []) (chConfig (Config.mk a0.Id a0.Members a0.Chunk a0.Rows a0.Log (2 : Int))))))) HasAll.nil)) ?_
 refine mv ?_
 refine wo (Spec.ext0 (Has.s rfl)) ?_
 refine wo (Spec.ext1 (Has.s rfl)) ?_
 refine wo (Spec.assign (Has.s rfl)) ?_
 refine wo (Spec.assign (Has.s rfl)) ?_
 refine Walk.nil ?_
 refine Leaf.thenN ?_
 refine CWalk.seq ?_
 refine CWalk.seq ?_
 refine CWalk.region ?_
 refine mv ?_
 refine wo (Spec.neqI (Has.s rfl) Has.int) ?_
 refine mv ?_
 refine wg rfl rfl (fun hb => Spec.fieldAddrO fd71_1 (Has.cv (Has.s rfl) (Cv.isvP rfl))) ?_
 refine wg rfl rfl (fun hb => Spec.loadF (i := 1) ty22 rfl (Has.u rfl hb) rfl (HasG.s rfl)) ?_
 refine wg rfl rfl (fun hb => Spec.gtrN (α := UInt32) (Has.u rfl hb) (Has.u32 2147483648 rfl)) ?_
 refine wo (Spec.or (Has.s rfl) (fun h => Has.u rfl h)) ?_
 refine mv ?_
 refine wg rfl rfl (fun hb => Spec.fieldAddrO fd71_6 (Has.cv (Has.s rfl) (Cv.isvP rfl))) ?_
 refine wg rfl rfl (fun hb => Spec.loadF (i := 6) ty3 rfl (Has.u rfl hb) rfl (HasG.s rfl)) ?_
 refine wg rfl rfl (fun hb => Spec.lssI (Has.u rfl hb) Has.int) ?_
 refine wo (Spec.or (Has.s rfl) (fun h => Has.u rfl h)) ?_
 refine mv ?_
 refine wg rfl rfl (fun hb => Spec.fieldAddrO fd71_6 (Has.cv (Has.s rfl) (Cv.isvP rfl))) ?_
 refine wg rfl rfl (fun hb => Spec.loadF (i := 6) ty3 rfl (Has.u rfl hb) rfl (HasG.s rfl)) ?_
 refine wg rfl rfl (fun hb => Spec.fieldAddrO fd71_2 (Has.cv (Has.s rfl) (Cv.isvP rfl))) ?_
 refine wg rfl rfl (fun hb => Spec.loadF (i := 2) ty3 rfl (Has.u rfl hb) rfl (HasG.s rfl)) ?_
 refine wg rfl rfl (fun hb => Spec.geqI (Has.u rfl hb) (Has.u rfl hb)) ?_
 refine wo (Spec.or (Has.s rfl) (fun h => Has.u rfl h)) ?_
 refine mv ?_
 refine wg rfl rfl (fun hb => Spec.fieldAddrO fd71_8 (Has.cv (Has.s rfl) (Cv.isvP rfl))) ?_
 refine wg rfl rfl (fun hb => Spec.loadF (i := 8) ty3 rfl (Has.u rfl hb) rfl (HasG.s rfl)) ?_
 refine wg rfl rfl (fun hb => Spec.lssI (Has.u rfl hb) Has.int) ?_
 refine wo (Spec.or (Has.s rfl) (fun h => Has.u rfl h)) ?_
 refine mv ?_
 refine wg rfl rfl (fun hb => Spec.fieldAddrO fd71_8 (Has.cv (Has.s rfl) (Cv.isvP rfl))) ?_
 refine wg rfl rfl (fun hb => Spec.loadF (i := 8) ty3 rfl (Has.u rfl hb) rfl (HasG.s rfl)) ?_
 refine wg rfl rfl (fun hb => Spec.move (Has.s rfl)) ?_
 refine wg rfl rfl (fun hb => Spec.gtrI (Has.u rfl hb) (Has.u rfl hb)) ?_
 refine wo (Spec.or (Has.s rfl) (fun h => Has.u rfl h)) ?_
 refine mv ?_
 refine wg rfl rfl (fun hb => Spec.fieldAddrO fd71_7 (Has.cv (Has.s rfl) (Cv.isvP rfl))) ?_
 refine wg rfl rfl (fun hb => Spec.loadF (i := 7) ty3 rfl (Has.u rfl hb) rfl (HasG.s rfl)) ?_
 refine wg rfl rfl (fun hb => Spec.lssI (Has.u rfl hb) Has.int) ?_
 refine wo (Spec.or (Has.s rfl) (fun h => Has.u rfl h)) ?_
 refine mv ?_
 refine wg rfl rfl (fun hb => Spec.fieldAddrO fd71_7 (Has.cv (Has.s rfl) (Cv.isvP rfl))) ?_
 refine wg rfl rfl (fun hb => Spec.loadF (i := 7) ty3 rfl (Has.u rfl hb) rfl (HasG.s rfl)) ?_
 refine wg rfl rfl (fun hb => Spec.fieldAddrO fd71_2 (Has.cv (Has.s rfl) (Cv.isvP rfl))) ?_
 refine wg rfl rfl (fun hb => Spec.loadF (i := 2) ty3 rfl (Has.u rfl hb) rfl (HasG.s rfl)) ?_
 refine wg rfl rfl (fun hb => Spec.geqI (Has.u rfl hb) (Has.u rfl hb)) ?_
 refine wo (Spec.or (Has.s rfl) (fun h => Has.u rfl h)) ?_
 refine mv ?_
 refine wg rfl rfl (fun hb => Spec.fieldAddrO fd71_7 (Has.cv (Has.s rfl) (Cv.isvP rfl))) ?_
 refine wg rfl rfl (fun hb => Spec.loadF (i := 7) ty3 rfl (Has.u rfl hb) rfl (HasG.s rfl)) ?_
 refine wg rfl rfl (fun hb => Spec.eqlI (Has.u rfl hb) Has.int) ?_
 refine wg rfl rfl (fun hb => Spec.move (Has.u rfl hb)) ?_
 refine Walk.opgu rfl rfl rfl (fun hb => Spec.fieldAddrO fd71_8 (Has.cv (Has.s rfl) (Cv.isvP rfl))) ?_
 refine Walk.opgu rfl rfl rfl (fun hb => Spec.loadF (i := 8) ty3 rfl (Has.u rfl hb) rfl (HasG.s rfl)) ?_
 refine Walk.opgu rfl rfl rfl (fun hb => Spec.gtrI (Has.u rfl hb) Has.int) ?_
 refine wg rfl rfl (fun hb => Spec.and (Has.u rfl hb) (fun h => Has.u rfl ⟨hb, h⟩)) ?_
 refine wo (Spec.or (Has.s rfl) (fun h => Has.u rfl h)) ?_
 refine Walk.nil ?_
 refine Leaf.thenN ?_
 refine CWalk.cond rfl (fun hb => ?_) (fun hb => ?_)
 ·have hm := cond_t hb hm
  refine CWalk.seq ?_
  refine CWalk.region ?_
  refine wo (Spec.assign Has.int) ?_
  refine Walk.nil ?_
  refine Leaf.thenN ?_
  refine CWalk.ret ?_
  refine Leaf.thenR ?_
  obtain rfl := Option.some.inj hm
  exact Leaf.retC1 rfl (HasR.cv (HasR.tmp (Has.s rfl)) Cv.fl)
 ·have hm := cond_f hb hm
  refine CWalk.skip ?_
  refine Leaf.thenN ?_
  refine CWalk.seq ?_
  refine CWalk.region ?_
  refine wo (Spec.assign Has.int) ?_
  refine Walk.nil ?_
  refine Leaf.thenN ?_
  refine CWalk.ret ?_
  obtain rfl := Option.some.inj hm
  exact Leaf.retC1 rfl (HasR.cv (HasR.tmp (Has.s rfl)) Cv.fl)

def label_fields_J2 (a0 : Label) (j1 : Int) (j2 : Int) : Option ((List Field)) :=
  some ([(Field.mk (76 : Int) (0 : Int) (1 : Int)), (Field.mk (wI (a0.Id.toNat : Int)) (wI ((0 : Int) + (1 : Int))) (4 : Int)), (Field.mk (wI (a0.Events.toNat : Int)) (wI ((wI ((0 : Int) + (1 : Int))) + (4 : Int))) (4 : Int)), (Field.mk a0.Members (wI ((wI ((wI ((0 : Int) + (1 : Int))) + (4 : Int))) + (4 : Int))) (1 : Int)), (Field.mk a0.Chunk (wI ((wI ((wI ((wI ((0 : Int) + (1 : Int))) + (4 : Int))) + (4 : Int))) + (1 : Int))) (1 : Int)), (Field.mk a0.Rows (wI ((wI ((wI ((wI ((wI ((0 : Int) + (1 : Int))) + (4 : Int))) + (4 : Int))) + (1 : Int))) + (1 : Int))) (1 : Int)), (Field.mk a0.Log (wI ((wI ((wI ((wI ((wI ((wI ((0 : Int) + (1 : Int))) + (4 : Int))) + (4 : Int))) + (1 : Int))) + (1 : Int))) + (1 : Int))) (1 : Int)), (Field.mk a0.Me (wI ((wI ((wI ((wI ((wI ((wI ((wI ((0 : Int) + (1 : Int))) + (4 : Int))) + (4 : Int))) + (1 : Int))) + (1 : Int))) + (1 : Int))) + (1 : Int))) (1 : Int)), (Field.mk j1 (wI ((wI ((wI ((wI ((wI ((wI ((wI ((wI ((0 : Int) + (1 : Int))) + (4 : Int))) + (4 : Int))) + (1 : Int))) + (1 : Int))) + (1 : Int))) + (1 : Int))) + (1 : Int))) (1 : Int)), (Field.mk a0.Done (wI ((wI ((wI ((wI ((wI ((wI ((wI ((wI ((wI ((0 : Int) + (1 : Int))) + (4 : Int))) + (4 : Int))) + (1 : Int))) + (1 : Int))) + (1 : Int))) + (1 : Int))) + (1 : Int))) + (1 : Int))) (1 : Int)), (Field.mk j2 (wI ((wI ((wI ((wI ((wI ((wI ((wI ((wI ((wI ((wI ((0 : Int) + (1 : Int))) + (4 : Int))) + (4 : Int))) + (1 : Int))) + (1 : Int))) + (1 : Int))) + (1 : Int))) + (1 : Int))) + (1 : Int))) + (1 : Int))) (1 : Int))])
def label_fields_J1 (a0 : Label) (j1 : Int) : Option ((List Field)) :=
  (bif a0.Open then (label_fields_J2 a0 j1 (1 : Int)) else (label_fields_J2 a0 j1 (0 : Int)))
/-- freeboard/label.fields -/
def label_fields (a0 : Label) : Option ((List Field)) :=
  (bif (a0.Lost == (-1 : Int)) then (label_fields_J1 a0 (255 : Int)) else (label_fields_J1 a0 a0.Lost))
set_option maxRecDepth 100000 in
set_option maxHeartbeats 2000000 in
theorem label_fields_c (a0 : Label) {r : (List Field)} (hm : label_fields a0 = some r) : Ctr Try.prog 50 [.rep 0 a0] (.rep 0 r) [] := by
 refine ctr_of_walk [[23]] 57 Try.func50 rfl rfl rfl rfl (fun w0 om => ?_)
 unfold label_fields at hm
 refine CWalk.sub (G' := [.fact 0 (.rep [] (a0 : Label))]) (Sub.cons (Has.fl (Has.s rfl)) Sub.nil) ?_
 refine CWalk.seq ?_
 refine CWalk.region ?_
 refine ws (Step.boxObj (ls := [(false, 1, Fact.rep [] a0.Id), (false, 1, Fact.rep [] a0.Events), (false, 1, Fact.rep [] a0.Members), (false, 1, Fact.rep [] a0.Chunk), (false, 1, Fact.rep [] a0.Rows), (false, 1, Fact.rep [] a0.Log), (false, 1, Fact.rep [] a0.Me), (false, 1, Fact.rep [] a0.Lost), (false, 1, Fact.rep [] a0.Done), (false, 1, Fact.rep [] a0.Open)]) 10 rfl rfl rfl rfl (HasL.flds (Has.cv (Has.s rfl) (Cv.trans (Cv.opens (chLabel a0)) (Cv.flds (CvL.cons Cv.fl (CvL.cons Cv.fl (CvL.cons Cv.fl (CvL.cons Cv.fl (CvL.cons Cv.fl (CvL.cons Cv.fl (CvL.cons Cv.fl (CvL.cons Cv.fl (CvL.cons Cv.fl (CvL.cons Cv.fl CvL.nil))))))))))))))) ?_
 refine wo (Spec.assign Has.nilv) ?_
 refine Walk.nil ?_
 refine Leaf.thenN ?_
 refine CWalk.seq ?_
 refine CWalk.region ?_
 refine ws (Step.allocObj (ls := [(false, 1, Fact.rep [] ((0 : Int) : Int))]) 21 rfl rfl rfl rfl zl3) ?_
 refine ws (Step.storeF (i := 0) (f := Fact.rep [] ((0 : Int) : Int)) rfl ty3 rfl (Has.cv (Has.s rfl) (Cv.isvP rfl)) rfl Has.int Has.int rfl) ?_
 refine Walk.nil ?_
 refine Leaf.thenN ?_
 refine CWalk.seq ?_
 refine CWalk.region ?_
 refine wo (Spec.makeFunc (xs := []) (ys := [.tmp 3]) rfl rfl HasF.nil (HasF.cons (Has.s rfl) HasF.nil) (fun _ _ _ => rfl)) ?_
 refine wo (Spec.assign (Has.s rfl)) ?_
 refine Walk.nil ?_
 refine Leaf.thenN ?_
 refine CWalk.seq ?_
 refine CWalk.region ?_
 refine wo (Spec.fieldAddrO fd71_7 (Has.cv (Has.s rfl) (Cv.isvP rfl))) ?_
 refine wo (Spec.loadF (i := 7) ty3 rfl (Has.s rfl) rfl (HasG.s rfl)) ?_
 refine wo (Spec.assign (Has.s rfl)) ?_
 refine wo (Spec.assign Has.int) ?_
 refine Walk.nil ?_
 refine Leaf.thenN ?_
 refine CWalk.seqJ (fun p : Int => [.fact 1 (.isv 10), .fact 4 (.fnv 69 [] [Fact.isv 21]), .fact 5 (.rep [] (p : Int)), .fact 6 (.rep [] ((0 : Int) : Int)), .fact 100011 (.at 11 (.rep [] a0.Id)), .fact 100012 (.at 12 (.rep [] a0.Events)), .fact 100013 (.at 13 (.rep [] a0.Members)), .fact 100014 (.at 14 (.rep [] a0.Chunk)), .fact 100015 (.at 15 (.rep [] a0.Rows)), .fact 100016 (.at 16 (.rep [] a0.Log)), .fact 100017 (.at 17 (.rep [] a0.Me)), .fact 100018 (.at 18 (.rep [] a0.Lost)), .fact 100019 (.at 19 (.rep [] a0.Done)), .fact 100020 (.at 20 (.rep [] a0.Open)), .fact 100022 (.at 22 (.rep [] ((0 : Int) : Int))), .fact 100010 (.obj 10 [(false, 1), (false, 1), (false, 1), (false, 1), (false, 1), (false, 1), (false, 1), (false, 1), (false, 1), (false, 1)]), .fact 100021 (.obj 21 [(false, 1)])]) (fun p : Int => label_fields_J1 a0 p = some r) ?_ ?_
 ·rintro j1 hm
  replace hm : label_fields_J1 a0 j1 = some r := hm
  unfold label_fields_J1 at hm
  show CWalk _ [.fact 1 (.isv 10), .fact 4 (.fnv 69 [] [Fact.isv 21]), .fact 5 (.rep [] (j1 : Int)), .fact 6 (.rep [] ((0 : Int) : Int)), .fact 100011 (.at 11 (.rep [] a0.Id)), .fact 100012 (.at 12 (.rep [] a0.Events)), .fact 100013 (.at 13 (.rep [] a0.Members)), .fact 100014 (.at 14 (.rep [] a0.Chunk)), .fact 100015 (.at 15 (.rep [] a0.Rows)), .fact 100016 (.at 16 (.rep [] a0.Log)), .fact 100017 (.at 17 (.rep [] a0.Me)), .fact 100018 (.at 18 (.rep [] a0.Lost)), .fact 100019 (.at 19 (.rep [] a0.Done)), .fact 100020 (.at 20 (.rep [] a0.Open)), .fact 100022 (.at 22 (.rep [] ((0 : Int) : Int))), .fact 100010 (.obj 10 [(false, 1), (false, 1), (false, 1), (false, 1), (false, 1), (false, 1), (false, 1), (false, 1), (false, 1), (false, 1)]), .fact 100021 (.obj 21 [(false, 1)])] _ _
  refine CWalk.seqJ (fun p : Int => [.fact 1 (.isv 10), .fact 4 (.fnv 69 [] [Fact.isv 21]), .fact 5 (.rep [] (j1 : Int)), .fact 6 (.rep [] (p : Int)), .fact 100011 (.at 11 (.rep [] a0.Id)), .fact 100012 (.at 12 (.rep [] a0.Events)), .fact 100013 (.at 13 (.rep [] a0.Members)), .fact 100014 (.at 14 (.rep [] a0.Chunk)), .fact 100015 (.at 15 (.rep [] a0.Rows)), .fact 100016 (.at 16 (.rep [] a0.Log)), .fact 100017 (.at 17 (.rep [] a0.Me)), .fact 100018 (.at 18 (.rep [] a0.Lost)), .fact 100019 (.at 19 (.rep [] a0.Done)), .fact 100020 (.at 20 (.rep [] a0.Open)), .fact 100022 (.at 22 (.rep [] ((0 : Int) : Int))), .fact 100010 (.obj 10 [(false, 1), (false, 1), (false, 1), (false, 1), (false, 1), (false, 1), (false, 1), (false, 1), (false, 1), (false, 1)]), .fact 100021 (.obj 21 [(false, 1)])]) (fun p : Int => label_fields_J2 a0 j1 p = some r) ?_ ?_
  ·rintro j2 hm
   replace hm : label_fields_J2 a0 j1 j2 = some r := hm
   unfold label_fields_J2 at hm
   show CWalk _ [.fact 1 (.isv 10), .fact 4 (.fnv 69 [] [Fact.isv 21]), .fact 5 (.rep [] (j1 : Int)), .fact 6 (.rep [] (j2 : Int)), .fact 100011 (.at 11 (.rep [] a0.Id)), .fact 100012 (.at 12 (.rep [] a0.Events)), .fact 100013 (.at 13 (.rep [] a0.Members)), .fact 100014 (.at 14 (.rep [] a0.Chunk)), .fact 100015 (.at 15 (.rep [] a0.Rows)), .fact 100016 (.at 16 (.rep [] a0.Log)), .fact 100017 (.at 17 (.rep [] a0.Me)), .fact 100018 (.at 18 (.rep [] a0.Lost)), .fact 100019 (.at 19 (.rep [] a0.Done)), .fact 100020 (.at 20 (.rep [] a0.Open)), .fact 100022 (.at 22 (.rep [] ((0 : Int) : Int))), .fact 100010 (.obj 10 [(false, 1), (false, 1), (false, 1), (false, 1), (false, 1), (false, 1), (false, 1), (false, 1), (false, 1), (false, 1)]), .fact 100021 (.obj 21 [(false, 1)])] _ _
   refine CWalk.seq ?_
   refine CWalk.drawM [[], [0], [], [], [3], [3, 4], [0, 1, 2, 3, 4, 5], [], [], [8], [8, 9], [0, 1, 2, 3, 4, 5, 6, 7, 8, 9, 10], [], [], [13], [0, 1, 2, 3, 4, 5, 6, 7, 8, 9, 10, 11, 12, 13, 14], [], [], [17], [0, 1, 2, 3, 4, 5, 6, 7, 8, 9, 10, 11, 12, 13, 14, 15, 16, 17, 18], [], [], [21], [0, 1, 2, 3, 4, 5, 6, 7, 8, 9, 10, 11, 12, 13, 14, 15, 16, 17, 18, 19, 20, 21, 22], [], [], [25], [0, 1, 2, 3, 4, 5, 6, 7, 8, 9, 10, 11, 12, 13, 14, 15, 16, 17, 18, 19, 20, 21, 22, 23, 24, 25, 26], [], [], [29], [0, 1, 2, 3, 4, 5, 6, 7, 8, 9, 10, 11, 12, 13, 14, 15, 16, 17, 18, 19, 20, 21, 22, 23, 24, 25, 26, 27, 28, 29, 30], [], [], [0, 1, 2, 3, 4, 5, 6, 7, 8, 9, 10, 11, 12, 13, 14, 15, 16, 17, 18, 19, 20, 21, 22, 23, 24, 25, 26, 27, 28, 29, 30, 31, 32, 33], [], [], [36], [0, 1, 2, 3, 4, 5, 6, 7, 8, 9, 10, 11, 12, 13, 14, 15, 16, 17, 18, 19, 20, 21, 22, 23, 24, 25, 26, 27, 28, 29, 30, 31, 32, 33, 34, 35, 36, 37], [], [], [0, 1, 2, 3, 4, 5, 6, 7, 8, 9, 10, 11, 12, 13, 14, 15, 16, 17, 18, 19, 20, 21, 22, 23, 24, 25, 26, 27, 28, 29, 30, 31, 32, 33, 34, 35, 36, 37, 38, 39, 40], [0, 1, 2, 3, 4, 5, 6, 7, 8, 9, 10, 11, 12, 13, 14, 15, 16, 17, 18, 19, 20, 21, 22, 23, 24, 25, 26, 27, 28, 29, 30, 31, 32, 33, 34, 35, 36, 37, 38, 39, 40, 41], [0, 1, 2, 3, 4, 5, 6, 7, 8, 9, 10, 11, 12, 13, 14, 15, 16, 17, 18, 19, 20, 21, 22, 23, 24, 25, 26, 27, 28, 29, 30, 31, 32, 33, 34, 35, 36, 37, 38, 39, 40, 41, 42]] [[.fact 14 (.fnv 69 [] [Fact.isv 21])], [.fact 15 (.rep [] ((Field.mk (76 : Int) (0 : Int) (1 : Int)) : Field)), .fact 100022 (.at 22 (.rep [] ((wI ((0 : Int) + (1 : Int))) : Int))), .fact 100021 (.obj 21 [(false, 1)]), .kill 21, .killId 22], [.fact 16 (.fnv 69 [] [Fact.isv 21])], [.fact 17 (.pto 10 0)], [.fact 18 (.rep [] a0.Id)], [.fact 19 (.rep [] ((wI (a0.Id.toNat : Int)) : Int))], [.fact 20 (.rep [] ((Field.mk (wI (a0.Id.toNat : Int)) (wI ((0 : Int) + (1 : Int))) (4 : Int)) : Field)), .fact 100022 (.at 22 (.rep [] ((wI ((wI ((0 : Int) + (1 : Int))) + (4 : Int))) : Int))), .fact 100021 (.obj 21 [(false, 1)]), .kill 21, .killId 22], [.fact 21 (.fnv 69 [] [Fact.isv 21])], [.fact 22 (.pto 10 1)], [.fact 23 (.rep [] a0.Events)], [.fact 24 (.rep [] ((wI (a0.Events.toNat : Int)) : Int))], [.fact 25 (.rep [] ((Field.mk (wI (a0.Events.toNat : Int)) (wI ((wI ((0 : Int) + (1 : Int))) + (4 : Int))) (4 : Int)) : Field)), .fact 100022 (.at 22 (.rep [] ((wI ((wI ((wI ((0 : Int) + (1 : Int))) + (4 : Int))) + (4 : Int))) : Int))), .fact 100021 (.obj 21 [(false, 1)]), .kill 21, .killId 22], [.fact 26 (.fnv 69 [] [Fact.isv 21])], [.fact 27 (.pto 10 2)], [.fact 28 (.rep [] a0.Members)], [.fact 29 (.rep [] ((Field.mk a0.Members (wI ((wI ((wI ((0 : Int) + (1 : Int))) + (4 : Int))) + (4 : Int))) (1 : Int)) : Field)), .fact 100022 (.at 22 (.rep [] ((wI ((wI ((wI ((wI ((0 : Int) + (1 : Int))) + (4 : Int))) + (4 : Int))) + (1 : Int))) : Int))), .fact 100021 (.obj 21 [(false, 1)]), .kill 21, .killId 22], [.fact 30 (.fnv 69 [] [Fact.isv 21])], [.fact 31 (.pto 10 3)], [.fact 32 (.rep [] a0.Chunk)], [.fact 33 (.rep [] ((Field.mk a0.Chunk (wI ((wI ((wI ((wI ((0 : Int) + (1 : Int))) + (4 : Int))) + (4 : Int))) + (1 : Int))) (1 : Int)) : Field)), .fact 100022 (.at 22 (.rep [] ((wI ((wI ((wI ((wI ((wI ((0 : Int) + (1 : Int))) + (4 : Int))) + (4 : Int))) + (1 : Int))) + (1 : Int))) : Int))), .fact 100021 (.obj 21 [(false, 1)]), .kill 21, .killId 22], [.fact 34 (.fnv 69 [] [Fact.isv 21])], [.fact 35 (.pto 10 4)], [.fact 36 (.rep [] a0.Rows)], [.fact 37 (.rep [] ((Field.mk a0.Rows (wI ((wI ((wI ((wI ((wI ((0 : Int) + (1 : Int))) + (4 : Int))) + (4 : Int))) + (1 : Int))) + (1 : Int))) (1 : Int)) : Field)), .fact 100022 (.at 22 (.rep [] ((wI ((wI ((wI ((wI ((wI ((wI ((0 : Int) + (1 : Int))) + (4 : Int))) + (4 : Int))) + (1 : Int))) + (1 : Int))) + (1 : Int))) : Int))), .fact 100021 (.obj 21 [(false, 1)]), .kill 21, .killId 22], [.fact 38 (.fnv 69 [] [Fact.isv 21])], [.fact 39 (.pto 10 5)], [.fact 40 (.rep [] a0.Log)], [.fact 41 (.rep [] ((Field.mk a0.Log (wI ((wI ((wI ((wI ((wI ((wI ((0 : Int) + (1 : Int))) + (4 : Int))) + (4 : Int))) + (1 : Int))) + (1 : Int))) + (1 : Int))) (1 : Int)) : Field)), .fact 100022 (.at 22 (.rep [] ((wI ((wI ((wI ((wI ((wI ((wI ((wI ((0 : Int) + (1 : Int))) + (4 : Int))) + (4 : Int))) + (1 : Int))) + (1 : Int))) + (1 : Int))) + (1 : Int))) : Int))), .fact 100021 (.obj 21 [(false, 1)]), .kill 21, .killId 22], [.fact 42 (.fnv 69 [] [Fact.isv 21])], [.fact 43 (.pto 10 6)], [.fact 44 (.rep [] a0.Me)], [.fact 45 (.rep [] ((Field.mk a0.Me (wI ((wI ((wI ((wI ((wI ((wI ((wI ((0 : Int) + (1 : Int))) + (4 : Int))) + (4 : Int))) + (1 : Int))) + (1 : Int))) + (1 : Int))) + (1 : Int))) (1 : Int)) : Field)), .fact 100022 (.at 22 (.rep [] ((wI ((wI ((wI ((wI ((wI ((wI ((wI ((wI ((0 : Int) + (1 : Int))) + (4 : Int))) + (4 : Int))) + (1 : Int))) + (1 : Int))) + (1 : Int))) + (1 : Int))) + (1 : Int))) : Int))), .fact 100021 (.obj 21 [(false, 1)]), .kill 21, .killId 22], [.fact 46 (.fnv 69 [] [Fact.isv 21])], [.fact 47 (.rep [] (j1 : Int))], [.fact 48 (.rep [] ((Field.mk j1 (wI ((wI ((wI ((wI ((wI ((wI ((wI ((wI ((0 : Int) + (1 : Int))) + (4 : Int))) + (4 : Int))) + (1 : Int))) + (1 : Int))) + (1 : Int))) + (1 : Int))) + (1 : Int))) (1 : Int)) : Field)), .fact 100022 (.at 22 (.rep [] ((wI ((wI ((wI ((wI ((wI ((wI ((wI ((wI ((wI ((0 : Int) + (1 : Int))) + (4 : Int))) + (4 : Int))) + (1 : Int))) + (1 : Int))) + (1 : Int))) + (1 : Int))) + (1 : Int))) + (1 : Int))) : Int))), .fact 100021 (.obj 21 [(false, 1)]), .kill 21, .killId 22], [.fact 49 (.fnv 69 [] [Fact.isv 21])], [.fact 50 (.pto 10 8)], [.fact 51 (.rep [] a0.Done)], [.fact 52 (.rep [] ((Field.mk a0.Done (wI ((wI ((wI ((wI ((wI ((wI ((wI ((wI ((wI ((0 : Int) + (1 : Int))) + (4 : Int))) + (4 : Int))) + (1 : Int))) + (1 : Int))) + (1 : Int))) + (1 : Int))) + (1 : Int))) + (1 : Int))) (1 : Int)) : Field)), .fact 100022 (.at 22 (.rep [] ((wI ((wI ((wI ((wI ((wI ((wI ((wI ((wI ((wI ((wI ((0 : Int) + (1 : Int))) + (4 : Int))) + (4 : Int))) + (1 : Int))) + (1 : Int))) + (1 : Int))) + (1 : Int))) + (1 : Int))) + (1 : Int))) + (1 : Int))) : Int))), .fact 100021 (.obj 21 [(false, 1)]), .kill 21, .killId 22], [.fact 53 (.fnv 69 [] [Fact.isv 21])], [.fact 54 (.rep [] (j2 : Int))], [.fact 55 (.rep [] ((Field.mk j2 (wI ((wI ((wI ((wI ((wI ((wI ((wI ((wI ((wI ((wI ((0 : Int) + (1 : Int))) + (4 : Int))) + (4 : Int))) + (1 : Int))) + (1 : Int))) + (1 : Int))) + (1 : Int))) + (1 : Int))) + (1 : Int))) + (1 : Int))) (1 : Int)) : Field)), .fact 100022 (.at 22 (.rep [] ((wI ((wI ((wI ((wI ((wI ((wI ((wI ((wI ((wI ((wI ((wI ((0 : Int) + (1 : Int))) + (4 : Int))) + (4 : Int))) + (1 : Int))) + (1 : Int))) + (1 : Int))) + (1 : Int))) + (1 : Int))) + (1 : Int))) + (1 : Int))) + (1 : Int))) : Int))), .fact 100021 (.obj 21 [(false, 1)]), .kill 21, .killId 22], [.fact 56 (.rep [23] ([(Field.mk (76 : Int) (0 : Int) (1 : Int)), (Field.mk (wI (a0.Id.toNat : Int)) (wI ((0 : Int) + (1 : Int))) (4 : Int)), (Field.mk (wI (a0.Events.toNat : Int)) (wI ((wI ((0 : Int) + (1 : Int))) + (4 : Int))) (4 : Int)), (Field.mk a0.Members (wI ((wI ((wI ((0 : Int) + (1 : Int))) + (4 : Int))) + (4 : Int))) (1 : Int)), (Field.mk a0.Chunk (wI ((wI ((wI ((wI ((0 : Int) + (1 : Int))) + (4 : Int))) + (4 : Int))) + (1 : Int))) (1 : Int)), (Field.mk a0.Rows (wI ((wI ((wI ((wI ((wI ((0 : Int) + (1 : Int))) + (4 : Int))) + (4 : Int))) + (1 : Int))) + (1 : Int))) (1 : Int)), (Field.mk a0.Log (wI ((wI ((wI ((wI ((wI ((wI ((0 : Int) + (1 : Int))) + (4 : Int))) + (4 : Int))) + (1 : Int))) + (1 : Int))) + (1 : Int))) (1 : Int)), (Field.mk a0.Me (wI ((wI ((wI ((wI ((wI ((wI ((wI ((0 : Int) + (1 : Int))) + (4 : Int))) + (4 : Int))) + (1 : Int))) + (1 : Int))) + (1 : Int))) + (1 : Int))) (1 : Int)), (Field.mk j1 (wI ((wI ((wI ((wI ((wI ((wI ((wI ((wI ((0 : Int) + (1 : Int))) + (4 : Int))) + (4 : Int))) + (1 : Int))) + (1 : Int))) + (1 : Int))) + (1 : Int))) + (1 : Int))) (1 : Int)), (Field.mk a0.Done (wI ((wI ((wI ((wI ((wI ((wI ((wI ((wI ((wI ((0 : Int) + (1 : Int))) + (4 : Int))) + (4 : Int))) + (1 : Int))) + (1 : Int))) + (1 : Int))) + (1 : Int))) + (1 : Int))) + (1 : Int))) (1 : Int)), (Field.mk j2 (wI ((wI ((wI ((wI ((wI ((wI ((wI ((wI ((wI ((wI ((0 : Int) + (1 : Int))) + (4 : Int))) + (4 : Int))) + (1 : Int))) + (1 : Int))) + (1 : Int))) + (1 : Int))) + (1 : Int))) + (1 : Int))) + (1 : Int))) (1 : Int))] : List Field))], [.fact 2 (.rep [23] ([(Field.mk (76 : Int) (0 : Int) (1 : Int)), (Field.mk (wI (a0.Id.toNat : Int)) (wI ((0 : Int) + (1 : Int))) (4 : Int)), (Field.mk (wI (a0.Events.toNat : Int)) (wI ((wI ((0 : Int) + (1 : Int))) + (4 : Int))) (4 : Int)), (Field.mk a0.Members (wI ((wI ((wI ((0 : Int) + (1 : Int))) + (4 : Int))) + (4 : Int))) (1 : Int)), (Field.mk a0.Chunk (wI ((wI ((wI ((wI ((0 : Int) + (1 : Int))) + (4 : Int))) + (4 : Int))) + (1 : Int))) (1 : Int)), (Field.mk a0.Rows (wI ((wI ((wI ((wI ((wI ((0 : Int) + (1 : Int))) + (4 : Int))) + (4 : Int))) + (1 : Int))) + (1 : Int))) (1 : Int)), (Field.mk a0.Log (wI ((wI ((wI ((wI ((wI ((wI ((0 : Int) + (1 : Int))) + (4 : Int))) + (4 : Int))) + (1 : Int))) + (1 : Int))) + (1 : Int))) (1 : Int)), (Field.mk a0.Me (wI ((wI ((wI ((wI ((wI ((wI ((wI ((0 : Int) + (1 : Int))) + (4 : Int))) + (4 : Int))) + (1 : Int))) + (1 : Int))) + (1 : Int))) + (1 : Int))) (1 : Int)), (Field.mk j1 (wI ((wI ((wI ((wI ((wI ((wI ((wI ((wI ((0 : Int) + (1 : Int))) + (4 : Int))) + (4 : Int))) + (1 : Int))) + (1 : Int))) + (1 : Int))) + (1 : Int))) + (1 : Int))) (1 : Int)), (Field.mk a0.Done (wI ((wI ((wI ((wI ((wI ((wI ((wI ((wI ((wI ((0 : Int) + (1 : Int))) + (4 : Int))) + (4 : Int))) + (1 : Int))) + (1 : Int))) + (1 : Int))) + (1 : Int))) + (1 : Int))) + (1 : Int))) (1 : Int)), (Field.mk j2 (wI ((wI ((wI ((wI ((wI ((wI ((wI ((wI ((wI ((wI ((0 : Int) + (1 : Int))) + (4 : Int))) + (4 : Int))) + (1 : Int))) + (1 : Int))) + (1 : Int))) + (1 : Int))) + (1 : Int))) + (1 : Int))) + (1 : Int))) (1 : Int))] : List Field))]] mixed (by kernel_rfl) (ao (so (Spec.move (Has.s rfl))) (ao (StepG.stE (Step.callCnt (t := 21) (F := fun n s a => Field.mk n a s) rfl rfl cnt69_106 (CallOk.valE en69 (Has.s rfl) (HasF.cons Has.int (HasF.cons Has.int HasF.nil))) rfl (HasG.s rfl))) (ao (so (Spec.move (Has.s rfl))) (ao (so (Spec.fieldAddrO fd71_0 (Has.cv (Has.s rfl) (Cv.isvP rfl)))) (ao (so (Spec.loadF (i := 0) ty22 rfl (Has.s rfl) rfl (HasG.s rfl))) (ao (so (Spec.conv (α := UInt32) (β := Int) Try.underlying22 Try.underlying3 (Has.s rfl))) (ao (StepG.stE (Step.callCnt (t := 21) (F := fun n s a => Field.mk n a s) rfl rfl cnt69_106 (CallOk.valE en69 (Has.s rfl) (HasF.cons (Has.s rfl) (HasF.cons Has.int HasF.nil))) rfl (HasG.s rfl))) (ao (so (Spec.move (Has.s rfl))) (ao (so (Spec.fieldAddrO fd71_1 (Has.cv (Has.s rfl) (Cv.isvP rfl)))) (ao (so (Spec.loadF (i := 1) ty22 rfl (Has.s rfl) rfl (HasG.s rfl))) (ao (so (Spec.conv (α := UInt32) (β := Int) Try.underlying22 Try.underlying3 (Has.s rfl))) (ao (StepG.stE (Step.callCnt (t := 21) (F := fun n s a => Field.mk n a s) rfl rfl cnt69_106 (CallOk.valE en69 (Has.s rfl) (HasF.cons (Has.s rfl) (HasF.cons Has.int HasF.nil))) rfl (HasG.s rfl))) (ao (so (Spec.move (Has.s rfl))) (ao (so (Spec.fieldAddrO fd71_2 (Has.cv (Has.s rfl) (Cv.isvP rfl)))) (ao (so (Spec.loadF (i := 2) ty3 rfl (Has.s rfl) rfl (HasG.s rfl))) (ao (StepG.stE (Step.callCnt (t := 21) (F := fun n s a => Field.mk n a s) rfl rfl cnt69_106 (CallOk.valE en69 (Has.s rfl) (HasF.cons (Has.s rfl) (HasF.cons Has.int HasF.nil))) rfl (HasG.s rfl))) (ao (so (Spec.move (Has.s rfl))) (ao (so (Spec.fieldAddrO fd71_3 (Has.cv (Has.s rfl) (Cv.isvP rfl)))) (ao (so (Spec.loadF (i := 3) ty3 rfl (Has.s rfl) rfl (HasG.s rfl))) (ao (StepG.stE (Step.callCnt (t := 21) (F := fun n s a => Field.mk n a s) rfl rfl cnt69_106 (CallOk.valE en69 (Has.s rfl) (HasF.cons (Has.s rfl) (HasF.cons Has.int HasF.nil))) rfl (HasG.s rfl))) (ao (so (Spec.move (Has.s rfl))) (ao (so (Spec.fieldAddrO fd71_4 (Has.cv (Has.s rfl) (Cv.isvP rfl)))) (ao (so (Spec.loadF (i := 4) ty3 rfl (Has.s rfl) rfl (HasG.s rfl))) (ao (StepG.stE (Step.callCnt (t := 21) (F := fun n s a => Field.mk n a s) rfl rfl cnt69_106 (CallOk.valE en69 (Has.s rfl) (HasF.cons (Has.s rfl) (HasF.cons Has.int HasF.nil))) rfl (HasG.s rfl))) (ao (so (Spec.move (Has.s rfl))) (ao (so (Spec.fieldAddrO fd71_5 (Has.cv (Has.s rfl) (Cv.isvP rfl)))) (ao (so (Spec.loadF (i := 5) ty3 rfl (Has.s rfl) rfl (HasG.s rfl))) (ao (StepG.stE (Step.callCnt (t := 21) (F := fun n s a => Field.mk n a s) rfl rfl cnt69_106 (CallOk.valE en69 (Has.s rfl) (HasF.cons (Has.s rfl) (HasF.cons Has.int HasF.nil))) rfl (HasG.s rfl))) (ao (so (Spec.move (Has.s rfl))) (ao (so (Spec.fieldAddrO fd71_6 (Has.cv (Has.s rfl) (Cv.isvP rfl)))) (ao (so (Spec.loadF (i := 6) ty3 rfl (Has.s rfl) rfl (HasG.s rfl))) (ao (StepG.stE (Step.callCnt (t := 21) (F := fun n s a => Field.mk n a s) rfl rfl cnt69_106 (CallOk.valE en69 (Has.s rfl) (HasF.cons (Has.s rfl) (HasF.cons Has.int HasF.nil))) rfl (HasG.s rfl))) (ao (so (Spec.move (Has.s rfl))) (ao (so (Spec.move (Has.s rfl))) (ao (StepG.stE (Step.callCnt (t := 21) (F := fun n s a => Field.mk n a s) rfl rfl cnt69_106 (CallOk.valE en69 (Has.s rfl) (HasF.cons (Has.s rfl) (HasF.cons Has.int HasF.nil))) rfl (HasG.s rfl))) (ao (so (Spec.move (Has.s rfl))) (ao (so (Spec.fieldAddrO fd71_8 (Has.cv (Has.s rfl) (Cv.isvP rfl)))) (ao (so (Spec.loadF (i := 8) ty3 rfl (Has.s rfl) rfl (HasG.s rfl))) (ao (StepG.stE (Step.callCnt (t := 21) (F := fun n s a => Field.mk n a s) rfl rfl cnt69_106 (CallOk.valE en69 (Has.s rfl) (HasF.cons (Has.s rfl) (HasF.cons Has.int HasF.nil))) rfl (HasG.s rfl))) (ao (so (Spec.move (Has.s rfl))) (ao (so (Spec.move (Has.s rfl))) (ao (StepG.stE (Step.callCnt (t := 21) (F := fun n s a => Field.mk n a s) rfl rfl cnt69_106 (CallOk.valE en69 (Has.s rfl) (HasF.cons (Has.s rfl) (HasF.cons Has.int HasF.nil))) rfl (HasG.s rfl))) (ao (so (Spec.lit (xs := [.tmp 15, .tmp 20, .tmp 25, .tmp 29, .tmp 33, .tmp 37, .tmp 41, .tmp 45, .tmp 48, .tmp 52, .tmp 55]) (T := []) 23 rfl ow103 rfl rfl rfl rfl (HasEach.cons (Has.fl (Has.s rfl)) (HasEach.cons (Has.fl (Has.s rfl)) (HasEach.cons (Has.fl (Has.s rfl)) (HasEach.cons (Has.fl (Has.s rfl)) (HasEach.cons (Has.fl (Has.s rfl)) (HasEach.cons (Has.fl (Has.s rfl)) (HasEach.cons (Has.fl (Has.s rfl)) (HasEach.cons (Has.fl (Has.s rfl)) (HasEach.cons (Has.fl (Has.s rfl)) (HasEach.cons (Has.fl (Has.s rfl)) (HasEach.cons (Has.fl (Has.s rfl)) HasEach.nil))))))))))))) (ao (so (Spec.assign (Has.s rfl))) AllM.nil)))))))))))))))))))))))))))))))))))))))))))) ?_
   refine Leaf.thenN ?_
   refine CWalk.ret ?_
   obtain rfl := Option.some.inj hm
   exact Leaf.retC1 rfl (HasR.cv (HasR.tmp (Has.s rfl)) (Cv.m rfl))
  ·refine CWalk.seq ?_
   refine CWalk.region ?_
   refine wo (Spec.fieldAddrO fd71_9 (Has.cv (Has.s rfl) (Cv.isvP rfl))) ?_
   refine wo (Spec.loadF (i := 9) ty4 rfl (Has.s rfl) rfl (HasG.s rfl)) ?_
   refine Walk.nil ?_
   refine Leaf.thenN ?_
   refine CWalk.cond rfl (fun hb => ?_) (fun hb => ?_)
   ·have hm := cond_t hb hm
    refine CWalk.region ?_
    refine wo (Spec.assign Has.int) ?_
    refine Walk.nil ?_
    exact Leaf.join (1 : Int) hm (sn (sn (st (st (sf (sf (sf (sf (sf (sf (sf (sf (sf (sf (sf (sn (sn Sub.nil)))))))))))))))))
   ·have hm := cond_f hb hm
    refine CWalk.skip ?_
    exact Leaf.join (0 : Int) hm (sn (sn (st (st (sf (sf (sf (sf (sf (sf (sf (sf (sf (sf (sf (sn (sn Sub.nil)))))))))))))))))
 ·refine CWalk.seq ?_
  refine CWalk.region ?_
  refine mv ?_
  refine wo (Spec.eqlI (Has.s rfl) Has.int) ?_
  refine Walk.nil ?_
  refine Leaf.thenN ?_
  refine CWalk.cond rfl (fun hb => ?_) (fun hb => ?_)
  ·have hm := cond_t hb hm
   refine CWalk.region ?_
   refine wo (Spec.assign Has.int) ?_
   refine Walk.nil ?_
   exact Leaf.join (255 : Int) hm (sn (sn (st (st (sf (sf (sf (sf (sf (sf (sf (sf (sf (sf (sf (sn (sn Sub.nil)))))))))))))))))
  ·have hm := cond_f hb hm
   refine CWalk.skip ?_
   exact Leaf.join a0.Lost hm (sn (sn (st (st (sf (sf (sf (sf (sf (sf (sf (sf (sf (sf (sf (sn (sn Sub.nil)))))))))))))))))

/-- freeboard/pack.whole -/
def pack_whole (a0 : List UInt8) : Option ((ArrV 128 UInt8) × Int) :=
  (bif ((((a0).length : Int) != (0 : Int)) && (((a0).length : Int) != (128 : Int))) then some ((ArrV.mk (List.replicate 128 (0 : UInt8)) : ArrV 128 UInt8), (3 : Int)) else some ((ArrV.mk (cpyA (List.replicate 128 (0 : UInt8)) a0) : ArrV 128 UInt8), (0 : Int)))
set_option maxRecDepth 100000 in
set_option maxHeartbeats 2000000 in
theorem pack_whole_c (a0 : List UInt8) {r : (ArrV 128 UInt8) × Int} (hm : pack_whole a0 = some r) : Ctr Try.prog 70 [.rep 0 a0] (.tup2 (.fl r.1) (.fl r.2)) [] := by
 refine ctr_of_walk [[]] 17 Try.func70 rfl rfl rfl rfl (fun w0 om => ?_)
 unfold pack_whole at hm
 refine CWalk.sub (G' := [.fact 0 (.rep [0] (a0 : List UInt8))]) (sn Sub.nil) ?_
 refine CWalk.seq ?_
 refine CWalk.region ?_
 refine ws (Step.allocArr 10 rfl rfl ar122) ?_
 refine wo (Spec.assign Has.int) ?_
 refine Walk.nil ?_
 refine Leaf.thenN ?_
 refine CWalk.seq ?_
 refine CWalk.seq ?_
 refine CWalk.region ?_
 refine mv ?_
 refine wo (Spec.len (Has.s rfl) Try.underlying56) ?_
 refine wo (Spec.neqI (Has.s rfl) Has.int) ?_
 refine mv ?_
 refine wg rfl rfl (fun hb => Spec.move (Has.s rfl)) ?_
 refine wg rfl rfl (fun hb => Spec.len (Has.u rfl hb) Try.underlying56) ?_
 refine wg rfl rfl (fun hb => Spec.neqI (Has.u rfl hb) Has.int) ?_
 refine wo (Spec.and (Has.s rfl) (fun h => Has.u rfl h)) ?_
 refine Walk.nil ?_
 refine Leaf.thenN ?_
 refine CWalk.cond rfl (fun hb => ?_) (fun hb => ?_)
 ·have hm := cond_t hb hm
  refine CWalk.seq ?_
  refine CWalk.region ?_
  refine wo (Spec.loadArrV ty122 (Has.s rfl) rfl) ?_
  refine ws (Step.storeArrV rfl ty122 (Has.s rfl) rfl (Has.s rfl)) ?_
  refine wo (Spec.assign Has.int) ?_
  refine Walk.nil ?_
  refine Leaf.thenN ?_
  refine CWalk.ret ?_
  refine Leaf.thenR ?_
  obtain rfl := Option.some.inj hm
  exact Leaf.retC2 rfl (HasR.cv (HasR.arr ty122 (Has.s rfl) rfl) Cv.fl) (HasR.cv (HasR.tmp (Has.s rfl)) Cv.fl)
 ·have hm := cond_f hb hm
  refine CWalk.skip ?_
  refine Leaf.thenN ?_
  refine CWalk.seq ?_
  refine CWalk.region ?_
  refine wo (Spec.sliceWh ar122 (Has.s rfl) rfl) ?_
  refine mv ?_
  refine ws (Step.copyA rfl rfl ow56 (Has.s rfl) rfl (Has.s rfl)) ?_
  refine Walk.nil ?_
  refine Leaf.thenN ?_
  refine CWalk.seq ?_
  refine CWalk.region ?_
  refine wo (Spec.loadArrV ty122 (Has.s rfl) rfl) ?_
  refine ws (Step.storeArrV rfl ty122 (Has.s rfl) rfl (Has.s rfl)) ?_
  refine wo (Spec.assign Has.int) ?_
  refine Walk.nil ?_
  refine Leaf.thenN ?_
  refine CWalk.ret ?_
  obtain rfl := Option.some.inj hm
  exact Leaf.retC2 rfl (HasR.cv (HasR.arr ty122 (Has.s rfl) rfl) Cv.fl) (HasR.cv (HasR.tmp (Has.s rfl)) Cv.fl)

/-- freeboard/pack.fits -/
def pack_fits (a0 : Int) (a1 : Int) : Option (Bool) :=
  some ((((decide (a1 ≥ (1 : Int))) && (decide (a1 ≤ (4 : Int)))) && (decide (a0 ≥ (0 : Int)))) && (decide (a0 ≤ (wI ((128 : Int) - a1)))))
set_option maxRecDepth 100000 in
set_option maxHeartbeats 2000000 in
theorem pack_fits_c (a0 : Int) (a1 : Int) {r : Bool} (hm : pack_fits a0 a1 = some r) : Ctr Try.prog 71 [.rep 0 a0, .rep 0 a1] (.fl r) [] := by
 refine ctr_of_walk [[]] 21 Try.func71 rfl rfl rfl rfl (fun w0 om => ?_)
 unfold pack_fits at hm
 refine CWalk.sub (G' := [.fact 0 (.rep [] (a0 : Int)), .fact 1 (.rep [] (a1 : Int))]) (Sub.cons (Has.fl (Has.s rfl)) (Sub.cons (Has.fl (Has.s rfl)) Sub.nil)) ?_
 refine CWalk.seq ?_
 refine CWalk.region ?_
 refine wo (Spec.assign Has.bool) ?_
 refine Walk.nil ?_
 refine Leaf.thenN ?_
 refine CWalk.seq ?_
 refine CWalk.region ?_
 refine mv ?_
 refine wo (Spec.geqI (Has.s rfl) Has.int) ?_
 refine mv ?_
 refine wg rfl rfl (fun hb => Spec.move (Has.s rfl)) ?_
 refine wg rfl rfl (fun hb => Spec.leqI (Has.u rfl hb) Has.int) ?_
 refine wo (Spec.and (Has.s rfl) (fun h => Has.u rfl h)) ?_
 refine mv ?_
 refine wg rfl rfl (fun hb => Spec.move (Has.s rfl)) ?_
 refine wg rfl rfl (fun hb => Spec.geqI (Has.u rfl hb) Has.int) ?_
 refine wo (Spec.and (Has.s rfl) (fun h => Has.u rfl h)) ?_
 refine mv ?_
 refine wg rfl rfl (fun hb => Spec.move (Has.s rfl)) ?_
 refine wg rfl rfl (fun hb => Spec.move (Has.s rfl)) ?_
 refine wg rfl rfl (fun hb => Spec.subI Has.int (Has.u rfl hb)) ?_
 refine wg rfl rfl (fun hb => Spec.leqI (Has.u rfl hb) (Has.u rfl hb)) ?_
 refine wo (Spec.and (Has.s rfl) (fun h => Has.u rfl h)) ?_
 refine wo (Spec.assign (Has.s rfl)) ?_
 refine Walk.nil ?_
 refine Leaf.thenN ?_
 refine CWalk.ret ?_
 obtain rfl := Option.some.inj hm
 exact Leaf.retC1 rfl (HasR.cv (HasR.tmp (Has.s rfl)) Cv.fl)

def pack_Put_L1 (a1 : Int) (a2 : Int) (a3 : Int) (s4 : Int) (s5 : List UInt8) : Option (Ctl (Int × (List UInt8)) ((List UInt8))) :=
  (bif (decide (s4 < a2)) then Option.bind (shrI a3 (wI ((8 : Int) * s4))) (fun x7 => Option.bind (bnd 128 (wI (a1 + s4))) (fun x8 => some (Ctl.next ((wI (s4 + (1 : Int))), (s5).set x8 (scB.of x7))))) else some (Ctl.brk s5))
/-- freeboard/pack.Put -/
def pack_Put (a0 : List UInt8) (a1 : Int) (a2 : Int) (a3 : Int) : Option ((List UInt8) × Int) :=
  Option.bind (pack_whole a0) (fun x1 => (bif (x1.2 != (0 : Int)) then some (([] : List UInt8), x1.2) else Option.bind (pack_fits a1 a2) (fun x2 => Option.bind (gO (!((!x2) || (decide (a3 < (0 : Int))))) (shrI a3 (wI ((8 : Int) * a2)))) (fun x3 => (bif (((!x2) || (decide (a3 < (0 : Int)))) || (x3 != (0 : Int))) then some (([] : List UInt8), (2 : Int)) else Option.bind (loopM (fun s : Int × (List UInt8) => pack_Put_L1 a1 a2 a3 s.1 s.2) FUEL ((0 : Int), x1.1.l)) (fun b9 => some (b9, (0 : Int))))))))
set_option maxRecDepth 100000 in
set_option maxHeartbeats 2000000 in
theorem pack_Put_c (a0 : List UInt8) (a1 : Int) (a2 : Int) (a3 : Int) {r : (List UInt8) × Int} (hm : pack_Put a0 a1 a2 a3 = some r) : Ctr Try.prog 57 [.rep 0 a0, .rep 0 a1, .rep 0 a2, .rep 0 a3] (.tup2 (.sl 0 none r.1) (.fl r.2)) [] := by
 refine ctr_of_walk [[11]] 51 Try.func57 rfl rfl rfl rfl (fun w0 om => ?_)
 unfold pack_Put at hm
 refine CWalk.sub (G' := [.fact 0 (.rep [0] (a0 : List UInt8)), .fact 1 (.rep [] (a1 : Int)), .fact 2 (.rep [] (a2 : Int)), .fact 3 (.rep [] (a3 : Int))]) (sn (Sub.cons (Has.fl (Has.s rfl)) (Sub.cons (Has.fl (Has.s rfl)) (Sub.cons (Has.fl (Has.s rfl)) Sub.nil)))) ?_
 refine CWalk.seq ?_
 refine CWalk.region ?_
 refine wo (Spec.assign Has.nilv) ?_
 refine wo (Spec.assign Has.int) ?_
 refine Walk.nil ?_
 refine Leaf.thenN ?_
 refine CWalk.seq ?_
 refine CWalk.region ?_
 refine mv ?_
 obtain ⟨x1, hx1, hm⟩ := bind_some hm
 refine wo (f := Fact.tup2 (Fact.rep [] x1.1) (Fact.rep [] x1.2)) (Spec.callE [0] 10 rfl en70 (pack_whole_c a0 hx1) (HasAll.cons (Has.m (Has.s rfl) rfl) HasAll.nil)) ?_
 refine mv ?_
 refine wo (Spec.ext0 (Has.s rfl)) ?_
 refine wo (Spec.ext1 (Has.s rfl)) ?_
 refine ws (Step.allocArr 11 rfl rfl ar122) ?_
 refine ws (Step.storeArrV rfl ty122 (Has.s rfl) rfl (Has.s rfl)) ?_
 refine wo (Spec.assign (Has.s rfl)) ?_
 refine Walk.nil ?_
 refine Leaf.thenN ?_
 refine CWalk.seq ?_
 refine CWalk.seq ?_
 refine CWalk.region ?_
 refine mv ?_
 refine wo (Spec.neqI (Has.s rfl) Has.int) ?_
 refine Walk.nil ?_
 refine Leaf.thenN ?_
 refine CWalk.cond rfl (fun hb => ?_) (fun hb => ?_)
 ·have hm := cond_t hb hm
  refine CWalk.seq ?_
  refine CWalk.region ?_
  refine mv ?_
  refine wo (Spec.assign Has.nilv) ?_
  refine wo (Spec.assign (Has.s rfl)) ?_
  refine Walk.nil ?_
  refine Leaf.thenN ?_
  refine CWalk.ret ?_
  refine Leaf.thenR ?_
  obtain rfl := Option.some.inj hm
  exact Leaf.retC2 rfl (HasR.cv (HasR.tmp (Has.s rfl)) (Cv.trans Cv.nilSl (Cv.slF (T := []) (te := []) rfl))) (HasR.cv (HasR.tmp (Has.s rfl)) Cv.fl)
 ·have hm := cond_f hb hm
  refine CWalk.skip ?_
  refine Leaf.thenN ?_
  refine CWalk.seq ?_
  refine CWalk.seq ?_
  refine CWalk.region ?_
  refine mv ?_
  refine mv ?_
  obtain ⟨x2, hx2, hm⟩ := bind_some hm
  refine wo (f := Fact.rep [] (x2 : Bool)) (Spec.callE [] 12 rfl en71 (pack_fits_c a1 a2 hx2) (HasAll.cons (Has.fl (Has.s rfl)) (HasAll.cons (Has.fl (Has.s rfl)) HasAll.nil))) ?_
  refine wo (Spec.not (Has.s rfl)) ?_
  refine mv ?_
  refine wg rfl rfl (fun hb => Spec.move (Has.s rfl)) ?_
  refine wg rfl rfl (fun hb => Spec.lssI (Has.u rfl hb) Has.int) ?_
  refine wo (Spec.or (Has.s rfl) (fun h => Has.u rfl h)) ?_
  refine mv ?_
  refine wg rfl rfl (fun hb => Spec.move (Has.s rfl)) ?_
  refine wg rfl rfl (fun hb => Spec.move (Has.s rfl)) ?_
  refine wg rfl rfl (fun hb => Spec.mulI Has.int (Has.u rfl hb)) ?_
  obtain ⟨x3, hx3, hm⟩ := bind_some hm
  refine wg rfl rfl (fun hb => Spec.shrI (gO_t hx3 (not_t hb)) (Has.u rfl hb) (Has.u rfl hb)) ?_
  refine wg rfl rfl (fun hb => Spec.neqI (Has.u rfl hb) Has.int) ?_
  refine wo (Spec.or (Has.s rfl) (fun h => Has.u rfl h)) ?_
  refine Walk.nil ?_
  refine Leaf.thenN ?_
  refine CWalk.cond rfl (fun hb => ?_) (fun hb => ?_)
  ·have hm := cond_t hb hm
   refine CWalk.seq ?_
   refine CWalk.region ?_
   refine wo (Spec.assign Has.nilv) ?_
   refine wo (Spec.assign Has.int) ?_
   refine Walk.nil ?_
   refine Leaf.thenN ?_
   refine CWalk.ret ?_
   refine Leaf.thenR ?_
   obtain rfl := Option.some.inj hm
   exact Leaf.retC2 rfl (HasR.cv (HasR.tmp (Has.s rfl)) (Cv.trans Cv.nilSl (Cv.slF (T := []) (te := []) rfl))) (HasR.cv (HasR.tmp (Has.s rfl)) Cv.fl)
  ·have hm := cond_f hb hm
   refine CWalk.skip ?_
   refine Leaf.thenN ?_
   refine CWalk.seq ?_
   refine CWalk.seq ?_
   refine CWalk.region ?_
   refine mv ?_
   refine wo (Spec.move Has.int) ?_
   refine Walk.nil ?_
   refine Leaf.thenN ?_
   refine CWalk.block ?_
   obtain ⟨b9, hb9, hm⟩ := bind_some hm
   refine CWalk.loop (fun s : Int × (List UInt8) => [.fact 1 (.rep [] (a1 : Int)), .fact 3 (.rep [] (a3 : Int)), .fact 10 (.isv 11), .fact 36 (.rep [] (a2 : Int)), .fact 37 (.rep [] s.1), .fact 100011 (.arr 11 [] 128 (s.2 : List UInt8))]) (fun b : (List UInt8) => (Exit.exit 0, [.fact 10 (.isv 11), .fact 100011 (.arr 11 [] 128 (b : List UInt8))])) hb9 (st (st (sn (st (st (Sub.cons (Has.arrM (Has.s rfl) rfl) Sub.nil)))))) ?_ ?_
   ·rintro ⟨s4, s5⟩ c6 hm
    replace hm : pack_Put_L1 a1 a2 a3 s4 s5 = some c6 := hm
    unfold pack_Put_L1 at hm
    show CWalk _ [.fact 1 (.rep [] (a1 : Int)), .fact 3 (.rep [] (a3 : Int)), .fact 10 (.isv 11), .fact 36 (.rep [] (a2 : Int)), .fact 37 (.rep [] (s4 : Int)), .fact 100011 (.arr 11 [] 128 (s5 : List UInt8))] _ _
    refine CWalk.seq ?_
    refine CWalk.region ?_
    refine wo (Spec.lssI (Has.s rfl) (Has.s rfl)) ?_
    refine Walk.nil ?_
    refine Leaf.thenN ?_
    refine CWalk.seq ?_
    refine CWalk.cond rfl (fun hb => ?_) (fun hb => ?_)
    ·have hm := cond_t hb hm
     refine CWalk.skip ?_
     refine Leaf.thenN ?_
     refine CWalk.seq ?_
     refine CWalk.block ?_
     refine CWalk.seq ?_
     refine CWalk.region ?_
     refine mv ?_
     refine wo (Spec.assign (Has.s rfl)) ?_
     refine Walk.nil ?_
     refine Leaf.thenN ?_
     refine CWalk.region ?_
     refine mv ?_
     refine mv ?_
     refine wo (Spec.addI (Has.s rfl) (Has.s rfl)) ?_
     refine mv ?_
     refine mv ?_
     refine wo (Spec.mulI Has.int (Has.s rfl)) ?_
     obtain ⟨x7, hx7, hm⟩ := bind_some hm
     refine wo (Spec.shrI hx7 (Has.s rfl) (Has.s rfl)) ?_
     refine wo (Spec.conv (α := Int) (β := UInt8) Try.underlying3 Try.underlying5 (Has.s rfl)) ?_
     obtain ⟨x8, hx8, hm⟩ := bind_some hm
     refine wo (Spec.idxArr hx8 ar122 (Has.s rfl) rfl (Has.s rfl)) ?_
     refine ws (Step.storeArr (te' := []) rfl (bnd_lt hx8 rfl) ty5 (Has.s rfl) rfl (Has.s rfl) ElKeep.flat ElKeep.flat) ?_
     refine Walk.nil ?_
     refine Leaf.blockN ?_
     refine Leaf.thenN ?_
     refine CWalk.region ?_
     refine wo (Spec.addI (Has.s rfl) Has.int) ?_
     refine mv ?_
     refine Walk.nil ?_
     exact Leaf.next hm (st (st (sn (st (st (Sub.cons (Has.arrM (Has.s rfl) rfl) Sub.nil))))))
    ·have hm := cond_f hb hm
     refine CWalk.exit ?_
     refine Leaf.thenE ?_
     exact Leaf.brk hm (fun h => nomatch h) rfl (sn (Sub.cons (Has.arrM (Has.s rfl) rfl) Sub.nil))
   ·intro _
    refine Leaf.blockE ?_
    refine Leaf.thenN ?_
    refine CWalk.seq ?_
    refine CWalk.region ?_
    refine wo (Spec.sliceArrS ar122 (Has.s rfl) rfl) ?_
    refine wo (Spec.assign (Has.s rfl)) ?_
    refine wo (Spec.assign Has.int) ?_
    refine Walk.nil ?_
    refine Leaf.thenN ?_
    refine CWalk.ret ?_
    obtain rfl := Option.some.inj hm
    exact Leaf.retC2 rfl (HasR.cv (HasR.tmp (Has.s rfl)) (Cv.slF (T := [11]) (te := []) rfl)) (HasR.cv (HasR.tmp (Has.s rfl)) Cv.fl)

/-- freeboard/poly.words -/
def poly_words : Option ((ArrV 16 UInt32)) :=
  some (ArrV.mk ([(0 : UInt32), (274646895 : UInt32), (549293790 : UInt32), (820201905 : UInt32), (1098587580 : UInt32), (1361435347 : UInt32), (1640403810 : UInt32), (1905808397 : UInt32), (2197175160 : UInt32), (2460548119 : UInt32), (2722870694 : UInt32), (2987750089 : UInt32), (3280807620 : UInt32), (3553878443 : UInt32), (3811616794 : UInt32), (4084100981 : UInt32)]) : ArrV 16 UInt32)
set_option maxRecDepth 100000 in
set_option maxHeartbeats 2000000 in
theorem poly_words_c {r : (ArrV 16 UInt32)} (hm : poly_words = some r) : Ctr Try.prog 83 [] (.fl r) [] := by
 refine ctr_of_walk [[]] 2 Try.func83 rfl rfl rfl rfl (fun w0 om => ?_)
 unfold poly_words at hm
 refine CWalk.sub (G' := []) (Sub.nil) ?_
 refine CWalk.seq ?_
 refine CWalk.region ?_
 refine ws (Step.allocArr 10 rfl rfl ar134) ?_
 refine Walk.nil ?_
 refine Leaf.thenN ?_
 refine CWalk.seq ?_
 refine CWalk.region ?_
 refine wo (Spec.buildA (us := [(0, .const (.int .u32 0)), (1, .const (.int .u32 274646895)), (2, .const (.int .u32 549293790)), (3, .const (.int .u32 820201905)), (4, .const (.int .u32 1098587580)), (5, .const (.int .u32 1361435347)), (6, .const (.int .u32 1640403810)), (7, .const (.int .u32 1905808397)), (8, .const (.int .u32 2197175160)), (9, .const (.int .u32 2460548119)), (10, .const (.int .u32 2722870694)), (11, .const (.int .u32 2987750089)), (12, .const (.int .u32 3280807620)), (13, .const (.int .u32 3553878443)), (14, .const (.int .u32 3811616794)), (15, .const (.int .u32 4084100981))]) (ls' := [(false, 1, Fact.rep [] ((0 : UInt32) : UInt32)), (false, 1, Fact.rep [] ((274646895 : UInt32) : UInt32)), (false, 1, Fact.rep [] ((549293790 : UInt32) : UInt32)), (false, 1, Fact.rep [] ((820201905 : UInt32) : UInt32)), (false, 1, Fact.rep [] ((1098587580 : UInt32) : UInt32)), (false, 1, Fact.rep [] ((1361435347 : UInt32) : UInt32)), (false, 1, Fact.rep [] ((1640403810 : UInt32) : UInt32)), (false, 1, Fact.rep [] ((1905808397 : UInt32) : UInt32)), (false, 1, Fact.rep [] ((2197175160 : UInt32) : UInt32)), (false, 1, Fact.rep [] ((2460548119 : UInt32) : UInt32)), (false, 1, Fact.rep [] ((2722870694 : UInt32) : UInt32)), (false, 1, Fact.rep [] ((2987750089 : UInt32) : UInt32)), (false, 1, Fact.rep [] ((3280807620 : UInt32) : UInt32)), (false, 1, Fact.rep [] ((3553878443 : UInt32) : UInt32)), (false, 1, Fact.rep [] ((3811616794 : UInt32) : UInt32)), (false, 1, Fact.rep [] ((4084100981 : UInt32) : UInt32))]) bd134 rfl (BP.cons rfl rfl (Has.u32 0 rfl) (Has.u32 0 rfl) (BP.cons rfl rfl (Has.u32 274646895 rfl) (Has.u32 274646895 rfl) (BP.cons rfl rfl (Has.u32 549293790 rfl) (Has.u32 549293790 rfl) (BP.cons rfl rfl (Has.u32 820201905 rfl) (Has.u32 820201905 rfl) (BP.cons rfl rfl (Has.u32 1098587580 rfl) (Has.u32 1098587580 rfl) (BP.cons rfl rfl (Has.u32 1361435347 rfl) (Has.u32 1361435347 rfl) (BP.cons rfl rfl (Has.u32 1640403810 rfl) (Has.u32 1640403810 rfl) (BP.cons rfl rfl (Has.u32 1905808397 rfl) (Has.u32 1905808397 rfl) (BP.cons rfl rfl (Has.u32 2197175160 rfl) (Has.u32 2197175160 rfl) (BP.cons rfl rfl (Has.u32 2460548119 rfl) (Has.u32 2460548119 rfl) (BP.cons rfl rfl (Has.u32 2722870694 rfl) (Has.u32 2722870694 rfl) (BP.cons rfl rfl (Has.u32 2987750089 rfl) (Has.u32 2987750089 rfl) (BP.cons rfl rfl (Has.u32 3280807620 rfl) (Has.u32 3280807620 rfl) (BP.cons rfl rfl (Has.u32 3553878443 rfl) (Has.u32 3553878443 rfl) (BP.cons rfl rfl (Has.u32 3811616794 rfl) (Has.u32 3811616794 rfl) (BP.cons rfl rfl (Has.u32 4084100981 rfl) (Has.u32 4084100981 rfl) BP.nil))))))))))))))))) ?_
 refine ws (Step.storeArrV rfl ty134 (Has.s rfl) rfl (Has.cv (Has.s rfl) (Cv.fldsArr rfl rfl (ArrFl.cons (ArrFl.cons (ArrFl.cons (ArrFl.cons (ArrFl.cons (ArrFl.cons (ArrFl.cons (ArrFl.cons (ArrFl.cons (ArrFl.cons (ArrFl.cons (ArrFl.cons (ArrFl.cons (ArrFl.cons (ArrFl.cons (ArrFl.cons ArrFl.nil)))))))))))))))) rfl))) ?_
 refine Walk.nil ?_
 refine Leaf.thenN ?_
 refine CWalk.ret ?_
 obtain rfl := Option.some.inj hm
 exact Leaf.retC1 rfl (HasR.cv (HasR.arr ty134 (Has.s rfl) rfl) Cv.fl)

def poly_Over_L1 (a1 : List UInt8) (x1 : (ArrV 16 UInt32)) (s2 : UInt32) (s3 : Int) : Option (Ctl (UInt32 × Int) (UInt32)) :=
  (bif (decide (s3 < ((a1).length : Int))) then Option.bind (idx a1 s3) (fun x5 => Option.bind (bnd 16 (((s2 ^^^ (scW.of (x5.toNat : Int))) &&& (15 : UInt32)).toNat : Int)) (fun x6 => Option.bind ((x1.l)[x6]?) (fun x7 => Option.bind (bnd 16 ((((shrW (s2 ^^^ (scW.of (x5.toNat : Int))) 4) ^^^ x7) &&& (15 : UInt32)).toNat : Int)) (fun x8 => Option.bind ((x1.l)[x8]?) (fun x9 => some (Ctl.next (((shrW ((shrW (s2 ^^^ (scW.of (x5.toNat : Int))) 4) ^^^ x7) 4) ^^^ x9), (wI (s3 + (1 : Int)))))))))) else some (Ctl.brk s2))
/-- freeboard/poly.Over -/
def poly_Over (a0 : UInt32) (a1 : List UInt8) : Option (UInt32) :=
  Option.bind (poly_words) (fun x1 => Option.bind (loopM (fun s : UInt32 × Int => poly_Over_L1 a1 x1 s.1 s.2) FUEL ((4294967295 ^^^ a0), (0 : Int))) (fun b10 => some (4294967295 ^^^ b10)))
set_option maxRecDepth 100000 in
set_option maxHeartbeats 2000000 in
theorem poly_Over_c (a0 : UInt32) (a1 : List UInt8) {r : UInt32} (hm : poly_Over a0 a1 = some r) : Ctr Try.prog 73 [.rep 0 a0, .rep 0 a1] (.fl r) [] := by
 refine ctr_of_walk [[]] 38 Try.func73 rfl rfl rfl rfl (fun w0 om => ?_)
 unfold poly_Over at hm
 refine CWalk.sub (G' := [.fact 0 (.rep [] (a0 : UInt32)), .fact 1 (.rep [0] (a1 : List UInt8))]) (Sub.cons (Has.fl (Has.s rfl)) (sn Sub.nil)) ?_
 refine CWalk.seq ?_
 refine CWalk.region ?_
 refine wo (Spec.assign (Has.u32 0 rfl)) ?_
 refine Walk.nil ?_
 refine Leaf.thenN ?_
 refine CWalk.seq ?_
 refine CWalk.region ?_
 obtain ⟨x1, hx1, hm⟩ := bind_some hm
 refine wo (f := Fact.rep [] (x1 : ArrV 16 UInt32)) (Spec.callE [] 10 rfl en83 (poly_words_c  hx1) HasAll.nil) ?_
 refine ws (Step.allocArr 11 rfl rfl ar134) ?_
 refine ws (Step.storeArrV rfl ty134 (Has.s rfl) rfl (Has.s rfl)) ?_
 refine Walk.nil ?_
 refine Leaf.thenN ?_
 refine CWalk.seq ?_
 refine CWalk.region ?_
 refine mv ?_
 refine wo (Spec.notW (Has.s rfl)) ?_
 refine wo (Spec.assign (Has.s rfl)) ?_
 refine Walk.nil ?_
 refine Leaf.thenN ?_
 refine CWalk.seq ?_
 refine CWalk.seq ?_
 refine CWalk.region ?_
 refine mv ?_
 refine wo (Spec.len (Has.s rfl) Try.underlying56) ?_
 refine wo (Spec.move Has.int) ?_
 refine Walk.nil ?_
 refine Leaf.thenN ?_
 refine CWalk.block ?_
 obtain ⟨b10, hb10, hm⟩ := bind_some hm
 refine CWalk.loop (fun s : UInt32 × Int => [.fact 0 (.rep [] s.1), .fact 5 (.isv 11), .fact 11 (.rep [0] (a1 : List UInt8)), .fact 12 (.rep [] (((a1).length : Int) : Int)), .fact 13 (.rep [] s.2), .fact 100011 (.arr 11 [] 16 (x1.l : List UInt32))]) (fun b : UInt32 => (Exit.exit 0, [.fact 0 (.rep [] (b : UInt32))])) hb10 (st (sn (su (st (st (Sub.cons (Has.arrM (Has.s rfl) rfl) Sub.nil)))))) ?_ ?_
 ·rintro ⟨s2, s3⟩ c4 hm
  replace hm : poly_Over_L1 a1 x1 s2 s3 = some c4 := hm
  unfold poly_Over_L1 at hm
  show CWalk _ [.fact 0 (.rep [] (s2 : UInt32)), .fact 5 (.isv 11), .fact 11 (.rep [0] (a1 : List UInt8)), .fact 12 (.rep [] (((a1).length : Int) : Int)), .fact 13 (.rep [] (s3 : Int)), .fact 100011 (.arr 11 [] 16 (x1.l : List UInt32))] _ _
  refine CWalk.seq ?_
  refine CWalk.region ?_
  refine wo (Spec.lssI (Has.s rfl) (Has.s rfl)) ?_
  refine Walk.nil ?_
  refine Leaf.thenN ?_
  refine CWalk.seq ?_
  refine CWalk.cond rfl (fun hb => ?_) (fun hb => ?_)
  ·have hm := cond_t hb hm
   refine CWalk.skip ?_
   refine Leaf.thenN ?_
   refine CWalk.seq ?_
   refine CWalk.block ?_
   refine CWalk.seq ?_
   refine CWalk.region ?_
   obtain ⟨x5, hx5, hm⟩ := bind_some hm
   refine wo (Spec.indexAddr hx5 sl56 (Has.s rfl) (Has.s rfl)) ?_
   refine wo ((Spec.load ty5 (Has.s rfl)).flat (T' := [])) ?_
   refine wo (Spec.assign (Has.s rfl)) ?_
   refine Walk.nil ?_
   refine Leaf.thenN ?_
   refine CWalk.seq ?_
   refine CWalk.region ?_
   refine mv ?_
   refine mv ?_
   refine wo (Spec.conv (α := UInt8) (β := UInt32) Try.underlying5 Try.underlying22 (Has.s rfl)) ?_
   refine wo (Spec.xorW (Has.s rfl) (Has.s rfl)) ?_
   refine wo (Spec.assign (Has.s rfl)) ?_
   refine Walk.nil ?_
   refine Leaf.thenN ?_
   refine CWalk.seq ?_
   refine CWalk.region ?_
   refine mv ?_
   refine wo (Spec.shrW (k := 4) (Has.s rfl)) ?_
   refine mv ?_
   refine wo (Spec.andW (Has.s rfl) (Has.u32 15 rfl)) ?_
   obtain ⟨x6, hx6, hm⟩ := bind_some hm
   refine wo (Spec.idxArrN (β := UInt32) hx6 ar134 (Has.s rfl) rfl (Has.s rfl)) ?_
   obtain ⟨x7, hx7, hm⟩ := bind_some hm
   refine wo ((Spec.loadArr hx7 ty22 (Has.s rfl) rfl).flat (T' := [])) ?_
   refine wo (Spec.xorW (Has.s rfl) (Has.s rfl)) ?_
   refine wo (Spec.assign (Has.s rfl)) ?_
   refine Walk.nil ?_
   refine Leaf.thenN ?_
   refine CWalk.region ?_
   refine mv ?_
   refine wo (Spec.shrW (k := 4) (Has.s rfl)) ?_
   refine mv ?_
   refine wo (Spec.andW (Has.s rfl) (Has.u32 15 rfl)) ?_
   obtain ⟨x8, hx8, hm⟩ := bind_some hm
   refine wo (Spec.idxArrN (β := UInt32) hx8 ar134 (Has.s rfl) rfl (Has.s rfl)) ?_
   obtain ⟨x9, hx9, hm⟩ := bind_some hm
   refine wo ((Spec.loadArr hx9 ty22 (Has.s rfl) rfl).flat (T' := [])) ?_
   refine wo (Spec.xorW (Has.s rfl) (Has.s rfl)) ?_
   refine wo (Spec.assign (Has.s rfl)) ?_
   refine Walk.nil ?_
   refine Leaf.blockN ?_
   refine Leaf.thenN ?_
   refine CWalk.region ?_
   refine wo (Spec.addI (Has.s rfl) Has.int) ?_
   refine mv ?_
   refine Walk.nil ?_
   exact Leaf.next hm (st (sn (su (st (st (Sub.cons (Has.arrM (Has.s rfl) rfl) Sub.nil))))))
  ·have hm := cond_f hb hm
   refine CWalk.exit ?_
   refine Leaf.thenE ?_
   exact Leaf.brk hm (fun h => nomatch h) rfl (st Sub.nil)
 ·intro _
  refine Leaf.blockE ?_
  refine Leaf.thenN ?_
  refine CWalk.seq ?_
  refine CWalk.region ?_
  refine mv ?_
  refine wo (Spec.notW (Has.s rfl)) ?_
  refine wo (Spec.assign (Has.s rfl)) ?_
  refine Walk.nil ?_
  refine Leaf.thenN ?_
  refine CWalk.ret ?_
  obtain rfl := Option.some.inj hm
  exact Leaf.retC1 rfl (HasR.cv (HasR.tmp (Has.s rfl)) Cv.fl)

/-- freeboard/poly.Sum -/
def poly_Sum (a0 : List UInt8) : Option (UInt32) :=
  Option.bind (poly_Over (0 : UInt32) a0) (fun x1 => some x1)
set_option maxRecDepth 100000 in
set_option maxHeartbeats 2000000 in
theorem poly_Sum_c (a0 : List UInt8) {r : UInt32} (hm : poly_Sum a0 = some r) : Ctr Try.prog 58 [.rep 0 a0] (.fl r) [] := by
 refine ctr_of_walk [[]] 5 Try.func58 rfl rfl rfl rfl (fun w0 om => ?_)
 unfold poly_Sum at hm
 refine CWalk.sub (G' := [.fact 0 (.rep [0] (a0 : List UInt8))]) (sn Sub.nil) ?_
 refine CWalk.seq ?_
 refine CWalk.region ?_
 refine wo (Spec.assign (Has.u32 0 rfl)) ?_
 refine Walk.nil ?_
 refine Leaf.thenN ?_
 refine CWalk.seq ?_
 refine CWalk.region ?_
 refine mv ?_
 obtain ⟨x1, hx1, hm⟩ := bind_some hm
 refine wo (f := Fact.rep [] (x1 : UInt32)) (Spec.callE [0] 10 rfl en73 (poly_Over_c (0 : UInt32) a0 hx1) (HasAll.cons (Has.fl (Has.u32 0 rfl)) (HasAll.cons (Has.m (Has.s rfl) rfl) HasAll.nil))) ?_
 refine wo (Spec.assign (Has.s rfl)) ?_
 refine Walk.nil ?_
 refine Leaf.thenN ?_
 refine CWalk.ret ?_
 obtain rfl := Option.some.inj hm
 exact Leaf.retC1 rfl (HasR.cv (HasR.tmp (Has.s rfl)) Cv.fl)

def label_Write_L1 (x2 : (List Field)) (s3 : List UInt8) (s4 : Int) : Option (Ctl ((List UInt8) × Int) (((List UInt8)) ⊕ (Int))) :=
  (bif (decide (s4 < ((x2).length : Int))) then Option.bind (idx x2 s4) (fun x6 => Option.bind (pack_Put s3 x6.at_ x6.size x6.n) (fun x7 => (bif (x7.2 != (0 : Int)) then some (Ctl.brk (Sum.inr x7.2)) else some (Ctl.next (x7.1, (wI (s4 + (1 : Int)))))))) else some (Ctl.brk (Sum.inl s3)))
/-- freeboard/label.Write -/
def label_Write (a0 : Label) : Option ((List UInt8) × Int) :=
  Option.bind (label_Check a0) (fun x1 => (bif (x1 != (0 : Int)) then some (([] : List UInt8), x1) else Option.bind (label_fields a0) (fun x2 => Option.bind (loopM (fun s : (List UInt8) × Int => label_Write_L1 x2 s.1 s.2) FUEL (([] : List UInt8), (0 : Int))) (fun b8 => Sum.elim (fun b9 => Option.bind (slc b9 0 (124 : Int)) (fun x10 => Option.bind (poly_Sum x10) (fun x11 => Option.bind (pack_Put b9 (124 : Int) (4 : Int) (wI (x11.toNat : Int))) (fun x12 => some (x12.1, x12.2))))) (fun b13 => some (([] : List UInt8), b13)) b8))))
set_option maxRecDepth 100000 in
set_option maxHeartbeats 2000000 in
theorem label_Write_c (a0 : Label) {r : (List UInt8) × Int} (hm : label_Write a0 = some r) : Ctr Try.prog 41 [.rep 0 a0] (.tup2 (.sl 0 none r.1) (.fl r.2)) [] := by
 refine ctr_of_walk [[29]] 42 Try.func41 rfl rfl rfl rfl (fun w0 om => ?_)
 unfold label_Write at hm
 refine CWalk.sub (G' := [.fact 0 (.rep [] (a0 : Label))]) (Sub.cons (Has.fl (Has.s rfl)) Sub.nil) ?_
 refine CWalk.seq ?_
 refine CWalk.region ?_
 refine ws (Step.boxObj (ls := [(false, 1, Fact.rep [] a0.Id), (false, 1, Fact.rep [] a0.Events), (false, 1, Fact.rep [] a0.Members), (false, 1, Fact.rep [] a0.Chunk), (false, 1, Fact.rep [] a0.Rows), (false, 1, Fact.rep [] a0.Log), (false, 1, Fact.rep [] a0.Me), (false, 1, Fact.rep [] a0.Lost), (false, 1, Fact.rep [] a0.Done), (false, 1, Fact.rep [] a0.Open)]) 10 rfl rfl rfl rfl (HasL.flds (Has.cv (Has.s rfl) (Cv.trans (Cv.opens (chLabel a0)) (Cv.flds (CvL.cons Cv.fl (CvL.cons Cv.fl (CvL.cons Cv.fl (CvL.cons Cv.fl (CvL.cons Cv.fl (CvL.cons Cv.fl (CvL.cons Cv.fl (CvL.cons Cv.fl (CvL.cons Cv.fl (CvL.cons Cv.fl CvL.nil))))))))))))))) ?_
 refine wo (Spec.assign Has.nilv) ?_
 refine wo (Spec.assign Has.int) ?_
 refine Walk.nil ?_
 refine Leaf.thenN ?_
 refine CWalk.seq ?_
 refine CWalk.seq ?_
 refine CWalk.region ?_
 refine wo (Spec.loadObj (ls := [(false, 1, Fact.rep [] a0.Id), (false, 1, Fact.rep [] a0.Events), (false, 1, Fact.rep [] a0.Members), (false, 1, Fact.rep [] a0.Chunk), (false, 1, Fact.rep [] a0.Rows), (false, 1, Fact.rep [] a0.Log), (false, 1, Fact.rep [] a0.Me), (false, 1, Fact.rep [] a0.Lost), (false, 1, Fact.rep [] a0.Done), (false, 1, Fact.rep [] a0.Open)]) ty71 rfl rfl (Has.s rfl) rfl (HasGs.cons (HasG.s rfl) (HasGs.cons (HasG.s rfl) (HasGs.cons (HasG.s rfl) (HasGs.cons (HasG.s rfl) (HasGs.cons (HasG.s rfl) (HasGs.cons (HasG.s rfl) (HasGs.cons (HasG.s rfl) (HasGs.cons (HasG.s rfl) (HasGs.cons (HasG.s rfl) (HasGs.cons (HasG.s rfl) HasGs.nil))))))))))) ?_
 obtain ⟨x1, hx1, hm⟩ := bind_some hm
 refine wo (f := Fact.rep [] (x1 : Int)) (Spec.callE [] 21 rfl en56 (label_Check_c a0 hx1) (HasAll.cons (Has.fl (Has.cv (Has.s rfl) (Cv.trans (Cv.flds (CvL.cons Cv.fl (CvL.cons Cv.fl (CvL.cons Cv.fl (CvL.cons Cv.fl (CvL.cons Cv.fl (CvL.cons Cv.fl (CvL.cons Cv.fl (CvL.cons Cv.fl (CvL.cons Cv.fl (CvL.cons Cv.fl CvL.nil))))))))))) (Cv.close (T := []) (chLabel a0))))) HasAll.nil)) ?_
 refine wo (Spec.assign (Has.s rfl)) ?_
 refine Walk.nil ?_
 refine Leaf.thenN ?_
 refine CWalk.seq ?_
 refine CWalk.region ?_
 refine mv ?_
 refine wo (Spec.neqI (Has.s rfl) Has.int) ?_
 refine Walk.nil ?_
 refine Leaf.thenN ?_
 refine CWalk.cond rfl (fun hb => ?_) (fun hb => ?_)
 ·have hm := cond_t hb hm
  refine CWalk.seq ?_
  refine CWalk.region ?_
  refine mv ?_
  refine wo (Spec.assign Has.nilv) ?_
  refine wo (Spec.assign (Has.s rfl)) ?_
  refine Walk.nil ?_
  refine Leaf.thenN ?_
  refine CWalk.ret ?_
  refine Leaf.thenR ?_
  obtain rfl := Option.some.inj hm
  exact Leaf.retC2 rfl (HasR.cv (HasR.tmp (Has.s rfl)) (Cv.trans Cv.nilSl (Cv.slF (T := []) (te := []) rfl))) (HasR.cv (HasR.tmp (Has.s rfl)) Cv.fl)
 ·have hm := cond_f hb hm
  refine CWalk.skip ?_
  refine Leaf.thenN ?_
  refine CWalk.seq ?_
  refine CWalk.seq ?_
  refine CWalk.region ?_
  refine wo (Spec.loadObj (ls := [(false, 1, Fact.rep [] a0.Id), (false, 1, Fact.rep [] a0.Events), (false, 1, Fact.rep [] a0.Members), (false, 1, Fact.rep [] a0.Chunk), (false, 1, Fact.rep [] a0.Rows), (false, 1, Fact.rep [] a0.Log), (false, 1, Fact.rep [] a0.Me), (false, 1, Fact.rep [] a0.Lost), (false, 1, Fact.rep [] a0.Done), (false, 1, Fact.rep [] a0.Open)]) ty71 rfl rfl (Has.s rfl) rfl (HasGs.cons (HasG.s rfl) (HasGs.cons (HasG.s rfl) (HasGs.cons (HasG.s rfl) (HasGs.cons (HasG.s rfl) (HasGs.cons (HasG.s rfl) (HasGs.cons (HasG.s rfl) (HasGs.cons (HasG.s rfl) (HasGs.cons (HasG.s rfl) (HasGs.cons (HasG.s rfl) (HasGs.cons (HasG.s rfl) HasGs.nil))))))))))) ?_
  obtain ⟨x2, hx2, hm⟩ := bind_some hm
  refine wo (f := Fact.rep [22] (x2 : List Field)) (Spec.callE [] 22 rfl en50 (label_fields_c a0 hx2) (HasAll.cons (Has.fl (Has.cv (Has.s rfl) (Cv.trans (Cv.flds (CvL.cons Cv.fl (CvL.cons Cv.fl (CvL.cons Cv.fl (CvL.cons Cv.fl (CvL.cons Cv.fl (CvL.cons Cv.fl (CvL.cons Cv.fl (CvL.cons Cv.fl (CvL.cons Cv.fl (CvL.cons Cv.fl CvL.nil))))))))))) (Cv.close (T := []) (chLabel a0))))) HasAll.nil)) ?_
  refine wo (Spec.len (Has.s rfl) Try.underlying103) ?_
  refine wo (Spec.move Has.int) ?_
  refine Walk.nil ?_
  refine Leaf.thenN ?_
  refine CWalk.block ?_
  obtain ⟨b8, hb8, hm⟩ := bind_some hm
  refine CWalk.loop (fun s : (List UInt8) × Int => [.fact 2 (.sl [27] [] (s.1 : List UInt8)), .fact 13 (.rep [22] (x2 : List Field)), .fact 14 (.rep [] (((x2).length : Int) : Int)), .fact 15 (.rep [] s.2)]) (fun b : ((List UInt8)) ⊕ (Int) => Sum.elim (fun b => (Exit.exit 0, [.fact 2 (.sl [27] [] (b : List UInt8))])) (fun b => (Exit.ret, [.fact 2 (.nilv), .fact 3 (.rep [] (b : Int))])) b) hb8 (Sub.cons (Has.cv (Has.s rfl) (Cv.trans Cv.nilSl (Cv.slF (T := []) (te := []) rfl))) (su (st (st Sub.nil)))) ?_ ?_
  ·rintro ⟨s3, s4⟩ c5 hm
   replace hm : label_Write_L1 x2 s3 s4 = some c5 := hm
   unfold label_Write_L1 at hm
   show CWalk _ [.fact 2 (.sl [27] [] (s3 : List UInt8)), .fact 13 (.rep [22] (x2 : List Field)), .fact 14 (.rep [] (((x2).length : Int) : Int)), .fact 15 (.rep [] (s4 : Int))] _ _
   refine CWalk.seq ?_
   refine CWalk.region ?_
   refine wo (Spec.lssI (Has.s rfl) (Has.s rfl)) ?_
   refine Walk.nil ?_
   refine Leaf.thenN ?_
   refine CWalk.seq ?_
   refine CWalk.cond rfl (fun hb => ?_) (fun hb => ?_)
   ·have hm := cond_t hb hm
    refine CWalk.skip ?_
    refine Leaf.thenN ?_
    refine CWalk.seq ?_
    refine CWalk.block ?_
    refine CWalk.seq ?_
    refine CWalk.region ?_
    obtain ⟨x6, hx6, hm⟩ := bind_some hm
    refine wo (Spec.indexAddr hx6 sl103 (Has.s rfl) (Has.s rfl)) ?_
    refine wo ((Spec.load ty106 (Has.s rfl)).flat (T' := [])) ?_
    refine ws (Step.allocObj (ls := [(false, 1, Fact.rep [] ((0 : Int) : Int)), (false, 1, Fact.rep [] ((0 : Int) : Int)), (false, 1, Fact.rep [] ((0 : Int) : Int))]) 23 rfl rfl rfl rfl zl106) ?_
    refine ws (Step.storeObj (ls := [(false, 1, Fact.rep [] x6.n), (false, 1, Fact.rep [] x6.at_), (false, 1, Fact.rep [] x6.size)]) rfl ty106 rfl rfl (Has.s rfl) rfl (HasL.flds (Has.cv (Has.s rfl) (Cv.trans (Cv.opens (chField x6)) (Cv.flds (CvL.cons Cv.fl (CvL.cons Cv.fl (CvL.cons Cv.fl CvL.nil))))))) rfl) ?_
    refine Walk.nil ?_
    refine Leaf.thenN ?_
    refine CWalk.seq ?_
    refine CWalk.region ?_
    refine mv ?_
    refine wo (Spec.fieldAddrO fd106_1 (Has.cv (Has.s rfl) (Cv.isvP rfl))) ?_
    refine wo (Spec.loadF (i := 1) ty3 rfl (Has.s rfl) rfl (HasG.s rfl)) ?_
    refine wo (Spec.fieldAddrO fd106_2 (Has.cv (Has.s rfl) (Cv.isvP rfl))) ?_
    refine wo (Spec.loadF (i := 2) ty3 rfl (Has.s rfl) rfl (HasG.s rfl)) ?_
    refine wo (Spec.fieldAddrO fd106_0 (Has.cv (Has.s rfl) (Cv.isvP rfl))) ?_
    refine wo (Spec.loadF (i := 0) ty3 rfl (Has.s rfl) rfl (HasG.s rfl)) ?_
    obtain ⟨x7, hx7, hm⟩ := bind_some hm
    refine wo (f := Fact.tup2 (Fact.sl [27] [] (x7.1 : List UInt8)) (Fact.rep [] x7.2)) (Spec.callE [27] 27 rfl en57 (pack_Put_c s3 x6.at_ x6.size x6.n hx7) (HasAll.cons (Has.m (Has.cv (Has.s rfl) (Cv.slRep (T' := [27]) rfl rfl)) rfl) (HasAll.cons (Has.fl (Has.s rfl)) (HasAll.cons (Has.fl (Has.s rfl)) (HasAll.cons (Has.fl (Has.s rfl)) HasAll.nil))))) ?_
    refine mv ?_
    refine wo (Spec.ext0 (Has.s rfl)) ?_
    refine wo (Spec.ext1 (Has.s rfl)) ?_
    refine wo (Spec.assign (Has.s rfl)) ?_
    refine wo (Spec.assign (Has.s rfl)) ?_
    refine Walk.nil ?_
    refine Leaf.thenN ?_
    refine CWalk.seq ?_
    refine CWalk.region ?_
    refine mv ?_
    refine wo (Spec.neqI (Has.s rfl) Has.int) ?_
    refine Walk.nil ?_
    refine Leaf.thenN ?_
    refine CWalk.cond rfl (fun hb => ?_) (fun hb => ?_)
    ·have hm := cond_t hb hm
     refine CWalk.seq ?_
     refine CWalk.region ?_
     refine mv ?_
     refine wo (Spec.assign Has.nilv) ?_
     refine wo (Spec.assign (Has.s rfl)) ?_
     refine Walk.nil ?_
     refine Leaf.thenN ?_
     refine CWalk.ret ?_
     refine Leaf.blockR ?_
     refine Leaf.thenR ?_
     exact Leaf.brk hm (fun h => nomatch h) rfl (sn (st Sub.nil))
    ·have hm := cond_f hb hm
     refine CWalk.skip ?_
     refine Leaf.blockN ?_
     refine Leaf.thenN ?_
     refine CWalk.region ?_
     refine wo (Spec.addI (Has.s rfl) Has.int) ?_
     refine mv ?_
     refine Walk.nil ?_
     exact Leaf.next hm (Sub.cons (Has.cv (Has.s rfl) (Cv.slF (T := [27]) (te := []) rfl)) (su (st (st Sub.nil))))
   ·have hm := cond_f hb hm
    refine CWalk.exit ?_
    refine Leaf.thenE ?_
    exact Leaf.brk hm (fun h => nomatch h) rfl (Sub.cons (Has.cv (Has.s rfl) (Cv.slF (T := [27]) (te := []) rfl)) Sub.nil)
  ·intro _
   rcases b8 with b9 | b13
   ·have hm := selim_l hm
    refine Leaf.blockE ?_
    refine Leaf.thenN ?_
    refine CWalk.seq ?_
    refine CWalk.region ?_
    refine mv ?_
    refine mv ?_
    obtain ⟨x10, hx10, hm⟩ := bind_some hm
    refine wo (Spec.slcHi hx10 sl56 (Has.cv (Has.s rfl) (Cv.slRep (T' := [27]) rfl rfl)) Has.int) ?_
    obtain ⟨x11, hx11, hm⟩ := bind_some hm
    refine wo (f := Fact.rep [] (x11 : UInt32)) (Spec.callE [27] 28 rfl en58 (poly_Sum_c x10 hx11) (HasAll.cons (Has.m (Has.s rfl) rfl) HasAll.nil)) ?_
    refine wo (Spec.conv (α := UInt32) (β := Int) Try.underlying22 Try.underlying3 (Has.s rfl)) ?_
    obtain ⟨x12, hx12, hm⟩ := bind_some hm
    refine wo (f := Fact.tup2 (Fact.sl [29] [] (x12.1 : List UInt8)) (Fact.rep [] x12.2)) (Spec.callE [27] 29 rfl en57 (pack_Put_c b9 (124 : Int) (4 : Int) (wI (x11.toNat : Int)) hx12) (HasAll.cons (Has.m (Has.cv (Has.s rfl) (Cv.slRep (T' := [27]) rfl rfl)) rfl) (HasAll.cons (Has.fl Has.int) (HasAll.cons (Has.fl Has.int) (HasAll.cons (Has.fl (Has.s rfl)) HasAll.nil))))) ?_
    refine wo (Spec.ext0 (Has.s rfl)) ?_
    refine wo (Spec.ext1 (Has.s rfl)) ?_
    refine wo (Spec.assign (Has.s rfl)) ?_
    refine wo (Spec.assign (Has.s rfl)) ?_
    refine Walk.nil ?_
    refine Leaf.thenN ?_
    refine CWalk.ret ?_
    obtain rfl := Option.some.inj hm
    exact Leaf.retC2 rfl (HasR.cv (HasR.tmp (Has.s rfl)) (Cv.slF (T := [29]) (te := []) rfl)) (HasR.cv (HasR.tmp (Has.s rfl)) Cv.fl)
   ·have hm := selim_r hm
    refine Leaf.blockR ?_
    refine Leaf.thenR ?_
    obtain rfl := Option.some.inj hm
    exact Leaf.retC2 rfl (HasR.cv (HasR.tmp (Has.s rfl)) (Cv.trans Cv.nilSl (Cv.slF (T := []) (te := []) rfl))) (HasR.cv (HasR.tmp (Has.s rfl)) Cv.fl)

def loss_Labels_J2 (s3 : Int) (j5 : List Act58) : Option (Ctl ((List Act58) × Int) (((List Act58)) ⊕ (Int))) :=
  some (Ctl.next (j5, (wI (s3 + (1 : Int)))))
def loss_Labels_L1 (a0 : Config) (a1 : Loss) (a2 : Bool) (s2 : List Act58) (s3 : Int) : Option (Ctl ((List Act58) × Int) (((List Act58)) ⊕ (Int))) :=
  (bif (decide (s3 < a0.Members)) then (bif ((s3 == a1.Lost) && (!a1.Spare)) then (loss_Labels_J2 s3 s2) else Option.bind (label_Write (Label.mk a0.Id (scW.of ((a1.Events.toNat : Int) + ((1 : UInt32).toNat : Int))) a0.Members a0.Chunk a0.Rows a0.Log s3 a1.Lost a1.Done a2)) (fun x6 => (bif (x6.2 != (0 : Int)) then some (Ctl.brk (Sum.inr x6.2)) else Option.bind (app s2 ([(Act58.mk s3 (2 : UInt8) (0 : Int) x6.1)])) (fun x7 => (loss_Labels_J2 s3 x7))))) else some (Ctl.brk (Sum.inl s2)))
/-- freeboard/loss.Labels -/
def loss_Labels (a0 : Config) (a1 : Loss) (a2 : Bool) : Option (Loss × (List Act58) × Int) :=
  Option.bind (loss_Check a0 a1) (fun x1 => (bif (x1 != (0 : Int)) then some ((Loss.mk (0 : UInt32) (0 : Int) false (0 : Int) (0 : Int) false false), ([] : List Act58), x1) else (bif a1.Broken then some ((Loss.mk (0 : UInt32) (0 : Int) false (0 : Int) (0 : Int) false false), ([] : List Act58), (230 : Int)) else (bif ((a1.Events.toNat : Int) == ((2147483648 : UInt32).toNat : Int)) then some ((Loss.mk (0 : UInt32) (0 : Int) false (0 : Int) (0 : Int) false false), ([] : List Act58), (9 : Int)) else Option.bind (loopM (fun s : (List Act58) × Int => loss_Labels_L1 a0 a1 a2 s.1 s.2) FUEL (([] : List Act58), (0 : Int))) (fun b8 => Sum.elim (fun b9 => some ((Loss.mk (scW.of ((a1.Events.toNat : Int) + ((1 : UInt32).toNat : Int))) a1.Lost a1.Spare a1.Pos a1.Done a1.NoLog a1.Broken), b9, (0 : Int))) (fun b10 => some ((Loss.mk (0 : UInt32) (0 : Int) false (0 : Int) (0 : Int) false false), ([] : List Act58), b10)) b8)))))
set_option maxRecDepth 100000 in
set_option maxHeartbeats 2000000 in
theorem loss_Labels_c (a0 : Config) (a1 : Loss) (a2 : Bool) {r : Loss × (List Act58) × Int} (hm : loss_Labels a0 a1 a2 = some r) : Ctr Try.prog 25 [.rep 0 a0, .rep 0 a1, .rep 0 a2] (.tup3 (.fl r.1) (.own 0 (some 1) 58 r.2.1) (.fl r.2.2)) [] := by
 refine ctr_of_walk [[36], [34, 35]] 85 Try.func25 rfl rfl rfl rfl (fun w0 om => ?_)
 unfold loss_Labels at hm
 refine CWalk.sub (G' := [.fact 0 (.rep [] (a0 : Config)), .fact 1 (.rep [] (a1 : Loss)), .fact 2 (.rep [] (a2 : Bool))]) (Sub.cons (Has.fl (Has.s rfl)) (Sub.cons (Has.fl (Has.s rfl)) (Sub.cons (Has.fl (Has.s rfl)) Sub.nil))) ?_
 refine CWalk.seq ?_
 refine CWalk.region ?_
 refine ws (Step.boxObj (ls := [(false, 1, Fact.rep [] a0.Id), (false, 1, Fact.rep [] a0.Members), (false, 1, Fact.rep [] a0.Chunk), (false, 1, Fact.rep [] a0.Rows), (false, 1, Fact.rep [] a0.Log), (false, 1, Fact.rep [] a0.Heads)]) 10 rfl rfl rfl rfl (HasL.flds (Has.cv (Has.s rfl) (Cv.trans (Cv.opens (chConfig a0)) (Cv.flds (CvL.cons Cv.fl (CvL.cons Cv.fl (CvL.cons Cv.fl (CvL.cons Cv.fl (CvL.cons Cv.fl (CvL.cons Cv.fl CvL.nil))))))))))) ?_
 refine ws (Step.boxObj (ls := [(false, 1, Fact.rep [] a1.Events), (false, 1, Fact.rep [] a1.Lost), (false, 1, Fact.rep [] a1.Spare), (false, 1, Fact.rep [] a1.Pos), (false, 1, Fact.rep [] a1.Done), (false, 1, Fact.rep [] a1.NoLog), (false, 1, Fact.rep [] a1.Broken)]) 17 rfl rfl rfl rfl (HasL.flds (Has.cv (Has.s rfl) (Cv.trans (Cv.opens (chLoss a1)) (Cv.flds (CvL.cons Cv.fl (CvL.cons Cv.fl (CvL.cons Cv.fl (CvL.cons Cv.fl (CvL.cons Cv.fl (CvL.cons Cv.fl (CvL.cons Cv.fl CvL.nil)))))))))))) ?_
 refine ws (Step.allocObj (ls := [(false, 1, Fact.rep [] ((0 : UInt32) : UInt32)), (false, 1, Fact.rep [] ((0 : Int) : Int)), (false, 1, Fact.rep [] (false : Bool)), (false, 1, Fact.rep [] ((0 : Int) : Int)), (false, 1, Fact.rep [] ((0 : Int) : Int)), (false, 1, Fact.rep [] (false : Bool)), (false, 1, Fact.rep [] (false : Bool))]) 25 rfl rfl rfl rfl zl26) ?_
 refine wo (Spec.assign Has.nilv) ?_
 refine wo (Spec.assign Has.int) ?_
 refine Walk.nil ?_
 refine Leaf.thenN ?_
 refine CWalk.seq ?_
 refine CWalk.region ?_
 refine wo (Spec.loadObj (ls := [(false, 1, Fact.rep [] a0.Id), (false, 1, Fact.rep [] a0.Members), (false, 1, Fact.rep [] a0.Chunk), (false, 1, Fact.rep [] a0.Rows), (false, 1, Fact.rep [] a0.Log), (false, 1, Fact.rep [] a0.Heads)]) ty24 rfl rfl (Has.s rfl) rfl (HasGs.cons (HasG.s rfl) (HasGs.cons (HasG.s rfl) (HasGs.cons (HasG.s rfl) (HasGs.cons (HasG.s rfl) (HasGs.cons (HasG.s rfl) (HasGs.cons (HasG.s rfl) HasGs.nil))))))) ?_
 refine wo (Spec.loadObj (ls := [(false, 1, Fact.rep [] a1.Events), (false, 1, Fact.rep [] a1.Lost), (false, 1, Fact.rep [] a1.Spare), (false, 1, Fact.rep [] a1.Pos), (false, 1, Fact.rep [] a1.Done), (false, 1, Fact.rep [] a1.NoLog), (false, 1, Fact.rep [] a1.Broken)]) ty26 rfl rfl (Has.s rfl) rfl (HasGs.cons (HasG.s rfl) (HasGs.cons (HasG.s rfl) (HasGs.cons (HasG.s rfl) (HasGs.cons (HasG.s rfl) (HasGs.cons (HasG.s rfl) (HasGs.cons (HasG.s rfl) (HasGs.cons (HasG.s rfl) HasGs.nil)))))))) ?_
 obtain ⟨x1, hx1, hm⟩ := bind_some hm
 refine wo (f := Fact.rep [] (x1 : Int)) (Spec.callE [] 33 rfl en18 (loss_Check_c a0 a1 hx1) (HasAll.cons (Has.fl (Has.cv (Has.s rfl) (Cv.trans (Cv.flds (CvL.cons Cv.fl (CvL.cons Cv.fl (CvL.cons Cv.fl (CvL.cons Cv.fl (CvL.cons Cv.fl (CvL.cons Cv.fl CvL.nil))))))) (Cv.close (T := []) (chConfig a0))))) (HasAll.cons (Has.fl (Has.cv (Has.s rfl) (Cv.trans (Cv.flds (CvL.cons Cv.fl (CvL.cons Cv.fl (CvL.cons Cv.fl (CvL.cons Cv.fl (CvL.cons Cv.fl (CvL.cons Cv.fl (CvL.cons Cv.fl CvL.nil)))))))) (Cv.close (T := []) (chLoss a1))))) HasAll.nil))) ?_
 refine wo (Spec.assign (Has.s rfl)) ?_
 refine Walk.nil ?_
 refine Leaf.thenN ?_
 refine CWalk.seq ?_
 refine CWalk.block ?_
 refine CWalk.seq ?_
 refine CWalk.region ?_
 refine mv ?_
 refine wo (Spec.neqI (Has.s rfl) Has.int) ?_
 refine wo (Spec.assign (Has.s rfl)) ?_
 refine Walk.nil ?_
 refine Leaf.thenN ?_
 refine CWalk.cond rfl (fun hb => ?_) (fun hb => ?_)
 ·have hm := cond_t hb hm
  refine CWalk.seq ?_
  refine CWalk.region ?_
  refine wo (Spec.build (us := []) (ls' := [(false, 1, Fact.rep [] ((0 : UInt32) : UInt32)), (false, 1, Fact.rep [] ((0 : Int) : Int)), (false, 1, Fact.rep [] (false : Bool)), (false, 1, Fact.rep [] ((0 : Int) : Int)), (false, 1, Fact.rep [] ((0 : Int) : Int)), (false, 1, Fact.rep [] (false : Bool)), (false, 1, Fact.rep [] (false : Bool))]) bd26 rfl BP.nil) ?_
  refine mv ?_
  refine ws (Step.storeObj (ls := [(false, 1, Fact.rep [] ((0 : UInt32) : UInt32)), (false, 1, Fact.rep [] ((0 : Int) : Int)), (false, 1, Fact.rep [] (false : Bool)), (false, 1, Fact.rep [] ((0 : Int) : Int)), (false, 1, Fact.rep [] ((0 : Int) : Int)), (false, 1, Fact.rep [] (false : Bool)), (false, 1, Fact.rep [] (false : Bool))]) rfl ty26 rfl rfl (Has.s rfl) rfl (HasL.flds (Has.s rfl)) rfl) ?_
  refine wo (Spec.assign Has.nilv) ?_
  refine wo (Spec.assign (Has.s rfl)) ?_
  refine Walk.nil ?_
  refine Leaf.thenN ?_
  refine CWalk.ret ?_
  refine Leaf.blockR ?_
  refine Leaf.thenR ?_
  obtain rfl := Option.some.inj hm
  exact Leaf.retC3 rfl (HasR.cv (HasR.obj (ls := [(false, 1, Fact.rep [] ((0 : UInt32) : UInt32)), (false, 1, Fact.rep [] ((0 : Int) : Int)), (false, 1, Fact.rep [] (false : Bool)), (false, 1, Fact.rep [] ((0 : Int) : Int)), (false, 1, Fact.rep [] ((0 : Int) : Int)), (false, 1, Fact.rep [] (false : Bool)), (false, 1, Fact.rep [] (false : Bool))]) ty26 rfl rfl (Has.s rfl) rfl (HasGs.cons (HasG.s rfl) (HasGs.cons (HasG.s rfl) (HasGs.cons (HasG.s rfl) (HasGs.cons (HasG.s rfl) (HasGs.cons (HasG.s rfl) (HasGs.cons (HasG.s rfl) (HasGs.cons (HasG.s rfl) HasGs.nil)))))))) (Cv.trans (Cv.trans (Cv.flds (CvL.cons Cv.fl (CvL.cons Cv.fl (CvL.cons Cv.fl (CvL.cons Cv.fl (CvL.cons Cv.fl (CvL.cons Cv.fl (CvL.cons Cv.fl CvL.nil)))))))) (Cv.close (T := []) (chLoss (Loss.mk (0 : UInt32) (0 : Int) false (0 : Int) (0 : Int) false false)))) Cv.fl)) (HasR.cv (HasR.tmp (Has.s rfl)) (Cv.trans Cv.nilOw (Cv.owM (T := []) (te := []) rfl rfl))) (HasR.cv (HasR.tmp (Has.s rfl)) Cv.fl)
 ·have hm := cond_f hb hm
  refine CWalk.seq ?_
  refine CWalk.region ?_
  refine wo (Spec.fieldAddrO fd26_6 (Has.cv (Has.s rfl) (Cv.isvP rfl))) ?_
  refine wo (Spec.loadF (i := 6) ty4 rfl (Has.s rfl) rfl (HasG.s rfl)) ?_
  refine wo (Spec.assign (Has.s rfl)) ?_
  refine Walk.nil ?_
  refine Leaf.thenN ?_
  refine CWalk.cond rfl (fun hb => ?_) (fun hb => ?_)
  ·have hm := cond_t hb hm
   refine CWalk.seq ?_
   refine CWalk.region ?_
   refine wo (Spec.build (us := []) (ls' := [(false, 1, Fact.rep [] ((0 : UInt32) : UInt32)), (false, 1, Fact.rep [] ((0 : Int) : Int)), (false, 1, Fact.rep [] (false : Bool)), (false, 1, Fact.rep [] ((0 : Int) : Int)), (false, 1, Fact.rep [] ((0 : Int) : Int)), (false, 1, Fact.rep [] (false : Bool)), (false, 1, Fact.rep [] (false : Bool))]) bd26 rfl BP.nil) ?_
   refine ws (Step.storeObj (ls := [(false, 1, Fact.rep [] ((0 : UInt32) : UInt32)), (false, 1, Fact.rep [] ((0 : Int) : Int)), (false, 1, Fact.rep [] (false : Bool)), (false, 1, Fact.rep [] ((0 : Int) : Int)), (false, 1, Fact.rep [] ((0 : Int) : Int)), (false, 1, Fact.rep [] (false : Bool)), (false, 1, Fact.rep [] (false : Bool))]) rfl ty26 rfl rfl (Has.s rfl) rfl (HasL.flds (Has.s rfl)) rfl) ?_
   refine wo (Spec.assign Has.nilv) ?_
   refine wo (Spec.assign Has.int) ?_
   refine Walk.nil ?_
   refine Leaf.thenN ?_
   refine CWalk.ret ?_
   refine Leaf.blockR ?_
   refine Leaf.thenR ?_
   obtain rfl := Option.some.inj hm
   exact Leaf.retC3 rfl (HasR.cv (HasR.obj (ls := [(false, 1, Fact.rep [] ((0 : UInt32) : UInt32)), (false, 1, Fact.rep [] ((0 : Int) : Int)), (false, 1, Fact.rep [] (false : Bool)), (false, 1, Fact.rep [] ((0 : Int) : Int)), (false, 1, Fact.rep [] ((0 : Int) : Int)), (false, 1, Fact.rep [] (false : Bool)), (false, 1, Fact.rep [] (false : Bool))]) ty26 rfl rfl (Has.s rfl) rfl (HasGs.cons (HasG.s rfl) (HasGs.cons (HasG.s rfl) (HasGs.cons (HasG.s rfl) (HasGs.cons (HasG.s rfl) (HasGs.cons (HasG.s rfl) (HasGs.cons (HasG.s rfl) (HasGs.cons (HasG.s rfl) HasGs.nil)))))))) (Cv.trans (Cv.trans (Cv.flds (CvL.cons Cv.fl (CvL.cons Cv.fl (CvL.cons Cv.fl (CvL.cons Cv.fl (CvL.cons Cv.fl (CvL.cons Cv.fl (CvL.cons Cv.fl CvL.nil)))))))) (Cv.close (T := []) (chLoss (Loss.mk (0 : UInt32) (0 : Int) false (0 : Int) (0 : Int) false false)))) Cv.fl)) (HasR.cv (HasR.tmp (Has.s rfl)) (Cv.trans Cv.nilOw (Cv.owM (T := []) (te := []) rfl rfl))) (HasR.cv (HasR.tmp (Has.s rfl)) Cv.fl)
  ·have hm := cond_f hb hm
   refine CWalk.seq ?_
   refine CWalk.region ?_
   refine wo (Spec.fieldAddrO fd26_0 (Has.cv (Has.s rfl) (Cv.isvP rfl))) ?_
   refine wo (Spec.loadF (i := 0) ty22 rfl (Has.s rfl) rfl (HasG.s rfl)) ?_
   refine wo (Spec.eqlN (α := UInt32) (Has.s rfl) (Has.u32 2147483648 rfl)) ?_
   refine wo (Spec.assign (Has.s rfl)) ?_
   refine Walk.nil ?_
   refine Leaf.thenN ?_
   refine CWalk.cond rfl (fun hb => ?_) (fun hb => ?_)
   ·have hm := cond_t hb hm
    refine CWalk.seq ?_
    refine CWalk.region ?_
    refine wo (Spec.build (us := []) (ls' := [(false, 1, Fact.rep [] ((0 : UInt32) : UInt32)), (false, 1, Fact.rep [] ((0 : Int) : Int)), (false, 1, Fact.rep [] (false : Bool)), (false, 1, Fact.rep [] ((0 : Int) : Int)), (false, 1, Fact.rep [] ((0 : Int) : Int)), (false, 1, Fact.rep [] (false : Bool)), (false, 1, Fact.rep [] (false : Bool))]) bd26 rfl BP.nil) ?_
    refine ws (Step.storeObj (ls := [(false, 1, Fact.rep [] ((0 : UInt32) : UInt32)), (false, 1, Fact.rep [] ((0 : Int) : Int)), (false, 1, Fact.rep [] (false : Bool)), (false, 1, Fact.rep [] ((0 : Int) : Int)), (false, 1, Fact.rep [] ((0 : Int) : Int)), (false, 1, Fact.rep [] (false : Bool)), (false, 1, Fact.rep [] (false : Bool))]) rfl ty26 rfl rfl (Has.s rfl) rfl (HasL.flds (Has.s rfl)) rfl) ?_
    refine wo (Spec.assign Has.nilv) ?_
    refine wo (Spec.assign Has.int) ?_
    refine Walk.nil ?_
    refine Leaf.thenN ?_
    refine CWalk.ret ?_
    refine Leaf.blockR ?_
    refine Leaf.thenR ?_
    obtain rfl := Option.some.inj hm
    exact Leaf.retC3 rfl (HasR.cv (HasR.obj (ls := [(false, 1, Fact.rep [] ((0 : UInt32) : UInt32)), (false, 1, Fact.rep [] ((0 : Int) : Int)), (false, 1, Fact.rep [] (false : Bool)), (false, 1, Fact.rep [] ((0 : Int) : Int)), (false, 1, Fact.rep [] ((0 : Int) : Int)), (false, 1, Fact.rep [] (false : Bool)), (false, 1, Fact.rep [] (false : Bool))]) ty26 rfl rfl (Has.s rfl) rfl (HasGs.cons (HasG.s rfl) (HasGs.cons (HasG.s rfl) (HasGs.cons (HasG.s rfl) (HasGs.cons (HasG.s rfl) (HasGs.cons (HasG.s rfl) (HasGs.cons (HasG.s rfl) (HasGs.cons (HasG.s rfl) HasGs.nil)))))))) (Cv.trans (Cv.trans (Cv.flds (CvL.cons Cv.fl (CvL.cons Cv.fl (CvL.cons Cv.fl (CvL.cons Cv.fl (CvL.cons Cv.fl (CvL.cons Cv.fl (CvL.cons Cv.fl CvL.nil)))))))) (Cv.close (T := []) (chLoss (Loss.mk (0 : UInt32) (0 : Int) false (0 : Int) (0 : Int) false false)))) Cv.fl)) (HasR.cv (HasR.tmp (Has.s rfl)) (Cv.trans Cv.nilOw (Cv.owM (T := []) (te := []) rfl rfl))) (HasR.cv (HasR.tmp (Has.s rfl)) Cv.fl)
   ·have hm := cond_f hb hm
    refine CWalk.skip ?_
    refine Leaf.blockN ?_
    refine Leaf.thenN ?_
    refine CWalk.seq ?_
    refine CWalk.region ?_
    refine wo (Spec.fieldAddrO fd26_0 (Has.cv (Has.s rfl) (Cv.isvP rfl))) ?_
    refine wo (Spec.loadF (i := 0) ty22 rfl (Has.s rfl) rfl (HasG.s rfl)) ?_
    refine wo (Spec.addN (α := UInt32) (Has.s rfl) (Has.u32 1 rfl)) ?_
    refine wo (Spec.fieldAddrO fd26_0 (Has.cv (Has.s rfl) (Cv.isvP rfl))) ?_
    refine ws (Step.storeF (i := 0) (f := Fact.rep [] ((scW.of ((a1.Events.toNat : Int) + ((1 : UInt32).toNat : Int))) : UInt32)) rfl ty22 rfl (Has.s rfl) rfl (Has.s rfl) (Has.s rfl) rfl) ?_
    refine Walk.nil ?_
    refine Leaf.thenN ?_
    refine CWalk.seq ?_
    refine CWalk.region ?_
    refine wo (Spec.assign Has.nilv) ?_
    refine Walk.nil ?_
    refine Leaf.thenN ?_
    refine CWalk.seq ?_
    refine CWalk.seq ?_
    refine CWalk.region ?_
    refine wo (Spec.fieldAddrO fd24_1 (Has.cv (Has.s rfl) (Cv.isvP rfl))) ?_
    refine wo (Spec.loadF (i := 1) ty3 rfl (Has.s rfl) rfl (HasG.s rfl)) ?_
    refine wo (Spec.move Has.int) ?_
    refine Walk.nil ?_
    refine Leaf.thenN ?_
    refine CWalk.block ?_
    obtain ⟨b8, hb8, hm⟩ := bind_some hm
    refine CWalk.loop (fun s : (List Act58) × Int => [.fact 2 (.rep [] (a2 : Bool)), .fact 3 (.isv 10), .fact 4 (.isv 17), .fact 6 (.isv 25), .fact 10 (.ow [36] [34, 35] 58 (s.1 : List Act58)), .fact 36 (.rep [] a0.Members), .fact 37 (.rep [] s.2), .fact 100011 (.at 11 (.rep [] a0.Id)), .fact 100012 (.at 12 (.rep [] a0.Members)), .fact 100013 (.at 13 (.rep [] a0.Chunk)), .fact 100014 (.at 14 (.rep [] a0.Rows)), .fact 100015 (.at 15 (.rep [] a0.Log)), .fact 100016 (.at 16 (.rep [] a0.Heads)), .fact 100018 (.at 18 (.rep [] ((scW.of ((a1.Events.toNat : Int) + ((1 : UInt32).toNat : Int))) : UInt32))), .fact 100019 (.at 19 (.rep [] a1.Lost)), .fact 100020 (.at 20 (.rep [] a1.Spare)), .fact 100021 (.at 21 (.rep [] a1.Pos)), .fact 100022 (.at 22 (.rep [] a1.Done)), .fact 100023 (.at 23 (.rep [] a1.NoLog)), .fact 100024 (.at 24 (.rep [] a1.Broken)), .fact 100026 (.at 26 (.rep [] ((0 : UInt32) : UInt32))), .fact 100027 (.at 27 (.rep [] ((0 : Int) : Int))), .fact 100028 (.at 28 (.rep [] (false : Bool))), .fact 100029 (.at 29 (.rep [] ((0 : Int) : Int))), .fact 100030 (.at 30 (.rep [] ((0 : Int) : Int))), .fact 100031 (.at 31 (.rep [] (false : Bool))), .fact 100032 (.at 32 (.rep [] (false : Bool))), .fact 100010 (.obj 10 [(false, 1), (false, 1), (false, 1), (false, 1), (false, 1), (false, 1)]), .fact 100017 (.obj 17 [(false, 1), (false, 1), (false, 1), (false, 1), (false, 1), (false, 1), (false, 1)]), .fact 100025 (.obj 25 [(false, 1), (false, 1), (false, 1), (false, 1), (false, 1), (false, 1), (false, 1)])]) (fun b : ((List Act58)) ⊕ (Int) => Sum.elim (fun b => (Exit.exit 1, [.fact 4 (.isv 17), .fact 6 (.isv 25), .fact 10 (.ow [36] [34, 35] 58 (b : List Act58)), .fact 100018 (.at 18 (.rep [] ((scW.of ((a1.Events.toNat : Int) + ((1 : UInt32).toNat : Int))) : UInt32))), .fact 100019 (.at 19 (.rep [] a1.Lost)), .fact 100020 (.at 20 (.rep [] a1.Spare)), .fact 100021 (.at 21 (.rep [] a1.Pos)), .fact 100022 (.at 22 (.rep [] a1.Done)), .fact 100023 (.at 23 (.rep [] a1.NoLog)), .fact 100024 (.at 24 (.rep [] a1.Broken)), .fact 100026 (.at 26 (.rep [] ((0 : UInt32) : UInt32))), .fact 100027 (.at 27 (.rep [] ((0 : Int) : Int))), .fact 100028 (.at 28 (.rep [] (false : Bool))), .fact 100029 (.at 29 (.rep [] ((0 : Int) : Int))), .fact 100030 (.at 30 (.rep [] ((0 : Int) : Int))), .fact 100031 (.at 31 (.rep [] (false : Bool))), .fact 100032 (.at 32 (.rep [] (false : Bool))), .fact 100017 (.obj 17 [(false, 1), (false, 1), (false, 1), (false, 1), (false, 1), (false, 1), (false, 1)]), .fact 100025 (.obj 25 [(false, 1), (false, 1), (false, 1), (false, 1), (false, 1), (false, 1), (false, 1)])])) (fun b => (Exit.ret, [.fact 6 (.isv 25), .fact 7 (.nilv), .fact 8 (.rep [] (b : Int)), .fact 100026 (.at 26 (.rep [] ((0 : UInt32) : UInt32))), .fact 100027 (.at 27 (.rep [] ((0 : Int) : Int))), .fact 100028 (.at 28 (.rep [] (false : Bool))), .fact 100029 (.at 29 (.rep [] ((0 : Int) : Int))), .fact 100030 (.at 30 (.rep [] ((0 : Int) : Int))), .fact 100031 (.at 31 (.rep [] (false : Bool))), .fact 100032 (.at 32 (.rep [] (false : Bool))), .fact 100025 (.obj 25 [(false, 1), (false, 1), (false, 1), (false, 1), (false, 1), (false, 1), (false, 1)])])) b) hb8 (st (sn (sn (sn (Sub.cons (Has.cv (Has.s rfl) (Cv.trans Cv.nilOw (Cv.owM (T := []) (te := []) rfl rfl))) (st (st (sf (sf (sf (sf (sf (sf (sf (sf (sf (sf (sf (sf (sf (sf (sf (sf (sf (sf (sf (sf (sn (sn (sn Sub.nil)))))))))))))))))))))))))))))) ?_ ?_
    ·rintro ⟨s2, s3⟩ c4 hm
     replace hm : loss_Labels_L1 a0 a1 a2 s2 s3 = some c4 := hm
     unfold loss_Labels_L1 at hm
     show CWalk _ [.fact 2 (.rep [] (a2 : Bool)), .fact 3 (.isv 10), .fact 4 (.isv 17), .fact 6 (.isv 25), .fact 10 (.ow [36] [34, 35] 58 (s2 : List Act58)), .fact 36 (.rep [] a0.Members), .fact 37 (.rep [] (s3 : Int)), .fact 100011 (.at 11 (.rep [] a0.Id)), .fact 100012 (.at 12 (.rep [] a0.Members)), .fact 100013 (.at 13 (.rep [] a0.Chunk)), .fact 100014 (.at 14 (.rep [] a0.Rows)), .fact 100015 (.at 15 (.rep [] a0.Log)), .fact 100016 (.at 16 (.rep [] a0.Heads)), .fact 100018 (.at 18 (.rep [] ((scW.of ((a1.Events.toNat : Int) + ((1 : UInt32).toNat : Int))) : UInt32))), .fact 100019 (.at 19 (.rep [] a1.Lost)), .fact 100020 (.at 20 (.rep [] a1.Spare)), .fact 100021 (.at 21 (.rep [] a1.Pos)), .fact 100022 (.at 22 (.rep [] a1.Done)), .fact 100023 (.at 23 (.rep [] a1.NoLog)), .fact 100024 (.at 24 (.rep [] a1.Broken)), .fact 100026 (.at 26 (.rep [] ((0 : UInt32) : UInt32))), .fact 100027 (.at 27 (.rep [] ((0 : Int) : Int))), .fact 100028 (.at 28 (.rep [] (false : Bool))), .fact 100029 (.at 29 (.rep [] ((0 : Int) : Int))), .fact 100030 (.at 30 (.rep [] ((0 : Int) : Int))), .fact 100031 (.at 31 (.rep [] (false : Bool))), .fact 100032 (.at 32 (.rep [] (false : Bool))), .fact 100010 (.obj 10 [(false, 1), (false, 1), (false, 1), (false, 1), (false, 1), (false, 1)]), .fact 100017 (.obj 17 [(false, 1), (false, 1), (false, 1), (false, 1), (false, 1), (false, 1), (false, 1)]), .fact 100025 (.obj 25 [(false, 1), (false, 1), (false, 1), (false, 1), (false, 1), (false, 1), (false, 1)])] _ _
     refine CWalk.seq ?_
     refine CWalk.region ?_
     refine wo (Spec.lssI (Has.s rfl) (Has.s rfl)) ?_
     refine Walk.nil ?_
     refine Leaf.thenN ?_
     refine CWalk.seq ?_
     refine CWalk.cond rfl (fun hb => ?_) (fun hb => ?_)
     ·have hm := cond_t hb hm
      refine CWalk.skip ?_
      refine Leaf.thenN ?_
      refine CWalk.seqJ (fun p : (List Act58) => [.fact 2 (.rep [] (a2 : Bool)), .fact 3 (.isv 10), .fact 4 (.isv 17), .fact 6 (.isv 25), .fact 10 (.ow [36] [34, 35] 58 (p : List Act58)), .fact 36 (.rep [] a0.Members), .fact 37 (.rep [] (s3 : Int)), .fact 100011 (.at 11 (.rep [] a0.Id)), .fact 100012 (.at 12 (.rep [] a0.Members)), .fact 100013 (.at 13 (.rep [] a0.Chunk)), .fact 100014 (.at 14 (.rep [] a0.Rows)), .fact 100015 (.at 15 (.rep [] a0.Log)), .fact 100016 (.at 16 (.rep [] a0.Heads)), .fact 100018 (.at 18 (.rep [] ((scW.of ((a1.Events.toNat : Int) + ((1 : UInt32).toNat : Int))) : UInt32))), .fact 100019 (.at 19 (.rep [] a1.Lost)), .fact 100020 (.at 20 (.rep [] a1.Spare)), .fact 100021 (.at 21 (.rep [] a1.Pos)), .fact 100022 (.at 22 (.rep [] a1.Done)), .fact 100023 (.at 23 (.rep [] a1.NoLog)), .fact 100024 (.at 24 (.rep [] a1.Broken)), .fact 100026 (.at 26 (.rep [] ((0 : UInt32) : UInt32))), .fact 100027 (.at 27 (.rep [] ((0 : Int) : Int))), .fact 100028 (.at 28 (.rep [] (false : Bool))), .fact 100029 (.at 29 (.rep [] ((0 : Int) : Int))), .fact 100030 (.at 30 (.rep [] ((0 : Int) : Int))), .fact 100031 (.at 31 (.rep [] (false : Bool))), .fact 100032 (.at 32 (.rep [] (false : Bool))), .fact 100010 (.obj 10 [(false, 1), (false, 1), (false, 1), (false, 1), (false, 1), (false, 1)]), .fact 100017 (.obj 17 [(false, 1), (false, 1), (false, 1), (false, 1), (false, 1), (false, 1), (false, 1)]), .fact 100025 (.obj 25 [(false, 1), (false, 1), (false, 1), (false, 1), (false, 1), (false, 1), (false, 1)])]) (fun p : (List Act58) => loss_Labels_J2 s3 p = some c4) ?_ ?_
      ·rintro j5 hm
       replace hm : loss_Labels_J2 s3 j5 = some c4 := hm
       unfold loss_Labels_J2 at hm
       show CWalk _ [.fact 2 (.rep [] (a2 : Bool)), .fact 3 (.isv 10), .fact 4 (.isv 17), .fact 6 (.isv 25), .fact 10 (.ow [36] [34, 35] 58 (j5 : List Act58)), .fact 36 (.rep [] a0.Members), .fact 37 (.rep [] (s3 : Int)), .fact 100011 (.at 11 (.rep [] a0.Id)), .fact 100012 (.at 12 (.rep [] a0.Members)), .fact 100013 (.at 13 (.rep [] a0.Chunk)), .fact 100014 (.at 14 (.rep [] a0.Rows)), .fact 100015 (.at 15 (.rep [] a0.Log)), .fact 100016 (.at 16 (.rep [] a0.Heads)), .fact 100018 (.at 18 (.rep [] ((scW.of ((a1.Events.toNat : Int) + ((1 : UInt32).toNat : Int))) : UInt32))), .fact 100019 (.at 19 (.rep [] a1.Lost)), .fact 100020 (.at 20 (.rep [] a1.Spare)), .fact 100021 (.at 21 (.rep [] a1.Pos)), .fact 100022 (.at 22 (.rep [] a1.Done)), .fact 100023 (.at 23 (.rep [] a1.NoLog)), .fact 100024 (.at 24 (.rep [] a1.Broken)), .fact 100026 (.at 26 (.rep [] ((0 : UInt32) : UInt32))), .fact 100027 (.at 27 (.rep [] ((0 : Int) : Int))), .fact 100028 (.at 28 (.rep [] (false : Bool))), .fact 100029 (.at 29 (.rep [] ((0 : Int) : Int))), .fact 100030 (.at 30 (.rep [] ((0 : Int) : Int))), .fact 100031 (.at 31 (.rep [] (false : Bool))), .fact 100032 (.at 32 (.rep [] (false : Bool))), .fact 100010 (.obj 10 [(false, 1), (false, 1), (false, 1), (false, 1), (false, 1), (false, 1)]), .fact 100017 (.obj 17 [(false, 1), (false, 1), (false, 1), (false, 1), (false, 1), (false, 1), (false, 1)]), .fact 100025 (.obj 25 [(false, 1), (false, 1), (false, 1), (false, 1), (false, 1), (false, 1), (false, 1)])] _ _
       refine CWalk.region ?_
       refine wo (Spec.addI (Has.s rfl) Has.int) ?_
       refine mv ?_
       refine Walk.nil ?_
       exact Leaf.next hm (st (sn (sn (sn (Sub.cons (Has.cv (Has.s rfl) (Cv.owM (T := [36]) (te := [34, 35]) rfl rfl)) (st (st (sf (sf (sf (sf (sf (sf (sf (sf (sf (sf (sf (sf (sf (sf (sf (sf (sf (sf (sf (sf (sn (sn (sn Sub.nil))))))))))))))))))))))))))))))
      ·refine CWalk.block ?_
       refine CWalk.seq ?_
       refine CWalk.region ?_
       refine mv ?_
       refine wo (Spec.assign (Has.s rfl)) ?_
       refine Walk.nil ?_
       refine Leaf.thenN ?_
       refine CWalk.seq ?_
       refine CWalk.seq ?_
       refine CWalk.region ?_
       refine mv ?_
       refine wo (Spec.fieldAddrO fd26_1 (Has.cv (Has.s rfl) (Cv.isvP rfl))) ?_
       refine wo (Spec.loadF (i := 1) ty3 rfl (Has.s rfl) rfl (HasG.s rfl)) ?_
       refine wo (Spec.eqlI (Has.s rfl) (Has.s rfl)) ?_
       refine mv ?_
       refine wg rfl rfl (fun hb => Spec.fieldAddrO fd26_2 (Has.cv (Has.s rfl) (Cv.isvP rfl))) ?_
       refine wg rfl rfl (fun hb => Spec.loadF (i := 2) ty4 rfl (Has.u rfl hb) rfl (HasG.s rfl)) ?_
       refine wg rfl rfl (fun hb => Spec.not (Has.u rfl hb)) ?_
       refine wo (Spec.and (Has.s rfl) (fun h => Has.u rfl h)) ?_
       refine Walk.nil ?_
       refine Leaf.thenN ?_
       refine CWalk.cond rfl (fun hb => ?_) (fun hb => ?_)
       ·have hm := cond_t hb hm
        refine CWalk.exit ?_
        refine Leaf.thenE ?_
        refine Leaf.blockE ?_
        exact Leaf.join s2 hm (st (sn (sn (sn (Sub.cons (Has.cv (Has.s rfl) (Cv.owM (T := [36]) (te := [34, 35]) rfl rfl)) (st (st (sf (sf (sf (sf (sf (sf (sf (sf (sf (sf (sf (sf (sf (sf (sf (sf (sf (sf (sf (sf (sn (sn (sn Sub.nil))))))))))))))))))))))))))))))
       ·have hm := cond_f hb hm
        refine CWalk.skip ?_
        refine Leaf.thenN ?_
        refine CWalk.seq ?_
        refine CWalk.region ?_
        refine wo (Spec.fieldAddrO fd24_0 (Has.cv (Has.s rfl) (Cv.isvP rfl))) ?_
        refine wo (Spec.loadF (i := 0) ty22 rfl (Has.s rfl) rfl (HasG.s rfl)) ?_
        refine wo (Spec.fieldAddrO fd26_0 (Has.cv (Has.s rfl) (Cv.isvP rfl))) ?_
        refine wo (Spec.loadF (i := 0) ty22 rfl (Has.s rfl) rfl (HasG.s rfl)) ?_
        refine wo (Spec.fieldAddrO fd24_1 (Has.cv (Has.s rfl) (Cv.isvP rfl))) ?_
        refine wo (Spec.loadF (i := 1) ty3 rfl (Has.s rfl) rfl (HasG.s rfl)) ?_
        refine wo (Spec.fieldAddrO fd24_2 (Has.cv (Has.s rfl) (Cv.isvP rfl))) ?_
        refine wo (Spec.loadF (i := 2) ty3 rfl (Has.s rfl) rfl (HasG.s rfl)) ?_
        refine wo (Spec.fieldAddrO fd24_3 (Has.cv (Has.s rfl) (Cv.isvP rfl))) ?_
        refine wo (Spec.loadF (i := 3) ty3 rfl (Has.s rfl) rfl (HasG.s rfl)) ?_
        refine wo (Spec.fieldAddrO fd24_4 (Has.cv (Has.s rfl) (Cv.isvP rfl))) ?_
        refine wo (Spec.loadF (i := 4) ty3 rfl (Has.s rfl) rfl (HasG.s rfl)) ?_
        refine mv ?_
        refine wo (Spec.fieldAddrO fd26_1 (Has.cv (Has.s rfl) (Cv.isvP rfl))) ?_
        refine wo (Spec.loadF (i := 1) ty3 rfl (Has.s rfl) rfl (HasG.s rfl)) ?_
        refine wo (Spec.fieldAddrO fd26_4 (Has.cv (Has.s rfl) (Cv.isvP rfl))) ?_
        refine wo (Spec.loadF (i := 4) ty3 rfl (Has.s rfl) rfl (HasG.s rfl)) ?_
        refine mv ?_
        refine wo (Spec.build (us := [(0, .tmp 51), (1, .tmp 53), (2, .tmp 55), (3, .tmp 57), (4, .tmp 59), (5, .tmp 61), (6, .tmp 62), (7, .tmp 64), (8, .tmp 66), (9, .tmp 67)]) (ls' := [(false, 1, Fact.rep [] a0.Id), (false, 1, Fact.rep [] ((scW.of ((a1.Events.toNat : Int) + ((1 : UInt32).toNat : Int))) : UInt32)), (false, 1, Fact.rep [] a0.Members), (false, 1, Fact.rep [] a0.Chunk), (false, 1, Fact.rep [] a0.Rows), (false, 1, Fact.rep [] a0.Log), (false, 1, Fact.rep [] (s3 : Int)), (false, 1, Fact.rep [] a1.Lost), (false, 1, Fact.rep [] a1.Done), (false, 1, Fact.rep [] (a2 : Bool))]) bd71 rfl (BP.cons rfl rfl (Has.s rfl) (Has.s rfl) (BP.cons rfl rfl (Has.s rfl) (Has.s rfl) (BP.cons rfl rfl (Has.s rfl) (Has.s rfl) (BP.cons rfl rfl (Has.s rfl) (Has.s rfl) (BP.cons rfl rfl (Has.s rfl) (Has.s rfl) (BP.cons rfl rfl (Has.s rfl) (Has.s rfl) (BP.cons rfl rfl (Has.s rfl) (Has.s rfl) (BP.cons rfl rfl (Has.s rfl) (Has.s rfl) (BP.cons rfl rfl (Has.s rfl) (Has.s rfl) (BP.cons rfl rfl (Has.s rfl) (Has.s rfl) BP.nil))))))))))) ?_
        obtain ⟨x6, hx6, hm⟩ := bind_some hm
        refine wo (f := Fact.tup2 (Fact.sl [34] [] (x6.1 : List UInt8)) (Fact.rep [] x6.2)) (Spec.callE [] 34 rfl en41 (label_Write_c (Label.mk a0.Id (scW.of ((a1.Events.toNat : Int) + ((1 : UInt32).toNat : Int))) a0.Members a0.Chunk a0.Rows a0.Log s3 a1.Lost a1.Done a2) hx6) (HasAll.cons (Has.fl (Has.cv (Has.s rfl) (Cv.trans (Cv.flds (CvL.cons Cv.fl (CvL.cons Cv.fl (CvL.cons Cv.fl (CvL.cons Cv.fl (CvL.cons Cv.fl (CvL.cons Cv.fl (CvL.cons Cv.fl (CvL.cons Cv.fl (CvL.cons Cv.fl (CvL.cons Cv.fl CvL.nil))))))))))) (Cv.close (T := []) (chLabel (Label.mk a0.Id (scW.of ((a1.Events.toNat : Int) + ((1 : UInt32).toNat : Int))) a0.Members a0.Chunk a0.Rows a0.Log s3 a1.Lost a1.Done a2)))))) HasAll.nil)) ?_
        refine mv ?_
        refine wo (Spec.ext0 (Has.s rfl)) ?_
        refine wo (Spec.ext1 (Has.s rfl)) ?_
        refine wo (Spec.assign (Has.s rfl)) ?_
        refine wo (Spec.assign (Has.s rfl)) ?_
        refine Walk.nil ?_
        refine Leaf.thenN ?_
        refine CWalk.seq ?_
        refine CWalk.seq ?_
        refine CWalk.region ?_
        refine mv ?_
        refine wo (Spec.neqI (Has.s rfl) Has.int) ?_
        refine Walk.nil ?_
        refine Leaf.thenN ?_
        refine CWalk.cond rfl (fun hb => ?_) (fun hb => ?_)
        ·have hm := cond_t hb hm
         refine CWalk.seq ?_
         refine CWalk.region ?_
         refine wo (Spec.build (us := []) (ls' := [(false, 1, Fact.rep [] ((0 : UInt32) : UInt32)), (false, 1, Fact.rep [] ((0 : Int) : Int)), (false, 1, Fact.rep [] (false : Bool)), (false, 1, Fact.rep [] ((0 : Int) : Int)), (false, 1, Fact.rep [] ((0 : Int) : Int)), (false, 1, Fact.rep [] (false : Bool)), (false, 1, Fact.rep [] (false : Bool))]) bd26 rfl BP.nil) ?_
         refine mv ?_
         refine ws (Step.storeObj (ls := [(false, 1, Fact.rep [] ((0 : UInt32) : UInt32)), (false, 1, Fact.rep [] ((0 : Int) : Int)), (false, 1, Fact.rep [] (false : Bool)), (false, 1, Fact.rep [] ((0 : Int) : Int)), (false, 1, Fact.rep [] ((0 : Int) : Int)), (false, 1, Fact.rep [] (false : Bool)), (false, 1, Fact.rep [] (false : Bool))]) rfl ty26 rfl rfl (Has.s rfl) rfl (HasL.flds (Has.s rfl)) rfl) ?_
         refine wo (Spec.assign Has.nilv) ?_
         refine wo (Spec.assign (Has.s rfl)) ?_
         refine Walk.nil ?_
         refine Leaf.thenN ?_
         refine CWalk.ret ?_
         refine Leaf.thenR ?_
         refine Leaf.blockR ?_
         refine Leaf.thenR ?_
         exact Leaf.brk hm (fun h => nomatch h) rfl (sn (sn (st (sf (sf (sf (sf (sf (sf (sf (sn Sub.nil)))))))))))
        ·have hm := cond_f hb hm
         refine CWalk.skip ?_
         refine Leaf.thenN ?_
         refine CWalk.region ?_
         refine mv ?_
         refine mv ?_
         refine mv ?_
         refine wo (Spec.build (us := [(0, .tmp 77), (1, .const (.int .u8 2)), (3, .tmp 78)]) (ls' := [(false, 1, Fact.rep [] (s3 : Int)), (false, 1, Fact.rep [] ((2 : UInt8) : UInt8)), (false, 1, Fact.rep [] ((0 : Int) : Int)), (false, 1, Fact.sl [34] [] (x6.1 : List UInt8))]) bd58 rfl (BP.cons rfl rfl (Has.s rfl) (Has.s rfl) (BP.cons rfl rfl (Has.u8 2 rfl) (Has.u8 2 rfl) (BP.cons rfl rfl (Has.cv (Has.s rfl) (Cv.slRep (T' := [34]) rfl rfl)) (Has.s rfl) BP.nil)))) ?_
         refine wo (Spec.lit (xs := [.tmp 79]) (T := [34]) 35 rfl ow50 rfl rfl rfl rfl (HasEach.cons (Has.m (Has.cv (Has.s rfl) (Cv.trans (Cv.flds (CvL.cons Cv.fl (CvL.cons Cv.fl (CvL.cons Cv.fl (CvL.cons (Cv.trans (Cv.slRep (T' := [34]) rfl rfl) (Cv.m rfl)) CvL.nil))))) (Cv.close (T := [34]) (chAct58 (Act58.mk s3 (2 : UInt8) (0 : Int) x6.1))))) rfl) HasEach.nil)) ?_
         obtain ⟨x7, hx7, hm⟩ := bind_some hm
         refine ws (Step.appendOw (T := [36]) (te' := [34, 35]) hx7 rfl rfl rfl ow50 (Has.s rfl) (Has.s rfl) (ElKeeps.tags rfl rfl) (ElKeeps.tags rfl rfl)) ?_
         refine wo (Spec.assign (Has.s rfl)) ?_
         refine Walk.nil ?_
         refine Leaf.blockN ?_
         exact Leaf.join x7 hm (st (sn (sn (sn (Sub.cons (Has.cv (Has.s rfl) (Cv.owM (T := [36]) (te := [34, 35]) rfl rfl)) (st (st (sf (sf (sf (sf (sf (sf (sf (sf (sf (sf (sf (sf (sf (sf (sf (sf (sf (sf (sf (sf (sn (sn (sn Sub.nil))))))))))))))))))))))))))))))
     ·have hm := cond_f hb hm
      refine CWalk.exit ?_
      refine Leaf.thenE ?_
      exact Leaf.brk hm (fun h => nomatch h) rfl (sn (sn (Sub.cons (Has.cv (Has.s rfl) (Cv.owM (T := [36]) (te := [34, 35]) rfl rfl)) (sf (sf (sf (sf (sf (sf (sf (sf (sf (sf (sf (sf (sf (sf (sn (sn Sub.nil)))))))))))))))))))
    ·intro _
     rcases b8 with b9 | b10
     ·have hm := selim_l hm
      refine Leaf.blockE ?_
      refine Leaf.thenN ?_
      refine CWalk.seq ?_
      refine CWalk.region ?_
      refine wo (Spec.loadObj (ls := [(false, 1, Fact.rep [] ((scW.of ((a1.Events.toNat : Int) + ((1 : UInt32).toNat : Int))) : UInt32)), (false, 1, Fact.rep [] a1.Lost), (false, 1, Fact.rep [] a1.Spare), (false, 1, Fact.rep [] a1.Pos), (false, 1, Fact.rep [] a1.Done), (false, 1, Fact.rep [] a1.NoLog), (false, 1, Fact.rep [] a1.Broken)]) ty26 rfl rfl (Has.s rfl) rfl (HasGs.cons (HasG.s rfl) (HasGs.cons (HasG.s rfl) (HasGs.cons (HasG.s rfl) (HasGs.cons (HasG.s rfl) (HasGs.cons (HasG.s rfl) (HasGs.cons (HasG.s rfl) (HasGs.cons (HasG.s rfl) HasGs.nil)))))))) ?_
      refine mv ?_
      refine ws (Step.storeObj (ls := [(false, 1, Fact.rep [] ((scW.of ((a1.Events.toNat : Int) + ((1 : UInt32).toNat : Int))) : UInt32)), (false, 1, Fact.rep [] a1.Lost), (false, 1, Fact.rep [] a1.Spare), (false, 1, Fact.rep [] a1.Pos), (false, 1, Fact.rep [] a1.Done), (false, 1, Fact.rep [] a1.NoLog), (false, 1, Fact.rep [] a1.Broken)]) rfl ty26 rfl rfl (Has.s rfl) rfl (HasL.flds (Has.s rfl)) rfl) ?_
      refine wo (Spec.assign (Has.s rfl)) ?_
      refine wo (Spec.assign Has.int) ?_
      refine Walk.nil ?_
      refine Leaf.thenN ?_
      refine CWalk.ret ?_
      obtain rfl := Option.some.inj hm
      exact Leaf.retC3 rfl (HasR.cv (HasR.obj (ls := [(false, 1, Fact.rep [] ((scW.of ((a1.Events.toNat : Int) + ((1 : UInt32).toNat : Int))) : UInt32)), (false, 1, Fact.rep [] a1.Lost), (false, 1, Fact.rep [] a1.Spare), (false, 1, Fact.rep [] a1.Pos), (false, 1, Fact.rep [] a1.Done), (false, 1, Fact.rep [] a1.NoLog), (false, 1, Fact.rep [] a1.Broken)]) ty26 rfl rfl (Has.s rfl) rfl (HasGs.cons (HasG.s rfl) (HasGs.cons (HasG.s rfl) (HasGs.cons (HasG.s rfl) (HasGs.cons (HasG.s rfl) (HasGs.cons (HasG.s rfl) (HasGs.cons (HasG.s rfl) (HasGs.cons (HasG.s rfl) HasGs.nil)))))))) (Cv.trans (Cv.trans (Cv.flds (CvL.cons Cv.fl (CvL.cons Cv.fl (CvL.cons Cv.fl (CvL.cons Cv.fl (CvL.cons Cv.fl (CvL.cons Cv.fl (CvL.cons Cv.fl CvL.nil)))))))) (Cv.close (T := []) (chLoss (Loss.mk (scW.of ((a1.Events.toNat : Int) + ((1 : UInt32).toNat : Int))) a1.Lost a1.Spare a1.Pos a1.Done a1.NoLog a1.Broken)))) Cv.fl)) (HasR.cv (HasR.tmp (Has.s rfl)) (Cv.owM (T := [36]) (te := [34, 35]) rfl rfl)) (HasR.cv (HasR.tmp (Has.s rfl)) Cv.fl)
     ·have hm := selim_r hm
      refine Leaf.blockR ?_
      refine Leaf.thenR ?_
      obtain rfl := Option.some.inj hm
      exact Leaf.retC3 rfl (HasR.cv (HasR.obj (ls := [(false, 1, Fact.rep [] ((0 : UInt32) : UInt32)), (false, 1, Fact.rep [] ((0 : Int) : Int)), (false, 1, Fact.rep [] (false : Bool)), (false, 1, Fact.rep [] ((0 : Int) : Int)), (false, 1, Fact.rep [] ((0 : Int) : Int)), (false, 1, Fact.rep [] (false : Bool)), (false, 1, Fact.rep [] (false : Bool))]) ty26 rfl rfl (Has.s rfl) rfl (HasGs.cons (HasG.s rfl) (HasGs.cons (HasG.s rfl) (HasGs.cons (HasG.s rfl) (HasGs.cons (HasG.s rfl) (HasGs.cons (HasG.s rfl) (HasGs.cons (HasG.s rfl) (HasGs.cons (HasG.s rfl) HasGs.nil)))))))) (Cv.trans (Cv.trans (Cv.flds (CvL.cons Cv.fl (CvL.cons Cv.fl (CvL.cons Cv.fl (CvL.cons Cv.fl (CvL.cons Cv.fl (CvL.cons Cv.fl (CvL.cons Cv.fl CvL.nil)))))))) (Cv.close (T := []) (chLoss (Loss.mk (0 : UInt32) (0 : Int) false (0 : Int) (0 : Int) false false)))) Cv.fl)) (HasR.cv (HasR.tmp (Has.s rfl)) (Cv.trans Cv.nilOw (Cv.owM (T := []) (te := []) rfl rfl))) (HasR.cv (HasR.tmp (Has.s rfl)) Cv.fl)

def ref04_Great_L1 (a0 : Disk) (s1 : Int) (s2 : Int) : Option (Ctl (Int × Int) (Int)) :=
  (bif ((decide (s2 < ((a0.Blocks).length : Int))) && (decide (s2 < (400 : Int)))) then Option.bind (idx a0.Blocks s2) (fun x4 => some (Ctl.next ((wI (s1 + (wI ((8 : Int) + (min ((x4).length : Int) (100000 : Int)))))), (wI (s2 + (1 : Int)))))) else some (Ctl.brk s1))
def ref04_Great_L2 (a0 : Disk) (s6 : Int) (s7 : Int) : Option (Ctl (Int × Int) (Int)) :=
  (bif ((decide (s7 < ((a0.Wait).length : Int))) && (decide (s7 < (1200 : Int)))) then Option.bind (idx a0.Wait s7) (fun x9 => some (Ctl.next ((wI (s6 + (wI ((8 : Int) + (min ((x9.Data).length : Int) (100000 : Int)))))), (wI (s7 + (1 : Int)))))) else some (Ctl.brk s6))
/-- freeboard/freeboardref04.Great -/
def ref04_Great (a0 : Disk) : Option (Bool) :=
  Option.bind (loopM (fun s : Int × Int => ref04_Great_L1 a0 s.1 s.2) FUEL ((0 : Int), (0 : Int))) (fun b5 => Option.bind (loopM (fun s : Int × Int => ref04_Great_L2 a0 s.1 s.2) FUEL (b5, (0 : Int))) (fun b10 => some (((decide (((a0.Blocks).length : Int) > (300 : Int))) || (decide (((a0.Wait).length : Int) > (1100 : Int)))) || (decide (b10 > (60000 : Int))))))
set_option maxRecDepth 100000 in
set_option maxHeartbeats 2000000 in
theorem ref04_Great_c (a0 : Disk) {r : Bool} (hm : ref04_Great a0 = some r) : Ctr Try.prog 43 [.rep 0 a0] (.fl r) [] := by
 refine ctr_of_walk [[]] 63 Try.func43 rfl rfl rfl rfl (fun w0 om => ?_)
 unfold ref04_Great at hm
 refine CWalk.sub (G' := [.fact 0 (.rep [0] (a0 : Disk))]) (sn Sub.nil) ?_
 refine CWalk.seq ?_
 refine CWalk.region ?_
 refine ws (Step.boxObj (ls := [(false, 1, Fact.rep [0] a0.Blocks), (false, 1, Fact.rep [0] a0.Wait), (false, 1, Fact.rep [] a0.Dead)]) 10 rfl rfl rfl rfl (HasL.flds (Has.cv (Has.s rfl) (Cv.trans (Cv.opens (chDisk a0)) (Cv.flds (CvL.cons Cv.refl (CvL.cons Cv.refl (CvL.cons Cv.fl CvL.nil)))))))) ?_
 refine wo (Spec.assign Has.bool) ?_
 refine Walk.nil ?_
 refine Leaf.thenN ?_
 refine CWalk.seq ?_
 refine CWalk.region ?_
 refine wo (Spec.assign Has.int) ?_
 refine Walk.nil ?_
 refine Leaf.thenN ?_
 refine CWalk.seq ?_
 refine CWalk.seq ?_
 refine CWalk.region ?_
 refine wo (Spec.assign Has.int) ?_
 refine Walk.nil ?_
 refine Leaf.thenN ?_
 refine CWalk.block ?_
 obtain ⟨b5, hb5, hm⟩ := bind_some hm
 refine CWalk.loop (fun s : Int × Int => [.fact 1 (.isv 10), .fact 3 (.rep [] s.1), .fact 4 (.rep [] s.2), .fact 100011 (.at 11 (.rep [0] a0.Blocks)), .fact 100012 (.at 12 (.rep [0] a0.Wait)), .fact 100013 (.at 13 (.rep [] a0.Dead)), .fact 100010 (.obj 10 [(false, 1), (false, 1), (false, 1)])]) (fun b : Int => (Exit.exit 0, [.fact 1 (.isv 10), .fact 3 (.rep [] (b : Int)), .fact 100011 (.at 11 (.rep [0] a0.Blocks)), .fact 100012 (.at 12 (.rep [0] a0.Wait)), .fact 100013 (.at 13 (.rep [] a0.Dead)), .fact 100010 (.obj 10 [(false, 1), (false, 1), (false, 1)])])) hb5 (sn (st (st (sm (sm (sf (sn Sub.nil))))))) ?_ ?_
 ·rintro ⟨s1, s2⟩ c3 hm
  replace hm : ref04_Great_L1 a0 s1 s2 = some c3 := hm
  unfold ref04_Great_L1 at hm
  show CWalk _ [.fact 1 (.isv 10), .fact 3 (.rep [] (s1 : Int)), .fact 4 (.rep [] (s2 : Int)), .fact 100011 (.at 11 (.rep [0] a0.Blocks)), .fact 100012 (.at 12 (.rep [0] a0.Wait)), .fact 100013 (.at 13 (.rep [] a0.Dead)), .fact 100010 (.obj 10 [(false, 1), (false, 1), (false, 1)])] _ _
  refine CWalk.seq ?_
  refine CWalk.seq ?_
  refine CWalk.region ?_
  refine mv ?_
  refine wo (Spec.fieldAddrO fd67_0 (Has.cv (Has.s rfl) (Cv.isvP rfl))) ?_
  refine wo (Spec.loadF (i := 0) ty64 rfl (Has.s rfl) rfl (HasG.s rfl)) ?_
  refine wo (Spec.len (Has.s rfl) Try.underlying64) ?_
  refine wo (Spec.lssI (Has.s rfl) (Has.s rfl)) ?_
  refine mv ?_
  refine wg rfl rfl (fun hb => Spec.move (Has.s rfl)) ?_
  refine wg rfl rfl (fun hb => Spec.lssI (Has.u rfl hb) Has.int) ?_
  refine wo (Spec.and (Has.s rfl) (fun h => Has.u rfl h)) ?_
  refine Walk.nil ?_
  refine Leaf.thenN ?_
  refine CWalk.cond rfl (fun hb => ?_) (fun hb => ?_)
  ·have hm := cond_t hb hm
   refine CWalk.skip ?_
   refine Leaf.thenN ?_
   refine CWalk.seq ?_
   refine CWalk.block ?_
   refine CWalk.region ?_
   refine mv ?_
   refine wo (Spec.fieldAddrO fd67_0 (Has.cv (Has.s rfl) (Cv.isvP rfl))) ?_
   refine wo (Spec.loadF (i := 0) ty64 rfl (Has.s rfl) rfl (HasG.s rfl)) ?_
   refine mv ?_
   obtain ⟨x4, hx4, hm⟩ := bind_some hm
   refine wo (Spec.indexAddr hx4 sl64 (Has.s rfl) (Has.s rfl)) ?_
   refine wo (Spec.load ty56 (Has.s rfl)) ?_
   refine wo (Spec.len (Has.s rfl) Try.underlying56) ?_
   refine wo (Spec.minI (Has.s rfl) Has.int) ?_
   refine wo (Spec.addI Has.int (Has.s rfl)) ?_
   refine wo (Spec.addI (Has.s rfl) (Has.s rfl)) ?_
   refine wo (Spec.assign (Has.s rfl)) ?_
   refine Walk.nil ?_
   refine Leaf.blockN ?_
   refine Leaf.thenN ?_
   refine CWalk.region ?_
   refine mv ?_
   refine wo (Spec.addI (Has.s rfl) Has.int) ?_
   refine wo (Spec.assign (Has.s rfl)) ?_
   refine Walk.nil ?_
   exact Leaf.next hm (sn (st (st (sm (sm (sf (sn Sub.nil)))))))
  ·have hm := cond_f hb hm
   refine CWalk.exit ?_
   refine Leaf.thenE ?_
   exact Leaf.brk hm (fun h => nomatch h) rfl (sn (st (sm (sm (sf (sn Sub.nil))))))
 ·intro _
  refine Leaf.blockE ?_
  refine Leaf.thenN ?_
  refine CWalk.seq ?_
  refine CWalk.seq ?_
  refine CWalk.region ?_
  refine wo (Spec.assign Has.int) ?_
  refine Walk.nil ?_
  refine Leaf.thenN ?_
  refine CWalk.block ?_
  obtain ⟨b10, hb10, hm⟩ := bind_some hm
  refine CWalk.loop (fun s : Int × Int => [.fact 1 (.isv 10), .fact 3 (.rep [] s.1), .fact 5 (.rep [] s.2), .fact 100011 (.at 11 (.rep [0] a0.Blocks)), .fact 100012 (.at 12 (.rep [0] a0.Wait)), .fact 100013 (.at 13 (.rep [] a0.Dead)), .fact 100010 (.obj 10 [(false, 1), (false, 1), (false, 1)])]) (fun b : Int => (Exit.exit 2, [.fact 1 (.isv 10), .fact 3 (.rep [] (b : Int)), .fact 100011 (.at 11 (.rep [0] a0.Blocks)), .fact 100012 (.at 12 (.rep [0] a0.Wait)), .fact 100013 (.at 13 (.rep [] a0.Dead)), .fact 100010 (.obj 10 [(false, 1), (false, 1), (false, 1)])])) hb10 (sn (st (st (sm (sm (sf (sn Sub.nil))))))) ?_ ?_
  ·rintro ⟨s6, s7⟩ c8 hm
   replace hm : ref04_Great_L2 a0 s6 s7 = some c8 := hm
   unfold ref04_Great_L2 at hm
   show CWalk _ [.fact 1 (.isv 10), .fact 3 (.rep [] (s6 : Int)), .fact 5 (.rep [] (s7 : Int)), .fact 100011 (.at 11 (.rep [0] a0.Blocks)), .fact 100012 (.at 12 (.rep [0] a0.Wait)), .fact 100013 (.at 13 (.rep [] a0.Dead)), .fact 100010 (.obj 10 [(false, 1), (false, 1), (false, 1)])] _ _
   refine CWalk.seq ?_
   refine CWalk.seq ?_
   refine CWalk.region ?_
   refine mv ?_
   refine wo (Spec.fieldAddrO fd67_1 (Has.cv (Has.s rfl) (Cv.isvP rfl))) ?_
   refine wo (Spec.loadF (i := 1) ty65 rfl (Has.s rfl) rfl (HasG.s rfl)) ?_
   refine wo (Spec.len (Has.s rfl) Try.underlying65) ?_
   refine wo (Spec.lssI (Has.s rfl) (Has.s rfl)) ?_
   refine mv ?_
   refine wg rfl rfl (fun hb => Spec.move (Has.s rfl)) ?_
   refine wg rfl rfl (fun hb => Spec.lssI (Has.u rfl hb) Has.int) ?_
   refine wo (Spec.and (Has.s rfl) (fun h => Has.u rfl h)) ?_
   refine Walk.nil ?_
   refine Leaf.thenN ?_
   refine CWalk.cond rfl (fun hb => ?_) (fun hb => ?_)
   ·have hm := cond_t hb hm
    refine CWalk.skip ?_
    refine Leaf.thenN ?_
    refine CWalk.seq ?_
    refine CWalk.block ?_
    refine CWalk.region ?_
    refine mv ?_
    refine wo (Spec.fieldAddrO fd67_1 (Has.cv (Has.s rfl) (Cv.isvP rfl))) ?_
    refine wo (Spec.loadF (i := 1) ty65 rfl (Has.s rfl) rfl (HasG.s rfl)) ?_
    refine mv ?_
    obtain ⟨x9, hx9, hm⟩ := bind_some hm
    refine wo (Spec.indexAddr hx9 sl65 (Has.s rfl) (Has.s rfl)) ?_
    refine wo (Spec.fieldAddrP fd91_1 (chWrite x9) rfl (Has.s rfl)) ?_
    refine wo (Spec.load ty56 (Has.s rfl)) ?_
    refine wo (Spec.len (Has.s rfl) Try.underlying56) ?_
    refine wo (Spec.minI (Has.s rfl) Has.int) ?_
    refine wo (Spec.addI Has.int (Has.s rfl)) ?_
    refine wo (Spec.addI (Has.s rfl) (Has.s rfl)) ?_
    refine wo (Spec.assign (Has.s rfl)) ?_
    refine Walk.nil ?_
    refine Leaf.blockN ?_
    refine Leaf.thenN ?_
    refine CWalk.region ?_
    refine mv ?_
    refine wo (Spec.addI (Has.s rfl) Has.int) ?_
    refine wo (Spec.assign (Has.s rfl)) ?_
    refine Walk.nil ?_
    exact Leaf.next hm (sn (st (st (sm (sm (sf (sn Sub.nil)))))))
   ·have hm := cond_f hb hm
    refine CWalk.exit ?_
    refine Leaf.thenE ?_
    exact Leaf.brk hm (fun h => nomatch h) rfl (sn (st (sm (sm (sf (sn Sub.nil))))))
  ·intro _
   refine Leaf.blockE ?_
   refine Leaf.thenN ?_
   refine CWalk.seq ?_
   refine CWalk.region ?_
   refine wo (Spec.fieldAddrO fd67_0 (Has.cv (Has.s rfl) (Cv.isvP rfl))) ?_
   refine wo (Spec.loadF (i := 0) ty64 rfl (Has.s rfl) rfl (HasG.s rfl)) ?_
   refine wo (Spec.len (Has.s rfl) Try.underlying64) ?_
   refine wo (Spec.gtrI (Has.s rfl) Has.int) ?_
   refine mv ?_
   refine wg rfl rfl (fun hb => Spec.fieldAddrO fd67_1 (Has.cv (Has.s rfl) (Cv.isvP rfl))) ?_
   refine wg rfl rfl (fun hb => Spec.loadF (i := 1) ty65 rfl (Has.u rfl hb) rfl (HasG.s rfl)) ?_
   refine wg rfl rfl (fun hb => Spec.len (Has.u rfl hb) Try.underlying65) ?_
   refine wg rfl rfl (fun hb => Spec.gtrI (Has.u rfl hb) Has.int) ?_
   refine wo (Spec.or (Has.s rfl) (fun h => Has.u rfl h)) ?_
   refine mv ?_
   refine wg rfl rfl (fun hb => Spec.move (Has.s rfl)) ?_
   refine wg rfl rfl (fun hb => Spec.gtrI (Has.u rfl hb) Has.int) ?_
   refine wo (Spec.or (Has.s rfl) (fun h => Has.u rfl h)) ?_
   refine wo (Spec.assign (Has.s rfl)) ?_
   refine Walk.nil ?_
   refine Leaf.thenN ?_
   refine CWalk.ret ?_
   obtain rfl := Option.some.inj hm
   exact Leaf.retC1 rfl (HasR.cv (HasR.tmp (Has.s rfl)) Cv.fl)

end Go.Proofs.Ytgjibgklailenaa
