/- Printed by a program of ours: models of functions, and that calls do what they say. -/
import Derived.Test.YtcnmlbgcnkfnhaaProg
import Derived.Test.YtcnmlbgcnkfnhaaCore42
import Derived.KernelRfl
namespace Go.Proofs.Ytcnmlbgcnkfnhaa
open Go GL
set_option linter.unusedVariables false

structure Config where
  Id : UInt32
  Members : Int
  Chunk : Int
  Rows : Int
  Log : Int
  Heads : Int
  deriving Inhabited, DecidableEq
instance : Rp Config := Rp.via (inferInstance : Rp (UInt32 × Int × Int × Int × Int × Int)) (fun x => (x.Id, x.Members, x.Chunk, x.Rows, x.Log, x.Heads))
theorem chConfig (x : Config) : Ch x [⟨inferInstance, x.Id⟩, ⟨inferInstance, x.Members⟩, ⟨inferInstance, x.Chunk⟩, ⟨inferInstance, x.Rows⟩, ⟨inferInstance, x.Log⟩, ⟨inferInstance, x.Heads⟩] := Ch.via (ChT.cons (ChT.cons (ChT.cons (ChT.cons (ChT.cons (ChT.one _))))))
instance : Lo Config := Lo.via (inferInstance : Rp (UInt32 × Int × Int × Int × Int × Int)) inferInstance (fun x : Config => (x.Id, x.Members, x.Chunk, x.Rows, x.Log, x.Heads))
theorem loConfig_0 (x : Config) : LoAt x 0 x.Id := fun F cs w h => (LoAt.fst : LoAt ((x.Id, x.Members, x.Chunk, x.Rows, x.Log, x.Heads)) 0 x.Id) F cs w h
theorem loConfig_1 (x : Config) : LoAt x 1 x.Members := fun F cs w h => ((LoAt.snd LoAt.fst) : LoAt ((x.Id, x.Members, x.Chunk, x.Rows, x.Log, x.Heads)) 1 x.Members) F cs w h
theorem loConfig_2 (x : Config) : LoAt x 2 x.Chunk := fun F cs w h => ((LoAt.snd (LoAt.snd LoAt.fst)) : LoAt ((x.Id, x.Members, x.Chunk, x.Rows, x.Log, x.Heads)) 2 x.Chunk) F cs w h
theorem loConfig_3 (x : Config) : LoAt x 3 x.Rows := fun F cs w h => ((LoAt.snd (LoAt.snd (LoAt.snd LoAt.fst))) : LoAt ((x.Id, x.Members, x.Chunk, x.Rows, x.Log, x.Heads)) 3 x.Rows) F cs w h
theorem loConfig_4 (x : Config) : LoAt x 4 x.Log := fun F cs w h => ((LoAt.snd (LoAt.snd (LoAt.snd (LoAt.snd LoAt.fst)))) : LoAt ((x.Id, x.Members, x.Chunk, x.Rows, x.Log, x.Heads)) 4 x.Log) F cs w h
theorem loConfig_5 (x : Config) : LoAt x 5 x.Heads := fun F cs w h => ((LoAt.snd (LoAt.snd (LoAt.snd (LoAt.snd (LoAt.snd LoAt.self))))) : LoAt ((x.Id, x.Members, x.Chunk, x.Rows, x.Log, x.Heads)) 5 x.Heads) F cs w h
instance : Flat Config := ⟨fun F F' x cs w w' h => Flat.flat (α := UInt32 × Int × Int × Int × Int × Int) F F' ((x.Id, x.Members, x.Chunk, x.Rows, x.Log, x.Heads)) cs w w' h⟩

structure Write where
  At : Int
  Data : List UInt8
  deriving Inhabited, DecidableEq
instance : Rp Write := Rp.via (inferInstance : Rp (Int × (List UInt8))) (fun x => (x.At, x.Data))
theorem chWrite (x : Write) : Ch x [⟨inferInstance, x.At⟩, ⟨inferInstance, x.Data⟩] := Ch.via (ChT.cons (ChT.one _))
instance : Lo Write := Lo.via (inferInstance : Rp (Int × (List UInt8))) inferInstance (fun x : Write => (x.At, x.Data))
theorem loWrite_0 (x : Write) : LoAt x 0 x.At := fun F cs w h => (LoAt.fst : LoAt ((x.At, x.Data)) 0 x.At) F cs w h
theorem loWrite_1 (x : Write) : LoAt x 1 x.Data := fun F cs w h => ((LoAt.snd LoAt.self) : LoAt ((x.At, x.Data)) 1 x.Data) F cs w h

structure Disk where
  Blocks : List (List UInt8)
  Wait : List Write
  Dead : Bool
  deriving Inhabited, DecidableEq
instance : Rp Disk := Rp.via (inferInstance : Rp ((List (List UInt8)) × (List Write) × Bool)) (fun x => (x.Blocks, x.Wait, x.Dead))
theorem chDisk (x : Disk) : Ch x [⟨inferInstance, x.Blocks⟩, ⟨inferInstance, x.Wait⟩, ⟨inferInstance, x.Dead⟩] := Ch.via (ChT.cons (ChT.cons (ChT.one _)))
instance : Lo Disk := Lo.via (inferInstance : Rp ((List (List UInt8)) × (List Write) × Bool)) inferInstance (fun x : Disk => (x.Blocks, x.Wait, x.Dead))
theorem loDisk_0 (x : Disk) : LoAt x 0 x.Blocks := fun F cs w h => (LoAt.fst : LoAt ((x.Blocks, x.Wait, x.Dead)) 0 x.Blocks) F cs w h
theorem loDisk_1 (x : Disk) : LoAt x 1 x.Wait := fun F cs w h => ((LoAt.snd LoAt.fst) : LoAt ((x.Blocks, x.Wait, x.Dead)) 1 x.Wait) F cs w h
theorem loDisk_2 (x : Disk) : LoAt x 2 x.Dead := fun F cs w h => ((LoAt.snd (LoAt.snd LoAt.self)) : LoAt ((x.Blocks, x.Wait, x.Dead)) 2 x.Dead) F cs w h

structure Deal where
  Stripe : Int
  Slots : List Int
  Blocks : List (List UInt8)
  Parity : List UInt8
  deriving Inhabited, DecidableEq
instance : Rp Deal := Rp.via (inferInstance : Rp (Int × (List Int) × (List (List UInt8)) × (List UInt8))) (fun x => (x.Stripe, x.Slots, x.Blocks, x.Parity))
theorem chDeal (x : Deal) : Ch x [⟨inferInstance, x.Stripe⟩, ⟨inferInstance, x.Slots⟩, ⟨inferInstance, x.Blocks⟩, ⟨inferInstance, x.Parity⟩] := Ch.via (ChT.cons (ChT.cons (ChT.cons (ChT.one _))))
instance : Lo Deal := Lo.via (inferInstance : Rp (Int × (List Int) × (List (List UInt8)) × (List UInt8))) inferInstance (fun x : Deal => (x.Stripe, x.Slots, x.Blocks, x.Parity))
theorem loDeal_0 (x : Deal) : LoAt x 0 x.Stripe := fun F cs w h => (LoAt.fst : LoAt ((x.Stripe, x.Slots, x.Blocks, x.Parity)) 0 x.Stripe) F cs w h
theorem loDeal_1 (x : Deal) : LoAt x 1 x.Slots := fun F cs w h => ((LoAt.snd LoAt.fst) : LoAt ((x.Stripe, x.Slots, x.Blocks, x.Parity)) 1 x.Slots) F cs w h
theorem loDeal_2 (x : Deal) : LoAt x 2 x.Blocks := fun F cs w h => ((LoAt.snd (LoAt.snd LoAt.fst)) : LoAt ((x.Stripe, x.Slots, x.Blocks, x.Parity)) 2 x.Blocks) F cs w h
theorem loDeal_3 (x : Deal) : LoAt x 3 x.Parity := fun F cs w h => ((LoAt.snd (LoAt.snd (LoAt.snd LoAt.self))) : LoAt ((x.Stripe, x.Slots, x.Blocks, x.Parity)) 3 x.Parity) F cs w h

structure Act37 where
  Disk : Int
  Kind : UInt8
  At : Int
  Data : List UInt8
  deriving Inhabited, DecidableEq
instance : Rp Act37 := Rp.via (inferInstance : Rp (Int × UInt8 × Int × (List UInt8))) (fun x => (x.Disk, x.Kind, x.At, x.Data))
theorem chAct37 (x : Act37) : Ch x [⟨inferInstance, x.Disk⟩, ⟨inferInstance, x.Kind⟩, ⟨inferInstance, x.At⟩, ⟨inferInstance, x.Data⟩] := Ch.via (ChT.cons (ChT.cons (ChT.cons (ChT.one _))))
instance : Lo Act37 := Lo.via (inferInstance : Rp (Int × UInt8 × Int × (List UInt8))) inferInstance (fun x : Act37 => (x.Disk, x.Kind, x.At, x.Data))
theorem loAct37_0 (x : Act37) : LoAt x 0 x.Disk := fun F cs w h => (LoAt.fst : LoAt ((x.Disk, x.Kind, x.At, x.Data)) 0 x.Disk) F cs w h
theorem loAct37_1 (x : Act37) : LoAt x 1 x.Kind := fun F cs w h => ((LoAt.snd LoAt.fst) : LoAt ((x.Disk, x.Kind, x.At, x.Data)) 1 x.Kind) F cs w h
theorem loAct37_2 (x : Act37) : LoAt x 2 x.At := fun F cs w h => ((LoAt.snd (LoAt.snd LoAt.fst)) : LoAt ((x.Disk, x.Kind, x.At, x.Data)) 2 x.At) F cs w h
theorem loAct37_3 (x : Act37) : LoAt x 3 x.Data := fun F cs w h => ((LoAt.snd (LoAt.snd (LoAt.snd LoAt.self))) : LoAt ((x.Disk, x.Kind, x.At, x.Data)) 3 x.Data) F cs w h

structure Arr3_Int where
  e0 : Int
  e1 : Int
  e2 : Int
  deriving Inhabited, DecidableEq
instance : Rp Arr3_Int := Rp.via (inferInstance : Rp (Int × Int × Int)) (fun x => (x.e0, x.e1, x.e2))
theorem chArr3_Int (x : Arr3_Int) : Ch x [⟨inferInstance, x.e0⟩, ⟨inferInstance, x.e1⟩, ⟨inferInstance, x.e2⟩] := Ch.via (ChT.cons (ChT.cons (ChT.one _)))
instance : Lo Arr3_Int := Lo.via (inferInstance : Rp (Int × Int × Int)) inferInstance (fun x : Arr3_Int => (x.e0, x.e1, x.e2))
theorem loArr3_Int_0 (x : Arr3_Int) : LoAt x 0 x.e0 := fun F cs w h => (LoAt.fst : LoAt ((x.e0, x.e1, x.e2)) 0 x.e0) F cs w h
theorem loArr3_Int_1 (x : Arr3_Int) : LoAt x 1 x.e1 := fun F cs w h => ((LoAt.snd LoAt.fst) : LoAt ((x.e0, x.e1, x.e2)) 1 x.e1) F cs w h
theorem loArr3_Int_2 (x : Arr3_Int) : LoAt x 2 x.e2 := fun F cs w h => ((LoAt.snd (LoAt.snd LoAt.self)) : LoAt ((x.e0, x.e1, x.e2)) 2 x.e2) F cs w h
instance : Flat Arr3_Int := ⟨fun F F' x cs w w' h => Flat.flat (α := Int × Int × Int) F F' ((x.e0, x.e1, x.e2)) cs w w' h⟩

structure Row78 where
  Config : Config
  n : Int
  deriving Inhabited, DecidableEq
instance : Rp Row78 := Rp.via (inferInstance : Rp (Config × Int)) (fun x => (x.Config, x.n))
theorem chRow78 (x : Row78) : Ch x [⟨inferInstance, x.Config⟩, ⟨inferInstance, x.n⟩] := Ch.via (ChT.cons (ChT.one _))
instance : Lo Row78 := Lo.via (inferInstance : Rp (Config × Int)) inferInstance (fun x : Row78 => (x.Config, x.n))
theorem loRow78_0 (x : Row78) : LoAt x 0 x.Config := fun F cs w h => (LoAt.fst : LoAt ((x.Config, x.n)) 0 x.Config) F cs w h
theorem loRow78_1 (x : Row78) : LoAt x 6 x.n := fun F cs w h => ((LoAt.snd LoAt.self) : LoAt ((x.Config, x.n)) 6 x.n) F cs w h
instance : Flat Row78 := ⟨fun F F' x cs w w' h => Flat.flat (α := Config × Int) F F' ((x.Config, x.n)) cs w w' h⟩

structure Arr4_FnI787980 where
  e0 : FnI [78, 79, 80]
  e1 : FnI [78, 79, 80]
  e2 : FnI [78, 79, 80]
  e3 : FnI [78, 79, 80]
  deriving Inhabited, DecidableEq
instance : Rp Arr4_FnI787980 := Rp.via (inferInstance : Rp ((FnI [78, 79, 80]) × (FnI [78, 79, 80]) × (FnI [78, 79, 80]) × (FnI [78, 79, 80]))) (fun x => (x.e0, x.e1, x.e2, x.e3))
theorem chArr4_FnI787980 (x : Arr4_FnI787980) : Ch x [⟨inferInstance, x.e0⟩, ⟨inferInstance, x.e1⟩, ⟨inferInstance, x.e2⟩, ⟨inferInstance, x.e3⟩] := Ch.via (ChT.cons (ChT.cons (ChT.cons (ChT.one _))))
instance : Flat Arr4_FnI787980 := ⟨fun F F' x cs w w' h => Flat.flat (α := (FnI [78, 79, 80]) × (FnI [78, 79, 80]) × (FnI [78, 79, 80]) × (FnI [78, 79, 80])) F F' ((x.e0, x.e1, x.e2, x.e3)) cs w w' h⟩

theorem zl37 : ZeroLs Try.prog 37 [(false, 1, Fact.rep [] ((0 : Int) : Int)), (false, 1, Fact.rep [] ((0 : UInt8) : UInt8)), (false, 1, Fact.rep [] ((0 : Int) : Int)), (false, 1, Fact.nilv)] := ⟨⟨[.int .i64 0, .int .u8 0, .int .i64 0, .slice none 0 0], by kernel_rfl, fun g w => FldRel.zr (fun _ _ => rfl) (FldRel.zr (fun _ _ => rfl) (FldRel.zr (fun _ _ => rfl) (FldRel.zn (rfl))))⟩⟩
theorem ow35 : OwnTy Try.prog 35 5 (UInt8) := OwnTy.of Try.underlying35 (by kernel_rfl) rfl (by kernel_rfl)
theorem zt5 : ZeroTy Try.prog 5 (0 : UInt8) := ⟨.int .u8 0, by kernel_rfl, fun _ => rfl⟩
theorem ty5 : Ty Try.prog 5 (UInt8) := Ty.of (by kernel_rfl)
theorem en24 : enters Try.prog 24 = true := by kernel_rfl
theorem bd37 : BuildTy Try.prog 37 [(0, 1), (1, 1), (2, 1), (3, 1)] [(false, 1, Fact.rep [] ((0 : Int) : Int)), (false, 1, Fact.rep [] ((0 : UInt8) : UInt8)), (false, 1, Fact.rep [] ((0 : Int) : Int)), (false, 1, Fact.nilv)] := ⟨⟨_, [.int .i64 0, .int .u8 0, .int .i64 0, .slice none 0 0], by kernel_rfl, Try.underlying37, (fun g w => FldRel.zr (fun _ _ => rfl) (FldRel.zr (fun _ _ => rfl) (FldRel.zr (fun _ _ => rfl) (FldRel.zn (rfl))))), by kernel_rfl⟩⟩
theorem ty37 : Ty Try.prog 37 (Act37) := Ty.of (by kernel_rfl)
theorem en17 : enters Try.prog 17 = true := by kernel_rfl
theorem ow31 : OwnTy Try.prog 31 37 (Act37) := OwnTy.of Try.underlying31 (by kernel_rfl) rfl (by kernel_rfl)
theorem zl24 : ZeroLs Try.prog 24 [(false, 1, Fact.rep [] ((0 : UInt32) : UInt32)), (false, 1, Fact.rep [] ((0 : Int) : Int)), (false, 1, Fact.rep [] ((0 : Int) : Int)), (false, 1, Fact.rep [] ((0 : Int) : Int)), (false, 1, Fact.rep [] ((0 : Int) : Int)), (false, 1, Fact.rep [] ((0 : Int) : Int))] := ⟨⟨[.int .u32 0, .int .i64 0, .int .i64 0, .int .i64 0, .int .i64 0, .int .i64 0], by kernel_rfl, fun g w => FldRel.zr (fun _ _ => rfl) (FldRel.zr (fun _ _ => rfl) (FldRel.zr (fun _ _ => rfl) (FldRel.zr (fun _ _ => rfl) (FldRel.zr (fun _ _ => rfl) (FldRel.zr (fun _ _ => rfl) (rfl))))))⟩⟩
theorem bd24 : BuildTy Try.prog 24 [(0, 1), (1, 1), (2, 1), (3, 1), (4, 1), (5, 1)] [(false, 1, Fact.rep [] ((0 : UInt32) : UInt32)), (false, 1, Fact.rep [] ((0 : Int) : Int)), (false, 1, Fact.rep [] ((0 : Int) : Int)), (false, 1, Fact.rep [] ((0 : Int) : Int)), (false, 1, Fact.rep [] ((0 : Int) : Int)), (false, 1, Fact.rep [] ((0 : Int) : Int))] := ⟨⟨_, [.int .u32 0, .int .i64 0, .int .i64 0, .int .i64 0, .int .i64 0, .int .i64 0], by kernel_rfl, Try.underlying24, (fun g w => FldRel.zr (fun _ _ => rfl) (FldRel.zr (fun _ _ => rfl) (FldRel.zr (fun _ _ => rfl) (FldRel.zr (fun _ _ => rfl) (FldRel.zr (fun _ _ => rfl) (FldRel.zr (fun _ _ => rfl) (rfl))))))), by kernel_rfl⟩⟩
theorem ty24 : Ty Try.prog 24 (Config) := Ty.of (by kernel_rfl)
theorem en13 : enters Try.prog 13 = true := by kernel_rfl
theorem zl43 : ZeroLs Try.prog 43 [(false, 1, Fact.rep [] ((0 : Int) : Int)), (false, 1, Fact.nilv), (false, 1, Fact.nilv), (false, 1, Fact.nilv)] := ⟨⟨[.int .i64 0, .slice none 0 0, .slice none 0 0, .slice none 0 0], by kernel_rfl, fun g w => FldRel.zr (fun _ _ => rfl) (FldRel.zn (FldRel.zn (FldRel.zn (rfl))))⟩⟩
theorem ow41 : OwnTy Try.prog 41 3 (Int) := OwnTy.of Try.underlying41 (by kernel_rfl) rfl (by kernel_rfl)
theorem ow25 : OwnTy Try.prog 25 35 (List UInt8) := OwnTy.of Try.underlying25 (by kernel_rfl) rfl (by kernel_rfl)
theorem bd43 : BuildTy Try.prog 43 [(0, 1), (1, 1), (2, 1), (3, 1)] [(false, 1, Fact.rep [] ((0 : Int) : Int)), (false, 1, Fact.nilv), (false, 1, Fact.nilv), (false, 1, Fact.nilv)] := ⟨⟨_, [.int .i64 0, .slice none 0 0, .slice none 0 0, .slice none 0 0], by kernel_rfl, Try.underlying43, (fun g w => FldRel.zr (fun _ _ => rfl) (FldRel.zn (FldRel.zn (FldRel.zn (rfl))))), by kernel_rfl⟩⟩
theorem ty43 : Ty Try.prog 43 (Deal) := Ty.of (by kernel_rfl)
theorem en11 : enters Try.prog 11 = true := by kernel_rfl
theorem fd24_2 : FieldTy Try.prog 24 2 2 1 := FieldTy.of Try.underlying24 (by kernel_rfl) rfl
theorem ty3 : Ty Try.prog 3 (Int) := Ty.of (by kernel_rfl)
theorem fd24_3 : FieldTy Try.prog 24 3 3 1 := FieldTy.of Try.underlying24 (by kernel_rfl) rfl
theorem fd24_1 : FieldTy Try.prog 24 1 1 1 := FieldTy.of Try.underlying24 (by kernel_rfl) rfl
theorem bd121 : BuildTyA Try.prog 121 [(0, 1), (1, 1), (2, 1)] [(false, 1, Fact.rep [] ((0 : Int) : Int)), (false, 1, Fact.rep [] ((0 : Int) : Int)), (false, 1, Fact.rep [] ((0 : Int) : Int))] := ⟨⟨_, _, 1, [.int .i64 0, .int .i64 0, .int .i64 0], by kernel_rfl, Try.underlying121, by kernel_rfl, (fun g w => FldRel.zr (fun _ _ => rfl) (FldRel.zr (fun _ _ => rfl) (FldRel.zr (fun _ _ => rfl) (rfl)))), rfl⟩⟩
theorem fd24_5 : FieldTy Try.prog 24 5 5 1 := FieldTy.of Try.underlying24 (by kernel_rfl) rfl
theorem ow132 : OwnTy Try.prog 132 121 (Arr3_Int) := OwnTy.of Try.underlying132 (by kernel_rfl) rfl (by kernel_rfl)
theorem sl132 : SlTy Try.prog 132 121 (Arr3_Int) := SlTy.of Try.underlying132 (by kernel_rfl) rfl
theorem ty121 : Ty Try.prog 121 (Arr3_Int) := Ty.of (by kernel_rfl)
theorem zl121 : ZeroLs Try.prog 121 [(false, 1, Fact.rep [] ((0 : Int) : Int)), (false, 1, Fact.rep [] ((0 : Int) : Int)), (false, 1, Fact.rep [] ((0 : Int) : Int))] := ⟨⟨[.int .i64 0, .int .i64 0, .int .i64 0], by kernel_rfl, fun g w => FldRel.zr (fun _ _ => rfl) (FldRel.zr (fun _ _ => rfl) (FldRel.zr (fun _ _ => rfl) (rfl)))⟩⟩
theorem sm121 : SmTy Try.prog 121 3 3 1 := ⟨Try.underlying121, by kernel_rfl⟩
theorem en68 : enters Try.prog 68 = true := by kernel_rfl
theorem fd24_4 : FieldTy Try.prog 24 4 4 1 := FieldTy.of Try.underlying24 (by kernel_rfl) rfl
theorem en38 : enters Try.prog 38 = true := by kernel_rfl
theorem en67 : enters Try.prog 67 = true := by kernel_rfl
theorem en37 : enters Try.prog 37 = true := by kernel_rfl
theorem fd43_2 : FieldTy Try.prog 43 2 2 1 := FieldTy.of Try.underlying43 (by kernel_rfl) rfl
theorem ty25 : Ty Try.prog 25 (List (List UInt8)) := Ty.of (by kernel_rfl)
theorem sl25 : SlTy Try.prog 25 35 (List UInt8) := SlTy.of Try.underlying25 (by kernel_rfl) rfl
theorem ty35 : Ty Try.prog 35 (List UInt8) := Ty.of (by kernel_rfl)
theorem en73 : enters Try.prog 73 = true := by kernel_rfl
theorem en44 : enters Try.prog 44 = true := by kernel_rfl
theorem en43 : enters Try.prog 43 = true := by kernel_rfl
theorem fd43_0 : FieldTy Try.prog 43 0 0 1 := FieldTy.of Try.underlying43 (by kernel_rfl) rfl
theorem fd43_1 : FieldTy Try.prog 43 1 1 1 := FieldTy.of Try.underlying43 (by kernel_rfl) rfl
theorem ty41 : Ty Try.prog 41 (List Int) := Ty.of (by kernel_rfl)
theorem sl41 : SlTy Try.prog 41 3 (Int) := SlTy.of Try.underlying41 (by kernel_rfl) rfl
theorem en45 : enters Try.prog 45 = true := by kernel_rfl
theorem fd43_3 : FieldTy Try.prog 43 3 3 1 := FieldTy.of Try.underlying43 (by kernel_rfl) rfl
theorem en22 : enters Try.prog 22 = true := by kernel_rfl
theorem en32 : enters Try.prog 32 = true := by kernel_rfl
theorem bd113 : BuildTy Try.prog 113 [(0, 6), (6, 1), (7, 1), (8, 1)] [(true, 6, Fact.flds [(false, 1, Fact.rep [] ((0 : UInt32) : UInt32)), (false, 1, Fact.rep [] ((0 : Int) : Int)), (false, 1, Fact.rep [] ((0 : Int) : Int)), (false, 1, Fact.rep [] ((0 : Int) : Int)), (false, 1, Fact.rep [] ((0 : Int) : Int)), (false, 1, Fact.rep [] ((0 : Int) : Int))]), (false, 1, Fact.rep [] ((0 : Int) : Int)), (false, 1, Fact.rep [] ((0 : Int) : Int)), (false, 1, Fact.nilv)] := ⟨⟨_, [.int .u32 0, .int .i64 0, .int .i64 0, .int .i64 0, .int .i64 0, .int .i64 0, .int .i64 0, .int .i64 0, .slice none 0 0], by kernel_rfl, Try.underlying113, (fun g w => FldRel.zs (c1 := [.int .u32 0, .int .i64 0, .int .i64 0, .int .i64 0, .int .i64 0, .int .i64 0]) (FldRel.zr (fun _ _ => rfl) (FldRel.zr (fun _ _ => rfl) (FldRel.zr (fun _ _ => rfl) (FldRel.zr (fun _ _ => rfl) (FldRel.zr (fun _ _ => rfl) (FldRel.zr (fun _ _ => rfl) (rfl))))))) (FldRel.zr (fun _ _ => rfl) (FldRel.zr (fun _ _ => rfl) (FldRel.zn (rfl))))), by kernel_rfl⟩⟩
theorem en63 : enters Try.prog 63 = true := by kernel_rfl
theorem en64 : enters Try.prog 64 = true := by kernel_rfl
theorem fd113_0 : FieldTy Try.prog 113 0 0 6 := FieldTy.of Try.underlying113 (by kernel_rfl) rfl
theorem fd113_2 : FieldTy Try.prog 113 2 7 1 := FieldTy.of Try.underlying113 (by kernel_rfl) rfl
theorem zl78 : ZeroLs Try.prog 78 [(false, 1, Fact.rep [] ((0 : UInt32) : UInt32)), (false, 1, Fact.rep [] ((0 : Int) : Int)), (false, 1, Fact.rep [] ((0 : Int) : Int)), (false, 1, Fact.rep [] ((0 : Int) : Int)), (false, 1, Fact.rep [] ((0 : Int) : Int)), (false, 1, Fact.rep [] ((0 : Int) : Int)), (false, 1, Fact.rep [] ((0 : Int) : Int))] := ⟨⟨[.int .u32 0, .int .i64 0, .int .i64 0, .int .i64 0, .int .i64 0, .int .i64 0, .int .i64 0], by kernel_rfl, fun g w => FldRel.zr (fun _ _ => rfl) (FldRel.zr (fun _ _ => rfl) (FldRel.zr (fun _ _ => rfl) (FldRel.zr (fun _ _ => rfl) (FldRel.zr (fun _ _ => rfl) (FldRel.zr (fun _ _ => rfl) (FldRel.zr (fun _ _ => rfl) (rfl)))))))⟩⟩
theorem bd78 : BuildTy Try.prog 78 [(0, 6), (6, 1)] [(true, 6, Fact.flds [(false, 1, Fact.rep [] ((0 : UInt32) : UInt32)), (false, 1, Fact.rep [] ((0 : Int) : Int)), (false, 1, Fact.rep [] ((0 : Int) : Int)), (false, 1, Fact.rep [] ((0 : Int) : Int)), (false, 1, Fact.rep [] ((0 : Int) : Int)), (false, 1, Fact.rep [] ((0 : Int) : Int))]), (false, 1, Fact.rep [] ((0 : Int) : Int))] := ⟨⟨_, [.int .u32 0, .int .i64 0, .int .i64 0, .int .i64 0, .int .i64 0, .int .i64 0, .int .i64 0], by kernel_rfl, Try.underlying78, (fun g w => FldRel.zs (c1 := [.int .u32 0, .int .i64 0, .int .i64 0, .int .i64 0, .int .i64 0, .int .i64 0]) (FldRel.zr (fun _ _ => rfl) (FldRel.zr (fun _ _ => rfl) (FldRel.zr (fun _ _ => rfl) (FldRel.zr (fun _ _ => rfl) (FldRel.zr (fun _ _ => rfl) (FldRel.zr (fun _ _ => rfl) (rfl))))))) (FldRel.zr (fun _ _ => rfl) (rfl))), by kernel_rfl⟩⟩
theorem ty78 : Ty Try.prog 78 (Row78) := Ty.of (by kernel_rfl)
theorem mixed : Try.prog.follows .mixedOrders = true := by kernel_rfl
theorem en65 : enters Try.prog 65 = true := by kernel_rfl
theorem en35 : enters Try.prog 35 = true := by kernel_rfl
theorem fd78_1 : FieldTy Try.prog 78 1 6 1 := FieldTy.of Try.underlying78 (by kernel_rfl) rfl
theorem fd78_0 : FieldTy Try.prog 78 0 0 6 := FieldTy.of Try.underlying78 (by kernel_rfl) rfl
theorem en66 : enters Try.prog 66 = true := by kernel_rfl
theorem en36 : enters Try.prog 36 = true := by kernel_rfl
theorem en10 : enters Try.prog 10 = true := by kernel_rfl
theorem fd113_1 : FieldTy Try.prog 113 1 6 1 := FieldTy.of Try.underlying113 (by kernel_rfl) rfl
theorem en62 : enters Try.prog 62 = true := by kernel_rfl
theorem fd113_3 : FieldTy Try.prog 113 3 8 1 := FieldTy.of Try.underlying113 (by kernel_rfl) rfl
theorem ty31 : Ty Try.prog 31 (List Act37) := Ty.of (by kernel_rfl)
theorem en34 : enters Try.prog 34 = true := by kernel_rfl
theorem en12 : enters Try.prog 12 = true := by kernel_rfl
theorem sl31 : SlTy Try.prog 31 37 (Act37) := SlTy.of Try.underlying31 (by kernel_rfl) rfl
theorem fd37_0 : FieldTy Try.prog 37 0 0 1 := FieldTy.of Try.underlying37 (by kernel_rfl) rfl
theorem fd37_1 : FieldTy Try.prog 37 1 1 1 := FieldTy.of Try.underlying37 (by kernel_rfl) rfl
theorem fd37_2 : FieldTy Try.prog 37 2 2 1 := FieldTy.of Try.underlying37 (by kernel_rfl) rfl
theorem fd37_3 : FieldTy Try.prog 37 3 3 1 := FieldTy.of Try.underlying37 (by kernel_rfl) rfl
theorem en18 : enters Try.prog 18 = true := by kernel_rfl
theorem en16 : enters Try.prog 16 = true := by kernel_rfl
theorem en7 : enters Try.prog 7 = true := by kernel_rfl
theorem sl53 : SlTy Try.prog 53 66 (Disk) := SlTy.of Try.underlying53 (by kernel_rfl) rfl
theorem ty66 : Ty Try.prog 66 (Disk) := Ty.of (by kernel_rfl)
theorem fd66_0 : FieldTy Try.prog 66 0 0 1 := FieldTy.of Try.underlying66 (by kernel_rfl) rfl
theorem fd66_1 : FieldTy Try.prog 66 1 1 1 := FieldTy.of Try.underlying66 (by kernel_rfl) rfl
theorem ty64 : Ty Try.prog 64 (List Write) := Ty.of (by kernel_rfl)
theorem sl64 : SlTy Try.prog 64 86 (Write) := SlTy.of Try.underlying64 (by kernel_rfl) rfl
theorem fd86_1 : FieldTy Try.prog 86 1 1 1 := FieldTy.of Try.underlying86 (by kernel_rfl) rfl
theorem en39 : enters Try.prog 39 = true := by kernel_rfl
theorem en19 : enters Try.prog 19 = true := by kernel_rfl
theorem en20 : enters Try.prog 20 = true := by kernel_rfl
theorem en40 : enters Try.prog 40 = true := by kernel_rfl
theorem zl66 : ZeroLs Try.prog 66 [(false, 1, Fact.nilv), (false, 1, Fact.nilv), (false, 1, Fact.rep [] (false : Bool))] := ⟨⟨[.slice none 0 0, .slice none 0 0, .bool false], by kernel_rfl, fun g w => FldRel.zn (FldRel.zn (FldRel.zr (fun _ _ => rfl) (rfl)))⟩⟩
theorem en41 : enters Try.prog 41 = true := by kernel_rfl
theorem zl3 : ZeroLs Try.prog 3 [(false, 1, Fact.rep [] ((0 : Int) : Int))] := ⟨⟨[.int .i64 0], by kernel_rfl, fun g w => FldRel.zr (fun _ _ => rfl) (rfl)⟩⟩
theorem en69 : enters Try.prog 69 = true := by kernel_rfl
theorem ty86 : Ty Try.prog 86 (Write) := Ty.of (by kernel_rfl)
theorem en84 : enters Try.prog 84 = true := by kernel_rfl
theorem fd86_0 : FieldTy Try.prog 86 0 0 1 := FieldTy.of Try.underlying86 (by kernel_rfl) rfl
theorem en71 : enters Try.prog 71 = true := by kernel_rfl
theorem en70 : enters Try.prog 70 = true := by kernel_rfl
theorem fd66_2 : FieldTy Try.prog 66 2 2 1 := FieldTy.of Try.underlying66 (by kernel_rfl) rfl
theorem ty4 : Ty Try.prog 4 (Bool) := Ty.of (by kernel_rfl)
theorem en72 : enters Try.prog 72 = true := by kernel_rfl
theorem en42 : enters Try.prog 42 = true := by kernel_rfl
theorem en21 : enters Try.prog 21 = true := by kernel_rfl
theorem en90 : enters Try.prog 90 = true := by kernel_rfl
theorem en81 : enters Try.prog 81 = true := by kernel_rfl
theorem en82 : enters Try.prog 82 = true := by kernel_rfl
theorem en52 : enters Try.prog 52 = true := by kernel_rfl
theorem en27 : enters Try.prog 27 = true := by kernel_rfl
theorem fd102_0 : FieldTy Try.prog 102 0 0 1 := FieldTy.of Try.underlying102 (by kernel_rfl) rfl
theorem fd102_1 : FieldTy Try.prog 102 1 1 1 := FieldTy.of Try.underlying102 (by kernel_rfl) rfl
theorem bd130 : BuildTyA Try.prog 130 [(0, 1), (1, 1), (2, 1), (3, 1)] [(false, 1, Fact.rep [] ((⟨0⟩ : FnI [78, 79, 80]) : FnI [78, 79, 80])), (false, 1, Fact.rep [] ((⟨0⟩ : FnI [78, 79, 80]) : FnI [78, 79, 80])), (false, 1, Fact.rep [] ((⟨0⟩ : FnI [78, 79, 80]) : FnI [78, 79, 80])), (false, 1, Fact.rep [] ((⟨0⟩ : FnI [78, 79, 80]) : FnI [78, 79, 80]))] := ⟨⟨_, _, 1, [.nilFunc, .nilFunc, .nilFunc, .nilFunc], by kernel_rfl, Try.underlying130, by kernel_rfl, (fun g w => FldRel.zr (fun _ _ => rfl) (FldRel.zr (fun _ _ => rfl) (FldRel.zr (fun _ _ => rfl) (FldRel.zr (fun _ _ => rfl) (rfl))))), rfl⟩⟩
theorem zl130 : ZeroLs Try.prog 130 [(false, 1, Fact.rep [] ((⟨0⟩ : FnI [78, 79, 80]) : FnI [78, 79, 80])), (false, 1, Fact.rep [] ((⟨0⟩ : FnI [78, 79, 80]) : FnI [78, 79, 80])), (false, 1, Fact.rep [] ((⟨0⟩ : FnI [78, 79, 80]) : FnI [78, 79, 80])), (false, 1, Fact.rep [] ((⟨0⟩ : FnI [78, 79, 80]) : FnI [78, 79, 80]))] := ⟨⟨[.nilFunc, .nilFunc, .nilFunc, .nilFunc], by kernel_rfl, fun g w => FldRel.zr (fun _ _ => rfl) (FldRel.zr (fun _ _ => rfl) (FldRel.zr (fun _ _ => rfl) (FldRel.zr (fun _ _ => rfl) (rfl))))⟩⟩
theorem ty130 : Ty Try.prog 130 (Arr4_FnI787980) := Ty.of (by kernel_rfl)
theorem sm130 : SmTy Try.prog 130 100 4 1 := ⟨Try.underlying130, by kernel_rfl⟩
theorem ty100 : Ty Try.prog 100 (FnI [78, 79, 80]) := Ty.of (by kernel_rfl)
theorem en51 : enters Try.prog 51 = true := by kernel_rfl
theorem fd102_2 : FieldTy Try.prog 102 2 2 1 := FieldTy.of Try.underlying102 (by kernel_rfl) rfl
theorem fd102_3 : FieldTy Try.prog 102 3 3 1 := FieldTy.of Try.underlying102 (by kernel_rfl) rfl
theorem en77 : enters Try.prog 77 = true := by kernel_rfl
theorem en49 : enters Try.prog 49 = true := by kernel_rfl
theorem bd66 : BuildTy Try.prog 66 [(0, 1), (1, 1), (2, 1)] [(false, 1, Fact.nilv), (false, 1, Fact.nilv), (false, 1, Fact.rep [] (false : Bool))] := ⟨⟨_, [.slice none 0 0, .slice none 0 0, .bool false], by kernel_rfl, Try.underlying66, (fun g w => FldRel.zn (FldRel.zn (FldRel.zr (fun _ _ => rfl) (rfl)))), by kernel_rfl⟩⟩
theorem zl86 : ZeroLs Try.prog 86 [(false, 1, Fact.rep [] ((0 : Int) : Int)), (false, 1, Fact.nilv)] := ⟨⟨[.int .i64 0, .slice none 0 0], by kernel_rfl, fun g w => FldRel.zr (fun _ _ => rfl) (FldRel.zn (rfl))⟩⟩
theorem bd86 : BuildTy Try.prog 86 [(0, 1), (1, 1)] [(false, 1, Fact.rep [] ((0 : Int) : Int)), (false, 1, Fact.nilv)] := ⟨⟨_, [.int .i64 0, .slice none 0 0], by kernel_rfl, Try.underlying86, (fun g w => FldRel.zr (fun _ _ => rfl) (FldRel.zn (rfl))), by kernel_rfl⟩⟩
theorem ow64 : OwnTy Try.prog 64 86 (Write) := OwnTy.of Try.underlying64 (by kernel_rfl) rfl (by kernel_rfl)
theorem en53 : enters Try.prog 53 = true := by kernel_rfl
theorem ow53 : OwnTy Try.prog 53 66 (Disk) := OwnTy.of Try.underlying53 (by kernel_rfl) rfl (by kernel_rfl)
theorem en50 : enters Try.prog 50 = true := by kernel_rfl
theorem en85 : enters Try.prog 85 = true := by kernel_rfl
theorem en91 : enters Try.prog 91 = true := by kernel_rfl
theorem en57 : enters Try.prog 57 = true := by kernel_rfl
theorem en87 : enters Try.prog 87 = true := by kernel_rfl
theorem en92 : enters Try.prog 92 = true := by kernel_rfl
theorem en93 : enters Try.prog 93 = true := by kernel_rfl
theorem zt86 : ZeroTy Try.prog 86 (Write.mk (0 : Int) ([] : List UInt8)) := ⟨.agg #[.int .i64 0, .slice none 0 0], by kernel_rfl, fun _ => ⟨[.int .i64 0], [.slice none 0 0], rfl, rfl, nil_rel⟩⟩
theorem en88 : enters Try.prog 88 = true := by kernel_rfl
theorem en89 : enters Try.prog 89 = true := by kernel_rfl
theorem en78 : enters Try.prog 78 = true := by kernel_rfl
theorem en79 : enters Try.prog 79 = true := by kernel_rfl
theorem en80 : enters Try.prog 80 = true := by kernel_rfl
theorem en26 : enters Try.prog 26 = true := by kernel_rfl
theorem sl26 : SlTy Try.prog 26 4 (Bool) := SlTy.of Try.underlying26 (by kernel_rfl) rfl
theorem ow26 : OwnTy Try.prog 26 4 (Bool) := OwnTy.of Try.underlying26 (by kernel_rfl) rfl (by kernel_rfl)
theorem zt4 : ZeroTy Try.prog 4 false := ⟨.bool false, by kernel_rfl, fun _ => rfl⟩
theorem en28 : enters Try.prog 28 = true := by kernel_rfl
theorem en83 : enters Try.prog 83 = true := by kernel_rfl
theorem en54 : enters Try.prog 54 = true := by kernel_rfl
theorem zl35 : ZeroLs Try.prog 35 [(false, 1, Fact.nilv)] := ⟨⟨[.slice none 0 0], by kernel_rfl, fun g w => FldRel.zn (rfl)⟩⟩
theorem zl32 : ZeroLs Try.prog 32 [(false, 1, Fact.rep [] ((0 : Int) : Int))] := ⟨⟨[.int .i64 0], by kernel_rfl, fun g w => FldRel.zr (fun _ _ => rfl) (rfl)⟩⟩
theorem en74 : enters Try.prog 74 = true := by kernel_rfl
theorem ty32 : Ty Try.prog 32 (Int) := Ty.of (by kernel_rfl)
theorem en75 : enters Try.prog 75 = true := by kernel_rfl
theorem en86 : enters Try.prog 86 = true := by kernel_rfl
theorem en47 : enters Try.prog 47 = true := by kernel_rfl
theorem en29 : enters Try.prog 29 = true := by kernel_rfl
theorem zl106 : ZeroLs Try.prog 106 [(false, 1, Fact.top)] := ⟨⟨[.nilFunc], by kernel_rfl, fun g w => FldRel.zt (rfl)⟩⟩
theorem tc106 : Ty Try.prog 106 Cell1 := Ty.of (by kernel_rfl)
theorem ty106 : Ty Try.prog 106 (Int) := Ty.of (by kernel_rfl)
theorem en56 : enters Try.prog 56 = true := by kernel_rfl
theorem en55 : enters Try.prog 55 = true := by kernel_rfl
theorem en59 : enters Try.prog 59 = true := by kernel_rfl
theorem en60 : enters Try.prog 60 = true := by kernel_rfl
theorem en58 : enters Try.prog 58 = true := by kernel_rfl
theorem en30 : enters Try.prog 30 = true := by kernel_rfl
def hd66 : HdS Disk (List UInt8) ((List Write) × Bool) := HdS.via (fun x : Disk => (x.Blocks, x.Wait, x.Dead))
theorem hes66 (y : Disk) : ∀ F cs w, (inferInstance : Rp ((List Write) × Bool)).rel F (hd66.tl y) cs w ↔ EntsRel F [⟨inferInstance, y.Wait⟩, ⟨inferInstance, y.Dead⟩] cs w := fun F cs w => (ChT.cons (ChT.one _) : ChT (α := (List Write) × Bool) (y.Wait, y.Dead) [⟨inferInstance, y.Wait⟩, ⟨inferInstance, y.Dead⟩]).rel F cs w

def law21_full_L1 (a0 : UInt8) (s2 : Int) (s3 : List UInt8) : Option (Ctl (Int × (List UInt8)) ((List UInt8))) :=
  (bif (decide (s2 < ((s3).length : Int))) then Option.bind (bnd (s3).length s2) (fun x5 => some (Ctl.next ((wI (s2 + (1 : Int))), (s3).set x5 a0))) else some (Ctl.brk s3))
/-- freeboard/freeboardlaw21.full -/
def law21_full (a0 : UInt8) : Option ((List UInt8)) :=
  Option.bind (makeL (0 : UInt8) (128 : Int)) (fun x1 => Option.bind (loopM (fun s : Int × (List UInt8) => law21_full_L1 a0 s.1 s.2) FUEL ((0 : Int), x1)) (fun b6 => some b6))
set_option maxRecDepth 100000 in
set_option maxHeartbeats 2000000 in
theorem law21_full_c (a0 : UInt8) {r : (List UInt8)} (hm : law21_full a0 = some r) : Ctr Try.prog 24 [.rep 0 a0] (.own 0 none 5 r) [] := by
 refine ctr_of_walk [[10]] 17 Try.func24 rfl rfl rfl rfl (fun w0 om => ?_)
 unfold law21_full at hm
 refine CWalk.sub (G' := [.fact 0 (.rep [] (a0 : UInt8))]) (Sub.cons (Has.fl (Has.s rfl)) Sub.nil) ?_
 refine CWalk.seq ?_
 refine CWalk.region ?_
 refine wo (Spec.assign Has.nilv) ?_
 refine Walk.nil ?_
 refine Leaf.thenN ?_
 refine CWalk.seq ?_
 refine CWalk.region ?_
 obtain ⟨x1, hx1, hm⟩ := bind_some hm
 refine ws (Step.makeOwn 10 hx1 rfl rfl ow35 zt5 Has.int) ?_
 refine wo (Spec.assign (Has.s rfl)) ?_
 refine Walk.nil ?_
 refine Leaf.thenN ?_
 refine CWalk.seq ?_
 refine CWalk.seq ?_
 refine CWalk.region ?_
 refine wo (Spec.assign Has.int) ?_
 refine Walk.nil ?_
 refine Leaf.thenN ?_
 refine CWalk.block ?_
 obtain ⟨b6, hb6, hm⟩ := bind_some hm
 refine CWalk.loop (fun s : Int × (List UInt8) => [.fact 0 (.rep [] (a0 : UInt8)), .fact 3 (.isv 10), .fact 4 (.rep [] s.1), .fact 100010 (.own 10 [] 5 (s.2 : List UInt8))]) (fun b : (List UInt8) => (Exit.exit 0, [.fact 3 (.isv 10), .fact 100010 (.own 10 [] 5 (b : List UInt8))])) hb6 (st (sn (st (Sub.cons (Has.ownM (Has.s rfl) rfl) Sub.nil)))) ?_ ?_
 ·rintro ⟨s2, s3⟩ c4 hm
  replace hm : law21_full_L1 a0 s2 s3 = some c4 := hm
  unfold law21_full_L1 at hm
  show CWalk _ [.fact 0 (.rep [] (a0 : UInt8)), .fact 3 (.isv 10), .fact 4 (.rep [] (s2 : Int)), .fact 100010 (.own 10 [] 5 (s3 : List UInt8))] _ _
  refine CWalk.seq ?_
  refine CWalk.seq ?_
  refine CWalk.region ?_
  refine mv ?_
  refine mv ?_
  refine wo (Spec.len (Has.cv (Has.s rfl) (Cv.own rfl)) Try.underlying35) ?_
  refine wo (Spec.lssI (Has.s rfl) (Has.s rfl)) ?_
  refine Walk.nil ?_
  refine Leaf.thenN ?_
  refine CWalk.cond rfl (fun hb => ?_) (fun hb => ?_)
  ·have hm := cond_t hb hm
   refine CWalk.skip ?_
   refine Leaf.thenN ?_
   refine CWalk.seq ?_
   refine CWalk.block ?_
   refine CWalk.region ?_
   refine mv ?_
   refine mv ?_
   refine mv ?_
   obtain ⟨x5, hx5, hm⟩ := bind_some hm
   refine wo (Spec.idxOwn hx5 ow35 (Has.s rfl) rfl (Has.s rfl)) ?_
   refine ws (Step.storeOwn (te' := []) rfl (bnd_lt hx5 rfl) ty5 (Has.s rfl) rfl (Has.s rfl) ElKeep.flat ElKeep.flat) ?_
   refine Walk.nil ?_
   refine Leaf.blockN ?_
   refine Leaf.thenN ?_
   refine CWalk.region ?_
   refine mv ?_
   refine wo (Spec.addI (Has.s rfl) Has.int) ?_
   refine wo (Spec.assign (Has.s rfl)) ?_
   refine Walk.nil ?_
   exact Leaf.next hm (st (sn (st (Sub.cons (Has.ownM (Has.s rfl) rfl) Sub.nil))))
  ·have hm := cond_f hb hm
   refine CWalk.exit ?_
   refine Leaf.thenE ?_
   exact Leaf.brk hm (fun h => nomatch h) rfl (sn (Sub.cons (Has.ownM (Has.s rfl) rfl) Sub.nil))
 ·intro _
  refine Leaf.blockE ?_
  refine Leaf.thenN ?_
  refine CWalk.seq ?_
  refine CWalk.region ?_
  refine mv ?_
  refine wo (Spec.assign (Has.s rfl)) ?_
  refine Walk.nil ?_
  refine Leaf.thenN ?_
  refine CWalk.ret ?_
  obtain rfl := Option.some.inj hm
  exact Leaf.retC1 rfl (HasR.cv (HasR.tmp (Has.s rfl)) (Cv.trans (Cv.isvOw rfl) (Cv.owF (T := [10]) (te := []) rfl)))

/-- freeboard/freeboardlaw21.write -/
def law21_write (a0 : Int) (a1 : Int) (a2 : UInt8) : Option (Act37) :=
  Option.bind (law21_full a2) (fun x1 => some (Act37.mk a0 (1 : UInt8) a1 x1))
set_option maxRecDepth 100000 in
set_option maxHeartbeats 2000000 in
theorem law21_write_c (a0 : Int) (a1 : Int) (a2 : UInt8) {r : Act37} (hm : law21_write a0 a1 a2 = some r) : Ctr Try.prog 17 [.rep 0 a0, .rep 0 a1, .rep 0 a2] (.flds [(false, 1, (.fl r.Disk)), (false, 1, (.fl r.Kind)), (false, 1, (.fl r.At)), (false, 1, (.own 0 none 5 r.Data))]) [] := by
 refine ctr_of_walk [[15]] 12 Try.func17 rfl rfl rfl rfl (fun w0 om => ?_)
 unfold law21_write at hm
 refine CWalk.sub (G' := [.fact 0 (.rep [] (a0 : Int)), .fact 1 (.rep [] (a1 : Int)), .fact 2 (.rep [] (a2 : UInt8))]) (Sub.cons (Has.fl (Has.s rfl)) (Sub.cons (Has.fl (Has.s rfl)) (Sub.cons (Has.fl (Has.s rfl)) Sub.nil))) ?_
 refine CWalk.seq ?_
 refine CWalk.region ?_
 refine ws (Step.allocObj (ls := [(false, 1, Fact.rep [] ((0 : Int) : Int)), (false, 1, Fact.rep [] ((0 : UInt8) : UInt8)), (false, 1, Fact.rep [] ((0 : Int) : Int)), (false, 1, Fact.nilv)]) 10 rfl rfl rfl rfl zl37) ?_
 refine Walk.nil ?_
 refine Leaf.thenN ?_
 refine CWalk.seq ?_
 refine CWalk.region ?_
 refine mv ?_
 refine mv ?_
 refine mv ?_
 obtain ⟨x1, hx1, hm⟩ := bind_some hm
 refine wo (f := Fact.ow [15] [] 5 (x1 : List UInt8)) (Spec.callE [] 15 rfl en24 (law21_full_c a2 hx1) (HasAll.cons (Has.fl (Has.s rfl)) HasAll.nil)) ?_
 refine wo (Spec.build (us := [(0, .tmp 7), (1, .const (.int .u8 1)), (2, .tmp 8), (3, .tmp 10)]) (ls' := [(false, 1, Fact.rep [] (a0 : Int)), (false, 1, Fact.rep [] ((1 : UInt8) : UInt8)), (false, 1, Fact.rep [] (a1 : Int)), (false, 1, Fact.ow [15] [] 5 (x1 : List UInt8))]) bd37 rfl (BP.cons rfl rfl (Has.s rfl) (Has.s rfl) (BP.cons rfl rfl (Has.u8 1 rfl) (Has.u8 1 rfl) (BP.cons rfl rfl (Has.s rfl) (Has.s rfl) (BP.cons rfl rfl (Has.cv (Has.s rfl) (Cv.trans Cv.owSl (Cv.slRep (T' := [15]) rfl rfl))) (Has.s rfl) BP.nil))))) ?_
 refine ws (Step.storeObj (ls := [(false, 1, Fact.rep [] (a0 : Int)), (false, 1, Fact.rep [] ((1 : UInt8) : UInt8)), (false, 1, Fact.rep [] (a1 : Int)), (false, 1, Fact.ow [15] [] 5 (x1 : List UInt8))]) rfl ty37 rfl rfl (Has.s rfl) rfl (HasL.flds (Has.s rfl)) rfl) ?_
 refine Walk.nil ?_
 refine Leaf.thenN ?_
 refine CWalk.ret ?_
 obtain rfl := Option.some.inj hm
 exact Leaf.retC1 rfl (HasR.cv (HasR.obj (ls := [(false, 1, Fact.rep [] (a0 : Int)), (false, 1, Fact.rep [] ((1 : UInt8) : UInt8)), (false, 1, Fact.rep [] (a1 : Int)), (false, 1, Fact.ow [15] [] 5 (x1 : List UInt8))]) ty37 rfl rfl (Has.s rfl) rfl (HasGs.cons (HasG.s rfl) (HasGs.cons (HasG.s rfl) (HasGs.cons (HasG.s rfl) (HasGs.cons (HasG.s rfl) HasGs.nil))))) (Cv.flds (CvL.cons Cv.fl (CvL.cons Cv.fl (CvL.cons Cv.fl (CvL.cons (Cv.owF (T := [15]) (te := []) rfl) CvL.nil))))))

/-- freeboard/freeboardlaw21.three -/
def law21_three : Option (Config) :=
  some (Config.mk (0 : UInt32) (3 : Int) (1 : Int) (2 : Int) (12 : Int) (2 : Int))
set_option maxRecDepth 100000 in
set_option maxHeartbeats 2000000 in
theorem law21_three_c {r : Config} (hm : law21_three = some r) : Ctr Try.prog 13 [] (.fl r) [] := by
 refine ctr_of_walk [[]] 2 Try.func13 rfl rfl rfl rfl (fun w0 om => ?_)
 unfold law21_three at hm
 refine CWalk.sub (G' := []) (Sub.nil) ?_
 refine CWalk.seq ?_
 refine CWalk.region ?_
 refine ws (Step.allocObj (ls := [(false, 1, Fact.rep [] ((0 : UInt32) : UInt32)), (false, 1, Fact.rep [] ((0 : Int) : Int)), (false, 1, Fact.rep [] ((0 : Int) : Int)), (false, 1, Fact.rep [] ((0 : Int) : Int)), (false, 1, Fact.rep [] ((0 : Int) : Int)), (false, 1, Fact.rep [] ((0 : Int) : Int))]) 10 rfl rfl rfl rfl zl24) ?_
 refine Walk.nil ?_
 refine Leaf.thenN ?_
 refine CWalk.seq ?_
 refine CWalk.region ?_
 refine wo (Spec.build (us := [(1, .const (.int .i64 3)), (2, .const (.int .i64 1)), (3, .const (.int .i64 2)), (4, .const (.int .i64 12)), (5, .const (.int .i64 2))]) (ls' := [(false, 1, Fact.rep [] ((0 : UInt32) : UInt32)), (false, 1, Fact.rep [] ((3 : Int) : Int)), (false, 1, Fact.rep [] ((1 : Int) : Int)), (false, 1, Fact.rep [] ((2 : Int) : Int)), (false, 1, Fact.rep [] ((12 : Int) : Int)), (false, 1, Fact.rep [] ((2 : Int) : Int))]) bd24 rfl (BP.cons rfl rfl Has.int Has.int (BP.cons rfl rfl Has.int Has.int (BP.cons rfl rfl Has.int Has.int (BP.cons rfl rfl Has.int Has.int (BP.cons rfl rfl Has.int Has.int BP.nil)))))) ?_
 refine ws (Step.storeObj (ls := [(false, 1, Fact.rep [] ((0 : UInt32) : UInt32)), (false, 1, Fact.rep [] ((3 : Int) : Int)), (false, 1, Fact.rep [] ((1 : Int) : Int)), (false, 1, Fact.rep [] ((2 : Int) : Int)), (false, 1, Fact.rep [] ((12 : Int) : Int)), (false, 1, Fact.rep [] ((2 : Int) : Int))]) rfl ty24 rfl rfl (Has.s rfl) rfl (HasL.flds (Has.s rfl)) rfl) ?_
 refine Walk.nil ?_
 refine Leaf.thenN ?_
 refine CWalk.ret ?_
 obtain rfl := Option.some.inj hm
 exact Leaf.retC1 rfl (HasR.cv (HasR.obj (ls := [(false, 1, Fact.rep [] ((0 : UInt32) : UInt32)), (false, 1, Fact.rep [] ((3 : Int) : Int)), (false, 1, Fact.rep [] ((1 : Int) : Int)), (false, 1, Fact.rep [] ((2 : Int) : Int)), (false, 1, Fact.rep [] ((12 : Int) : Int)), (false, 1, Fact.rep [] ((2 : Int) : Int))]) ty24 rfl rfl (Has.s rfl) rfl (HasGs.cons (HasG.s rfl) (HasGs.cons (HasG.s rfl) (HasGs.cons (HasG.s rfl) (HasGs.cons (HasG.s rfl) (HasGs.cons (HasG.s rfl) (HasGs.cons (HasG.s rfl) HasGs.nil))))))) (Cv.trans (Cv.trans (Cv.flds (CvL.cons Cv.fl (CvL.cons Cv.fl (CvL.cons Cv.fl (CvL.cons Cv.fl (CvL.cons Cv.fl (CvL.cons Cv.fl CvL.nil))))))) (Cv.close (T := []) (chConfig (Config.mk (0 : UInt32) (3 : Int) (1 : Int) (2 : Int) (12 : Int) (2 : Int))))) Cv.fl))

/-- freeboard/freeboardlaw21.one -/
def law21_one : Option (Deal) :=
  Option.bind (law21_full (120 : UInt8)) (fun x1 => Option.bind (law21_full (112 : UInt8)) (fun x2 => some (Deal.mk (1 : Int) ([(1 : Int)]) ([x1]) x2)))
set_option maxRecDepth 100000 in
set_option maxHeartbeats 2000000 in
theorem law21_one_c {r : Deal} (hm : law21_one = some r) : Ctr Try.prog 11 [] (.flds [(false, 1, (.fl r.Stripe)), (false, 1, (.rep 0 r.Slots)), (false, 1, (.rep 1 r.Blocks)), (false, 1, (.own 2 none 5 r.Parity))]) [] := by
 refine ctr_of_walk [[15], [16, 17], [18]] 6 Try.func11 rfl rfl rfl rfl (fun w0 om => ?_)
 unfold law21_one at hm
 refine CWalk.sub (G' := []) (Sub.nil) ?_
 refine CWalk.seq ?_
 refine CWalk.region ?_
 refine ws (Step.allocObj (ls := [(false, 1, Fact.rep [] ((0 : Int) : Int)), (false, 1, Fact.nilv), (false, 1, Fact.nilv), (false, 1, Fact.nilv)]) 10 rfl rfl rfl rfl zl43) ?_
 refine Walk.nil ?_
 refine Leaf.thenN ?_
 refine CWalk.seq ?_
 refine CWalk.region ?_
 refine wo (Spec.lit (xs := [.const (.int .i64 1)]) (T := []) 15 rfl ow41 rfl rfl rfl rfl (HasEach.cons (Has.fl Has.int) HasEach.nil)) ?_
 obtain ⟨x1, hx1, hm⟩ := bind_some hm
 refine wo (f := Fact.ow [16] [] 5 (x1 : List UInt8)) (Spec.callE [] 16 rfl en24 (law21_full_c (120 : UInt8) hx1) (HasAll.cons (Has.fl (Has.u8 120 rfl)) HasAll.nil)) ?_
 refine wo (Spec.lit (xs := [.tmp 2]) (T := [16]) 17 rfl ow25 rfl rfl rfl rfl (HasEach.cons (Has.m (Has.cv (Has.s rfl) (Cv.trans Cv.owSl (Cv.slRep (T' := [16]) rfl rfl))) rfl) HasEach.nil)) ?_
 obtain ⟨x2, hx2, hm⟩ := bind_some hm
 refine wo (f := Fact.ow [18] [] 5 (x2 : List UInt8)) (Spec.callE [] 18 rfl en24 (law21_full_c (112 : UInt8) hx2) (HasAll.cons (Has.fl (Has.u8 112 rfl)) HasAll.nil)) ?_
 refine wo (Spec.build (us := [(0, .const (.int .i64 1)), (1, .tmp 1), (2, .tmp 3), (3, .tmp 4)]) (ls' := [(false, 1, Fact.rep [] ((1 : Int) : Int)), (false, 1, Fact.rep [15] ([(1 : Int)] : List Int)), (false, 1, Fact.rep [17, 16] ([x1] : List (List UInt8))), (false, 1, Fact.ow [18] [] 5 (x2 : List UInt8))]) bd43 rfl (BP.cons rfl rfl Has.int Has.int (BP.cons rfl rfl (Has.s rfl) (Has.s rfl) (BP.cons rfl rfl (Has.s rfl) (Has.s rfl) (BP.cons rfl rfl (Has.cv (Has.s rfl) (Cv.trans Cv.owSl (Cv.slRep (T' := [18]) rfl rfl))) (Has.s rfl) BP.nil))))) ?_
 refine ws (Step.storeObj (ls := [(false, 1, Fact.rep [] ((1 : Int) : Int)), (false, 1, Fact.rep [15] ([(1 : Int)] : List Int)), (false, 1, Fact.rep [17, 16] ([x1] : List (List UInt8))), (false, 1, Fact.ow [18] [] 5 (x2 : List UInt8))]) rfl ty43 rfl rfl (Has.s rfl) rfl (HasL.flds (Has.s rfl)) rfl) ?_
 refine Walk.nil ?_
 refine Leaf.thenN ?_
 refine CWalk.ret ?_
 obtain rfl := Option.some.inj hm
 exact Leaf.retC1 rfl (HasR.cv (HasR.obj (ls := [(false, 1, Fact.rep [] ((1 : Int) : Int)), (false, 1, Fact.rep [15] ([(1 : Int)] : List Int)), (false, 1, Fact.rep [17, 16] ([x1] : List (List UInt8))), (false, 1, Fact.ow [18] [] 5 (x2 : List UInt8))]) ty43 rfl rfl (Has.s rfl) rfl (HasGs.cons (HasG.s rfl) (HasGs.cons (HasG.s rfl) (HasGs.cons (HasG.s rfl) (HasGs.cons (HasG.s rfl) HasGs.nil))))) (Cv.flds (CvL.cons Cv.fl (CvL.cons (Cv.m rfl) (CvL.cons (Cv.m rfl) (CvL.cons (Cv.owF (T := [18]) (te := []) rfl) CvL.nil))))))

def shape_bounds_L1 (a0 : List Arr3_Int) (s1 : Int) : Option (Ctl (Int) ((Unit) ⊕ (Unit))) :=
  (bif (decide (s1 < ((a0).length : Int))) then Option.bind (idx a0 s1) (fun x3 => (bif ((decide (x3.e0 < x3.e1)) || (decide (x3.e0 > x3.e2))) then some (Ctl.brk (Sum.inr ())) else some (Ctl.next (wI (s1 + (1 : Int)))))) else some (Ctl.brk (Sum.inl ())))
/-- freeboard/shape.bounds -/
def shape_bounds (a0 : List Arr3_Int) : Option (Bool) :=
  Option.bind (loopM (fun s : Int => shape_bounds_L1 a0 s) FUEL (0 : Int)) (fun b4 => Sum.elim (fun b5 => some true) (fun b6 => some false) b4)
set_option maxRecDepth 100000 in
set_option maxHeartbeats 2000000 in
theorem shape_bounds_c (a0 : List Arr3_Int) {r : Bool} (hm : shape_bounds a0 = some r) : Ctr Try.prog 68 [.rep 0 a0] (.fl r) [] := by
 refine ctr_of_walk [[]] 24 Try.func68 rfl rfl rfl rfl (fun w0 om => ?_)
 unfold shape_bounds at hm
 refine CWalk.sub (G' := [.fact 0 (.rep [0] (a0 : List Arr3_Int))]) (sn Sub.nil) ?_
 refine CWalk.seq ?_
 refine CWalk.region ?_
 refine wo (Spec.assign Has.bool) ?_
 refine Walk.nil ?_
 refine Leaf.thenN ?_
 refine CWalk.seq ?_
 refine CWalk.seq ?_
 refine CWalk.region ?_
 refine mv ?_
 refine wo (Spec.len (Has.s rfl) Try.underlying132) ?_
 refine wo (Spec.move Has.int) ?_
 refine Walk.nil ?_
 refine Leaf.thenN ?_
 refine CWalk.block ?_
 obtain ⟨b4, hb4, hm⟩ := bind_some hm
 refine CWalk.loop (fun s : Int => [.fact 5 (.rep [0] (a0 : List Arr3_Int)), .fact 6 (.rep [] (((a0).length : Int) : Int)), .fact 7 (.rep [] (s : Int))]) (fun b : (Unit) ⊕ (Unit) => Sum.elim (fun b => (Exit.exit 0, [])) (fun b => (Exit.ret, [.fact 2 (.rep [] (false : Bool))])) b) hb4 (su (st (st Sub.nil))) ?_ ?_
 ·rintro s1 c2 hm
  replace hm : shape_bounds_L1 a0 s1 = some c2 := hm
  unfold shape_bounds_L1 at hm
  show CWalk _ [.fact 5 (.rep [0] (a0 : List Arr3_Int)), .fact 6 (.rep [] (((a0).length : Int) : Int)), .fact 7 (.rep [] (s1 : Int))] _ _
  refine CWalk.seq ?_
  refine CWalk.region ?_
  refine wo (Spec.lssI (Has.s rfl) (Has.s rfl)) ?_
  refine Walk.nil ?_
  refine Leaf.thenN ?_
  refine CWalk.seq ?_
  refine CWalk.cond rfl (fun hb => ?_) (fun hb => ?_)
  ·have hm := cond_t hb hm
   refine CWalk.skip ?_
   refine Leaf.thenN ?_
   refine CWalk.seq ?_
   refine CWalk.block ?_
   refine CWalk.seq ?_
   refine CWalk.region ?_
   obtain ⟨x3, hx3, hm⟩ := bind_some hm
   refine wo (Spec.indexAddr hx3 sl132 (Has.s rfl) (Has.s rfl)) ?_
   refine wo ((Spec.load ty121 (Has.s rfl)).flat (T' := [])) ?_
   refine ws (Step.allocObj (ls := [(false, 1, Fact.rep [] ((0 : Int) : Int)), (false, 1, Fact.rep [] ((0 : Int) : Int)), (false, 1, Fact.rep [] ((0 : Int) : Int))]) 10 rfl rfl rfl rfl zl121) ?_
   refine ws (Step.storeObj (ls := [(false, 1, Fact.rep [] x3.e0), (false, 1, Fact.rep [] x3.e1), (false, 1, Fact.rep [] x3.e2)]) rfl ty121 rfl rfl (Has.s rfl) rfl (HasL.flds (Has.cv (Has.s rfl) (Cv.trans (Cv.opens (chArr3_Int x3)) (Cv.flds (CvL.cons Cv.fl (CvL.cons Cv.fl (CvL.cons Cv.fl CvL.nil))))))) rfl) ?_
   refine Walk.nil ?_
   refine Leaf.thenN ?_
   refine CWalk.seq ?_
   refine CWalk.region ?_
   refine wo (Spec.idxC (i := 0) sm121 rfl (Has.cv (Has.s rfl) (Cv.isvP rfl))) ?_
   refine wo (Spec.loadF (i := 0) ty3 rfl (Has.s rfl) rfl (HasG.s rfl)) ?_
   refine wo (Spec.idxC (i := 1) sm121 rfl (Has.cv (Has.s rfl) (Cv.isvP rfl))) ?_
   refine wo (Spec.loadF (i := 1) ty3 rfl (Has.s rfl) rfl (HasG.s rfl)) ?_
   refine wo (Spec.lssI (Has.s rfl) (Has.s rfl)) ?_
   refine mv ?_
   refine wg rfl rfl (fun hb => Spec.idxC (i := 0) sm121 rfl (Has.cv (Has.s rfl) (Cv.isvP rfl))) ?_
   refine wg rfl rfl (fun hb => Spec.loadF (i := 0) ty3 rfl (Has.u rfl hb) rfl (HasG.s rfl)) ?_
   refine wg rfl rfl (fun hb => Spec.idxC (i := 2) sm121 rfl (Has.cv (Has.s rfl) (Cv.isvP rfl))) ?_
   refine wg rfl rfl (fun hb => Spec.loadF (i := 2) ty3 rfl (Has.u rfl hb) rfl (HasG.s rfl)) ?_
   refine wg rfl rfl (fun hb => Spec.gtrI (Has.u rfl hb) (Has.u rfl hb)) ?_
   refine wo (Spec.or (Has.s rfl) (fun h => Has.u rfl h)) ?_
   refine Walk.nil ?_
   refine Leaf.thenN ?_
   refine CWalk.cond rfl (fun hb => ?_) (fun hb => ?_)
   ·have hm := cond_t hb hm
    refine CWalk.seq ?_
    refine CWalk.region ?_
    refine wo (Spec.assign Has.bool) ?_
    refine Walk.nil ?_
    refine Leaf.thenN ?_
    refine CWalk.ret ?_
    refine Leaf.blockR ?_
    refine Leaf.thenR ?_
    exact Leaf.brk hm (fun h => nomatch h) rfl (st Sub.nil)
   ·have hm := cond_f hb hm
    refine CWalk.skip ?_
    refine Leaf.blockN ?_
    refine Leaf.thenN ?_
    refine CWalk.region ?_
    refine wo (Spec.addI (Has.s rfl) Has.int) ?_
    refine mv ?_
    refine Walk.nil ?_
    exact Leaf.next hm (su (st (st Sub.nil)))
  ·have hm := cond_f hb hm
   refine CWalk.exit ?_
   refine Leaf.thenE ?_
   exact Leaf.brk hm (fun h => nomatch h) rfl (Sub.nil)
 ·intro _
  rcases b4 with b5 | b6
  ·have hm := selim_l hm
   refine Leaf.blockE ?_
   refine Leaf.thenN ?_
   refine CWalk.seq ?_
   refine CWalk.region ?_
   refine wo (Spec.assign Has.bool) ?_
   refine Walk.nil ?_
   refine Leaf.thenN ?_
   refine CWalk.ret ?_
   obtain rfl := Option.some.inj hm
   exact Leaf.retC1 rfl (HasR.cv (HasR.tmp (Has.s rfl)) Cv.fl)
  ·have hm := selim_r hm
   refine Leaf.blockR ?_
   refine Leaf.thenR ?_
   obtain rfl := Option.some.inj hm
   exact Leaf.retC1 rfl (HasR.cv (HasR.tmp (Has.s rfl)) Cv.fl)

/-- freeboard/shape.Check -/
def shape_Check (a0 : Config) : Option (Int) :=
  Option.bind (shape_bounds ([(Arr3_Int.mk a0.Members (3 : Int) (16 : Int)), (Arr3_Int.mk a0.Chunk (1 : Int) (8 : Int)), (Arr3_Int.mk a0.Rows (1 : Int) (8 : Int)), (Arr3_Int.mk a0.Heads (2 : Int) (8 : Int))])) (fun x1 => Option.bind (gO (!(!x1)) (shape_bounds ([(Arr3_Int.mk a0.Log (wI ((wI (a0.Members + (1 : Int))) * (wI (a0.Heads + (1 : Int))))) (255 : Int))]))) (fun x2 => (bif ((!x1) || (!x2)) then some (8 : Int) else some (0 : Int))))
set_option maxRecDepth 100000 in
set_option maxHeartbeats 2000000 in
theorem shape_Check_c (a0 : Config) {r : Int} (hm : shape_Check a0 = some r) : Ctr Try.prog 38 [.rep 0 a0] (.fl r) [] := by
 refine ctr_of_walk [[]] 35 Try.func38 rfl rfl rfl rfl (fun w0 om => ?_)
 unfold shape_Check at hm
 refine CWalk.sub (G' := [.fact 0 (.rep [] (a0 : Config))]) (Sub.cons (Has.fl (Has.s rfl)) Sub.nil) ?_
 refine CWalk.seq ?_
 refine CWalk.region ?_
 refine ws (Step.boxObj (ls := [(false, 1, Fact.rep [] a0.Id), (false, 1, Fact.rep [] a0.Members), (false, 1, Fact.rep [] a0.Chunk), (false, 1, Fact.rep [] a0.Rows), (false, 1, Fact.rep [] a0.Log), (false, 1, Fact.rep [] a0.Heads)]) 10 rfl rfl rfl rfl (HasL.flds (Has.cv (Has.s rfl) (Cv.trans (Cv.opens (chConfig a0)) (Cv.flds (CvL.cons Cv.fl (CvL.cons Cv.fl (CvL.cons Cv.fl (CvL.cons Cv.fl (CvL.cons Cv.fl (CvL.cons Cv.fl CvL.nil))))))))))) ?_
 refine wo (Spec.assign Has.int) ?_
 refine Walk.nil ?_
 refine Leaf.thenN ?_
 refine CWalk.seq ?_
 refine CWalk.region ?_
 refine wo (Spec.fieldAddrO fd24_1 (Has.cv (Has.s rfl) (Cv.isvP rfl))) ?_
 refine wo (Spec.loadF (i := 1) ty3 rfl (Has.s rfl) rfl (HasG.s rfl)) ?_
 refine wo (Spec.buildA (us := [(0, .tmp 5), (1, .const (.int .i64 3)), (2, .const (.int .i64 16))]) (ls' := [(false, 1, Fact.rep [] a0.Members), (false, 1, Fact.rep [] ((3 : Int) : Int)), (false, 1, Fact.rep [] ((16 : Int) : Int))]) bd121 rfl (BP.cons rfl rfl (Has.s rfl) (Has.s rfl) (BP.cons rfl rfl Has.int Has.int (BP.cons rfl rfl Has.int Has.int BP.nil)))) ?_
 refine wo (Spec.fieldAddrO fd24_2 (Has.cv (Has.s rfl) (Cv.isvP rfl))) ?_
 refine wo (Spec.loadF (i := 2) ty3 rfl (Has.s rfl) rfl (HasG.s rfl)) ?_
 refine wo (Spec.buildA (us := [(0, .tmp 8), (1, .const (.int .i64 1)), (2, .const (.int .i64 8))]) (ls' := [(false, 1, Fact.rep [] a0.Chunk), (false, 1, Fact.rep [] ((1 : Int) : Int)), (false, 1, Fact.rep [] ((8 : Int) : Int))]) bd121 rfl (BP.cons rfl rfl (Has.s rfl) (Has.s rfl) (BP.cons rfl rfl Has.int Has.int (BP.cons rfl rfl Has.int Has.int BP.nil)))) ?_
 refine wo (Spec.fieldAddrO fd24_3 (Has.cv (Has.s rfl) (Cv.isvP rfl))) ?_
 refine wo (Spec.loadF (i := 3) ty3 rfl (Has.s rfl) rfl (HasG.s rfl)) ?_
 refine wo (Spec.buildA (us := [(0, .tmp 11), (1, .const (.int .i64 1)), (2, .const (.int .i64 8))]) (ls' := [(false, 1, Fact.rep [] a0.Rows), (false, 1, Fact.rep [] ((1 : Int) : Int)), (false, 1, Fact.rep [] ((8 : Int) : Int))]) bd121 rfl (BP.cons rfl rfl (Has.s rfl) (Has.s rfl) (BP.cons rfl rfl Has.int Has.int (BP.cons rfl rfl Has.int Has.int BP.nil)))) ?_
 refine wo (Spec.fieldAddrO fd24_5 (Has.cv (Has.s rfl) (Cv.isvP rfl))) ?_
 refine wo (Spec.loadF (i := 5) ty3 rfl (Has.s rfl) rfl (HasG.s rfl)) ?_
 refine wo (Spec.buildA (us := [(0, .tmp 14), (1, .const (.int .i64 2)), (2, .const (.int .i64 8))]) (ls' := [(false, 1, Fact.rep [] a0.Heads), (false, 1, Fact.rep [] ((2 : Int) : Int)), (false, 1, Fact.rep [] ((8 : Int) : Int))]) bd121 rfl (BP.cons rfl rfl (Has.s rfl) (Has.s rfl) (BP.cons rfl rfl Has.int Has.int (BP.cons rfl rfl Has.int Has.int BP.nil)))) ?_
 refine wo (Spec.lit (xs := [.tmp 6, .tmp 9, .tmp 12, .tmp 15]) (T := []) 17 rfl ow132 rfl rfl rfl rfl (HasEach.cons (Has.fl (Has.cv (Has.s rfl) (Cv.trans (Cv.flds (CvL.cons Cv.fl (CvL.cons Cv.fl (CvL.cons Cv.fl CvL.nil)))) (Cv.close (T := []) (chArr3_Int (Arr3_Int.mk a0.Members (3 : Int) (16 : Int))))))) (HasEach.cons (Has.fl (Has.cv (Has.s rfl) (Cv.trans (Cv.flds (CvL.cons Cv.fl (CvL.cons Cv.fl (CvL.cons Cv.fl CvL.nil)))) (Cv.close (T := []) (chArr3_Int (Arr3_Int.mk a0.Chunk (1 : Int) (8 : Int))))))) (HasEach.cons (Has.fl (Has.cv (Has.s rfl) (Cv.trans (Cv.flds (CvL.cons Cv.fl (CvL.cons Cv.fl (CvL.cons Cv.fl CvL.nil)))) (Cv.close (T := []) (chArr3_Int (Arr3_Int.mk a0.Rows (1 : Int) (8 : Int))))))) (HasEach.cons (Has.fl (Has.cv (Has.s rfl) (Cv.trans (Cv.flds (CvL.cons Cv.fl (CvL.cons Cv.fl (CvL.cons Cv.fl CvL.nil)))) (Cv.close (T := []) (chArr3_Int (Arr3_Int.mk a0.Heads (2 : Int) (8 : Int))))))) HasEach.nil))))) ?_
 obtain ⟨x1, hx1, hm⟩ := bind_some hm
 refine wo (f := Fact.rep [] (x1 : Bool)) (Spec.callE [17] 18 rfl en68 (shape_bounds_c ([(Arr3_Int.mk a0.Members (3 : Int) (16 : Int)), (Arr3_Int.mk a0.Chunk (1 : Int) (8 : Int)), (Arr3_Int.mk a0.Rows (1 : Int) (8 : Int)), (Arr3_Int.mk a0.Heads (2 : Int) (8 : Int))]) hx1) (HasAll.cons (Has.m (Has.s rfl) rfl) HasAll.nil)) ?_
 refine wo (Spec.assign (Has.s rfl)) ?_
 refine Walk.nil ?_
 refine Leaf.thenN ?_
 refine CWalk.seq ?_
 refine CWalk.seq ?_
 refine CWalk.region ?_
 refine mv ?_
 refine wo (Spec.not (Has.s rfl)) ?_
 refine mv ?_
 refine wg rfl rfl (fun hb => Spec.fieldAddrO fd24_4 (Has.cv (Has.s rfl) (Cv.isvP rfl))) ?_
 refine wg rfl rfl (fun hb => Spec.loadF (i := 4) ty3 rfl (Has.u rfl hb) rfl (HasG.s rfl)) ?_
 refine wg rfl rfl (fun hb => Spec.fieldAddrO fd24_1 (Has.cv (Has.s rfl) (Cv.isvP rfl))) ?_
 refine wg rfl rfl (fun hb => Spec.loadF (i := 1) ty3 rfl (Has.u rfl hb) rfl (HasG.s rfl)) ?_
 refine wg rfl rfl (fun hb => Spec.addI (Has.u rfl hb) Has.int) ?_
 refine wg rfl rfl (fun hb => Spec.fieldAddrO fd24_5 (Has.cv (Has.s rfl) (Cv.isvP rfl))) ?_
 refine wg rfl rfl (fun hb => Spec.loadF (i := 5) ty3 rfl (Has.u rfl hb) rfl (HasG.s rfl)) ?_
 refine wg rfl rfl (fun hb => Spec.addI (Has.u rfl hb) Has.int) ?_
 refine wg rfl rfl (fun hb => Spec.mulI (Has.u rfl hb) (Has.u rfl hb)) ?_
 refine wg rfl rfl (fun hb => Spec.buildA (us := [(0, .tmp 22), (1, .tmp 29), (2, .const (.int .i64 255))]) (ls' := [(false, 1, Fact.rep [] a0.Log), (false, 1, Fact.rep [] ((wI ((wI (a0.Members + (1 : Int))) * (wI (a0.Heads + (1 : Int))))) : Int)), (false, 1, Fact.rep [] ((255 : Int) : Int))]) bd121 rfl (BP.cons rfl rfl (Has.u rfl hb) (Has.u rfl hb) (BP.cons rfl rfl (Has.u rfl hb) (Has.u rfl hb) (BP.cons rfl rfl Has.int Has.int BP.nil)))) ?_
 refine wg rfl rfl (fun hb => Spec.lit (xs := [.tmp 30]) (T := []) 19 rfl ow132 rfl rfl rfl rfl (HasEach.cons (Has.fl (Has.cv (Has.u rfl hb) (Cv.trans (Cv.flds (CvL.cons Cv.fl (CvL.cons Cv.fl (CvL.cons Cv.fl CvL.nil)))) (Cv.close (T := []) (chArr3_Int (Arr3_Int.mk a0.Log (wI ((wI (a0.Members + (1 : Int))) * (wI (a0.Heads + (1 : Int))))) (255 : Int))))))) HasEach.nil)) ?_
 obtain ⟨x2, hx2, hm⟩ := bind_some hm
 refine wg (f := Fact.rep [] (x2 : Bool)) rfl rfl (fun hb => Spec.callE [19] 20 rfl en68 (shape_bounds_c ([(Arr3_Int.mk a0.Log (wI ((wI (a0.Members + (1 : Int))) * (wI (a0.Heads + (1 : Int))))) (255 : Int))]) (gO_t hx2 (not_t hb))) (HasAll.cons (Has.m (Has.u rfl hb) rfl) HasAll.nil)) ?_
 refine wg rfl rfl (fun hb => Spec.not (Has.u rfl hb)) ?_
 refine wo (Spec.or (Has.s rfl) (fun h => Has.u rfl h)) ?_
 refine Walk.nil ?_
 refine Leaf.thenN ?_
 refine CWalk.cond rfl (fun hb => ?_) (fun hb => ?_)
 ·have hm := cond_t hb hm
  refine CWalk.seq ?_
  refine CWalk.region ?_
  refine wo (Spec.assign Has.int) ?_
  refine Walk.nil ?_
  refine Leaf.thenN ?_
  refine CWalk.ret ?_
  refine Leaf.thenR ?_
  obtain rfl := Option.some.inj hm
  exact Leaf.retC1 rfl (HasR.cv (HasR.tmp (Has.s rfl)) Cv.fl)
 ·have hm := cond_f hb hm
  refine CWalk.skip ?_
  refine Leaf.thenN ?_
  refine CWalk.seq ?_
  refine CWalk.region ?_
  refine wo (Spec.assign Has.int) ?_
  refine Walk.nil ?_
  refine Leaf.thenN ?_
  refine CWalk.ret ?_
  obtain rfl := Option.some.inj hm
  exact Leaf.retC1 rfl (HasR.cv (HasR.tmp (Has.s rfl)) Cv.fl)

/-- freeboard/shape.told -/
def shape_told (a0 : Config) (a1 : Int) : Option (Int × Int) :=
  Option.bind (shape_Check a0) (fun x1 => (bif (x1 != (0 : Int)) then some ((0 : Int), x1) else some (a1, (0 : Int))))
set_option maxRecDepth 100000 in
set_option maxHeartbeats 2000000 in
theorem shape_told_c (a0 : Config) (a1 : Int) {r : Int × Int} (hm : shape_told a0 a1 = some r) : Ctr Try.prog 67 [.rep 0 a0, .rep 0 a1] (.tup2 (.fl r.1) (.fl r.2)) [] := by
 refine ctr_of_walk [[]] 13 Try.func67 rfl rfl rfl rfl (fun w0 om => ?_)
 unfold shape_told at hm
 refine CWalk.sub (G' := [.fact 0 (.rep [] (a0 : Config)), .fact 1 (.rep [] (a1 : Int))]) (Sub.cons (Has.fl (Has.s rfl)) (Sub.cons (Has.fl (Has.s rfl)) Sub.nil)) ?_
 refine CWalk.seq ?_
 refine CWalk.region ?_
 refine ws (Step.boxObj (ls := [(false, 1, Fact.rep [] a0.Id), (false, 1, Fact.rep [] a0.Members), (false, 1, Fact.rep [] a0.Chunk), (false, 1, Fact.rep [] a0.Rows), (false, 1, Fact.rep [] a0.Log), (false, 1, Fact.rep [] a0.Heads)]) 10 rfl rfl rfl rfl (HasL.flds (Has.cv (Has.s rfl) (Cv.trans (Cv.opens (chConfig a0)) (Cv.flds (CvL.cons Cv.fl (CvL.cons Cv.fl (CvL.cons Cv.fl (CvL.cons Cv.fl (CvL.cons Cv.fl (CvL.cons Cv.fl CvL.nil))))))))))) ?_
 refine wo (Spec.assign Has.int) ?_
 refine wo (Spec.assign Has.int) ?_
 refine Walk.nil ?_
 refine Leaf.thenN ?_
 refine CWalk.seq ?_
 refine CWalk.seq ?_
 refine CWalk.region ?_
 refine wo (Spec.loadObj (ls := [(false, 1, Fact.rep [] a0.Id), (false, 1, Fact.rep [] a0.Members), (false, 1, Fact.rep [] a0.Chunk), (false, 1, Fact.rep [] a0.Rows), (false, 1, Fact.rep [] a0.Log), (false, 1, Fact.rep [] a0.Heads)]) ty24 rfl rfl (Has.s rfl) rfl (HasGs.cons (HasG.s rfl) (HasGs.cons (HasG.s rfl) (HasGs.cons (HasG.s rfl) (HasGs.cons (HasG.s rfl) (HasGs.cons (HasG.s rfl) (HasGs.cons (HasG.s rfl) HasGs.nil))))))) ?_
 obtain ⟨x1, hx1, hm⟩ := bind_some hm
 refine wo (f := Fact.rep [] (x1 : Int)) (Spec.callE [] 17 rfl en38 (shape_Check_c a0 hx1) (HasAll.cons (Has.fl (Has.cv (Has.s rfl) (Cv.trans (Cv.flds (CvL.cons Cv.fl (CvL.cons Cv.fl (CvL.cons Cv.fl (CvL.cons Cv.fl (CvL.cons Cv.fl (CvL.cons Cv.fl CvL.nil))))))) (Cv.close (T := []) (chConfig a0))))) HasAll.nil)) ?_
 refine wo (Spec.assign (Has.s rfl)) ?_
 refine Walk.nil ?_
 refine Leaf.thenN ?_
 refine CWalk.seq ?_
 refine CWalk.region ?_
 refine mv ?_
 refine wo (Spec.neqI (Has.s rfl) Has.int) ?_
 refine Walk.nil ?_
 refine Leaf.thenN ?_
 refine CWalk.cond rfl (fun hb => ?_) (fun hb => ?_)
 ·have hm := cond_t hb hm
  refine CWalk.seq ?_
  refine CWalk.region ?_
  refine mv ?_
  refine wo (Spec.assign Has.int) ?_
  refine wo (Spec.assign (Has.s rfl)) ?_
  refine Walk.nil ?_
  refine Leaf.thenN ?_
  refine CWalk.ret ?_
  refine Leaf.thenR ?_
  obtain rfl := Option.some.inj hm
  exact Leaf.retC2 rfl (HasR.cv (HasR.tmp (Has.s rfl)) Cv.fl) (HasR.cv (HasR.tmp (Has.s rfl)) Cv.fl)
 ·have hm := cond_f hb hm
  refine CWalk.skip ?_
  refine Leaf.thenN ?_
  refine CWalk.seq ?_
  refine CWalk.region ?_
  refine mv ?_
  refine wo (Spec.assign (Has.s rfl)) ?_
  refine wo (Spec.assign Has.int) ?_
  refine Walk.nil ?_
  refine Leaf.thenN ?_
  refine CWalk.ret ?_
  obtain rfl := Option.some.inj hm
  exact Leaf.retC2 rfl (HasR.cv (HasR.tmp (Has.s rfl)) Cv.fl) (HasR.cv (HasR.tmp (Has.s rfl)) Cv.fl)

/-- freeboard/shape.Stripes -/
def shape_Stripes (a0 : Config) : Option (Int × Int) :=
  Option.bind (shape_told a0 (wI (a0.Chunk * a0.Rows))) (fun x1 => some (x1.1, x1.2))
set_option maxRecDepth 100000 in
set_option maxHeartbeats 2000000 in
theorem shape_Stripes_c (a0 : Config) {r : Int × Int} (hm : shape_Stripes a0 = some r) : Ctr Try.prog 37 [.rep 0 a0] (.tup2 (.fl r.1) (.fl r.2)) [] := by
 refine ctr_of_walk [[]] 13 Try.func37 rfl rfl rfl rfl (fun w0 om => ?_)
 unfold shape_Stripes at hm
 refine CWalk.sub (G' := [.fact 0 (.rep [] (a0 : Config))]) (Sub.cons (Has.fl (Has.s rfl)) Sub.nil) ?_
 refine CWalk.seq ?_
 refine CWalk.region ?_
 refine ws (Step.boxObj (ls := [(false, 1, Fact.rep [] a0.Id), (false, 1, Fact.rep [] a0.Members), (false, 1, Fact.rep [] a0.Chunk), (false, 1, Fact.rep [] a0.Rows), (false, 1, Fact.rep [] a0.Log), (false, 1, Fact.rep [] a0.Heads)]) 10 rfl rfl rfl rfl (HasL.flds (Has.cv (Has.s rfl) (Cv.trans (Cv.opens (chConfig a0)) (Cv.flds (CvL.cons Cv.fl (CvL.cons Cv.fl (CvL.cons Cv.fl (CvL.cons Cv.fl (CvL.cons Cv.fl (CvL.cons Cv.fl CvL.nil))))))))))) ?_
 refine wo (Spec.assign Has.int) ?_
 refine wo (Spec.assign Has.int) ?_
 refine Walk.nil ?_
 refine Leaf.thenN ?_
 refine CWalk.seq ?_
 refine CWalk.region ?_
 refine wo (Spec.loadObj (ls := [(false, 1, Fact.rep [] a0.Id), (false, 1, Fact.rep [] a0.Members), (false, 1, Fact.rep [] a0.Chunk), (false, 1, Fact.rep [] a0.Rows), (false, 1, Fact.rep [] a0.Log), (false, 1, Fact.rep [] a0.Heads)]) ty24 rfl rfl (Has.s rfl) rfl (HasGs.cons (HasG.s rfl) (HasGs.cons (HasG.s rfl) (HasGs.cons (HasG.s rfl) (HasGs.cons (HasG.s rfl) (HasGs.cons (HasG.s rfl) (HasGs.cons (HasG.s rfl) HasGs.nil))))))) ?_
 refine wo (Spec.fieldAddrO fd24_2 (Has.cv (Has.s rfl) (Cv.isvP rfl))) ?_
 refine wo (Spec.loadF (i := 2) ty3 rfl (Has.s rfl) rfl (HasG.s rfl)) ?_
 refine wo (Spec.fieldAddrO fd24_3 (Has.cv (Has.s rfl) (Cv.isvP rfl))) ?_
 refine wo (Spec.loadF (i := 3) ty3 rfl (Has.s rfl) rfl (HasG.s rfl)) ?_
 refine wo (Spec.mulI (Has.s rfl) (Has.s rfl)) ?_
 obtain ⟨x1, hx1, hm⟩ := bind_some hm
 refine wo (f := Fact.tup2 (Fact.rep [] x1.1) (Fact.rep [] x1.2)) (Spec.callE [] 17 rfl en67 (shape_told_c a0 (wI (a0.Chunk * a0.Rows)) hx1) (HasAll.cons (Has.fl (Has.cv (Has.s rfl) (Cv.trans (Cv.flds (CvL.cons Cv.fl (CvL.cons Cv.fl (CvL.cons Cv.fl (CvL.cons Cv.fl (CvL.cons Cv.fl (CvL.cons Cv.fl CvL.nil))))))) (Cv.close (T := []) (chConfig a0))))) (HasAll.cons (Has.fl (Has.s rfl)) HasAll.nil))) ?_
 refine wo (Spec.ext0 (Has.s rfl)) ?_
 refine wo (Spec.ext1 (Has.s rfl)) ?_
 refine wo (Spec.assign (Has.s rfl)) ?_
 refine wo (Spec.assign (Has.s rfl)) ?_
 refine Walk.nil ?_
 refine Leaf.thenN ?_
 refine CWalk.ret ?_
 obtain rfl := Option.some.inj hm
 exact Leaf.retC2 rfl (HasR.cv (HasR.tmp (Has.s rfl)) Cv.fl) (HasR.cv (HasR.tmp (Has.s rfl)) Cv.fl)

def slices_IndexFunc_byte_byte_L1 (a0 : List (List UInt8)) (a1 : (List UInt8) → Option Bool) (s1 : Int) : Option (Ctl (Int) ((Unit) ⊕ (Int))) :=
  (bif (decide (s1 < ((a0).length : Int))) then Option.bind (idx a0 s1) (fun x3 => Option.bind (a1 x3) (fun x4 => (bif x4 then some (Ctl.brk (Sum.inr s1)) else some (Ctl.next (wI (s1 + (1 : Int))))))) else some (Ctl.brk (Sum.inl ())))
/-- slices.IndexFunc[[][]byte,[]byte] -/
def slices_IndexFunc_byte_byte (a0 : List (List UInt8)) (a1 : (List UInt8) → Option Bool) : Option (Int) :=
  Option.bind (loopM (fun s : Int => slices_IndexFunc_byte_byte_L1 a0 a1 s) FUEL (0 : Int)) (fun b5 => Sum.elim (fun b6 => some (-1 : Int)) (fun b7 => some b7) b5)
set_option maxRecDepth 100000 in
set_option maxHeartbeats 2000000 in
theorem slices_IndexFunc_byte_byte_c (a0 : List (List UInt8)) (a1 : (List UInt8) → Option Bool) {r : Int} (hm : slices_IndexFunc_byte_byte a0 a1 = some r) : Ctr Try.prog 73 [.rep 0 a0, .fn Try.prog pre1 0 a1] (.fl r) [] := by
 refine ctr_of_walk [[]] 19 Try.func73 rfl rfl rfl rfl (fun w0 om => ?_)
 unfold slices_IndexFunc_byte_byte at hm
 refine CWalk.sub (G' := [.fact 0 (.rep [0] (a0 : List (List UInt8))), .fact 1 (.fn Try.prog pre1 [0] (a1))]) (sn (sn Sub.nil)) ?_
 refine CWalk.seq ?_
 refine CWalk.region ?_
 refine wo (Spec.assign Has.int) ?_
 refine Walk.nil ?_
 refine Leaf.thenN ?_
 refine CWalk.seq ?_
 refine CWalk.seq ?_
 refine CWalk.region ?_
 refine mv ?_
 refine wo (Spec.len (Has.s rfl) Try.underlying25) ?_
 refine wo (Spec.move Has.int) ?_
 refine Walk.nil ?_
 refine Leaf.thenN ?_
 refine CWalk.block ?_
 obtain ⟨b5, hb5, hm⟩ := bind_some hm
 refine CWalk.loop (fun s : Int => [.fact 0 (.rep [0] (a0 : List (List UInt8))), .fact 1 (.fn Try.prog pre1 [0] (a1)), .fact 7 (.rep [] (((a0).length : Int) : Int)), .fact 8 (.rep [] (s : Int))]) (fun b : (Unit) ⊕ (Int) => Sum.elim (fun b => (Exit.exit 0, [])) (fun b => (Exit.ret, [.fact 4 (.rep [] (b : Int))])) b) hb5 (su (sn (st (st Sub.nil)))) ?_ ?_
 ·rintro s1 c2 hm
  replace hm : slices_IndexFunc_byte_byte_L1 a0 a1 s1 = some c2 := hm
  unfold slices_IndexFunc_byte_byte_L1 at hm
  show CWalk _ [.fact 0 (.rep [0] (a0 : List (List UInt8))), .fact 1 (.fn Try.prog pre1 [0] (a1)), .fact 7 (.rep [] (((a0).length : Int) : Int)), .fact 8 (.rep [] (s1 : Int))] _ _
  refine CWalk.seq ?_
  refine CWalk.region ?_
  refine wo (Spec.lssI (Has.s rfl) (Has.s rfl)) ?_
  refine Walk.nil ?_
  refine Leaf.thenN ?_
  refine CWalk.seq ?_
  refine CWalk.cond rfl (fun hb => ?_) (fun hb => ?_)
  ·have hm := cond_t hb hm
   refine CWalk.skip ?_
   refine Leaf.thenN ?_
   refine CWalk.seq ?_
   refine CWalk.block ?_
   refine CWalk.seq ?_
   refine CWalk.region ?_
   refine mv ?_
   refine wo (Spec.assign (Has.s rfl)) ?_
   refine Walk.nil ?_
   refine Leaf.thenN ?_
   refine CWalk.seq ?_
   refine CWalk.region ?_
   refine mv ?_
   refine mv ?_
   refine mv ?_
   obtain ⟨x3, hx3, hm⟩ := bind_some hm
   refine wo (Spec.indexAddr hx3 sl25 (Has.s rfl) (Has.s rfl)) ?_
   refine wo (Spec.load ty35 (Has.s rfl)) ?_
   obtain ⟨x4, hx4, hm⟩ := bind_some hm
   refine wo (Spec.callFn (xs := [.tmp 15]) (x := x3) [0] 10 rfl hx4 (Has.s rfl) (HasAll.cons (Has.m (Has.s rfl) rfl) HasAll.nil)) ?_
   refine Walk.nil ?_
   refine Leaf.thenN ?_
   refine CWalk.cond rfl (fun hb => ?_) (fun hb => ?_)
   ·have hm := cond_t hb hm
    refine CWalk.seq ?_
    refine CWalk.region ?_
    refine mv ?_
    refine wo (Spec.assign (Has.s rfl)) ?_
    refine Walk.nil ?_
    refine Leaf.thenN ?_
    refine CWalk.ret ?_
    refine Leaf.blockR ?_
    refine Leaf.thenR ?_
    exact Leaf.brk hm (fun h => nomatch h) rfl (st Sub.nil)
   ·have hm := cond_f hb hm
    refine CWalk.skip ?_
    refine Leaf.blockN ?_
    refine Leaf.thenN ?_
    refine CWalk.region ?_
    refine wo (Spec.addI (Has.s rfl) Has.int) ?_
    refine mv ?_
    refine Walk.nil ?_
    exact Leaf.next hm (su (sn (st (st Sub.nil))))
  ·have hm := cond_f hb hm
   refine CWalk.exit ?_
   refine Leaf.thenE ?_
   exact Leaf.brk hm (fun h => nomatch h) rfl (Sub.nil)
 ·intro _
  rcases b5 with b6 | b7
  ·have hm := selim_l hm
   refine Leaf.blockE ?_
   refine Leaf.thenN ?_
   refine CWalk.seq ?_
   refine CWalk.region ?_
   refine wo (Spec.assign Has.int) ?_
   refine Walk.nil ?_
   refine Leaf.thenN ?_
   refine CWalk.ret ?_
   obtain rfl := Option.some.inj hm
   exact Leaf.retC1 rfl (HasR.cv (HasR.tmp (Has.s rfl)) Cv.fl)
  ·have hm := selim_r hm
   refine Leaf.blockR ?_
   refine Leaf.thenR ?_
   obtain rfl := Option.some.inj hm
   exact Leaf.retC1 rfl (HasR.cv (HasR.tmp (Has.s rfl)) Cv.fl)

/-- slices.ContainsFunc[[][]byte,[]byte] -/
def slices_ContainsFunc_byte_byte (a0 : List (List UInt8)) (a1 : (List UInt8) → Option Bool) : Option (Bool) :=
  Option.bind (slices_IndexFunc_byte_byte a0 a1) (fun x1 => some (decide (x1 ≥ (0 : Int))))
set_option maxRecDepth 100000 in
set_option maxHeartbeats 2000000 in
theorem slices_ContainsFunc_byte_byte_c (a0 : List (List UInt8)) (a1 : (List UInt8) → Option Bool) {r : Bool} (hm : slices_ContainsFunc_byte_byte a0 a1 = some r) : Ctr Try.prog 43 [.rep 0 a0, .fn Try.prog pre1 0 a1] (.fl r) [] := by
 refine ctr_of_walk [[]] 9 Try.func43 rfl rfl rfl rfl (fun w0 om => ?_)
 unfold slices_ContainsFunc_byte_byte at hm
 refine CWalk.sub (G' := [.fact 0 (.rep [0] (a0 : List (List UInt8))), .fact 1 (.fn Try.prog pre1 [0] (a1))]) (sn (sn Sub.nil)) ?_
 refine CWalk.seq ?_
 refine CWalk.region ?_
 refine wo (Spec.assign Has.bool) ?_
 refine Walk.nil ?_
 refine Leaf.thenN ?_
 refine CWalk.seq ?_
 refine CWalk.region ?_
 refine mv ?_
 refine mv ?_
 obtain ⟨x1, hx1, hm⟩ := bind_some hm
 refine wo (f := Fact.rep [] (x1 : Int)) (Spec.callE [0] 10 rfl en73 (slices_IndexFunc_byte_byte_c a0 a1 hx1) (HasAll.cons (Has.m (Has.s rfl) rfl) (HasAll.cons (Has.cv (Has.s rfl) (Cv.fnM rfl)) HasAll.nil))) ?_
 refine wo (Spec.geqI (Has.s rfl) Has.int) ?_
 refine wo (Spec.assign (Has.s rfl)) ?_
 refine Walk.nil ?_
 refine Leaf.thenN ?_
 refine CWalk.ret ?_
 obtain rfl := Option.some.inj hm
 exact Leaf.retC1 rfl (HasR.cv (HasR.tmp (Has.s rfl)) Cv.fl)

/-- freeboard/deal.Check$1 -/
def deal_Check_1 (a0 : List UInt8) : Option (Bool) :=
  some ((((a0).length : Int) != (0 : Int)) && (((a0).length : Int) != (128 : Int)))
set_option maxRecDepth 100000 in
set_option maxHeartbeats 2000000 in
theorem deal_Check_1_c (a0 : List UInt8) {r : Bool} (hm : deal_Check_1 a0 = some r) : Ctr Try.prog 44 [.rep 0 a0] (.fl r) [] := by
 refine ctr_of_walk [[]] 11 Try.func44 rfl rfl rfl rfl (fun w0 om => ?_)
 unfold deal_Check_1 at hm
 refine CWalk.sub (G' := [.fact 0 (.rep [0] (a0 : List UInt8))]) (sn Sub.nil) ?_
 refine CWalk.seq ?_
 refine CWalk.region ?_
 refine wo (Spec.assign Has.bool) ?_
 refine Walk.nil ?_
 refine Leaf.thenN ?_
 refine CWalk.seq ?_
 refine CWalk.region ?_
 refine mv ?_
 refine wo (Spec.len (Has.s rfl) Try.underlying35) ?_
 refine wo (Spec.neqI (Has.s rfl) Has.int) ?_
 refine mv ?_
 refine wg rfl rfl (fun hb => Spec.move (Has.s rfl)) ?_
 refine wg rfl rfl (fun hb => Spec.len (Has.u rfl hb) Try.underlying35) ?_
 refine wg rfl rfl (fun hb => Spec.neqI (Has.u rfl hb) Has.int) ?_
 refine wo (Spec.and (Has.s rfl) (fun h => Has.u rfl h)) ?_
 refine wo (Spec.assign (Has.s rfl)) ?_
 refine Walk.nil ?_
 refine Leaf.thenN ?_
 refine CWalk.ret ?_
 obtain rfl := Option.some.inj hm
 exact Leaf.retC1 rfl (HasR.cv (HasR.tmp (Has.s rfl)) Cv.fl)

def deal_slots_L1 (a0 : Config) (a1 : List Int) (s1 : Int) (s2 : Int) : Option (Ctl (Int × Int) ((Unit) ⊕ (Unit))) :=
  (bif (decide (s2 < ((a1).length : Int))) then Option.bind (idx a1 s2) (fun x4 => (bif ((decide (x4 ≤ s1)) || (decide (x4 > (wI (a0.Members - (2 : Int)))))) then some (Ctl.brk (Sum.inr ())) else some (Ctl.next (x4, (wI (s2 + (1 : Int))))))) else some (Ctl.brk (Sum.inl ())))
/-- freeboard/deal.slots -/
def deal_slots (a0 : Config) (a1 : List Int) : Option (Bool) :=
  Option.bind (loopM (fun s : Int × Int => deal_slots_L1 a0 a1 s.1 s.2) FUEL ((-1 : Int), (0 : Int))) (fun b5 => Sum.elim (fun b6 => some (decide (((a1).length : Int) > (0 : Int)))) (fun b7 => some false) b5)
set_option maxRecDepth 100000 in
set_option maxHeartbeats 2000000 in
theorem deal_slots_c (a0 : Config) (a1 : List Int) {r : Bool} (hm : deal_slots a0 a1 = some r) : Ctr Try.prog 45 [.rep 0 a0, .rep 0 a1] (.fl r) [] := by
 refine ctr_of_walk [[]] 29 Try.func45 rfl rfl rfl rfl (fun w0 om => ?_)
 unfold deal_slots at hm
 refine CWalk.sub (G' := [.fact 0 (.rep [] (a0 : Config)), .fact 1 (.rep [0] (a1 : List Int))]) (Sub.cons (Has.fl (Has.s rfl)) (sn Sub.nil)) ?_
 refine CWalk.seq ?_
 refine CWalk.region ?_
 refine ws (Step.boxObj (ls := [(false, 1, Fact.rep [] a0.Id), (false, 1, Fact.rep [] a0.Members), (false, 1, Fact.rep [] a0.Chunk), (false, 1, Fact.rep [] a0.Rows), (false, 1, Fact.rep [] a0.Log), (false, 1, Fact.rep [] a0.Heads)]) 10 rfl rfl rfl rfl (HasL.flds (Has.cv (Has.s rfl) (Cv.trans (Cv.opens (chConfig a0)) (Cv.flds (CvL.cons Cv.fl (CvL.cons Cv.fl (CvL.cons Cv.fl (CvL.cons Cv.fl (CvL.cons Cv.fl (CvL.cons Cv.fl CvL.nil))))))))))) ?_
 refine wo (Spec.assign Has.bool) ?_
 refine Walk.nil ?_
 refine Leaf.thenN ?_
 refine CWalk.seq ?_
 refine CWalk.region ?_
 refine wo (Spec.assign Has.int) ?_
 refine Walk.nil ?_
 refine Leaf.thenN ?_
 refine CWalk.seq ?_
 refine CWalk.seq ?_
 refine CWalk.region ?_
 refine mv ?_
 refine wo (Spec.len (Has.s rfl) Try.underlying41) ?_
 refine wo (Spec.move Has.int) ?_
 refine Walk.nil ?_
 refine Leaf.thenN ?_
 refine CWalk.block ?_
 obtain ⟨b5, hb5, hm⟩ := bind_some hm
 refine CWalk.loop (fun s : Int × Int => [.fact 1 (.rep [0] (a1 : List Int)), .fact 2 (.isv 10), .fact 5 (.rep [] s.1), .fact 8 (.rep [0] (a1 : List Int)), .fact 9 (.rep [] (((a1).length : Int) : Int)), .fact 10 (.rep [] s.2), .fact 100011 (.at 11 (.rep [] a0.Id)), .fact 100012 (.at 12 (.rep [] a0.Members)), .fact 100013 (.at 13 (.rep [] a0.Chunk)), .fact 100014 (.at 14 (.rep [] a0.Rows)), .fact 100015 (.at 15 (.rep [] a0.Log)), .fact 100016 (.at 16 (.rep [] a0.Heads)), .fact 100010 (.obj 10 [(false, 1), (false, 1), (false, 1), (false, 1), (false, 1), (false, 1)])]) (fun b : (Unit) ⊕ (Unit) => Sum.elim (fun b => (Exit.exit 0, [.fact 1 (.rep [0] (a1 : List Int))])) (fun b => (Exit.ret, [.fact 4 (.rep [] (false : Bool))])) b) hb5 (su (sn (st (su (st (st (sf (sf (sf (sf (sf (sf (sn Sub.nil))))))))))))) ?_ ?_
 ·rintro ⟨s1, s2⟩ c3 hm
  replace hm : deal_slots_L1 a0 a1 s1 s2 = some c3 := hm
  unfold deal_slots_L1 at hm
  show CWalk _ [.fact 1 (.rep [0] (a1 : List Int)), .fact 2 (.isv 10), .fact 5 (.rep [] (s1 : Int)), .fact 8 (.rep [0] (a1 : List Int)), .fact 9 (.rep [] (((a1).length : Int) : Int)), .fact 10 (.rep [] (s2 : Int)), .fact 100011 (.at 11 (.rep [] a0.Id)), .fact 100012 (.at 12 (.rep [] a0.Members)), .fact 100013 (.at 13 (.rep [] a0.Chunk)), .fact 100014 (.at 14 (.rep [] a0.Rows)), .fact 100015 (.at 15 (.rep [] a0.Log)), .fact 100016 (.at 16 (.rep [] a0.Heads)), .fact 100010 (.obj 10 [(false, 1), (false, 1), (false, 1), (false, 1), (false, 1), (false, 1)])] _ _
  refine CWalk.seq ?_
  refine CWalk.region ?_
  refine wo (Spec.lssI (Has.s rfl) (Has.s rfl)) ?_
  refine Walk.nil ?_
  refine Leaf.thenN ?_
  refine CWalk.seq ?_
  refine CWalk.cond rfl (fun hb => ?_) (fun hb => ?_)
  ·have hm := cond_t hb hm
   refine CWalk.skip ?_
   refine Leaf.thenN ?_
   refine CWalk.seq ?_
   refine CWalk.block ?_
   refine CWalk.seq ?_
   refine CWalk.region ?_
   obtain ⟨x4, hx4, hm⟩ := bind_some hm
   refine wo (Spec.indexAddr hx4 sl41 (Has.s rfl) (Has.s rfl)) ?_
   refine wo ((Spec.load ty3 (Has.s rfl)).flat (T' := [])) ?_
   refine wo (Spec.assign (Has.s rfl)) ?_
   refine Walk.nil ?_
   refine Leaf.thenN ?_
   refine CWalk.seq ?_
   refine CWalk.seq ?_
   refine CWalk.region ?_
   refine mv ?_
   refine mv ?_
   refine wo (Spec.leqI (Has.s rfl) (Has.s rfl)) ?_
   refine mv ?_
   refine wg rfl rfl (fun hb => Spec.move (Has.s rfl)) ?_
   refine wg rfl rfl (fun hb => Spec.fieldAddrO fd24_1 (Has.cv (Has.s rfl) (Cv.isvP rfl))) ?_
   refine wg rfl rfl (fun hb => Spec.loadF (i := 1) ty3 rfl (Has.u rfl hb) rfl (HasG.s rfl)) ?_
   refine wg rfl rfl (fun hb => Spec.subI (Has.u rfl hb) Has.int) ?_
   refine wg rfl rfl (fun hb => Spec.gtrI (Has.u rfl hb) (Has.u rfl hb)) ?_
   refine wo (Spec.or (Has.s rfl) (fun h => Has.u rfl h)) ?_
   refine Walk.nil ?_
   refine Leaf.thenN ?_
   refine CWalk.cond rfl (fun hb => ?_) (fun hb => ?_)
   ·have hm := cond_t hb hm
    refine CWalk.seq ?_
    refine CWalk.region ?_
    refine wo (Spec.assign Has.bool) ?_
    refine Walk.nil ?_
    refine Leaf.thenN ?_
    refine CWalk.ret ?_
    refine Leaf.thenR ?_
    refine Leaf.blockR ?_
    refine Leaf.thenR ?_
    exact Leaf.brk hm (fun h => nomatch h) rfl (st Sub.nil)
   ·have hm := cond_f hb hm
    refine CWalk.skip ?_
    refine Leaf.thenN ?_
    refine CWalk.region ?_
    refine mv ?_
    refine wo (Spec.assign (Has.s rfl)) ?_
    refine Walk.nil ?_
    refine Leaf.blockN ?_
    refine Leaf.thenN ?_
    refine CWalk.region ?_
    refine wo (Spec.addI (Has.s rfl) Has.int) ?_
    refine mv ?_
    refine Walk.nil ?_
    exact Leaf.next hm (su (sn (st (su (st (st (sf (sf (sf (sf (sf (sf (sn Sub.nil)))))))))))))
  ·have hm := cond_f hb hm
   refine CWalk.exit ?_
   refine Leaf.thenE ?_
   exact Leaf.brk hm (fun h => nomatch h) rfl (su Sub.nil)
 ·intro _
  rcases b5 with b6 | b7
  ·have hm := selim_l hm
   refine Leaf.blockE ?_
   refine Leaf.thenN ?_
   refine CWalk.seq ?_
   refine CWalk.region ?_
   refine mv ?_
   refine wo (Spec.len (Has.s rfl) Try.underlying41) ?_
   refine wo (Spec.gtrI (Has.s rfl) Has.int) ?_
   refine wo (Spec.assign (Has.s rfl)) ?_
   refine Walk.nil ?_
   refine Leaf.thenN ?_
   refine CWalk.ret ?_
   obtain rfl := Option.some.inj hm
   exact Leaf.retC1 rfl (HasR.cv (HasR.tmp (Has.s rfl)) Cv.fl)
  ·have hm := selim_r hm
   refine Leaf.blockR ?_
   refine Leaf.thenR ?_
   obtain rfl := Option.some.inj hm
   exact Leaf.retC1 rfl (HasR.cv (HasR.tmp (Has.s rfl)) Cv.fl)

/-- freeboard/deal.Check -/
def deal_Check (a0 : Config) (a1 : Deal) : Option (Int) :=
  Option.bind (shape_Stripes a0) (fun x1 => (bif (x1.2 != (0 : Int)) then some x1.2 else Option.bind (slices_ContainsFunc_byte_byte a1.Blocks (fun y => deal_Check_1 y)) (fun x2 => Option.bind (gO (!((x2 || (decide (a1.Stripe < (0 : Int)))) || (decide (a1.Stripe ≥ x1.1)))) (deal_slots a0 a1.Slots)) (fun x3 => (bif (((((x2 || (decide (a1.Stripe < (0 : Int)))) || (decide (a1.Stripe ≥ x1.1))) || (!x3)) || (((a1.Blocks).length : Int) != ((a1.Slots).length : Int))) || ((((a1.Parity).length : Int) != (0 : Int)) && (((a1.Parity).length : Int) != (128 : Int)))) then some (8 : Int) else some (0 : Int))))))
set_option maxRecDepth 100000 in
set_option maxHeartbeats 2000000 in
theorem deal_Check_c (a0 : Config) (a1 : Deal) {r : Int} (hm : deal_Check a0 a1 = some r) : Ctr Try.prog 22 [.rep 0 a0, .rep 0 a1] (.fl r) [] := by
 refine ctr_of_walk [[]] 59 Try.func22 rfl rfl rfl rfl (fun w0 om => ?_)
 unfold deal_Check at hm
 refine CWalk.sub (G' := [.fact 0 (.rep [] (a0 : Config)), .fact 1 (.rep [0] (a1 : Deal))]) (Sub.cons (Has.fl (Has.s rfl)) (sn Sub.nil)) ?_
 refine CWalk.seq ?_
 refine CWalk.region ?_
 refine ws (Step.boxObj (ls := [(false, 1, Fact.rep [] a0.Id), (false, 1, Fact.rep [] a0.Members), (false, 1, Fact.rep [] a0.Chunk), (false, 1, Fact.rep [] a0.Rows), (false, 1, Fact.rep [] a0.Log), (false, 1, Fact.rep [] a0.Heads)]) 10 rfl rfl rfl rfl (HasL.flds (Has.cv (Has.s rfl) (Cv.trans (Cv.opens (chConfig a0)) (Cv.flds (CvL.cons Cv.fl (CvL.cons Cv.fl (CvL.cons Cv.fl (CvL.cons Cv.fl (CvL.cons Cv.fl (CvL.cons Cv.fl CvL.nil))))))))))) ?_
 refine ws (Step.boxObj (ls := [(false, 1, Fact.rep [] a1.Stripe), (false, 1, Fact.rep [0] a1.Slots), (false, 1, Fact.rep [0] a1.Blocks), (false, 1, Fact.rep [0] a1.Parity)]) 17 rfl rfl rfl rfl (HasL.flds (Has.cv (Has.s rfl) (Cv.trans (Cv.opens (chDeal a1)) (Cv.flds (CvL.cons Cv.fl (CvL.cons Cv.refl (CvL.cons Cv.refl (CvL.cons Cv.refl CvL.nil))))))))) ?_
 refine wo (Spec.assign Has.int) ?_
 refine Walk.nil ?_
 refine Leaf.thenN ?_
 refine CWalk.seq ?_
 refine CWalk.region ?_
 refine wo (Spec.loadObj (ls := [(false, 1, Fact.rep [] a0.Id), (false, 1, Fact.rep [] a0.Members), (false, 1, Fact.rep [] a0.Chunk), (false, 1, Fact.rep [] a0.Rows), (false, 1, Fact.rep [] a0.Log), (false, 1, Fact.rep [] a0.Heads)]) ty24 rfl rfl (Has.s rfl) rfl (HasGs.cons (HasG.s rfl) (HasGs.cons (HasG.s rfl) (HasGs.cons (HasG.s rfl) (HasGs.cons (HasG.s rfl) (HasGs.cons (HasG.s rfl) (HasGs.cons (HasG.s rfl) HasGs.nil))))))) ?_
 obtain ⟨x1, hx1, hm⟩ := bind_some hm
 refine wo (f := Fact.tup2 (Fact.rep [] x1.1) (Fact.rep [] x1.2)) (Spec.callE [] 22 rfl en37 (shape_Stripes_c a0 hx1) (HasAll.cons (Has.fl (Has.cv (Has.s rfl) (Cv.trans (Cv.flds (CvL.cons Cv.fl (CvL.cons Cv.fl (CvL.cons Cv.fl (CvL.cons Cv.fl (CvL.cons Cv.fl (CvL.cons Cv.fl CvL.nil))))))) (Cv.close (T := []) (chConfig a0))))) HasAll.nil)) ?_
 refine mv ?_
 refine wo (Spec.ext0 (Has.s rfl)) ?_
 refine wo (Spec.ext1 (Has.s rfl)) ?_
 refine wo (Spec.assign (Has.s rfl)) ?_
 refine wo (Spec.assign (Has.s rfl)) ?_
 refine Walk.nil ?_
 refine Leaf.thenN ?_
 refine CWalk.seq ?_
 refine CWalk.seq ?_
 refine CWalk.region ?_
 refine mv ?_
 refine wo (Spec.neqI (Has.s rfl) Has.int) ?_
 refine Walk.nil ?_
 refine Leaf.thenN ?_
 refine CWalk.cond rfl (fun hb => ?_) (fun hb => ?_)
 ·have hm := cond_t hb hm
  refine CWalk.seq ?_
  refine CWalk.region ?_
  refine mv ?_
  refine wo (Spec.assign (Has.s rfl)) ?_
  refine Walk.nil ?_
  refine Leaf.thenN ?_
  refine CWalk.ret ?_
  refine Leaf.thenR ?_
  obtain rfl := Option.some.inj hm
  exact Leaf.retC1 rfl (HasR.cv (HasR.tmp (Has.s rfl)) Cv.fl)
 ·have hm := cond_f hb hm
  refine CWalk.skip ?_
  refine Leaf.thenN ?_
  refine CWalk.seq ?_
  refine CWalk.region ?_
  refine wo (Spec.fieldAddrO fd43_2 (Has.cv (Has.s rfl) (Cv.isvP rfl))) ?_
  refine wo (Spec.loadF (i := 2) ty25 rfl (Has.s rfl) rfl (HasG.s rfl)) ?_
  obtain ⟨x2, hx2, hm⟩ := bind_some hm
  refine wo (f := Fact.rep [] (x2 : Bool)) (Spec.callE [0] 23 rfl en43 (slices_ContainsFunc_byte_byte_c a1.Blocks (fun y => deal_Check_1 y) hx2) (HasAll.cons (Has.m (Has.s rfl) rfl) (HasAll.cons (Has.cv Has.func (Cv.fn (pu := []) (pc := []) (shc := []) en44 CvF.nil CvF.nil (fun y r h => deal_Check_1_c y h))) HasAll.nil))) ?_
  refine wo (Spec.assign (Has.s rfl)) ?_
  refine Walk.nil ?_
  refine Leaf.thenN ?_
  refine CWalk.seq ?_
  refine CWalk.seq ?_
  refine CWalk.region ?_
  refine mv ?_
  refine mv ?_
  refine wg rfl rfl (fun hb => Spec.fieldAddrO fd43_0 (Has.cv (Has.s rfl) (Cv.isvP rfl))) ?_
  refine wg rfl rfl (fun hb => Spec.loadF (i := 0) ty3 rfl (Has.u rfl hb) rfl (HasG.s rfl)) ?_
  refine wg rfl rfl (fun hb => Spec.lssI (Has.u rfl hb) Has.int) ?_
  refine wo (Spec.or (Has.s rfl) (fun h => Has.u rfl h)) ?_
  refine mv ?_
  refine wg rfl rfl (fun hb => Spec.fieldAddrO fd43_0 (Has.cv (Has.s rfl) (Cv.isvP rfl))) ?_
  refine wg rfl rfl (fun hb => Spec.loadF (i := 0) ty3 rfl (Has.u rfl hb) rfl (HasG.s rfl)) ?_
  refine wg rfl rfl (fun hb => Spec.move (Has.s rfl)) ?_
  refine wg rfl rfl (fun hb => Spec.geqI (Has.u rfl hb) (Has.u rfl hb)) ?_
  refine wo (Spec.or (Has.s rfl) (fun h => Has.u rfl h)) ?_
  refine mv ?_
  refine wg rfl rfl (fun hb => Spec.loadObj (ls := [(false, 1, Fact.rep [] a0.Id), (false, 1, Fact.rep [] a0.Members), (false, 1, Fact.rep [] a0.Chunk), (false, 1, Fact.rep [] a0.Rows), (false, 1, Fact.rep [] a0.Log), (false, 1, Fact.rep [] a0.Heads)]) ty24 rfl rfl (Has.s rfl) rfl (HasGs.cons (HasG.s rfl) (HasGs.cons (HasG.s rfl) (HasGs.cons (HasG.s rfl) (HasGs.cons (HasG.s rfl) (HasGs.cons (HasG.s rfl) (HasGs.cons (HasG.s rfl) HasGs.nil))))))) ?_
  refine wg rfl rfl (fun hb => Spec.fieldAddrO fd43_1 (Has.cv (Has.s rfl) (Cv.isvP rfl))) ?_
  refine wg rfl rfl (fun hb => Spec.loadF (i := 1) ty41 rfl (Has.u rfl hb) rfl (HasG.s rfl)) ?_
  obtain ⟨x3, hx3, hm⟩ := bind_some hm
  refine wg (f := Fact.rep [] (x3 : Bool)) rfl rfl (fun hb => Spec.callE [0] 24 rfl en45 (deal_slots_c a0 a1.Slots (gO_t hx3 (not_t hb))) (HasAll.cons (Has.fl (Has.cv (Has.u rfl hb) (Cv.trans (Cv.flds (CvL.cons Cv.fl (CvL.cons Cv.fl (CvL.cons Cv.fl (CvL.cons Cv.fl (CvL.cons Cv.fl (CvL.cons Cv.fl CvL.nil))))))) (Cv.close (T := []) (chConfig a0))))) (HasAll.cons (Has.m (Has.u rfl hb) rfl) HasAll.nil))) ?_
  refine wg rfl rfl (fun hb => Spec.not (Has.u rfl hb)) ?_
  refine wo (Spec.or (Has.s rfl) (fun h => Has.u rfl h)) ?_
  refine mv ?_
  refine wg rfl rfl (fun hb => Spec.fieldAddrO fd43_2 (Has.cv (Has.s rfl) (Cv.isvP rfl))) ?_
  refine wg rfl rfl (fun hb => Spec.loadF (i := 2) ty25 rfl (Has.u rfl hb) rfl (HasG.s rfl)) ?_
  refine wg rfl rfl (fun hb => Spec.len (Has.u rfl hb) Try.underlying25) ?_
  refine wg rfl rfl (fun hb => Spec.fieldAddrO fd43_1 (Has.cv (Has.s rfl) (Cv.isvP rfl))) ?_
  refine wg rfl rfl (fun hb => Spec.loadF (i := 1) ty41 rfl (Has.u rfl hb) rfl (HasG.s rfl)) ?_
  refine wg rfl rfl (fun hb => Spec.len (Has.u rfl hb) Try.underlying41) ?_
  refine wg rfl rfl (fun hb => Spec.neqI (Has.u rfl hb) (Has.u rfl hb)) ?_
  refine wo (Spec.or (Has.s rfl) (fun h => Has.u rfl h)) ?_
  refine mv ?_
  refine wg rfl rfl (fun hb => Spec.fieldAddrO fd43_3 (Has.cv (Has.s rfl) (Cv.isvP rfl))) ?_
  refine wg rfl rfl (fun hb => Spec.loadF (i := 3) ty35 rfl (Has.u rfl hb) rfl (HasG.s rfl)) ?_
  refine wg rfl rfl (fun hb => Spec.len (Has.u rfl hb) Try.underlying35) ?_
  refine wg rfl rfl (fun hb => Spec.neqI (Has.u rfl hb) Has.int) ?_
  refine wg rfl rfl (fun hb => Spec.move (Has.u rfl hb)) ?_
  refine Walk.opgu rfl rfl rfl (fun hb => Spec.fieldAddrO fd43_3 (Has.cv (Has.s rfl) (Cv.isvP rfl))) ?_
  refine Walk.opgu rfl rfl rfl (fun hb => Spec.loadF (i := 3) ty35 rfl (Has.u rfl hb) rfl (HasG.s rfl)) ?_
  refine Walk.opgu rfl rfl rfl (fun hb => Spec.len (Has.u rfl hb) Try.underlying35) ?_
  refine Walk.opgu rfl rfl rfl (fun hb => Spec.neqI (Has.u rfl hb) Has.int) ?_
  refine wg rfl rfl (fun hb => Spec.and (Has.u rfl hb) (fun h => Has.u rfl ⟨hb, h⟩)) ?_
  refine wo (Spec.or (Has.s rfl) (fun h => Has.u rfl h)) ?_
  refine Walk.nil ?_
  refine Leaf.thenN ?_
  refine CWalk.cond rfl (fun hb => ?_) (fun hb => ?_)
  ·have hm := cond_t hb hm
   refine CWalk.seq ?_
   refine CWalk.region ?_
   refine wo (Spec.assign Has.int) ?_
   refine Walk.nil ?_
   refine Leaf.thenN ?_
   refine CWalk.ret ?_
   refine Leaf.thenR ?_
   obtain rfl := Option.some.inj hm
   exact Leaf.retC1 rfl (HasR.cv (HasR.tmp (Has.s rfl)) Cv.fl)
  ·have hm := cond_f hb hm
   refine CWalk.skip ?_
   refine Leaf.thenN ?_
   refine CWalk.seq ?_
   refine CWalk.region ?_
   refine wo (Spec.assign Has.int) ?_
   refine Walk.nil ?_
   refine Leaf.thenN ?_
   refine CWalk.ret ?_
   obtain rfl := Option.some.inj hm
   exact Leaf.retC1 rfl (HasR.cv (HasR.tmp (Has.s rfl)) Cv.fl)

/-- freeboard/home.member -/
def home_member (a0 : Config) (a1 : Int) : Option (Bool) :=
  some ((decide (a1 ≥ (-1 : Int))) && (decide (a1 < a0.Members)))
set_option maxRecDepth 100000 in
set_option maxHeartbeats 2000000 in
theorem home_member_c (a0 : Config) (a1 : Int) {r : Bool} (hm : home_member a0 a1 = some r) : Ctr Try.prog 32 [.rep 0 a0, .rep 0 a1] (.fl r) [] := by
 refine ctr_of_walk [[]] 13 Try.func32 rfl rfl rfl rfl (fun w0 om => ?_)
 unfold home_member at hm
 refine CWalk.sub (G' := [.fact 0 (.rep [] (a0 : Config)), .fact 1 (.rep [] (a1 : Int))]) (Sub.cons (Has.fl (Has.s rfl)) (Sub.cons (Has.fl (Has.s rfl)) Sub.nil)) ?_
 refine CWalk.seq ?_
 refine CWalk.region ?_
 refine ws (Step.boxObj (ls := [(false, 1, Fact.rep [] a0.Id), (false, 1, Fact.rep [] a0.Members), (false, 1, Fact.rep [] a0.Chunk), (false, 1, Fact.rep [] a0.Rows), (false, 1, Fact.rep [] a0.Log), (false, 1, Fact.rep [] a0.Heads)]) 10 rfl rfl rfl rfl (HasL.flds (Has.cv (Has.s rfl) (Cv.trans (Cv.opens (chConfig a0)) (Cv.flds (CvL.cons Cv.fl (CvL.cons Cv.fl (CvL.cons Cv.fl (CvL.cons Cv.fl (CvL.cons Cv.fl (CvL.cons Cv.fl CvL.nil))))))))))) ?_
 refine wo (Spec.assign Has.bool) ?_
 refine Walk.nil ?_
 refine Leaf.thenN ?_
 refine CWalk.seq ?_
 refine CWalk.region ?_
 refine mv ?_
 refine wo (Spec.geqI (Has.s rfl) Has.int) ?_
 refine mv ?_
 refine wg rfl rfl (fun hb => Spec.move (Has.s rfl)) ?_
 refine wg rfl rfl (fun hb => Spec.fieldAddrO fd24_1 (Has.cv (Has.s rfl) (Cv.isvP rfl))) ?_
 refine wg rfl rfl (fun hb => Spec.loadF (i := 1) ty3 rfl (Has.u rfl hb) rfl (HasG.s rfl)) ?_
 refine wg rfl rfl (fun hb => Spec.lssI (Has.u rfl hb) (Has.u rfl hb)) ?_
 refine wo (Spec.and (Has.s rfl) (fun h => Has.u rfl h)) ?_
 refine wo (Spec.assign (Has.s rfl)) ?_
 refine Walk.nil ?_
 refine Leaf.thenN ?_
 refine CWalk.ret ?_
 obtain rfl := Option.some.inj hm
 exact Leaf.retC1 rfl (HasR.cv (HasR.tmp (Has.s rfl)) Cv.fl)

/-- freeboard/turn.divide -/
def turn_divide (a0 : Int) (a1 : Int) : Option (Int × Int) :=
  Option.bind (quoI a0 a1) (fun x1 => Option.bind (remI a0 a1) (fun x2 => some (x1, x2)))
set_option maxRecDepth 100000 in
set_option maxHeartbeats 2000000 in
theorem turn_divide_c (a0 : Int) (a1 : Int) {r : Int × Int} (hm : turn_divide a0 a1 = some r) : Ctr Try.prog 65 [.rep 0 a0, .rep 0 a1] (.tup2 (.fl r.1) (.fl r.2)) [] := by
 refine ctr_of_walk [[]] 12 Try.func65 rfl rfl rfl rfl (fun w0 om => ?_)
 unfold turn_divide at hm
 refine CWalk.sub (G' := [.fact 0 (.rep [] (a0 : Int)), .fact 1 (.rep [] (a1 : Int))]) (Sub.cons (Has.fl (Has.s rfl)) (Sub.cons (Has.fl (Has.s rfl)) Sub.nil)) ?_
 refine CWalk.seq ?_
 refine CWalk.region ?_
 refine wo (Spec.assign Has.int) ?_
 refine wo (Spec.assign Has.int) ?_
 refine Walk.nil ?_
 refine Leaf.thenN ?_
 refine CWalk.seq ?_
 obtain ⟨x1, hx1, hm⟩ := bind_some hm
 obtain ⟨x2, hx2, hm⟩ := bind_some hm
 refine CWalk.drawM [[], [], [0, 1], [], [], [3, 4], [0, 1, 2], [0, 1, 2, 3, 4, 5, 6]] [[.fact 6 (.rep [] (a0 : Int))], [.fact 7 (.rep [] (a1 : Int))], [.fact 8 (.rep [] (x1 : Int))], [.fact 9 (.rep [] (a0 : Int))], [.fact 10 (.rep [] (a1 : Int))], [.fact 11 (.rep [] (x2 : Int))], [.fact 4 (.rep [] (x1 : Int))], [.fact 5 (.rep [] (x2 : Int))]] mixed (by kernel_rfl) (ao (so (Spec.move (Has.s rfl))) (ao (so (Spec.move (Has.s rfl))) (ao (so (Spec.quoI hx1 (Has.s rfl) (Has.s rfl))) (ao (so (Spec.move (Has.s rfl))) (ao (so (Spec.move (Has.s rfl))) (ao (so (Spec.remI hx2 (Has.s rfl) (Has.s rfl))) (ao (so (Spec.assign (Has.s rfl))) (ao (so (Spec.assign (Has.s rfl))) AllM.nil)))))))) ?_
 refine Leaf.thenN ?_
 refine CWalk.ret ?_
 obtain rfl := Option.some.inj hm
 exact Leaf.retC2 rfl (HasR.cv (HasR.tmp (Has.s rfl)) Cv.fl) (HasR.cv (HasR.tmp (Has.s rfl)) Cv.fl)

def turn_at_J1 (a0 : Config) (a1 : Int) (j2 : Bool) : Option (Row78 × Int) :=
  (bif j2 then some ((Row78.mk (Config.mk (0 : UInt32) (0 : Int) (0 : Int) (0 : Int) (0 : Int) (0 : Int)) (0 : Int)), (2 : Int)) else Option.bind (turn_divide a1 a0.Chunk) (fun x3 => some ((Row78.mk a0 x3.1), (0 : Int))))
/-- freeboard/turn.at -/
def turn_at (a0 : Config) (a1 : Int) (a2 : Int) (a3 : Int) : Option (Row78 × Int) :=
  Option.bind (shape_Stripes a0) (fun x1 => (bif (x1.2 != (0 : Int)) then some ((Row78.mk (Config.mk (0 : UInt32) (0 : Int) (0 : Int) (0 : Int) (0 : Int) (0 : Int)) (0 : Int)), x1.2) else (bif (decide (a1 < (0 : Int))) then (turn_at_J1 a0 a1 (decide (a1 < (0 : Int)))) else (bif (decide (a1 ≥ x1.1)) then (turn_at_J1 a0 a1 (decide (a1 ≥ x1.1))) else (bif (decide (a2 < (0 : Int))) then (turn_at_J1 a0 a1 (decide (a2 < (0 : Int)))) else (turn_at_J1 a0 a1 (decide (a2 ≥ a3))))))))
set_option maxRecDepth 100000 in
set_option maxHeartbeats 2000000 in
theorem turn_at_c (a0 : Config) (a1 : Int) (a2 : Int) (a3 : Int) {r : Row78 × Int} (hm : turn_at a0 a1 a2 a3 = some r) : Ctr Try.prog 35 [.rep 0 a0, .rep 0 a1, .rep 0 a2, .rep 0 a3] (.tup2 (.fl r.1) (.fl r.2)) [] := by
 refine ctr_of_walk [[]] 46 Try.func35 rfl rfl rfl rfl (fun w0 om => ?_)
 unfold turn_at at hm
 refine CWalk.sub (G' := [.fact 0 (.rep [] (a0 : Config)), .fact 1 (.rep [] (a1 : Int)), .fact 2 (.rep [] (a2 : Int)), .fact 3 (.rep [] (a3 : Int))]) (Sub.cons (Has.fl (Has.s rfl)) (Sub.cons (Has.fl (Has.s rfl)) (Sub.cons (Has.fl (Has.s rfl)) (Sub.cons (Has.fl (Has.s rfl)) Sub.nil)))) ?_
 refine CWalk.seq ?_
 refine CWalk.region ?_
 refine ws (Step.boxObj (ls := [(false, 1, Fact.rep [] a0.Id), (false, 1, Fact.rep [] a0.Members), (false, 1, Fact.rep [] a0.Chunk), (false, 1, Fact.rep [] a0.Rows), (false, 1, Fact.rep [] a0.Log), (false, 1, Fact.rep [] a0.Heads)]) 10 rfl rfl rfl rfl (HasL.flds (Has.cv (Has.s rfl) (Cv.trans (Cv.opens (chConfig a0)) (Cv.flds (CvL.cons Cv.fl (CvL.cons Cv.fl (CvL.cons Cv.fl (CvL.cons Cv.fl (CvL.cons Cv.fl (CvL.cons Cv.fl CvL.nil))))))))))) ?_
 refine ws (Step.allocObj (ls := [(false, 1, Fact.rep [] ((0 : UInt32) : UInt32)), (false, 1, Fact.rep [] ((0 : Int) : Int)), (false, 1, Fact.rep [] ((0 : Int) : Int)), (false, 1, Fact.rep [] ((0 : Int) : Int)), (false, 1, Fact.rep [] ((0 : Int) : Int)), (false, 1, Fact.rep [] ((0 : Int) : Int)), (false, 1, Fact.rep [] ((0 : Int) : Int))]) 17 rfl rfl rfl rfl zl78) ?_
 refine wo (Spec.assign Has.int) ?_
 refine Walk.nil ?_
 refine Leaf.thenN ?_
 refine CWalk.seq ?_
 refine CWalk.region ?_
 refine wo (Spec.loadObj (ls := [(false, 1, Fact.rep [] a0.Id), (false, 1, Fact.rep [] a0.Members), (false, 1, Fact.rep [] a0.Chunk), (false, 1, Fact.rep [] a0.Rows), (false, 1, Fact.rep [] a0.Log), (false, 1, Fact.rep [] a0.Heads)]) ty24 rfl rfl (Has.s rfl) rfl (HasGs.cons (HasG.s rfl) (HasGs.cons (HasG.s rfl) (HasGs.cons (HasG.s rfl) (HasGs.cons (HasG.s rfl) (HasGs.cons (HasG.s rfl) (HasGs.cons (HasG.s rfl) HasGs.nil))))))) ?_
 obtain ⟨x1, hx1, hm⟩ := bind_some hm
 refine wo (f := Fact.tup2 (Fact.rep [] x1.1) (Fact.rep [] x1.2)) (Spec.callE [] 25 rfl en37 (shape_Stripes_c a0 hx1) (HasAll.cons (Has.fl (Has.cv (Has.s rfl) (Cv.trans (Cv.flds (CvL.cons Cv.fl (CvL.cons Cv.fl (CvL.cons Cv.fl (CvL.cons Cv.fl (CvL.cons Cv.fl (CvL.cons Cv.fl CvL.nil))))))) (Cv.close (T := []) (chConfig a0))))) HasAll.nil)) ?_
 refine mv ?_
 refine wo (Spec.ext0 (Has.s rfl)) ?_
 refine wo (Spec.ext1 (Has.s rfl)) ?_
 refine wo (Spec.assign (Has.s rfl)) ?_
 refine wo (Spec.assign (Has.s rfl)) ?_
 refine Walk.nil ?_
 refine Leaf.thenN ?_
 refine CWalk.seq ?_
 refine CWalk.block ?_
 refine CWalk.seq ?_
 refine CWalk.region ?_
 refine mv ?_
 refine wo (Spec.neqI (Has.s rfl) Has.int) ?_
 refine wo (Spec.assign (Has.s rfl)) ?_
 refine Walk.nil ?_
 refine Leaf.thenN ?_
 refine CWalk.cond rfl (fun hb => ?_) (fun hb => ?_)
 ·have hm := cond_t hb hm
  refine CWalk.seq ?_
  refine CWalk.region ?_
  refine wo (Spec.build (us := []) (ls' := [(true, 6, Fact.flds [(false, 1, Fact.rep [] ((0 : UInt32) : UInt32)), (false, 1, Fact.rep [] ((0 : Int) : Int)), (false, 1, Fact.rep [] ((0 : Int) : Int)), (false, 1, Fact.rep [] ((0 : Int) : Int)), (false, 1, Fact.rep [] ((0 : Int) : Int)), (false, 1, Fact.rep [] ((0 : Int) : Int))]), (false, 1, Fact.rep [] ((0 : Int) : Int))]) bd78 rfl BP.nil) ?_
  refine mv ?_
  refine ws (Step.storeObj (ls := [(false, 1, Fact.rep [] ((0 : UInt32) : UInt32)), (false, 1, Fact.rep [] ((0 : Int) : Int)), (false, 1, Fact.rep [] ((0 : Int) : Int)), (false, 1, Fact.rep [] ((0 : Int) : Int)), (false, 1, Fact.rep [] ((0 : Int) : Int)), (false, 1, Fact.rep [] ((0 : Int) : Int)), (false, 1, Fact.rep [] ((0 : Int) : Int))]) rfl ty78 rfl rfl (Has.s rfl) rfl (HasL.flds (Has.cv (Has.s rfl) (Cv.flat (FlatR.sub (FlatR.cons (FlatR.cons (FlatR.cons (FlatR.cons (FlatR.cons (FlatR.cons FlatR.nil)))))) rfl (FlatR.cons FlatR.nil))))) rfl) ?_
  refine wo (Spec.assign (Has.s rfl)) ?_
  refine Walk.nil ?_
  refine Leaf.thenN ?_
  refine CWalk.ret ?_
  refine Leaf.blockR ?_
  refine Leaf.thenR ?_
  obtain rfl := Option.some.inj hm
  exact Leaf.retC2 rfl (HasR.cv (HasR.cv (HasR.obj (ls := [(false, 1, Fact.rep [] ((0 : UInt32) : UInt32)), (false, 1, Fact.rep [] ((0 : Int) : Int)), (false, 1, Fact.rep [] ((0 : Int) : Int)), (false, 1, Fact.rep [] ((0 : Int) : Int)), (false, 1, Fact.rep [] ((0 : Int) : Int)), (false, 1, Fact.rep [] ((0 : Int) : Int)), (false, 1, Fact.rep [] ((0 : Int) : Int))]) ty78 rfl rfl (Has.s rfl) rfl (HasGs.cons (HasG.s rfl) (HasGs.cons (HasG.s rfl) (HasGs.cons (HasG.s rfl) (HasGs.cons (HasG.s rfl) (HasGs.cons (HasG.s rfl) (HasGs.cons (HasG.s rfl) (HasGs.cons (HasG.s rfl) HasGs.nil)))))))) (Cv.unflat (FlatR.sub (FlatR.cons (FlatR.cons (FlatR.cons (FlatR.cons (FlatR.cons (FlatR.cons FlatR.nil)))))) rfl (FlatR.cons FlatR.nil)))) (Cv.trans (Cv.trans (Cv.flds (CvL.cons (Cv.trans (Cv.trans (Cv.flds (CvL.cons Cv.fl (CvL.cons Cv.fl (CvL.cons Cv.fl (CvL.cons Cv.fl (CvL.cons Cv.fl (CvL.cons Cv.fl CvL.nil))))))) (Cv.close (T := []) (chConfig (Config.mk (0 : UInt32) (0 : Int) (0 : Int) (0 : Int) (0 : Int) (0 : Int))))) Cv.fl) (CvL.cons Cv.fl CvL.nil))) (Cv.close (T := []) (chRow78 (Row78.mk (Config.mk (0 : UInt32) (0 : Int) (0 : Int) (0 : Int) (0 : Int) (0 : Int)) (0 : Int))))) Cv.fl)) (HasR.cv (HasR.tmp (Has.s rfl)) Cv.fl)
 ·have hm := cond_f hb hm
  refine CWalk.seqJ (fun p : Bool => [.fact 1 (.rep [] (a1 : Int)), .fact 4 (.isv 10), .fact 8 (.isv 17), .fact 24 (.rep [] (p : Bool)), .fact 100011 (.at 11 (.rep [] a0.Id)), .fact 100012 (.at 12 (.rep [] a0.Members)), .fact 100013 (.at 13 (.rep [] a0.Chunk)), .fact 100014 (.at 14 (.rep [] a0.Rows)), .fact 100015 (.at 15 (.rep [] a0.Log)), .fact 100016 (.at 16 (.rep [] a0.Heads)), .fact 100018 (.at 18 (.rep [] ((0 : UInt32) : UInt32))), .fact 100019 (.at 19 (.rep [] ((0 : Int) : Int))), .fact 100020 (.at 20 (.rep [] ((0 : Int) : Int))), .fact 100021 (.at 21 (.rep [] ((0 : Int) : Int))), .fact 100022 (.at 22 (.rep [] ((0 : Int) : Int))), .fact 100023 (.at 23 (.rep [] ((0 : Int) : Int))), .fact 100024 (.at 24 (.rep [] ((0 : Int) : Int))), .fact 100010 (.obj 10 [(false, 1), (false, 1), (false, 1), (false, 1), (false, 1), (false, 1)]), .fact 100017 (.obj 17 [(false, 1), (false, 1), (false, 1), (false, 1), (false, 1), (false, 1), (false, 1)])]) (fun p : Bool => turn_at_J1 a0 a1 p = some r) ?_ ?_
  ·rintro j2 hm
   replace hm : turn_at_J1 a0 a1 j2 = some r := hm
   unfold turn_at_J1 at hm
   show CWalk _ [.fact 1 (.rep [] (a1 : Int)), .fact 4 (.isv 10), .fact 8 (.isv 17), .fact 24 (.rep [] (j2 : Bool)), .fact 100011 (.at 11 (.rep [] a0.Id)), .fact 100012 (.at 12 (.rep [] a0.Members)), .fact 100013 (.at 13 (.rep [] a0.Chunk)), .fact 100014 (.at 14 (.rep [] a0.Rows)), .fact 100015 (.at 15 (.rep [] a0.Log)), .fact 100016 (.at 16 (.rep [] a0.Heads)), .fact 100018 (.at 18 (.rep [] ((0 : UInt32) : UInt32))), .fact 100019 (.at 19 (.rep [] ((0 : Int) : Int))), .fact 100020 (.at 20 (.rep [] ((0 : Int) : Int))), .fact 100021 (.at 21 (.rep [] ((0 : Int) : Int))), .fact 100022 (.at 22 (.rep [] ((0 : Int) : Int))), .fact 100023 (.at 23 (.rep [] ((0 : Int) : Int))), .fact 100024 (.at 24 (.rep [] ((0 : Int) : Int))), .fact 100010 (.obj 10 [(false, 1), (false, 1), (false, 1), (false, 1), (false, 1), (false, 1)]), .fact 100017 (.obj 17 [(false, 1), (false, 1), (false, 1), (false, 1), (false, 1), (false, 1), (false, 1)])] _ _
   refine CWalk.cond rfl (fun hb => ?_) (fun hb => ?_)
   ·have hm := cond_t hb hm
    refine CWalk.seq ?_
    refine CWalk.region ?_
    refine wo (Spec.build (us := []) (ls' := [(true, 6, Fact.flds [(false, 1, Fact.rep [] ((0 : UInt32) : UInt32)), (false, 1, Fact.rep [] ((0 : Int) : Int)), (false, 1, Fact.rep [] ((0 : Int) : Int)), (false, 1, Fact.rep [] ((0 : Int) : Int)), (false, 1, Fact.rep [] ((0 : Int) : Int)), (false, 1, Fact.rep [] ((0 : Int) : Int))]), (false, 1, Fact.rep [] ((0 : Int) : Int))]) bd78 rfl BP.nil) ?_
    refine ws (Step.storeObj (ls := [(false, 1, Fact.rep [] ((0 : UInt32) : UInt32)), (false, 1, Fact.rep [] ((0 : Int) : Int)), (false, 1, Fact.rep [] ((0 : Int) : Int)), (false, 1, Fact.rep [] ((0 : Int) : Int)), (false, 1, Fact.rep [] ((0 : Int) : Int)), (false, 1, Fact.rep [] ((0 : Int) : Int)), (false, 1, Fact.rep [] ((0 : Int) : Int))]) rfl ty78 rfl rfl (Has.s rfl) rfl (HasL.flds (Has.cv (Has.s rfl) (Cv.flat (FlatR.sub (FlatR.cons (FlatR.cons (FlatR.cons (FlatR.cons (FlatR.cons (FlatR.cons FlatR.nil)))))) rfl (FlatR.cons FlatR.nil))))) rfl) ?_
    refine wo (Spec.assign Has.int) ?_
    refine Walk.nil ?_
    refine Leaf.thenN ?_
    refine CWalk.ret ?_
    refine Leaf.blockR ?_
    refine Leaf.thenR ?_
    obtain rfl := Option.some.inj hm
    exact Leaf.retC2 rfl (HasR.cv (HasR.cv (HasR.obj (ls := [(false, 1, Fact.rep [] ((0 : UInt32) : UInt32)), (false, 1, Fact.rep [] ((0 : Int) : Int)), (false, 1, Fact.rep [] ((0 : Int) : Int)), (false, 1, Fact.rep [] ((0 : Int) : Int)), (false, 1, Fact.rep [] ((0 : Int) : Int)), (false, 1, Fact.rep [] ((0 : Int) : Int)), (false, 1, Fact.rep [] ((0 : Int) : Int))]) ty78 rfl rfl (Has.s rfl) rfl (HasGs.cons (HasG.s rfl) (HasGs.cons (HasG.s rfl) (HasGs.cons (HasG.s rfl) (HasGs.cons (HasG.s rfl) (HasGs.cons (HasG.s rfl) (HasGs.cons (HasG.s rfl) (HasGs.cons (HasG.s rfl) HasGs.nil)))))))) (Cv.unflat (FlatR.sub (FlatR.cons (FlatR.cons (FlatR.cons (FlatR.cons (FlatR.cons (FlatR.cons FlatR.nil)))))) rfl (FlatR.cons FlatR.nil)))) (Cv.trans (Cv.trans (Cv.flds (CvL.cons (Cv.trans (Cv.trans (Cv.flds (CvL.cons Cv.fl (CvL.cons Cv.fl (CvL.cons Cv.fl (CvL.cons Cv.fl (CvL.cons Cv.fl (CvL.cons Cv.fl CvL.nil))))))) (Cv.close (T := []) (chConfig (Config.mk (0 : UInt32) (0 : Int) (0 : Int) (0 : Int) (0 : Int) (0 : Int))))) Cv.fl) (CvL.cons Cv.fl CvL.nil))) (Cv.close (T := []) (chRow78 (Row78.mk (Config.mk (0 : UInt32) (0 : Int) (0 : Int) (0 : Int) (0 : Int) (0 : Int)) (0 : Int))))) Cv.fl)) (HasR.cv (HasR.tmp (Has.s rfl)) Cv.fl)
   ·have hm := cond_f hb hm
    refine CWalk.skip ?_
    refine Leaf.blockN ?_
    refine Leaf.thenN ?_
    refine CWalk.seq ?_
    refine CWalk.region ?_
    refine mv ?_
    refine wo (Spec.fieldAddrO fd24_2 (Has.cv (Has.s rfl) (Cv.isvP rfl))) ?_
    refine wo (Spec.loadF (i := 2) ty3 rfl (Has.s rfl) rfl (HasG.s rfl)) ?_
    obtain ⟨x3, hx3, hm⟩ := bind_some hm
    refine wo (f := Fact.tup2 (Fact.rep [] x3.1) (Fact.rep [] x3.2)) (Spec.callE [] 26 rfl en65 (turn_divide_c a1 a0.Chunk hx3) (HasAll.cons (Has.fl (Has.s rfl)) (HasAll.cons (Has.fl (Has.s rfl)) HasAll.nil))) ?_
    refine mv ?_
    refine wo (Spec.ext0 (Has.s rfl)) ?_
    refine wo (Spec.ext1 (Has.s rfl)) ?_
    refine wo (Spec.assign (Has.s rfl)) ?_
    refine wo (Spec.assign (Has.s rfl)) ?_
    refine Walk.nil ?_
    refine Leaf.thenN ?_
    refine CWalk.seq ?_
    refine CWalk.region ?_
    refine wo (Spec.loadObj (ls := [(false, 1, Fact.rep [] a0.Id), (false, 1, Fact.rep [] a0.Members), (false, 1, Fact.rep [] a0.Chunk), (false, 1, Fact.rep [] a0.Rows), (false, 1, Fact.rep [] a0.Log), (false, 1, Fact.rep [] a0.Heads)]) ty24 rfl rfl (Has.s rfl) rfl (HasGs.cons (HasG.s rfl) (HasGs.cons (HasG.s rfl) (HasGs.cons (HasG.s rfl) (HasGs.cons (HasG.s rfl) (HasGs.cons (HasG.s rfl) (HasGs.cons (HasG.s rfl) HasGs.nil))))))) ?_
    refine mv ?_
    refine wo (Spec.build (us := [(0, .tmp 43), (1, .tmp 44)]) (ls' := [(true, 6, Fact.flds [(false, 1, Fact.rep [] a0.Id), (false, 1, Fact.rep [] a0.Members), (false, 1, Fact.rep [] a0.Chunk), (false, 1, Fact.rep [] a0.Rows), (false, 1, Fact.rep [] a0.Log), (false, 1, Fact.rep [] a0.Heads)]), (false, 1, Fact.rep [] x3.1)]) bd78 rfl (BP.cons rfl rfl (Has.cv (Has.s rfl) (Cv.trans (Cv.flds (CvL.cons Cv.fl (CvL.cons Cv.fl (CvL.cons Cv.fl (CvL.cons Cv.fl (CvL.cons Cv.fl (CvL.cons Cv.fl CvL.nil))))))) (Cv.close (T := []) (chConfig a0)))) (Has.s rfl) (BP.cons rfl rfl (Has.s rfl) (Has.s rfl) BP.nil))) ?_
    refine ws (Step.storeObj (ls := [(false, 1, Fact.rep [] a0.Id), (false, 1, Fact.rep [] a0.Members), (false, 1, Fact.rep [] a0.Chunk), (false, 1, Fact.rep [] a0.Rows), (false, 1, Fact.rep [] a0.Log), (false, 1, Fact.rep [] a0.Heads), (false, 1, Fact.rep [] x3.1)]) rfl ty78 rfl rfl (Has.s rfl) rfl (HasL.flds (Has.cv (Has.s rfl) (Cv.flat (FlatR.sub (FlatR.cons (FlatR.cons (FlatR.cons (FlatR.cons (FlatR.cons (FlatR.cons FlatR.nil)))))) rfl (FlatR.cons FlatR.nil))))) rfl) ?_
    refine wo (Spec.assign Has.int) ?_
    refine Walk.nil ?_
    refine Leaf.thenN ?_
    refine CWalk.ret ?_
    obtain rfl := Option.some.inj hm
    exact Leaf.retC2 rfl (HasR.cv (HasR.cv (HasR.obj (ls := [(false, 1, Fact.rep [] a0.Id), (false, 1, Fact.rep [] a0.Members), (false, 1, Fact.rep [] a0.Chunk), (false, 1, Fact.rep [] a0.Rows), (false, 1, Fact.rep [] a0.Log), (false, 1, Fact.rep [] a0.Heads), (false, 1, Fact.rep [] x3.1)]) ty78 rfl rfl (Has.s rfl) rfl (HasGs.cons (HasG.s rfl) (HasGs.cons (HasG.s rfl) (HasGs.cons (HasG.s rfl) (HasGs.cons (HasG.s rfl) (HasGs.cons (HasG.s rfl) (HasGs.cons (HasG.s rfl) (HasGs.cons (HasG.s rfl) HasGs.nil)))))))) (Cv.unflat (FlatR.sub (FlatR.cons (FlatR.cons (FlatR.cons (FlatR.cons (FlatR.cons (FlatR.cons FlatR.nil)))))) rfl (FlatR.cons FlatR.nil)))) (Cv.trans (Cv.trans (Cv.flds (CvL.cons (Cv.trans (Cv.trans (Cv.flds (CvL.cons Cv.fl (CvL.cons Cv.fl (CvL.cons Cv.fl (CvL.cons Cv.fl (CvL.cons Cv.fl (CvL.cons Cv.fl CvL.nil))))))) (Cv.close (T := []) (chConfig a0))) Cv.fl) (CvL.cons Cv.fl CvL.nil))) (Cv.close (T := []) (chRow78 (Row78.mk a0 x3.1)))) Cv.fl)) (HasR.cv (HasR.tmp (Has.s rfl)) Cv.fl)
  ·refine CWalk.seq ?_
   refine CWalk.region ?_
   refine mv ?_
   refine wo (Spec.lssI (Has.s rfl) Has.int) ?_
   refine wo (Spec.assign (Has.s rfl)) ?_
   refine Walk.nil ?_
   refine Leaf.thenN ?_
   refine CWalk.cond rfl (fun hb => ?_) (fun hb => ?_)
   ·have hm := cond_t hb hm
    refine CWalk.skip ?_
    exact Leaf.join (decide (a1 < (0 : Int))) hm (st (sn (sn (st (sf (sf (sf (sf (sf (sf (sf (sf (sf (sf (sf (sf (sf (sn (sn Sub.nil)))))))))))))))))))
   ·have hm := cond_f hb hm
    refine CWalk.seq ?_
    refine CWalk.region ?_
    refine mv ?_
    refine mv ?_
    refine wo (Spec.geqI (Has.s rfl) (Has.s rfl)) ?_
    refine wo (Spec.assign (Has.s rfl)) ?_
    refine Walk.nil ?_
    refine Leaf.thenN ?_
    refine CWalk.cond rfl (fun hb => ?_) (fun hb => ?_)
    ·have hm := cond_t hb hm
     refine CWalk.skip ?_
     exact Leaf.join (decide (a1 ≥ x1.1)) hm (st (sn (sn (st (sf (sf (sf (sf (sf (sf (sf (sf (sf (sf (sf (sf (sf (sn (sn Sub.nil)))))))))))))))))))
    ·have hm := cond_f hb hm
     refine CWalk.seq ?_
     refine CWalk.region ?_
     refine mv ?_
     refine wo (Spec.lssI (Has.s rfl) Has.int) ?_
     refine wo (Spec.assign (Has.s rfl)) ?_
     refine Walk.nil ?_
     refine Leaf.thenN ?_
     refine CWalk.cond rfl (fun hb => ?_) (fun hb => ?_)
     ·have hm := cond_t hb hm
      refine CWalk.skip ?_
      exact Leaf.join (decide (a2 < (0 : Int))) hm (st (sn (sn (st (sf (sf (sf (sf (sf (sf (sf (sf (sf (sf (sf (sf (sf (sn (sn Sub.nil)))))))))))))))))))
     ·have hm := cond_f hb hm
      refine CWalk.region ?_
      refine mv ?_
      refine mv ?_
      refine wo (Spec.geqI (Has.s rfl) (Has.s rfl)) ?_
      refine wo (Spec.assign (Has.s rfl)) ?_
      refine Walk.nil ?_
      exact Leaf.join (decide (a2 ≥ a3)) hm (st (sn (sn (st (sf (sf (sf (sf (sf (sf (sf (sf (sf (sf (sf (sf (sf (sn (sn Sub.nil)))))))))))))))))))

/-- (freeboard/turn.row).parity -/
def turn_row_parity (a0 : Row78) : Option (Int) :=
  Option.bind (turn_divide a0.n a0.Config.Members) (fun x1 => some (wI ((wI (a0.Config.Members - (1 : Int))) - x1.2)))
set_option maxRecDepth 100000 in
set_option maxHeartbeats 2000000 in
theorem turn_row_parity_c (a0 : Row78) {r : Int} (hm : turn_row_parity a0 = some r) : Ctr Try.prog 66 [.rep 0 a0] (.fl r) [] := by
 refine ctr_of_walk [[]] 20 Try.func66 rfl rfl rfl rfl (fun w0 om => ?_)
 unfold turn_row_parity at hm
 refine CWalk.sub (G' := [.fact 0 (.rep [] (a0 : Row78))]) (Sub.cons (Has.fl (Has.s rfl)) Sub.nil) ?_
 refine CWalk.seq ?_
 refine CWalk.region ?_
 refine ws (Step.boxObj (ls := [(false, 1, Fact.rep [] a0.Config.Id), (false, 1, Fact.rep [] a0.Config.Members), (false, 1, Fact.rep [] a0.Config.Chunk), (false, 1, Fact.rep [] a0.Config.Rows), (false, 1, Fact.rep [] a0.Config.Log), (false, 1, Fact.rep [] a0.Config.Heads), (false, 1, Fact.rep [] a0.n)]) 10 rfl rfl rfl rfl (HasL.flds (Has.cv (Has.s rfl) (Cv.trans (Cv.trans (Cv.trans (Cv.opens (chRow78 a0)) (Cv.flds (CvL.cons Cv.fl (CvL.cons Cv.fl CvL.nil)))) (Cv.flds (ls := [(true, 6, Fact.rep [] a0.Config), (false, 1, Fact.rep [] a0.n)]) (ms := [(true, 6, Fact.flds [(false, 1, Fact.rep [] a0.Config.Id), (false, 1, Fact.rep [] a0.Config.Members), (false, 1, Fact.rep [] a0.Config.Chunk), (false, 1, Fact.rep [] a0.Config.Rows), (false, 1, Fact.rep [] a0.Config.Log), (false, 1, Fact.rep [] a0.Config.Heads)]), (false, 1, Fact.rep [] a0.n)]) (CvL.cons (Cv.trans (Cv.opens (chConfig a0.Config)) (Cv.flds (CvL.cons Cv.fl (CvL.cons Cv.fl (CvL.cons Cv.fl (CvL.cons Cv.fl (CvL.cons Cv.fl (CvL.cons Cv.fl CvL.nil)))))))) (CvL.cons Cv.refl CvL.nil)))) (Cv.flat (FlatR.sub (FlatR.cons (FlatR.cons (FlatR.cons (FlatR.cons (FlatR.cons (FlatR.cons FlatR.nil)))))) rfl (FlatR.cons FlatR.nil))))))) ?_
 refine wo (Spec.assign Has.int) ?_
 refine Walk.nil ?_
 refine Leaf.thenN ?_
 refine CWalk.seq ?_
 refine CWalk.region ?_
 refine wo (Spec.fieldAddrO fd78_1 (Has.cv (Has.s rfl) (Cv.isvP rfl))) ?_
 refine wo (Spec.loadF (i := 6) ty3 rfl (Has.s rfl) rfl (HasG.s rfl)) ?_
 refine wo (Spec.fieldAddrO fd78_0 (Has.cv (Has.s rfl) (Cv.isvP rfl))) ?_
 refine wo (Spec.fieldAddrO fd24_1 (Has.s rfl)) ?_
 refine wo (Spec.loadF (i := 1) ty3 rfl (Has.s rfl) rfl (HasG.s rfl)) ?_
 obtain ⟨x1, hx1, hm⟩ := bind_some hm
 refine wo (f := Fact.tup2 (Fact.rep [] x1.1) (Fact.rep [] x1.2)) (Spec.callE [] 18 rfl en65 (turn_divide_c a0.n a0.Config.Members hx1) (HasAll.cons (Has.fl (Has.s rfl)) (HasAll.cons (Has.fl (Has.s rfl)) HasAll.nil))) ?_
 refine mv ?_
 refine wo (Spec.ext0 (Has.s rfl)) ?_
 refine wo (Spec.ext1 (Has.s rfl)) ?_
 refine wo (Spec.assign (Has.s rfl)) ?_
 refine wo (Spec.assign (Has.s rfl)) ?_
 refine Walk.nil ?_
 refine Leaf.thenN ?_
 refine CWalk.seq ?_
 refine CWalk.region ?_
 refine wo (Spec.fieldAddrO fd78_0 (Has.cv (Has.s rfl) (Cv.isvP rfl))) ?_
 refine wo (Spec.fieldAddrO fd24_1 (Has.s rfl)) ?_
 refine wo (Spec.loadF (i := 1) ty3 rfl (Has.s rfl) rfl (HasG.s rfl)) ?_
 refine wo (Spec.subI (Has.s rfl) Has.int) ?_
 refine mv ?_
 refine wo (Spec.subI (Has.s rfl) (Has.s rfl)) ?_
 refine wo (Spec.assign (Has.s rfl)) ?_
 refine Walk.nil ?_
 refine Leaf.thenN ?_
 refine CWalk.ret ?_
 obtain rfl := Option.some.inj hm
 exact Leaf.retC1 rfl (HasR.cv (HasR.tmp (Has.s rfl)) Cv.fl)

/-- (freeboard/turn.row).member -/
def turn_row_member (a0 : Row78) (a1 : Int) : Option (Int) :=
  Option.bind (turn_row_parity a0) (fun x1 => Option.bind (turn_divide (wI ((wI (x1 + (1 : Int))) + a1)) a0.Config.Members) (fun x2 => some x2.2))
set_option maxRecDepth 100000 in
set_option maxHeartbeats 2000000 in
theorem turn_row_member_c (a0 : Row78) (a1 : Int) {r : Int} (hm : turn_row_member a0 a1 = some r) : Ctr Try.prog 36 [.rep 0 a0, .rep 0 a1] (.fl r) [] := by
 refine ctr_of_walk [[]] 20 Try.func36 rfl rfl rfl rfl (fun w0 om => ?_)
 unfold turn_row_member at hm
 refine CWalk.sub (G' := [.fact 0 (.rep [] (a0 : Row78)), .fact 1 (.rep [] (a1 : Int))]) (Sub.cons (Has.fl (Has.s rfl)) (Sub.cons (Has.fl (Has.s rfl)) Sub.nil)) ?_
 refine CWalk.seq ?_
 refine CWalk.region ?_
 refine ws (Step.boxObj (ls := [(false, 1, Fact.rep [] a0.Config.Id), (false, 1, Fact.rep [] a0.Config.Members), (false, 1, Fact.rep [] a0.Config.Chunk), (false, 1, Fact.rep [] a0.Config.Rows), (false, 1, Fact.rep [] a0.Config.Log), (false, 1, Fact.rep [] a0.Config.Heads), (false, 1, Fact.rep [] a0.n)]) 10 rfl rfl rfl rfl (HasL.flds (Has.cv (Has.s rfl) (Cv.trans (Cv.trans (Cv.trans (Cv.opens (chRow78 a0)) (Cv.flds (CvL.cons Cv.fl (CvL.cons Cv.fl CvL.nil)))) (Cv.flds (ls := [(true, 6, Fact.rep [] a0.Config), (false, 1, Fact.rep [] a0.n)]) (ms := [(true, 6, Fact.flds [(false, 1, Fact.rep [] a0.Config.Id), (false, 1, Fact.rep [] a0.Config.Members), (false, 1, Fact.rep [] a0.Config.Chunk), (false, 1, Fact.rep [] a0.Config.Rows), (false, 1, Fact.rep [] a0.Config.Log), (false, 1, Fact.rep [] a0.Config.Heads)]), (false, 1, Fact.rep [] a0.n)]) (CvL.cons (Cv.trans (Cv.opens (chConfig a0.Config)) (Cv.flds (CvL.cons Cv.fl (CvL.cons Cv.fl (CvL.cons Cv.fl (CvL.cons Cv.fl (CvL.cons Cv.fl (CvL.cons Cv.fl CvL.nil)))))))) (CvL.cons Cv.refl CvL.nil)))) (Cv.flat (FlatR.sub (FlatR.cons (FlatR.cons (FlatR.cons (FlatR.cons (FlatR.cons (FlatR.cons FlatR.nil)))))) rfl (FlatR.cons FlatR.nil))))))) ?_
 refine wo (Spec.assign Has.int) ?_
 refine Walk.nil ?_
 refine Leaf.thenN ?_
 refine CWalk.seq ?_
 obtain ⟨x1, hx1, hm⟩ := bind_some hm
 obtain ⟨x2, hx2, hm⟩ := bind_some hm
 refine CWalk.drawM [[], [0], [0, 1], [], [0, 1, 2, 3], [], [5], [5, 6], [0, 1, 2, 3, 4, 5, 6, 7], [0, 1, 2, 3, 4, 5, 6, 7, 8], [0, 1, 2, 3, 4, 5, 6, 7, 8, 9], [0, 1, 2, 3, 4, 5, 6, 7, 8, 9], [0, 1, 2, 3, 4, 5, 6, 7, 8, 9, 10], [0, 1, 2, 3, 4, 5, 6, 7, 8, 9, 10, 11, 12]] [[.fact 8 (.flds [(true, 6, Fact.flds [(false, 1, Fact.rep [] a0.Config.Id), (false, 1, Fact.rep [] a0.Config.Members), (false, 1, Fact.rep [] a0.Config.Chunk), (false, 1, Fact.rep [] a0.Config.Rows), (false, 1, Fact.rep [] a0.Config.Log), (false, 1, Fact.rep [] a0.Config.Heads)]), (false, 1, Fact.rep [] a0.n)])], [.fact 9 (.rep [] (x1 : Int))], [.fact 10 (.rep [] ((wI (x1 + (1 : Int))) : Int))], [.fact 11 (.rep [] (a1 : Int))], [.fact 12 (.rep [] ((wI ((wI (x1 + (1 : Int))) + a1)) : Int))], [.fact 13 (.pto 10 0)], [.fact 14 (.pto 10 1)], [.fact 15 (.rep [] a0.Config.Members)], [.fact 16 (.tup2 (Fact.rep [] x2.1) (Fact.rep [] x2.2))], [.fact 7 (.tup2 (Fact.rep [] x2.1) (Fact.rep [] x2.2))], [.fact 17 (.rep [] x2.1)], [.fact 18 (.rep [] x2.2)], [.fact 5 (.rep [] x2.1)], [.fact 6 (.rep [] x2.2)]] mixed (by kernel_rfl) (ao (so (Spec.unflat (FlatR.sub (FlatR.cons (FlatR.cons (FlatR.cons (FlatR.cons (FlatR.cons (FlatR.cons FlatR.nil)))))) rfl (FlatR.cons FlatR.nil)) (Spec.loadObj (ls := [(false, 1, Fact.rep [] a0.Config.Id), (false, 1, Fact.rep [] a0.Config.Members), (false, 1, Fact.rep [] a0.Config.Chunk), (false, 1, Fact.rep [] a0.Config.Rows), (false, 1, Fact.rep [] a0.Config.Log), (false, 1, Fact.rep [] a0.Config.Heads), (false, 1, Fact.rep [] a0.n)]) ty78 rfl rfl (Has.s rfl) rfl (HasGs.cons (HasG.s rfl) (HasGs.cons (HasG.s rfl) (HasGs.cons (HasG.s rfl) (HasGs.cons (HasG.s rfl) (HasGs.cons (HasG.s rfl) (HasGs.cons (HasG.s rfl) (HasGs.cons (HasG.s rfl) HasGs.nil)))))))))) (ao (so (Spec.callE [] 18 rfl en66 (turn_row_parity_c a0 hx1) (HasAll.cons (Has.fl (Has.cv (Has.s rfl) (Cv.trans (Cv.flds (CvL.cons (Cv.trans (Cv.trans (Cv.flds (CvL.cons Cv.fl (CvL.cons Cv.fl (CvL.cons Cv.fl (CvL.cons Cv.fl (CvL.cons Cv.fl (CvL.cons Cv.fl CvL.nil))))))) (Cv.close (T := []) (chConfig a0.Config))) Cv.fl) (CvL.cons Cv.fl CvL.nil))) (Cv.close (T := []) (chRow78 a0))))) HasAll.nil))) (ao (so (Spec.addI (Has.s rfl) Has.int)) (ao (so (Spec.move (Has.s rfl))) (ao (so (Spec.addI (Has.s rfl) (Has.s rfl))) (ao (so (Spec.fieldAddrO fd78_0 (Has.cv (Has.s rfl) (Cv.isvP rfl)))) (ao (so (Spec.fieldAddrO fd24_1 (Has.s rfl))) (ao (so (Spec.loadF (i := 1) ty3 rfl (Has.s rfl) rfl (HasG.s rfl))) (ao (so (Spec.callE [] 19 rfl en65 (turn_divide_c (wI ((wI (x1 + (1 : Int))) + a1)) a0.Config.Members hx2) (HasAll.cons (Has.fl (Has.s rfl)) (HasAll.cons (Has.fl (Has.s rfl)) HasAll.nil)))) (ao (so (Spec.move (Has.s rfl))) (ao (so (Spec.ext0 (Has.s rfl))) (ao (so (Spec.ext1 (Has.s rfl))) (ao (so (Spec.assign (Has.s rfl))) (ao (so (Spec.assign (Has.s rfl))) AllM.nil)))))))))))))) ?_
 refine Leaf.thenN ?_
 refine CWalk.seq ?_
 refine CWalk.region ?_
 refine mv ?_
 refine wo (Spec.assign (Has.s rfl)) ?_
 refine Walk.nil ?_
 refine Leaf.thenN ?_
 refine CWalk.ret ?_
 obtain rfl := Option.some.inj hm
 exact Leaf.retC1 rfl (HasR.cv (HasR.tmp (Has.s rfl)) Cv.fl)

/-- freeboard/turn.Member -/
def turn_Member (a0 : Config) (a1 : Int) (a2 : Int) : Option (Int × Int) :=
  Option.bind (turn_at a0 a1 a2 a0.Members) (fun x1 => (bif (x1.2 != (0 : Int)) then some ((0 : Int), x1.2) else Option.bind (turn_row_member x1.1 a2) (fun x2 => some (x2, (0 : Int)))))
set_option maxRecDepth 100000 in
set_option maxHeartbeats 2000000 in
theorem turn_Member_c (a0 : Config) (a1 : Int) (a2 : Int) {r : Int × Int} (hm : turn_Member a0 a1 a2 = some r) : Ctr Try.prog 10 [.rep 0 a0, .rep 0 a1, .rep 0 a2] (.tup2 (.fl r.1) (.fl r.2)) [] := by
 refine ctr_of_walk [[]] 25 Try.func10 rfl rfl rfl rfl (fun w0 om => ?_)
 unfold turn_Member at hm
 refine CWalk.sub (G' := [.fact 0 (.rep [] (a0 : Config)), .fact 1 (.rep [] (a1 : Int)), .fact 2 (.rep [] (a2 : Int))]) (Sub.cons (Has.fl (Has.s rfl)) (Sub.cons (Has.fl (Has.s rfl)) (Sub.cons (Has.fl (Has.s rfl)) Sub.nil))) ?_
 refine CWalk.seq ?_
 refine CWalk.region ?_
 refine ws (Step.boxObj (ls := [(false, 1, Fact.rep [] a0.Id), (false, 1, Fact.rep [] a0.Members), (false, 1, Fact.rep [] a0.Chunk), (false, 1, Fact.rep [] a0.Rows), (false, 1, Fact.rep [] a0.Log), (false, 1, Fact.rep [] a0.Heads)]) 10 rfl rfl rfl rfl (HasL.flds (Has.cv (Has.s rfl) (Cv.trans (Cv.opens (chConfig a0)) (Cv.flds (CvL.cons Cv.fl (CvL.cons Cv.fl (CvL.cons Cv.fl (CvL.cons Cv.fl (CvL.cons Cv.fl (CvL.cons Cv.fl CvL.nil))))))))))) ?_
 refine wo (Spec.assign Has.int) ?_
 refine wo (Spec.assign Has.int) ?_
 refine Walk.nil ?_
 refine Leaf.thenN ?_
 refine CWalk.seq ?_
 refine CWalk.region ?_
 refine wo (Spec.loadObj (ls := [(false, 1, Fact.rep [] a0.Id), (false, 1, Fact.rep [] a0.Members), (false, 1, Fact.rep [] a0.Chunk), (false, 1, Fact.rep [] a0.Rows), (false, 1, Fact.rep [] a0.Log), (false, 1, Fact.rep [] a0.Heads)]) ty24 rfl rfl (Has.s rfl) rfl (HasGs.cons (HasG.s rfl) (HasGs.cons (HasG.s rfl) (HasGs.cons (HasG.s rfl) (HasGs.cons (HasG.s rfl) (HasGs.cons (HasG.s rfl) (HasGs.cons (HasG.s rfl) HasGs.nil))))))) ?_
 refine mv ?_
 refine mv ?_
 refine wo (Spec.fieldAddrO fd24_1 (Has.cv (Has.s rfl) (Cv.isvP rfl))) ?_
 refine wo (Spec.loadF (i := 1) ty3 rfl (Has.s rfl) rfl (HasG.s rfl)) ?_
 obtain ⟨x1, hx1, hm⟩ := bind_some hm
 refine wo (f := Fact.tup2 (Fact.rep [] x1.1) (Fact.rep [] x1.2)) (Spec.callE [] 17 rfl en35 (turn_at_c a0 a1 a2 a0.Members hx1) (HasAll.cons (Has.fl (Has.cv (Has.s rfl) (Cv.trans (Cv.flds (CvL.cons Cv.fl (CvL.cons Cv.fl (CvL.cons Cv.fl (CvL.cons Cv.fl (CvL.cons Cv.fl (CvL.cons Cv.fl CvL.nil))))))) (Cv.close (T := []) (chConfig a0))))) (HasAll.cons (Has.fl (Has.s rfl)) (HasAll.cons (Has.fl (Has.s rfl)) (HasAll.cons (Has.fl (Has.s rfl)) HasAll.nil))))) ?_
 refine mv ?_
 refine wo (Spec.ext0 (Has.s rfl)) ?_
 refine wo (Spec.ext1 (Has.s rfl)) ?_
 refine ws (Step.allocObj (ls := [(false, 1, Fact.rep [] ((0 : UInt32) : UInt32)), (false, 1, Fact.rep [] ((0 : Int) : Int)), (false, 1, Fact.rep [] ((0 : Int) : Int)), (false, 1, Fact.rep [] ((0 : Int) : Int)), (false, 1, Fact.rep [] ((0 : Int) : Int)), (false, 1, Fact.rep [] ((0 : Int) : Int)), (false, 1, Fact.rep [] ((0 : Int) : Int))]) 18 rfl rfl rfl rfl zl78) ?_
 refine ws (Step.storeObj (ls := [(false, 1, Fact.rep [] x1.1.Config.Id), (false, 1, Fact.rep [] x1.1.Config.Members), (false, 1, Fact.rep [] x1.1.Config.Chunk), (false, 1, Fact.rep [] x1.1.Config.Rows), (false, 1, Fact.rep [] x1.1.Config.Log), (false, 1, Fact.rep [] x1.1.Config.Heads), (false, 1, Fact.rep [] x1.1.n)]) rfl ty78 rfl rfl (Has.s rfl) rfl (HasL.flds (Has.cv (Has.s rfl) (Cv.trans (Cv.trans (Cv.trans (Cv.opens (chRow78 x1.1)) (Cv.flds (CvL.cons Cv.fl (CvL.cons Cv.fl CvL.nil)))) (Cv.flds (ls := [(true, 6, Fact.rep [] x1.1.Config), (false, 1, Fact.rep [] x1.1.n)]) (ms := [(true, 6, Fact.flds [(false, 1, Fact.rep [] x1.1.Config.Id), (false, 1, Fact.rep [] x1.1.Config.Members), (false, 1, Fact.rep [] x1.1.Config.Chunk), (false, 1, Fact.rep [] x1.1.Config.Rows), (false, 1, Fact.rep [] x1.1.Config.Log), (false, 1, Fact.rep [] x1.1.Config.Heads)]), (false, 1, Fact.rep [] x1.1.n)]) (CvL.cons (Cv.trans (Cv.opens (chConfig x1.1.Config)) (Cv.flds (CvL.cons Cv.fl (CvL.cons Cv.fl (CvL.cons Cv.fl (CvL.cons Cv.fl (CvL.cons Cv.fl (CvL.cons Cv.fl CvL.nil)))))))) (CvL.cons Cv.refl CvL.nil)))) (Cv.flat (FlatR.sub (FlatR.cons (FlatR.cons (FlatR.cons (FlatR.cons (FlatR.cons (FlatR.cons FlatR.nil)))))) rfl (FlatR.cons FlatR.nil)))))) rfl) ?_
 refine wo (Spec.assign (Has.s rfl)) ?_
 refine Walk.nil ?_
 refine Leaf.thenN ?_
 refine CWalk.seq ?_
 refine CWalk.seq ?_
 refine CWalk.region ?_
 refine mv ?_
 refine wo (Spec.neqI (Has.s rfl) Has.int) ?_
 refine Walk.nil ?_
 refine Leaf.thenN ?_
 refine CWalk.cond rfl (fun hb => ?_) (fun hb => ?_)
 ·have hm := cond_t hb hm
  refine CWalk.seq ?_
  refine CWalk.region ?_
  refine mv ?_
  refine wo (Spec.assign Has.int) ?_
  refine wo (Spec.assign (Has.s rfl)) ?_
  refine Walk.nil ?_
  refine Leaf.thenN ?_
  refine CWalk.ret ?_
  refine Leaf.thenR ?_
  obtain rfl := Option.some.inj hm
  exact Leaf.retC2 rfl (HasR.cv (HasR.tmp (Has.s rfl)) Cv.fl) (HasR.cv (HasR.tmp (Has.s rfl)) Cv.fl)
 ·have hm := cond_f hb hm
  refine CWalk.skip ?_
  refine Leaf.thenN ?_
  refine CWalk.seq ?_
  refine CWalk.region ?_
  refine wo (Spec.unflat (FlatR.sub (FlatR.cons (FlatR.cons (FlatR.cons (FlatR.cons (FlatR.cons (FlatR.cons FlatR.nil)))))) rfl (FlatR.cons FlatR.nil)) (Spec.loadObj (ls := [(false, 1, Fact.rep [] x1.1.Config.Id), (false, 1, Fact.rep [] x1.1.Config.Members), (false, 1, Fact.rep [] x1.1.Config.Chunk), (false, 1, Fact.rep [] x1.1.Config.Rows), (false, 1, Fact.rep [] x1.1.Config.Log), (false, 1, Fact.rep [] x1.1.Config.Heads), (false, 1, Fact.rep [] x1.1.n)]) ty78 rfl rfl (Has.s rfl) rfl (HasGs.cons (HasG.s rfl) (HasGs.cons (HasG.s rfl) (HasGs.cons (HasG.s rfl) (HasGs.cons (HasG.s rfl) (HasGs.cons (HasG.s rfl) (HasGs.cons (HasG.s rfl) (HasGs.cons (HasG.s rfl) HasGs.nil))))))))) ?_
  refine mv ?_
  obtain ⟨x2, hx2, hm⟩ := bind_some hm
  refine wo (f := Fact.rep [] (x2 : Int)) (Spec.callE [] 26 rfl en36 (turn_row_member_c x1.1 a2 hx2) (HasAll.cons (Has.fl (Has.cv (Has.s rfl) (Cv.trans (Cv.flds (CvL.cons (Cv.trans (Cv.trans (Cv.flds (CvL.cons Cv.fl (CvL.cons Cv.fl (CvL.cons Cv.fl (CvL.cons Cv.fl (CvL.cons Cv.fl (CvL.cons Cv.fl CvL.nil))))))) (Cv.close (T := []) (chConfig x1.1.Config))) Cv.fl) (CvL.cons Cv.fl CvL.nil))) (Cv.close (T := []) (chRow78 x1.1))))) (HasAll.cons (Has.fl (Has.s rfl)) HasAll.nil))) ?_
  refine wo (Spec.assign (Has.s rfl)) ?_
  refine wo (Spec.assign Has.int) ?_
  refine Walk.nil ?_
  refine Leaf.thenN ?_
  refine CWalk.ret ?_
  obtain rfl := Option.some.inj hm
  exact Leaf.retC2 rfl (HasR.cv (HasR.tmp (Has.s rfl)) Cv.fl) (HasR.cv (HasR.tmp (Has.s rfl)) Cv.fl)

/-- slices.Clone[[]byte,byte] -/
def slices_Clone_byte_byte (a0 : List UInt8) : Option ((List UInt8)) :=
  Option.bind (app ([] : List UInt8) a0) (fun x1 => some x1)
set_option maxRecDepth 100000 in
set_option maxHeartbeats 2000000 in
theorem slices_Clone_byte_byte_c (a0 : List UInt8) {r : (List UInt8)} (hm : slices_Clone_byte_byte a0 = some r) : Ctr Try.prog 62 [.rep 0 a0] (.own 0 none 5 r) [] := by
 refine ctr_of_walk [[10]] 8 Try.func62 rfl rfl rfl rfl (fun w0 om => ?_)
 unfold slices_Clone_byte_byte at hm
 refine CWalk.sub (G' := [.fact 0 (.rep [0] (a0 : List UInt8))]) (sn Sub.nil) ?_
 refine CWalk.seq ?_
 refine CWalk.region ?_
 refine wo (Spec.assign Has.nilv) ?_
 refine Walk.nil ?_
 refine Leaf.thenN ?_
 refine CWalk.seq ?_
 refine CWalk.seq ?_
 refine CWalk.region ?_
 refine mv ?_
 refine wo (Spec.eqlNil Try.underlying35 (Has.s rfl)) ?_
 refine Walk.nil ?_
 refine Leaf.thenN ?_
 refine CWalk.condNil rfl (fun hb => ?_) ?_
 ·have hm : some ([] : List UInt8) = some r := by first | simpa [app, hb] using hm | simpa [hb] using hm
  refine CWalk.seq ?_
  refine CWalk.region ?_
  refine wo (Spec.assign Has.nilv) ?_
  refine Walk.nil ?_
  refine Leaf.thenN ?_
  refine CWalk.ret ?_
  refine Leaf.thenR ?_
  obtain rfl := Option.some.inj hm
  exact Leaf.retC1 rfl (HasR.cv (HasR.tmp (Has.s rfl)) (Cv.trans Cv.nilOw (Cv.owF (T := []) (te := []) rfl)))
 ·skip
  refine CWalk.skip ?_
  refine Leaf.thenN ?_
  refine CWalk.seq ?_
  refine CWalk.region ?_
  refine ws (Step.lit0 (α := UInt8) 10 rfl rfl ow35) ?_
  refine mv ?_
  obtain ⟨x1, hx1, hm⟩ := bind_some hm
  refine ws (Step.append (te' := []) 10 hx1 rfl rfl ow35 (Has.s rfl) rfl (Has.s rfl) ElKeep.flat ElKeep.flat) ?_
  refine wo (Spec.assign (Has.s rfl)) ?_
  refine Walk.nil ?_
  refine Leaf.thenN ?_
  refine CWalk.ret ?_
  obtain rfl := Option.some.inj hm
  exact Leaf.retC1 rfl (HasR.cv (HasR.tmp (Has.s rfl)) (Cv.trans (Cv.isvOw rfl) (Cv.owF (T := [10]) (te := []) rfl)))

def home_acts_J1 (j1 : List Act37) : Option ((List Act37) × Int) :=
  some (j1, (0 : Int))
def home_acts_J3 (s2 : Int) (j7 : List Act37) : Option (Ctl (Int × (List Act37)) ((List Act37))) :=
  some (Ctl.next ((wI (s2 + (1 : Int))), j7))
def home_acts_J4 (a2 : Deal) (s2 : Int) (s3 : List Act37) (x8 : Int × Int) (j10 : List UInt8) : Option (Ctl (Int × (List Act37)) ((List Act37))) :=
  Option.bind (app s3 ([(Act37.mk x8.1 (1 : UInt8) (wI (a2.Stripe + (1 : Int))) j10)])) (fun x11 => (home_acts_J3 s2 x11))
def home_acts_L2 (a0 : Config) (a1 : Int) (a2 : Deal) (s2 : Int) (s3 : List Act37) : Option (Ctl (Int × (List Act37)) ((List Act37))) :=
  (bif (decide (s2 < ((a2.Slots).length : Int))) then Option.bind (idx a2.Slots s2) (fun x5 => Option.bind (idx a2.Blocks s2) (fun x6 => Option.bind (turn_Member a0 a2.Stripe x5) (fun x8 => (bif (x8.1 == a1) then (home_acts_J3 s2 s3) else Option.bind (slices_Clone_byte_byte x6) (fun x9 => (bif (((x9).length : Int) == (0 : Int)) then Option.bind (makeL (0 : UInt8) (128 : Int)) (fun x12 => (home_acts_J4 a2 s2 s3 x8 x12)) else (home_acts_J4 a2 s2 s3 x8 x9))))))) else some (Ctl.brk s3))
def home_acts_J5 (j14 : List Act37) : Option ((List Act37) × Int) :=
  (home_acts_J1 j14)
def home_acts_J6 (a2 : Deal) (b13 : (List Act37)) (x15 : Int × Int) (j17 : List UInt8) : Option ((List Act37) × Int) :=
  Option.bind (app b13 ([(Act37.mk x15.1 (1 : UInt8) (wI (a2.Stripe + (1 : Int))) j17)])) (fun x18 => (home_acts_J5 x18))
/-- freeboard/home.acts -/
def home_acts (a0 : Config) (a1 : Int) (a2 : Deal) : Option ((List Act37) × Int) :=
  Option.bind (loopM (fun s : Int × (List Act37) => home_acts_L2 a0 a1 a2 s.1 s.2) FUEL ((0 : Int), ([] : List Act37))) (fun b13 => Option.bind (turn_Member a0 a2.Stripe (wI (a0.Members - (1 : Int)))) (fun x15 => (bif (x15.1 == a1) then (home_acts_J5 b13) else Option.bind (slices_Clone_byte_byte a2.Parity) (fun x16 => (bif (((x16).length : Int) == (0 : Int)) then Option.bind (makeL (0 : UInt8) (128 : Int)) (fun x19 => (home_acts_J6 a2 b13 x15 x19)) else (home_acts_J6 a2 b13 x15 x16))))))
set_option maxRecDepth 100000 in
set_option maxHeartbeats 2000000 in
theorem home_acts_c (a0 : Config) (a1 : Int) (a2 : Deal) {r : (List Act37) × Int} (hm : home_acts a0 a1 a2 = some r) : Ctr Try.prog 34 [.rep 0 a0, .rep 0 a1, .rep 0 a2] (.tup2 (.own 0 (some 1) 37 r.1) (.fl r.2)) [] := by
 refine ctr_of_walk [[48], [45, 46, 47, 50, 51, 52]] 24 Try.func34 rfl rfl rfl rfl (fun w0 om => ?_)
 unfold home_acts at hm
 refine CWalk.sub (G' := [.fact 0 (.rep [] (a0 : Config)), .fact 1 (.rep [] (a1 : Int)), .fact 2 (.rep [0] (a2 : Deal))]) (Sub.cons (Has.fl (Has.s rfl)) (Sub.cons (Has.fl (Has.s rfl)) (sn Sub.nil))) ?_
 refine CWalk.seq ?_
 refine CWalk.region ?_
 refine ws (Step.boxObj (ls := [(false, 1, Fact.rep [] a0.Id), (false, 1, Fact.rep [] a0.Members), (false, 1, Fact.rep [] a0.Chunk), (false, 1, Fact.rep [] a0.Rows), (false, 1, Fact.rep [] a0.Log), (false, 1, Fact.rep [] a0.Heads)]) 10 rfl rfl rfl rfl (HasL.flds (Has.cv (Has.s rfl) (Cv.trans (Cv.opens (chConfig a0)) (Cv.flds (CvL.cons Cv.fl (CvL.cons Cv.fl (CvL.cons Cv.fl (CvL.cons Cv.fl (CvL.cons Cv.fl (CvL.cons Cv.fl CvL.nil))))))))))) ?_
 refine ws (Step.boxObj (ls := [(false, 1, Fact.rep [] a2.Stripe), (false, 1, Fact.rep [0] a2.Slots), (false, 1, Fact.rep [0] a2.Blocks), (false, 1, Fact.rep [0] a2.Parity)]) 17 rfl rfl rfl rfl (HasL.flds (Has.cv (Has.s rfl) (Cv.trans (Cv.opens (chDeal a2)) (Cv.flds (CvL.cons Cv.fl (CvL.cons Cv.refl (CvL.cons Cv.refl (CvL.cons Cv.refl CvL.nil))))))))) ?_
 refine wo (Spec.assign Has.nilv) ?_
 refine wo (Spec.assign Has.int) ?_
 refine Walk.nil ?_
 refine Leaf.thenN ?_
 refine CWalk.seq ?_
 refine CWalk.region ?_
 refine wo (Spec.loadObj (ls := [(false, 1, Fact.rep [] a0.Id), (false, 1, Fact.rep [] a0.Members), (false, 1, Fact.rep [] a0.Chunk), (false, 1, Fact.rep [] a0.Rows), (false, 1, Fact.rep [] a0.Log), (false, 1, Fact.rep [] a0.Heads)]) ty24 rfl rfl (Has.s rfl) rfl (HasGs.cons (HasG.s rfl) (HasGs.cons (HasG.s rfl) (HasGs.cons (HasG.s rfl) (HasGs.cons (HasG.s rfl) (HasGs.cons (HasG.s rfl) (HasGs.cons (HasG.s rfl) HasGs.nil))))))) ?_
 refine mv ?_
 refine wo (Spec.fieldAddrO fd43_0 (Has.cv (Has.s rfl) (Cv.isvP rfl))) ?_
 refine wo (Spec.loadF (i := 0) ty3 rfl (Has.s rfl) rfl (HasG.s rfl)) ?_
 refine wo (Spec.build (us := [(0, .tmp 9), (1, .tmp 10), (2, .tmp 12)]) (ls' := [(true, 6, Fact.flds [(false, 1, Fact.rep [] a0.Id), (false, 1, Fact.rep [] a0.Members), (false, 1, Fact.rep [] a0.Chunk), (false, 1, Fact.rep [] a0.Rows), (false, 1, Fact.rep [] a0.Log), (false, 1, Fact.rep [] a0.Heads)]), (false, 1, Fact.rep [] (a1 : Int)), (false, 1, Fact.rep [] a2.Stripe), (false, 1, Fact.nilv)]) bd113 rfl (BP.cons rfl rfl (Has.cv (Has.s rfl) (Cv.trans (Cv.flds (CvL.cons Cv.fl (CvL.cons Cv.fl (CvL.cons Cv.fl (CvL.cons Cv.fl (CvL.cons Cv.fl (CvL.cons Cv.fl CvL.nil))))))) (Cv.close (T := []) (chConfig a0)))) (Has.s rfl) (BP.cons rfl rfl (Has.s rfl) (Has.s rfl) (BP.cons rfl rfl (Has.s rfl) (Has.s rfl) BP.nil)))) ?_
 refine ws (Step.boxObj (ls := [(false, 1, Fact.rep [] a0.Id), (false, 1, Fact.rep [] a0.Members), (false, 1, Fact.rep [] a0.Chunk), (false, 1, Fact.rep [] a0.Rows), (false, 1, Fact.rep [] a0.Log), (false, 1, Fact.rep [] a0.Heads), (false, 1, Fact.rep [] (a1 : Int)), (false, 1, Fact.rep [] a2.Stripe), (false, 1, Fact.nilv)]) 22 rfl rfl rfl rfl (HasL.flds (Has.cv (Has.s rfl) (Cv.flat (FlatR.sub (FlatR.cons (FlatR.cons (FlatR.cons (FlatR.cons (FlatR.cons (FlatR.cons FlatR.nil)))))) rfl (FlatR.cons (FlatR.cons (FlatR.cons FlatR.nil)))))))) ?_
 refine wo (Spec.assign (Has.s rfl)) ?_
 refine Walk.nil ?_
 refine Leaf.thenN ?_
 refine CWalk.seq ?_
 refine CWalk.region ?_
 refine wo (Spec.loadObj (ls := [(false, 1, Fact.rep [] a0.Id), (false, 1, Fact.rep [] a0.Members), (false, 1, Fact.rep [] a0.Chunk), (false, 1, Fact.rep [] a0.Rows), (false, 1, Fact.rep [] a0.Log), (false, 1, Fact.rep [] a0.Heads)]) ty24 rfl rfl (Has.s rfl) rfl (HasGs.cons (HasG.s rfl) (HasGs.cons (HasG.s rfl) (HasGs.cons (HasG.s rfl) (HasGs.cons (HasG.s rfl) (HasGs.cons (HasG.s rfl) (HasGs.cons (HasG.s rfl) HasGs.nil))))))) ?_
 refine wo (Spec.loadObj (ls := [(false, 1, Fact.rep [] a2.Stripe), (false, 1, Fact.rep [0] a2.Slots), (false, 1, Fact.rep [0] a2.Blocks), (false, 1, Fact.rep [0] a2.Parity)]) ty43 rfl rfl (Has.s rfl) rfl (HasGs.cons (HasG.s rfl) (HasGs.cons (HasG.s rfl) (HasGs.cons (HasG.s rfl) (HasGs.cons (HasG.s rfl) HasGs.nil))))) ?_
 refine mv ?_
 refine wo (Spec.makeFunc (xs := [.tmp 17]) (ys := []) rfl rfl (HasF.cons (Has.s rfl) HasF.nil) HasF.nil (fun _ _ _ => rfl)) ?_
 refine Walk.inline (S := (List Act37)) (fun p : (List Act37) => [.fact 8 (.isv 22), .fact 19 (.top), .fact 100023 (.at 23 (.rep [] a0.Id)), .fact 100024 (.at 24 (.rep [] a0.Members)), .fact 100025 (.at 25 (.rep [] a0.Chunk)), .fact 100026 (.at 26 (.rep [] a0.Rows)), .fact 100027 (.at 27 (.rep [] a0.Log)), .fact 100028 (.at 28 (.rep [] a0.Heads)), .fact 100029 (.at 29 (.rep [] (a1 : Int))), .fact 100030 (.at 30 (.rep [] a2.Stripe)), .fact 100031 (.at 31 (.ow [48] [45, 46, 47, 50, 51, 52] 37 (p : List Act37))), .fact 100022 (.obj 22 [(false, 1), (false, 1), (false, 1), (false, 1), (false, 1), (false, 1), (false, 1), (false, 1), (false, 1)])]) (fun p : (List Act37) => home_acts_J1 p = some r) (fun u1 => [.fact 100023 (.at 23 (.rep [] a0.Id)), .fact 100024 (.at 24 (.rep [] a0.Members)), .fact 100025 (.at 25 (.rep [] a0.Chunk)), .fact 100026 (.at 26 (.rep [] a0.Rows)), .fact 100027 (.at 27 (.rep [] a0.Log)), .fact 100028 (.at 28 (.rep [] a0.Heads)), .fact 100029 (.at 29 (.rep [] (a1 : Int))), .fact 100030 (.at 30 (.rep [] a2.Stripe)), .fact 100031 (.at 31 (.nilv)), .fact 902008 (.cst (u1 8) (Fact.isv 22)), .fact 100022 (.obj 22 [(false, 1), (false, 1), (false, 1), (false, 1), (false, 1), (false, 1), (false, 1), (false, 1), (false, 1)])]) (FA := [Fact.flds [(false, 1, Fact.rep [] a0.Id), (false, 1, Fact.rep [] a0.Members), (false, 1, Fact.rep [] a0.Chunk), (false, 1, Fact.rep [] a0.Rows), (false, 1, Fact.rep [] a0.Log), (false, 1, Fact.rep [] a0.Heads)], Fact.flds [(false, 1, Fact.rep [] a2.Stripe), (false, 1, Fact.rep [0] a2.Slots), (false, 1, Fact.rep [0] a2.Blocks), (false, 1, Fact.rep [0] a2.Parity)], Fact.fnv 64 [Fact.isv 22] []]) rfl Try.func63 rfl rfl rfl (CallOk.fn en63 (HasF.cons (Has.s rfl) (HasF.cons (Has.s rfl) (HasF.cons (Has.s rfl) HasF.nil)))) (fun u1 => (ck (ck (ck (ck (ck (ck (ck (ck (ck (cs 902000 8 (ck Carry.nil)))))))))))) (fun u1 => ?_) ?_
 ·refine CWalk.seq ?_
  refine CWalk.region ?_
  refine ws (Step.boxObj (ls := [(false, 1, Fact.rep [] a0.Id), (false, 1, Fact.rep [] a0.Members), (false, 1, Fact.rep [] a0.Chunk), (false, 1, Fact.rep [] a0.Rows), (false, 1, Fact.rep [] a0.Log), (false, 1, Fact.rep [] a0.Heads)]) 32 rfl rfl rfl rfl (HasL.flds (Has.s rfl))) ?_
  refine ws (Step.boxObj (ls := [(false, 1, Fact.rep [] a2.Stripe), (false, 1, Fact.rep [0] a2.Slots), (false, 1, Fact.rep [0] a2.Blocks), (false, 1, Fact.rep [0] a2.Parity)]) 39 rfl rfl rfl rfl (HasL.flds (Has.s rfl))) ?_
  refine Walk.nil ?_
  refine Leaf.thenN ?_
  refine CWalk.seq ?_
  refine CWalk.seq ?_
  refine CWalk.region ?_
  refine wo (Spec.fieldAddrO fd43_1 (Has.cv (Has.s rfl) (Cv.isvP rfl))) ?_
  refine wo (Spec.loadF (i := 1) ty41 rfl (Has.s rfl) rfl (HasG.s rfl)) ?_
  refine wo (Spec.len (Has.s rfl) Try.underlying41) ?_
  refine wo (Spec.move Has.int) ?_
  refine Walk.nil ?_
  refine Leaf.thenN ?_
  refine CWalk.block ?_
  obtain ⟨b13, hb13, hm⟩ := bind_some hm
  refine CWalk.loop (fun s : Int × (List Act37) => [.fact 2 (.fnv 64 [Fact.isv 22] []), .fact 3 (.isv 32), .fact 4 (.isv 39), .fact 9 (.rep [0] a2.Slots), .fact 10 (.rep [] (((a2.Slots).length : Int) : Int)), .fact 11 (.rep [] s.1), .fact 902008 (.cst (u1 8) (Fact.isv 22)), .fact 100023 (.at 23 (.rep [] a0.Id)), .fact 100024 (.at 24 (.rep [] a0.Members)), .fact 100025 (.at 25 (.rep [] a0.Chunk)), .fact 100026 (.at 26 (.rep [] a0.Rows)), .fact 100027 (.at 27 (.rep [] a0.Log)), .fact 100028 (.at 28 (.rep [] a0.Heads)), .fact 100029 (.at 29 (.rep [] (a1 : Int))), .fact 100030 (.at 30 (.rep [] a2.Stripe)), .fact 100031 (.at 31 (.ow [48] [45, 46, 47] 37 (s.2 : List Act37))), .fact 100033 (.at 33 (.rep [] a0.Id)), .fact 100034 (.at 34 (.rep [] a0.Members)), .fact 100035 (.at 35 (.rep [] a0.Chunk)), .fact 100036 (.at 36 (.rep [] a0.Rows)), .fact 100037 (.at 37 (.rep [] a0.Log)), .fact 100038 (.at 38 (.rep [] a0.Heads)), .fact 100040 (.at 40 (.rep [] a2.Stripe)), .fact 100041 (.at 41 (.rep [0] a2.Slots)), .fact 100042 (.at 42 (.rep [0] a2.Blocks)), .fact 100043 (.at 43 (.rep [0] a2.Parity)), .fact 100022 (.obj 22 [(false, 1), (false, 1), (false, 1), (false, 1), (false, 1), (false, 1), (false, 1), (false, 1), (false, 1)]), .fact 100032 (.obj 32 [(false, 1), (false, 1), (false, 1), (false, 1), (false, 1), (false, 1)]), .fact 100039 (.obj 39 [(false, 1), (false, 1), (false, 1), (false, 1)])]) (fun b : (List Act37) => (Exit.exit 0, [.fact 2 (.fnv 64 [Fact.isv 22] []), .fact 3 (.isv 32), .fact 4 (.isv 39), .fact 902008 (.cst (u1 8) (Fact.isv 22)), .fact 100023 (.at 23 (.rep [] a0.Id)), .fact 100024 (.at 24 (.rep [] a0.Members)), .fact 100025 (.at 25 (.rep [] a0.Chunk)), .fact 100026 (.at 26 (.rep [] a0.Rows)), .fact 100027 (.at 27 (.rep [] a0.Log)), .fact 100028 (.at 28 (.rep [] a0.Heads)), .fact 100029 (.at 29 (.rep [] (a1 : Int))), .fact 100030 (.at 30 (.rep [] a2.Stripe)), .fact 100031 (.at 31 (.ow [48] [45, 46, 47] 37 (b : List Act37))), .fact 100033 (.at 33 (.rep [] a0.Id)), .fact 100034 (.at 34 (.rep [] a0.Members)), .fact 100035 (.at 35 (.rep [] a0.Chunk)), .fact 100036 (.at 36 (.rep [] a0.Rows)), .fact 100037 (.at 37 (.rep [] a0.Log)), .fact 100038 (.at 38 (.rep [] a0.Heads)), .fact 100040 (.at 40 (.rep [] a2.Stripe)), .fact 100041 (.at 41 (.rep [0] a2.Slots)), .fact 100042 (.at 42 (.rep [0] a2.Blocks)), .fact 100043 (.at 43 (.rep [0] a2.Parity)), .fact 100022 (.obj 22 [(false, 1), (false, 1), (false, 1), (false, 1), (false, 1), (false, 1), (false, 1), (false, 1), (false, 1)]), .fact 100032 (.obj 32 [(false, 1), (false, 1), (false, 1), (false, 1), (false, 1), (false, 1)]), .fact 100039 (.obj 39 [(false, 1), (false, 1), (false, 1), (false, 1)])])) hb13 (sn (sn (sn (su (st (st (sc (sf (sf (sf (sf (sf (sf (sf (sf (Sub.cons (Has.at (HasG.cv (HasG.s rfl) (Cv.trans Cv.nilOw (Cv.owM (T := []) (te := []) rfl rfl)))) (sf (sf (sf (sf (sf (sf (sf (sm (sm (sm (sn (sn (sn Sub.nil))))))))))))))))))))))))))))) ?_ ?_
  ·rintro ⟨s2, s3⟩ c4 hm
   replace hm : home_acts_L2 a0 a1 a2 s2 s3 = some c4 := hm
   unfold home_acts_L2 at hm
   show CWalk _ [.fact 2 (.fnv 64 [Fact.isv 22] []), .fact 3 (.isv 32), .fact 4 (.isv 39), .fact 9 (.rep [0] a2.Slots), .fact 10 (.rep [] (((a2.Slots).length : Int) : Int)), .fact 11 (.rep [] (s2 : Int)), .fact 902008 (.cst (u1 8) (Fact.isv 22)), .fact 100023 (.at 23 (.rep [] a0.Id)), .fact 100024 (.at 24 (.rep [] a0.Members)), .fact 100025 (.at 25 (.rep [] a0.Chunk)), .fact 100026 (.at 26 (.rep [] a0.Rows)), .fact 100027 (.at 27 (.rep [] a0.Log)), .fact 100028 (.at 28 (.rep [] a0.Heads)), .fact 100029 (.at 29 (.rep [] (a1 : Int))), .fact 100030 (.at 30 (.rep [] a2.Stripe)), .fact 100031 (.at 31 (.ow [48] [45, 46, 47] 37 (s3 : List Act37))), .fact 100033 (.at 33 (.rep [] a0.Id)), .fact 100034 (.at 34 (.rep [] a0.Members)), .fact 100035 (.at 35 (.rep [] a0.Chunk)), .fact 100036 (.at 36 (.rep [] a0.Rows)), .fact 100037 (.at 37 (.rep [] a0.Log)), .fact 100038 (.at 38 (.rep [] a0.Heads)), .fact 100040 (.at 40 (.rep [] a2.Stripe)), .fact 100041 (.at 41 (.rep [0] a2.Slots)), .fact 100042 (.at 42 (.rep [0] a2.Blocks)), .fact 100043 (.at 43 (.rep [0] a2.Parity)), .fact 100022 (.obj 22 [(false, 1), (false, 1), (false, 1), (false, 1), (false, 1), (false, 1), (false, 1), (false, 1), (false, 1)]), .fact 100032 (.obj 32 [(false, 1), (false, 1), (false, 1), (false, 1), (false, 1), (false, 1)]), .fact 100039 (.obj 39 [(false, 1), (false, 1), (false, 1), (false, 1)])] _ _
   refine CWalk.seq ?_
   refine CWalk.region ?_
   refine wo (Spec.lssI (Has.s rfl) (Has.s rfl)) ?_
   refine Walk.nil ?_
   refine Leaf.thenN ?_
   refine CWalk.seq ?_
   refine CWalk.cond rfl (fun hb => ?_) (fun hb => ?_)
   ·have hm := cond_t hb hm
    refine CWalk.skip ?_
    refine Leaf.thenN ?_
    refine CWalk.seq ?_
    refine CWalk.block ?_
    refine CWalk.seq ?_
    refine CWalk.region ?_
    refine mv ?_
    obtain ⟨x5, hx5, hm⟩ := bind_some hm
    refine wo (Spec.indexAddr hx5 sl41 (Has.s rfl) (Has.s rfl)) ?_
    refine wo ((Spec.load ty3 (Has.s rfl)).flat (T' := [])) ?_
    refine wo (Spec.assign (Has.s rfl)) ?_
    refine wo (Spec.assign (Has.s rfl)) ?_
    refine Walk.nil ?_
    refine Leaf.thenN ?_
    refine CWalk.region ?_
    refine mv ?_
    refine mv ?_
    refine wo (Spec.fieldAddrO fd43_2 (Has.cv (Has.s rfl) (Cv.isvP rfl))) ?_
    refine wo (Spec.loadF (i := 2) ty25 rfl (Has.s rfl) rfl (HasG.s rfl)) ?_
    refine mv ?_
    obtain ⟨x6, hx6, hm⟩ := bind_some hm
    refine wo (Spec.indexAddr hx6 sl25 (Has.s rfl) (Has.s rfl)) ?_
    refine wo (Spec.load ty35 (Has.s rfl)) ?_
    refine Walk.inline (S := (List Act37)) (fun p : (List Act37) => [.fact 2 (.fnv 64 [Fact.isv 22] []), .fact 3 (.isv 32), .fact 4 (.isv 39), .fact 9 (.rep [0] a2.Slots), .fact 10 (.rep [] (((a2.Slots).length : Int) : Int)), .fact 11 (.rep [] (s2 : Int)), .fact 23 (.top), .fact 902008 (.cst (u1 8) (Fact.isv 22)), .fact 100023 (.at 23 (.rep [] a0.Id)), .fact 100024 (.at 24 (.rep [] a0.Members)), .fact 100025 (.at 25 (.rep [] a0.Chunk)), .fact 100026 (.at 26 (.rep [] a0.Rows)), .fact 100027 (.at 27 (.rep [] a0.Log)), .fact 100028 (.at 28 (.rep [] a0.Heads)), .fact 100029 (.at 29 (.rep [] (a1 : Int))), .fact 100030 (.at 30 (.rep [] a2.Stripe)), .fact 100031 (.at 31 (.ow [48] [45, 46, 47] 37 (p : List Act37))), .fact 100033 (.at 33 (.rep [] a0.Id)), .fact 100034 (.at 34 (.rep [] a0.Members)), .fact 100035 (.at 35 (.rep [] a0.Chunk)), .fact 100036 (.at 36 (.rep [] a0.Rows)), .fact 100037 (.at 37 (.rep [] a0.Log)), .fact 100038 (.at 38 (.rep [] a0.Heads)), .fact 100040 (.at 40 (.rep [] a2.Stripe)), .fact 100041 (.at 41 (.rep [0] a2.Slots)), .fact 100042 (.at 42 (.rep [0] a2.Blocks)), .fact 100043 (.at 43 (.rep [0] a2.Parity)), .fact 100022 (.obj 22 [(false, 1), (false, 1), (false, 1), (false, 1), (false, 1), (false, 1), (false, 1), (false, 1), (false, 1)]), .fact 100032 (.obj 32 [(false, 1), (false, 1), (false, 1), (false, 1), (false, 1), (false, 1)]), .fact 100039 (.obj 39 [(false, 1), (false, 1), (false, 1), (false, 1)])]) (fun p : (List Act37) => home_acts_J3 s2 p = some c4) (fun u2 => [.fact 100023 (.at 23 (.rep [] a0.Id)), .fact 100024 (.at 24 (.rep [] a0.Members)), .fact 100025 (.at 25 (.rep [] a0.Chunk)), .fact 100026 (.at 26 (.rep [] a0.Rows)), .fact 100027 (.at 27 (.rep [] a0.Log)), .fact 100028 (.at 28 (.rep [] a0.Heads)), .fact 100029 (.at 29 (.rep [] (a1 : Int))), .fact 100030 (.at 30 (.rep [] a2.Stripe)), .fact 100031 (.at 31 (.ow [48] [45, 46, 47] 37 (s3 : List Act37))), .fact 100033 (.at 33 (.rep [] a0.Id)), .fact 100034 (.at 34 (.rep [] a0.Members)), .fact 100035 (.at 35 (.rep [] a0.Chunk)), .fact 100036 (.at 36 (.rep [] a0.Rows)), .fact 100037 (.at 37 (.rep [] a0.Log)), .fact 100038 (.at 38 (.rep [] a0.Heads)), .fact 100040 (.at 40 (.rep [] a2.Stripe)), .fact 100041 (.at 41 (.rep [0] a2.Slots)), .fact 100042 (.at 42 (.rep [0] a2.Blocks)), .fact 100043 (.at 43 (.rep [0] a2.Parity)), .fact 902008 (.cst (u1 8) (Fact.isv 22)), .fact 904002 (.cst (u2 2) (Fact.fnv 64 [Fact.isv 22] [])), .fact 904003 (.cst (u2 3) (Fact.isv 32)), .fact 904004 (.cst (u2 4) (Fact.isv 39)), .fact 904009 (.cst (u2 9) (Fact.rep [0] a2.Slots)), .fact 904010 (.cst (u2 10) (Fact.rep [] (((a2.Slots).length : Int) : Int))), .fact 904011 (.cst (u2 11) (Fact.rep [] (s2 : Int))), .fact 100022 (.obj 22 [(false, 1), (false, 1), (false, 1), (false, 1), (false, 1), (false, 1), (false, 1), (false, 1), (false, 1)]), .fact 100032 (.obj 32 [(false, 1), (false, 1), (false, 1), (false, 1), (false, 1), (false, 1)]), .fact 100039 (.obj 39 [(false, 1), (false, 1), (false, 1), (false, 1)])]) (FA := [Fact.isv 22, Fact.rep [] (x5 : Int), Fact.rep [0] (x6 : List UInt8)]) rfl Try.func64 rfl rfl rfl (CallOk.valE en64 (Has.s rfl) (HasF.cons (Has.s rfl) (HasF.cons (Has.s rfl) HasF.nil))) (fun u2 => (ck (ck (ck (ck (ck (ck (ck (ck (ck (ck (ck (ck (ck (ck (ck (ck (ck (ck (ck (ck (cs 904000 2 (cs 904000 3 (cs 904000 4 (cs 904000 9 (cs 904000 10 (cs 904000 11 (ck (ck (ck Carry.nil)))))))))))))))))))))))))))))) (fun u2 => ?_) ?_
    ·refine CWalk.seq ?_
     obtain ⟨x8, hx8, hm⟩ := bind_some hm
     refine CWalk.drawM [[], [0], [0, 1], [0, 1, 2], [], [4], [4, 5], [4, 5, 6], [], [0, 1, 2, 3, 4, 5, 6, 7, 8], [0, 1, 2, 3, 4, 5, 6, 7, 8, 9], [0, 1, 2, 3, 4, 5, 6, 7, 8, 9, 10], [0, 1, 2, 3, 4, 5, 6, 7, 8, 9, 10], [0, 1, 2, 3, 4, 5, 6, 7, 8, 9, 10, 11], [0, 1, 2, 3, 4, 5, 6, 7, 8, 9, 10, 11, 12, 13]] [[.fact 10 (.isv 22)], [.fact 11 (.isv 22)], [.fact 12 (.pto 22 0)], [.fact 13 (.flds [(false, 1, Fact.rep [] a0.Id), (false, 1, Fact.rep [] a0.Members), (false, 1, Fact.rep [] a0.Chunk), (false, 1, Fact.rep [] a0.Rows), (false, 1, Fact.rep [] a0.Log), (false, 1, Fact.rep [] a0.Heads)])], [.fact 14 (.isv 22)], [.fact 15 (.isv 22)], [.fact 16 (.pto 22 7)], [.fact 17 (.rep [] a2.Stripe)], [.fact 18 (.rep [] (x5 : Int))], [.fact 19 (.tup2 (Fact.rep [] x8.1) (Fact.rep [] x8.2))], [.fact 9 (.tup2 (Fact.rep [] x8.1) (Fact.rep [] x8.2))], [.fact 20 (.rep [] x8.1)], [.fact 21 (.rep [] x8.2)], [.fact 6 (.rep [] x8.1)], [.fact 7 (.rep [] x8.2)]] mixed (by kernel_rfl) (ao (so (Spec.move (Has.s rfl))) (ao (so (Spec.nilCheckI (Has.s rfl) rfl)) (ao (so (Spec.fieldAddrO fd113_0 (Has.cv (Has.s rfl) (Cv.isvP rfl)))) (ao (so (Spec.loadParts (i := 0) (a := []) (b := [(false, 1), (false, 1), (false, 1)]) (ls := [(false, 1, Fact.rep [] a0.Id), (false, 1, Fact.rep [] a0.Members), (false, 1, Fact.rep [] a0.Chunk), (false, 1, Fact.rep [] a0.Rows), (false, 1, Fact.rep [] a0.Log), (false, 1, Fact.rep [] a0.Heads)]) ty24 rfl rfl rfl rfl rfl (Has.s rfl) rfl (HasGs.cons (HasG.s rfl) (HasGs.cons (HasG.s rfl) (HasGs.cons (HasG.s rfl) (HasGs.cons (HasG.s rfl) (HasGs.cons (HasG.s rfl) (HasGs.cons (HasG.s rfl) HasGs.nil)))))))) (ao (so (Spec.move (Has.s rfl))) (ao (so (Spec.nilCheckI (Has.s rfl) rfl)) (ao (so (Spec.fieldAddrO fd113_2 (Has.cv (Has.s rfl) (Cv.isvP rfl)))) (ao (so (Spec.loadF (i := 7) ty3 rfl (Has.s rfl) rfl (HasG.s rfl))) (ao (so (Spec.move (Has.s rfl))) (ao (so (Spec.callE [] 44 rfl en10 (turn_Member_c a0 a2.Stripe x5 hx8) (HasAll.cons (Has.fl (Has.cv (Has.s rfl) (Cv.trans (Cv.flds (CvL.cons Cv.fl (CvL.cons Cv.fl (CvL.cons Cv.fl (CvL.cons Cv.fl (CvL.cons Cv.fl (CvL.cons Cv.fl CvL.nil))))))) (Cv.close (T := []) (chConfig a0))))) (HasAll.cons (Has.fl (Has.s rfl)) (HasAll.cons (Has.fl (Has.s rfl)) HasAll.nil))))) (ao (so (Spec.move (Has.s rfl))) (ao (so (Spec.ext0 (Has.s rfl))) (ao (so (Spec.ext1 (Has.s rfl))) (ao (so (Spec.assign (Has.s rfl))) (ao (so (Spec.assign (Has.s rfl))) AllM.nil))))))))))))))) ?_
     refine Leaf.thenN ?_
     refine CWalk.seq ?_
     refine CWalk.seq ?_
     refine CWalk.region ?_
     refine mv ?_
     refine mv ?_
     refine wo (Spec.nilCheckI (Has.s rfl) rfl) ?_
     refine wo (Spec.fieldAddrO fd113_1 (Has.cv (Has.s rfl) (Cv.isvP rfl))) ?_
     refine wo (Spec.loadF (i := 6) ty3 rfl (Has.s rfl) rfl (HasG.s rfl)) ?_
     refine wo (Spec.eqlI (Has.s rfl) (Has.s rfl)) ?_
     refine Walk.nil ?_
     refine Leaf.thenN ?_
     refine CWalk.cond rfl (fun hb => ?_) (fun hb => ?_)
     ·have hm := cond_t hb hm
      refine CWalk.ret ?_
      refine Leaf.thenR ?_
      exact Leaf.in0 (f0 := Fact.top) s3 hm rfl rfl (fun _ _ => trivial) (ls 904002 (ls 904003 (ls 904004 (Low.slot rfl (HasC.cv (HasC.s (s := 904009) rfl) (Cv.m rfl)) (Low.slot rfl (HasC.cv (HasC.s (s := 904010) rfl) Cv.fl) (Low.slot rfl (HasC.cv (HasC.s (s := 904011) rfl) Cv.fl) (Low.res (lc (lf (lf (lf (lf (lf (lf (lf (lf (Low.keepG (HasG.cv (HasG.s rfl) (Cv.owM (T := [48]) (te := [45, 46, 47]) rfl rfl)) (lf (lf (lf (lf (lf (lf (lf (lm (lm (lm (lo (lo (lo Low.nil))))))))))))))))))))))))))))))
     ·have hm := cond_f hb hm
      refine CWalk.skip ?_
      refine Leaf.thenN ?_
      refine CWalk.seq ?_
      refine CWalk.region ?_
      refine mv ?_
      obtain ⟨x9, hx9, hm⟩ := bind_some hm
      refine wo (f := Fact.ow [45] [] 5 (x9 : List UInt8)) (Spec.callE [0] 45 rfl en62 (slices_Clone_byte_byte_c x6 hx9) (HasAll.cons (Has.m (Has.s rfl) rfl) HasAll.nil)) ?_
      refine wo (Spec.assign (Has.s rfl)) ?_
      refine Walk.nil ?_
      refine Leaf.thenN ?_
      refine CWalk.seqJ (fun p : (List UInt8) => [.fact 0 (.isv 22), .fact 6 (.rep [] x8.1), .fact 8 (.ow [45, 46] [] 5 (p : List UInt8)), .fact 902008 (.cst (u1 8) (Fact.isv 22)), .fact 904002 (.cst (u2 2) (Fact.fnv 64 [Fact.isv 22] [])), .fact 904003 (.cst (u2 3) (Fact.isv 32)), .fact 904004 (.cst (u2 4) (Fact.isv 39)), .fact 904009 (.cst (u2 9) (Fact.rep [0] a2.Slots)), .fact 904010 (.cst (u2 10) (Fact.rep [] (((a2.Slots).length : Int) : Int))), .fact 904011 (.cst (u2 11) (Fact.rep [] (s2 : Int))), .fact 100023 (.at 23 (.rep [] a0.Id)), .fact 100024 (.at 24 (.rep [] a0.Members)), .fact 100025 (.at 25 (.rep [] a0.Chunk)), .fact 100026 (.at 26 (.rep [] a0.Rows)), .fact 100027 (.at 27 (.rep [] a0.Log)), .fact 100028 (.at 28 (.rep [] a0.Heads)), .fact 100029 (.at 29 (.rep [] (a1 : Int))), .fact 100030 (.at 30 (.rep [] a2.Stripe)), .fact 100031 (.at 31 (.ow [48] [45, 46, 47] 37 (s3 : List Act37))), .fact 100033 (.at 33 (.rep [] a0.Id)), .fact 100034 (.at 34 (.rep [] a0.Members)), .fact 100035 (.at 35 (.rep [] a0.Chunk)), .fact 100036 (.at 36 (.rep [] a0.Rows)), .fact 100037 (.at 37 (.rep [] a0.Log)), .fact 100038 (.at 38 (.rep [] a0.Heads)), .fact 100040 (.at 40 (.rep [] a2.Stripe)), .fact 100041 (.at 41 (.rep [0] a2.Slots)), .fact 100042 (.at 42 (.rep [0] a2.Blocks)), .fact 100043 (.at 43 (.rep [0] a2.Parity)), .fact 100022 (.obj 22 [(false, 1), (false, 1), (false, 1), (false, 1), (false, 1), (false, 1), (false, 1), (false, 1), (false, 1)]), .fact 100032 (.obj 32 [(false, 1), (false, 1), (false, 1), (false, 1), (false, 1), (false, 1)]), .fact 100039 (.obj 39 [(false, 1), (false, 1), (false, 1), (false, 1)])]) (fun p : (List UInt8) => home_acts_J4 a2 s2 s3 x8 p = some c4) ?_ ?_
      ·rintro j10 hm
       replace hm : home_acts_J4 a2 s2 s3 x8 j10 = some c4 := hm
       unfold home_acts_J4 at hm
       show CWalk _ [.fact 0 (.isv 22), .fact 6 (.rep [] x8.1), .fact 8 (.ow [45, 46] [] 5 (j10 : List UInt8)), .fact 902008 (.cst (u1 8) (Fact.isv 22)), .fact 904002 (.cst (u2 2) (Fact.fnv 64 [Fact.isv 22] [])), .fact 904003 (.cst (u2 3) (Fact.isv 32)), .fact 904004 (.cst (u2 4) (Fact.isv 39)), .fact 904009 (.cst (u2 9) (Fact.rep [0] a2.Slots)), .fact 904010 (.cst (u2 10) (Fact.rep [] (((a2.Slots).length : Int) : Int))), .fact 904011 (.cst (u2 11) (Fact.rep [] (s2 : Int))), .fact 100023 (.at 23 (.rep [] a0.Id)), .fact 100024 (.at 24 (.rep [] a0.Members)), .fact 100025 (.at 25 (.rep [] a0.Chunk)), .fact 100026 (.at 26 (.rep [] a0.Rows)), .fact 100027 (.at 27 (.rep [] a0.Log)), .fact 100028 (.at 28 (.rep [] a0.Heads)), .fact 100029 (.at 29 (.rep [] (a1 : Int))), .fact 100030 (.at 30 (.rep [] a2.Stripe)), .fact 100031 (.at 31 (.ow [48] [45, 46, 47] 37 (s3 : List Act37))), .fact 100033 (.at 33 (.rep [] a0.Id)), .fact 100034 (.at 34 (.rep [] a0.Members)), .fact 100035 (.at 35 (.rep [] a0.Chunk)), .fact 100036 (.at 36 (.rep [] a0.Rows)), .fact 100037 (.at 37 (.rep [] a0.Log)), .fact 100038 (.at 38 (.rep [] a0.Heads)), .fact 100040 (.at 40 (.rep [] a2.Stripe)), .fact 100041 (.at 41 (.rep [0] a2.Slots)), .fact 100042 (.at 42 (.rep [0] a2.Blocks)), .fact 100043 (.at 43 (.rep [0] a2.Parity)), .fact 100022 (.obj 22 [(false, 1), (false, 1), (false, 1), (false, 1), (false, 1), (false, 1), (false, 1), (false, 1), (false, 1)]), .fact 100032 (.obj 32 [(false, 1), (false, 1), (false, 1), (false, 1), (false, 1), (false, 1)]), .fact 100039 (.obj 39 [(false, 1), (false, 1), (false, 1), (false, 1)])] _ _
       obtain ⟨x11, hx11, hm⟩ := bind_some hm
       refine CWalk.drawM [[], [], [1], [1, 2], [1, 2, 3], [], [], [6], [6, 7], [6, 7, 8], [6, 7, 8, 9], [], [5, 6, 7, 8, 9, 10, 11], [5, 6, 7, 8, 9, 10, 11, 12], [1, 2, 3, 4, 5, 6, 7, 8, 9, 10, 11, 12, 13], [0, 1, 2, 3, 4, 5, 6, 7, 8, 9, 10, 11, 12, 13, 14], [0, 1, 2, 3, 4, 5, 6, 7, 8, 9, 10, 11, 12, 13, 14, 15], [0, 1, 2, 3, 4, 5, 6, 7, 8, 9, 10, 11, 12, 13, 14, 15, 16]] [[.fact 34 (.isv 22)], [.fact 35 (.isv 22)], [.fact 36 (.isv 22)], [.fact 37 (.pto 22 8)], [.fact 38 (.ow [48] [45, 46, 47] 37 (s3 : List Act37))], [.fact 39 (.rep [] x8.1)], [.fact 40 (.isv 22)], [.fact 41 (.isv 22)], [.fact 42 (.pto 22 7)], [.fact 43 (.rep [] a2.Stripe)], [.fact 44 (.rep [] ((wI (a2.Stripe + (1 : Int))) : Int))], [.fact 45 (.ow [45, 46] [] 5 (j10 : List UInt8))], [.fact 46 (.flds [(false, 1, Fact.rep [] x8.1), (false, 1, Fact.rep [] ((1 : UInt8) : UInt8)), (false, 1, Fact.rep [] ((wI (a2.Stripe + (1 : Int))) : Int)), (false, 1, Fact.ow [45, 46] [] 5 (j10 : List UInt8))])], [.fact 47 (.rep [47, 45, 46] ([(Act37.mk x8.1 (1 : UInt8) (wI (a2.Stripe + (1 : Int))) j10)] : List Act37))], [.fact 48 (.ow [48] [45, 46, 47] 37 (x11 : List Act37)), .kill 48], [.fact 49 (.isv 22)], [.fact 50 (.pto 22 8)], [.fact 100031 (.at 31 (.ow [48] [45, 46, 47] 37 (x11 : List Act37))), .fact 100022 (.obj 22 [(false, 1), (false, 1), (false, 1), (false, 1), (false, 1), (false, 1), (false, 1), (false, 1), (false, 1)]), .kill 22, .killId 31]] mixed (by kernel_rfl) (ao (so (Spec.move (Has.s rfl))) (ao (so (Spec.move (Has.s rfl))) (ao (so (Spec.nilCheckI (Has.s rfl) rfl)) (ao (so (Spec.fieldAddrO fd113_3 (Has.cv (Has.s rfl) (Cv.isvP rfl)))) (ao (so (Spec.loadF (i := 8) ty31 rfl (Has.s rfl) rfl (HasG.s rfl))) (ao (so (Spec.move (Has.s rfl))) (ao (so (Spec.move (Has.s rfl))) (ao (so (Spec.nilCheckI (Has.s rfl) rfl)) (ao (so (Spec.fieldAddrO fd113_2 (Has.cv (Has.s rfl) (Cv.isvP rfl)))) (ao (so (Spec.loadF (i := 7) ty3 rfl (Has.s rfl) rfl (HasG.s rfl))) (ao (so (Spec.addI (Has.s rfl) Has.int)) (ao (so (Spec.move (Has.s rfl))) (ao (so (Spec.build (us := [(0, .tmp 39), (1, .const (.int .u8 1)), (2, .tmp 44), (3, .tmp 45)]) (ls' := [(false, 1, Fact.rep [] x8.1), (false, 1, Fact.rep [] ((1 : UInt8) : UInt8)), (false, 1, Fact.rep [] ((wI (a2.Stripe + (1 : Int))) : Int)), (false, 1, Fact.ow [45, 46] [] 5 (j10 : List UInt8))]) bd37 rfl (BP.cons rfl rfl (Has.s rfl) (Has.s rfl) (BP.cons rfl rfl (Has.u8 1 rfl) (Has.u8 1 rfl) (BP.cons rfl rfl (Has.s rfl) (Has.s rfl) (BP.cons rfl rfl (Has.cv (Has.s rfl) (Cv.trans Cv.owSl (Cv.slRep (T' := [45, 46]) rfl rfl))) (Has.s rfl) BP.nil)))))) (ao (so (Spec.lit (xs := [.tmp 46]) (T := [45, 46]) 47 rfl ow31 rfl rfl rfl rfl (HasEach.cons (Has.m (Has.cv (Has.s rfl) (Cv.trans (Cv.flds (CvL.cons Cv.fl (CvL.cons Cv.fl (CvL.cons Cv.fl (CvL.cons (Cv.trans (Cv.trans Cv.owSl (Cv.slRep (T' := [45, 46]) rfl rfl)) (Cv.m rfl)) CvL.nil))))) (Cv.close (T := [45, 46]) (chAct37 (Act37.mk x8.1 (1 : UInt8) (wI (a2.Stripe + (1 : Int))) j10))))) rfl) HasEach.nil))) (ao (StepG.stE (Step.appendOw (T := [48]) (te' := [45, 46, 47]) hx11 rfl rfl rfl ow31 (Has.s rfl) (Has.s rfl) (ElKeeps.tags rfl rfl) (ElKeeps.tags rfl rfl))) (ao (so (Spec.nilCheckI (Has.s rfl) rfl)) (ao (so (Spec.fieldAddrO fd113_3 (Has.cv (Has.s rfl) (Cv.isvP rfl)))) (ao (StepG.stE (Step.storeF (i := 8) (f := Fact.ow [48] [45, 46, 47] 37 (x11 : List Act37)) rfl ty31 rfl (Has.s rfl) rfl (Has.cv (Has.s rfl) (Cv.trans Cv.owSl (Cv.slRep (T' := [45, 46, 47, 48]) rfl rfl))) (Has.s rfl) rfl)) AllM.nil)))))))))))))))))) ?_
       exact Leaf.inN (Leaf.in0 (f0 := Fact.top) x11 hm rfl rfl (fun _ _ => trivial) (ls 904002 (ls 904003 (ls 904004 (Low.slot rfl (HasC.cv (HasC.s (s := 904009) rfl) (Cv.m rfl)) (Low.slot rfl (HasC.cv (HasC.s (s := 904010) rfl) Cv.fl) (Low.slot rfl (HasC.cv (HasC.s (s := 904011) rfl) Cv.fl) (Low.res (lc (lf (lf (lf (lf (lf (lf (lf (lf (Low.keepG (HasG.cv (HasG.s rfl) (Cv.owM (T := [48]) (te := [45, 46, 47]) rfl rfl)) (lf (lf (lf (lf (lf (lf (lf (lm (lm (lm (lo (lo (lo Low.nil)))))))))))))))))))))))))))))))
      ·refine CWalk.seq ?_
       refine CWalk.region ?_
       refine mv ?_
       refine wo (Spec.len (Has.cv (Has.s rfl) (Cv.trans Cv.owSl (Cv.slRep (T' := [45]) rfl rfl))) Try.underlying35) ?_
       refine wo (Spec.eqlI (Has.s rfl) Has.int) ?_
       refine Walk.nil ?_
       refine Leaf.thenN ?_
       refine CWalk.cond rfl (fun hb => ?_) (fun hb => ?_)
       ·have hm := cond_t hb hm
        refine CWalk.region ?_
        obtain ⟨x12, hx12, hm⟩ := bind_some hm
        refine ws (Step.makeOwn 46 hx12 rfl rfl ow35 zt5 Has.int) ?_
        refine wo (Spec.assign (Has.s rfl)) ?_
        refine Walk.nil ?_
        exact Leaf.join x12 hm (sn (st (Sub.cons (Has.cv (Has.s rfl) (Cv.trans (Cv.isvOw rfl) (Cv.owF (T := [46]) (te := []) rfl))) (sc (sc (sc (sc (Sub.cons (Has.cst (HasC.cv (HasC.s (s := 904009) rfl) (Cv.m rfl))) (Sub.cons (Has.cst (HasC.cv (HasC.s (s := 904010) rfl) Cv.fl)) (Sub.cons (Has.cst (HasC.cv (HasC.s (s := 904011) rfl) Cv.fl)) (sf (sf (sf (sf (sf (sf (sf (sf (Sub.cons (Has.at (HasG.cv (HasG.s rfl) (Cv.owM (T := [48]) (te := [45, 46, 47]) rfl rfl))) (sf (sf (sf (sf (sf (sf (sf (sm (sm (sm (sn (sn (sn Sub.nil))))))))))))))))))))))))))))))))
       ·have hm := cond_f hb hm
        refine CWalk.skip ?_
        exact Leaf.join x9 hm (sn (st (Sub.cons (Has.cv (Has.s rfl) (Cv.owF (T := [45]) (te := []) rfl)) (sc (sc (sc (sc (Sub.cons (Has.cst (HasC.cv (HasC.s (s := 904009) rfl) (Cv.m rfl))) (Sub.cons (Has.cst (HasC.cv (HasC.s (s := 904010) rfl) Cv.fl)) (Sub.cons (Has.cst (HasC.cv (HasC.s (s := 904011) rfl) Cv.fl)) (sf (sf (sf (sf (sf (sf (sf (sf (Sub.cons (Has.at (HasG.cv (HasG.s rfl) (Cv.owM (T := [48]) (te := [45, 46, 47]) rfl rfl))) (sf (sf (sf (sf (sf (sf (sf (sm (sm (sm (sn (sn (sn Sub.nil))))))))))))))))))))))))))))))))
    ·rintro j7 hm
     replace hm : home_acts_J3 s2 j7 = some c4 := hm
     unfold home_acts_J3 at hm
     show Walk _ _ _ [.fact 2 (.fnv 64 [Fact.isv 22] []), .fact 3 (.isv 32), .fact 4 (.isv 39), .fact 9 (.rep [0] a2.Slots), .fact 10 (.rep [] (((a2.Slots).length : Int) : Int)), .fact 11 (.rep [] (s2 : Int)), .fact 23 (.top), .fact 902008 (.cst (u1 8) (Fact.isv 22)), .fact 100023 (.at 23 (.rep [] a0.Id)), .fact 100024 (.at 24 (.rep [] a0.Members)), .fact 100025 (.at 25 (.rep [] a0.Chunk)), .fact 100026 (.at 26 (.rep [] a0.Rows)), .fact 100027 (.at 27 (.rep [] a0.Log)), .fact 100028 (.at 28 (.rep [] a0.Heads)), .fact 100029 (.at 29 (.rep [] (a1 : Int))), .fact 100030 (.at 30 (.rep [] a2.Stripe)), .fact 100031 (.at 31 (.ow [48] [45, 46, 47] 37 (j7 : List Act37))), .fact 100033 (.at 33 (.rep [] a0.Id)), .fact 100034 (.at 34 (.rep [] a0.Members)), .fact 100035 (.at 35 (.rep [] a0.Chunk)), .fact 100036 (.at 36 (.rep [] a0.Rows)), .fact 100037 (.at 37 (.rep [] a0.Log)), .fact 100038 (.at 38 (.rep [] a0.Heads)), .fact 100040 (.at 40 (.rep [] a2.Stripe)), .fact 100041 (.at 41 (.rep [0] a2.Slots)), .fact 100042 (.at 42 (.rep [0] a2.Blocks)), .fact 100043 (.at 43 (.rep [0] a2.Parity)), .fact 100022 (.obj 22 [(false, 1), (false, 1), (false, 1), (false, 1), (false, 1), (false, 1), (false, 1), (false, 1), (false, 1)]), .fact 100032 (.obj 32 [(false, 1), (false, 1), (false, 1), (false, 1), (false, 1), (false, 1)]), .fact 100039 (.obj 39 [(false, 1), (false, 1), (false, 1), (false, 1)])] _
     refine Walk.nil ?_
     refine Leaf.blockN ?_
     refine Leaf.thenN ?_
     refine CWalk.region ?_
     refine wo (Spec.addI (Has.s rfl) Has.int) ?_
     refine mv ?_
     refine Walk.nil ?_
     exact Leaf.next hm (sn (sn (sn (su (st (st (sc (sf (sf (sf (sf (sf (sf (sf (sf (Sub.cons (Has.at (HasG.cv (HasG.s rfl) (Cv.owM (T := [48]) (te := [45, 46, 47]) rfl rfl))) (sf (sf (sf (sf (sf (sf (sf (sm (sm (sm (sn (sn (sn Sub.nil)))))))))))))))))))))))))))))
   ·have hm := cond_f hb hm
    refine CWalk.exit ?_
    refine Leaf.thenE ?_
    exact Leaf.brk hm (fun h => nomatch h) rfl (sn (sn (sn (sc (sf (sf (sf (sf (sf (sf (sf (sf (Sub.cons (Has.at (HasG.cv (HasG.s rfl) (Cv.owM (T := [48]) (te := [45, 46, 47]) rfl rfl))) (sf (sf (sf (sf (sf (sf (sf (sm (sm (sm (sn (sn (sn Sub.nil))))))))))))))))))))))))))
  ·intro _
   refine Leaf.blockE ?_
   refine Leaf.thenN ?_
   refine CWalk.region ?_
   refine mv ?_
   refine wo (Spec.fieldAddrO fd24_1 (Has.cv (Has.s rfl) (Cv.isvP rfl))) ?_
   refine wo (Spec.loadF (i := 1) ty3 rfl (Has.s rfl) rfl (HasG.s rfl)) ?_
   refine wo (Spec.subI (Has.s rfl) Has.int) ?_
   refine wo (Spec.fieldAddrO fd43_3 (Has.cv (Has.s rfl) (Cv.isvP rfl))) ?_
   refine wo (Spec.loadF (i := 3) ty35 rfl (Has.s rfl) rfl (HasG.s rfl)) ?_
   refine Walk.inline (S := (List Act37)) (fun p : (List Act37) => [.fact 31 (.top), .fact 902008 (.cst (u1 8) (Fact.isv 22)), .fact 100023 (.at 23 (.rep [] a0.Id)), .fact 100024 (.at 24 (.rep [] a0.Members)), .fact 100025 (.at 25 (.rep [] a0.Chunk)), .fact 100026 (.at 26 (.rep [] a0.Rows)), .fact 100027 (.at 27 (.rep [] a0.Log)), .fact 100028 (.at 28 (.rep [] a0.Heads)), .fact 100029 (.at 29 (.rep [] (a1 : Int))), .fact 100030 (.at 30 (.rep [] a2.Stripe)), .fact 100031 (.at 31 (.ow [48] [45, 46, 47, 50, 51, 52] 37 (p : List Act37))), .fact 100022 (.obj 22 [(false, 1), (false, 1), (false, 1), (false, 1), (false, 1), (false, 1), (false, 1), (false, 1), (false, 1)])]) (fun p : (List Act37) => home_acts_J5 p = some r) (fun u2 => [.fact 100023 (.at 23 (.rep [] a0.Id)), .fact 100024 (.at 24 (.rep [] a0.Members)), .fact 100025 (.at 25 (.rep [] a0.Chunk)), .fact 100026 (.at 26 (.rep [] a0.Rows)), .fact 100027 (.at 27 (.rep [] a0.Log)), .fact 100028 (.at 28 (.rep [] a0.Heads)), .fact 100029 (.at 29 (.rep [] (a1 : Int))), .fact 100030 (.at 30 (.rep [] a2.Stripe)), .fact 100031 (.at 31 (.ow [48] [45, 46, 47] 37 (b13 : List Act37))), .fact 902008 (.cst (u1 8) (Fact.isv 22)), .fact 100022 (.obj 22 [(false, 1), (false, 1), (false, 1), (false, 1), (false, 1), (false, 1), (false, 1), (false, 1), (false, 1)])]) (FA := [Fact.isv 22, Fact.rep [] ((wI (a0.Members - (1 : Int))) : Int), Fact.rep [0] a2.Parity]) rfl Try.func64 rfl rfl rfl (CallOk.valE en64 (Has.s rfl) (HasF.cons (Has.s rfl) (HasF.cons (Has.s rfl) HasF.nil))) (fun u2 => (ck (ck (ck (ck (ck (ck (ck (ck (ck (ck (ck Carry.nil)))))))))))) (fun u2 => ?_) ?_
   ·refine CWalk.seq ?_
    obtain ⟨x15, hx15, hm⟩ := bind_some hm
    refine CWalk.drawM [[], [0], [0, 1], [0, 1, 2], [], [4], [4, 5], [4, 5, 6], [], [0, 1, 2, 3, 4, 5, 6, 7, 8], [0, 1, 2, 3, 4, 5, 6, 7, 8, 9], [0, 1, 2, 3, 4, 5, 6, 7, 8, 9, 10], [0, 1, 2, 3, 4, 5, 6, 7, 8, 9, 10], [0, 1, 2, 3, 4, 5, 6, 7, 8, 9, 10, 11], [0, 1, 2, 3, 4, 5, 6, 7, 8, 9, 10, 11, 12, 13]] [[.fact 10 (.isv 22)], [.fact 11 (.isv 22)], [.fact 12 (.pto 22 0)], [.fact 13 (.flds [(false, 1, Fact.rep [] a0.Id), (false, 1, Fact.rep [] a0.Members), (false, 1, Fact.rep [] a0.Chunk), (false, 1, Fact.rep [] a0.Rows), (false, 1, Fact.rep [] a0.Log), (false, 1, Fact.rep [] a0.Heads)])], [.fact 14 (.isv 22)], [.fact 15 (.isv 22)], [.fact 16 (.pto 22 7)], [.fact 17 (.rep [] a2.Stripe)], [.fact 18 (.rep [] ((wI (a0.Members - (1 : Int))) : Int))], [.fact 19 (.tup2 (Fact.rep [] x15.1) (Fact.rep [] x15.2))], [.fact 9 (.tup2 (Fact.rep [] x15.1) (Fact.rep [] x15.2))], [.fact 20 (.rep [] x15.1)], [.fact 21 (.rep [] x15.2)], [.fact 6 (.rep [] x15.1)], [.fact 7 (.rep [] x15.2)]] mixed (by kernel_rfl) (ao (so (Spec.move (Has.s rfl))) (ao (so (Spec.nilCheckI (Has.s rfl) rfl)) (ao (so (Spec.fieldAddrO fd113_0 (Has.cv (Has.s rfl) (Cv.isvP rfl)))) (ao (so (Spec.loadParts (i := 0) (a := []) (b := [(false, 1), (false, 1), (false, 1)]) (ls := [(false, 1, Fact.rep [] a0.Id), (false, 1, Fact.rep [] a0.Members), (false, 1, Fact.rep [] a0.Chunk), (false, 1, Fact.rep [] a0.Rows), (false, 1, Fact.rep [] a0.Log), (false, 1, Fact.rep [] a0.Heads)]) ty24 rfl rfl rfl rfl rfl (Has.s rfl) rfl (HasGs.cons (HasG.s rfl) (HasGs.cons (HasG.s rfl) (HasGs.cons (HasG.s rfl) (HasGs.cons (HasG.s rfl) (HasGs.cons (HasG.s rfl) (HasGs.cons (HasG.s rfl) HasGs.nil)))))))) (ao (so (Spec.move (Has.s rfl))) (ao (so (Spec.nilCheckI (Has.s rfl) rfl)) (ao (so (Spec.fieldAddrO fd113_2 (Has.cv (Has.s rfl) (Cv.isvP rfl)))) (ao (so (Spec.loadF (i := 7) ty3 rfl (Has.s rfl) rfl (HasG.s rfl))) (ao (so (Spec.move (Has.s rfl))) (ao (so (Spec.callE [] 49 rfl en10 (turn_Member_c a0 a2.Stripe (wI (a0.Members - (1 : Int))) hx15) (HasAll.cons (Has.fl (Has.cv (Has.s rfl) (Cv.trans (Cv.flds (CvL.cons Cv.fl (CvL.cons Cv.fl (CvL.cons Cv.fl (CvL.cons Cv.fl (CvL.cons Cv.fl (CvL.cons Cv.fl CvL.nil))))))) (Cv.close (T := []) (chConfig a0))))) (HasAll.cons (Has.fl (Has.s rfl)) (HasAll.cons (Has.fl (Has.s rfl)) HasAll.nil))))) (ao (so (Spec.move (Has.s rfl))) (ao (so (Spec.ext0 (Has.s rfl))) (ao (so (Spec.ext1 (Has.s rfl))) (ao (so (Spec.assign (Has.s rfl))) (ao (so (Spec.assign (Has.s rfl))) AllM.nil))))))))))))))) ?_
    refine Leaf.thenN ?_
    refine CWalk.seq ?_
    refine CWalk.seq ?_
    refine CWalk.region ?_
    refine mv ?_
    refine mv ?_
    refine wo (Spec.nilCheckI (Has.s rfl) rfl) ?_
    refine wo (Spec.fieldAddrO fd113_1 (Has.cv (Has.s rfl) (Cv.isvP rfl))) ?_
    refine wo (Spec.loadF (i := 6) ty3 rfl (Has.s rfl) rfl (HasG.s rfl)) ?_
    refine wo (Spec.eqlI (Has.s rfl) (Has.s rfl)) ?_
    refine Walk.nil ?_
    refine Leaf.thenN ?_
    refine CWalk.cond rfl (fun hb => ?_) (fun hb => ?_)
    ·have hm := cond_t hb hm
     refine CWalk.ret ?_
     refine Leaf.thenR ?_
     exact Leaf.in0 (f0 := Fact.top) b13 hm rfl rfl (fun _ _ => trivial) (Low.res (lc (lf (lf (lf (lf (lf (lf (lf (lf (Low.keepG (HasG.cv (HasG.s rfl) (Cv.owM (T := [48]) (te := [45, 46, 47]) rfl rfl)) (lo Low.nil))))))))))))
    ·have hm := cond_f hb hm
     refine CWalk.skip ?_
     refine Leaf.thenN ?_
     refine CWalk.seq ?_
     refine CWalk.region ?_
     refine mv ?_
     obtain ⟨x16, hx16, hm⟩ := bind_some hm
     refine wo (f := Fact.ow [50] [] 5 (x16 : List UInt8)) (Spec.callE [0] 50 rfl en62 (slices_Clone_byte_byte_c a2.Parity hx16) (HasAll.cons (Has.m (Has.s rfl) rfl) HasAll.nil)) ?_
     refine wo (Spec.assign (Has.s rfl)) ?_
     refine Walk.nil ?_
     refine Leaf.thenN ?_
     refine CWalk.seqJ (fun p : (List UInt8) => [.fact 0 (.isv 22), .fact 6 (.rep [] x15.1), .fact 8 (.ow [50, 51] [] 5 (p : List UInt8)), .fact 902008 (.cst (u1 8) (Fact.isv 22)), .fact 100023 (.at 23 (.rep [] a0.Id)), .fact 100024 (.at 24 (.rep [] a0.Members)), .fact 100025 (.at 25 (.rep [] a0.Chunk)), .fact 100026 (.at 26 (.rep [] a0.Rows)), .fact 100027 (.at 27 (.rep [] a0.Log)), .fact 100028 (.at 28 (.rep [] a0.Heads)), .fact 100029 (.at 29 (.rep [] (a1 : Int))), .fact 100030 (.at 30 (.rep [] a2.Stripe)), .fact 100031 (.at 31 (.ow [48] [45, 46, 47] 37 (b13 : List Act37))), .fact 100022 (.obj 22 [(false, 1), (false, 1), (false, 1), (false, 1), (false, 1), (false, 1), (false, 1), (false, 1), (false, 1)])]) (fun p : (List UInt8) => home_acts_J6 a2 b13 x15 p = some r) ?_ ?_
     ·rintro j17 hm
      replace hm : home_acts_J6 a2 b13 x15 j17 = some r := hm
      unfold home_acts_J6 at hm
      show CWalk _ [.fact 0 (.isv 22), .fact 6 (.rep [] x15.1), .fact 8 (.ow [50, 51] [] 5 (j17 : List UInt8)), .fact 902008 (.cst (u1 8) (Fact.isv 22)), .fact 100023 (.at 23 (.rep [] a0.Id)), .fact 100024 (.at 24 (.rep [] a0.Members)), .fact 100025 (.at 25 (.rep [] a0.Chunk)), .fact 100026 (.at 26 (.rep [] a0.Rows)), .fact 100027 (.at 27 (.rep [] a0.Log)), .fact 100028 (.at 28 (.rep [] a0.Heads)), .fact 100029 (.at 29 (.rep [] (a1 : Int))), .fact 100030 (.at 30 (.rep [] a2.Stripe)), .fact 100031 (.at 31 (.ow [48] [45, 46, 47] 37 (b13 : List Act37))), .fact 100022 (.obj 22 [(false, 1), (false, 1), (false, 1), (false, 1), (false, 1), (false, 1), (false, 1), (false, 1), (false, 1)])] _ _
      obtain ⟨x18, hx18, hm⟩ := bind_some hm
      refine CWalk.drawM [[], [], [1], [1, 2], [1, 2, 3], [], [], [6], [6, 7], [6, 7, 8], [6, 7, 8, 9], [], [5, 6, 7, 8, 9, 10, 11], [5, 6, 7, 8, 9, 10, 11, 12], [1, 2, 3, 4, 5, 6, 7, 8, 9, 10, 11, 12, 13], [0, 1, 2, 3, 4, 5, 6, 7, 8, 9, 10, 11, 12, 13, 14], [0, 1, 2, 3, 4, 5, 6, 7, 8, 9, 10, 11, 12, 13, 14, 15], [0, 1, 2, 3, 4, 5, 6, 7, 8, 9, 10, 11, 12, 13, 14, 15, 16]] [[.fact 34 (.isv 22)], [.fact 35 (.isv 22)], [.fact 36 (.isv 22)], [.fact 37 (.pto 22 8)], [.fact 38 (.ow [48] [45, 46, 47] 37 (b13 : List Act37))], [.fact 39 (.rep [] x15.1)], [.fact 40 (.isv 22)], [.fact 41 (.isv 22)], [.fact 42 (.pto 22 7)], [.fact 43 (.rep [] a2.Stripe)], [.fact 44 (.rep [] ((wI (a2.Stripe + (1 : Int))) : Int))], [.fact 45 (.ow [50, 51] [] 5 (j17 : List UInt8))], [.fact 46 (.flds [(false, 1, Fact.rep [] x15.1), (false, 1, Fact.rep [] ((1 : UInt8) : UInt8)), (false, 1, Fact.rep [] ((wI (a2.Stripe + (1 : Int))) : Int)), (false, 1, Fact.ow [50, 51] [] 5 (j17 : List UInt8))])], [.fact 47 (.rep [52, 50, 51] ([(Act37.mk x15.1 (1 : UInt8) (wI (a2.Stripe + (1 : Int))) j17)] : List Act37))], [.fact 48 (.ow [48] [45, 46, 47, 50, 51, 52] 37 (x18 : List Act37)), .kill 48], [.fact 49 (.isv 22)], [.fact 50 (.pto 22 8)], [.fact 100031 (.at 31 (.ow [48] [45, 46, 47, 50, 51, 52] 37 (x18 : List Act37))), .fact 100022 (.obj 22 [(false, 1), (false, 1), (false, 1), (false, 1), (false, 1), (false, 1), (false, 1), (false, 1), (false, 1)]), .kill 22, .killId 31]] mixed (by kernel_rfl) (ao (so (Spec.move (Has.s rfl))) (ao (so (Spec.move (Has.s rfl))) (ao (so (Spec.nilCheckI (Has.s rfl) rfl)) (ao (so (Spec.fieldAddrO fd113_3 (Has.cv (Has.s rfl) (Cv.isvP rfl)))) (ao (so (Spec.loadF (i := 8) ty31 rfl (Has.s rfl) rfl (HasG.s rfl))) (ao (so (Spec.move (Has.s rfl))) (ao (so (Spec.move (Has.s rfl))) (ao (so (Spec.nilCheckI (Has.s rfl) rfl)) (ao (so (Spec.fieldAddrO fd113_2 (Has.cv (Has.s rfl) (Cv.isvP rfl)))) (ao (so (Spec.loadF (i := 7) ty3 rfl (Has.s rfl) rfl (HasG.s rfl))) (ao (so (Spec.addI (Has.s rfl) Has.int)) (ao (so (Spec.move (Has.s rfl))) (ao (so (Spec.build (us := [(0, .tmp 39), (1, .const (.int .u8 1)), (2, .tmp 44), (3, .tmp 45)]) (ls' := [(false, 1, Fact.rep [] x15.1), (false, 1, Fact.rep [] ((1 : UInt8) : UInt8)), (false, 1, Fact.rep [] ((wI (a2.Stripe + (1 : Int))) : Int)), (false, 1, Fact.ow [50, 51] [] 5 (j17 : List UInt8))]) bd37 rfl (BP.cons rfl rfl (Has.s rfl) (Has.s rfl) (BP.cons rfl rfl (Has.u8 1 rfl) (Has.u8 1 rfl) (BP.cons rfl rfl (Has.s rfl) (Has.s rfl) (BP.cons rfl rfl (Has.cv (Has.s rfl) (Cv.trans Cv.owSl (Cv.slRep (T' := [50, 51]) rfl rfl))) (Has.s rfl) BP.nil)))))) (ao (so (Spec.lit (xs := [.tmp 46]) (T := [50, 51]) 52 rfl ow31 rfl rfl rfl rfl (HasEach.cons (Has.m (Has.cv (Has.s rfl) (Cv.trans (Cv.flds (CvL.cons Cv.fl (CvL.cons Cv.fl (CvL.cons Cv.fl (CvL.cons (Cv.trans (Cv.trans Cv.owSl (Cv.slRep (T' := [50, 51]) rfl rfl)) (Cv.m rfl)) CvL.nil))))) (Cv.close (T := [50, 51]) (chAct37 (Act37.mk x15.1 (1 : UInt8) (wI (a2.Stripe + (1 : Int))) j17))))) rfl) HasEach.nil))) (ao (StepG.stE (Step.appendOw (T := [48]) (te' := [45, 46, 47, 50, 51, 52]) hx18 rfl rfl rfl ow31 (Has.s rfl) (Has.s rfl) (ElKeeps.tags rfl rfl) (ElKeeps.tags rfl rfl))) (ao (so (Spec.nilCheckI (Has.s rfl) rfl)) (ao (so (Spec.fieldAddrO fd113_3 (Has.cv (Has.s rfl) (Cv.isvP rfl)))) (ao (StepG.stE (Step.storeF (i := 8) (f := Fact.ow [48] [45, 46, 47, 50, 51, 52] 37 (x18 : List Act37)) rfl ty31 rfl (Has.s rfl) rfl (Has.cv (Has.s rfl) (Cv.trans Cv.owSl (Cv.slRep (T' := [45, 46, 47, 48, 50, 51, 52]) rfl rfl))) (Has.s rfl) rfl)) AllM.nil)))))))))))))))))) ?_
      exact Leaf.inN (Leaf.in0 (f0 := Fact.top) x18 hm rfl rfl (fun _ _ => trivial) (Low.res (lc (lf (lf (lf (lf (lf (lf (lf (lf (Low.keepG (HasG.cv (HasG.s rfl) (Cv.owM (T := [48]) (te := [45, 46, 47, 50, 51, 52]) rfl rfl)) (lo Low.nil)))))))))))))
     ·refine CWalk.seq ?_
      refine CWalk.region ?_
      refine mv ?_
      refine wo (Spec.len (Has.cv (Has.s rfl) (Cv.trans Cv.owSl (Cv.slRep (T' := [50]) rfl rfl))) Try.underlying35) ?_
      refine wo (Spec.eqlI (Has.s rfl) Has.int) ?_
      refine Walk.nil ?_
      refine Leaf.thenN ?_
      refine CWalk.cond rfl (fun hb => ?_) (fun hb => ?_)
      ·have hm := cond_t hb hm
       refine CWalk.region ?_
       obtain ⟨x19, hx19, hm⟩ := bind_some hm
       refine ws (Step.makeOwn 51 hx19 rfl rfl ow35 zt5 Has.int) ?_
       refine wo (Spec.assign (Has.s rfl)) ?_
       refine Walk.nil ?_
       exact Leaf.join x19 hm (sn (st (Sub.cons (Has.cv (Has.s rfl) (Cv.trans (Cv.isvOw rfl) (Cv.owF (T := [51]) (te := []) rfl))) (sc (sf (sf (sf (sf (sf (sf (sf (sf (Sub.cons (Has.at (HasG.cv (HasG.s rfl) (Cv.owM (T := [48]) (te := [45, 46, 47]) rfl rfl))) (sn Sub.nil))))))))))))))
      ·have hm := cond_f hb hm
       refine CWalk.skip ?_
       exact Leaf.join x16 hm (sn (st (Sub.cons (Has.cv (Has.s rfl) (Cv.owF (T := [50]) (te := []) rfl)) (sc (sf (sf (sf (sf (sf (sf (sf (sf (Sub.cons (Has.at (HasG.cv (HasG.s rfl) (Cv.owM (T := [48]) (te := [45, 46, 47]) rfl rfl))) (sn Sub.nil))))))))))))))
   ·rintro j14 hm
    replace hm : home_acts_J5 j14 = some r := hm
    unfold home_acts_J5 at hm
    show Walk _ _ _ [.fact 31 (.top), .fact 902008 (.cst (u1 8) (Fact.isv 22)), .fact 100023 (.at 23 (.rep [] a0.Id)), .fact 100024 (.at 24 (.rep [] a0.Members)), .fact 100025 (.at 25 (.rep [] a0.Chunk)), .fact 100026 (.at 26 (.rep [] a0.Rows)), .fact 100027 (.at 27 (.rep [] a0.Log)), .fact 100028 (.at 28 (.rep [] a0.Heads)), .fact 100029 (.at 29 (.rep [] (a1 : Int))), .fact 100030 (.at 30 (.rep [] a2.Stripe)), .fact 100031 (.at 31 (.ow [48] [45, 46, 47, 50, 51, 52] 37 (j14 : List Act37))), .fact 100022 (.obj 22 [(false, 1), (false, 1), (false, 1), (false, 1), (false, 1), (false, 1), (false, 1), (false, 1), (false, 1)])] _
    refine Walk.nil ?_
    exact Leaf.inN (Leaf.in0 (f0 := Fact.top) j14 hm rfl rfl (fun _ _ => trivial) (ls 902008 (Low.res (lf (lf (lf (lf (lf (lf (lf (lf (Low.keepG (HasG.cv (HasG.s rfl) (Cv.owM (T := [48]) (te := [45, 46, 47, 50, 51, 52]) rfl rfl)) (lo Low.nil)))))))))))))
 ·rintro j1 hm
  replace hm : home_acts_J1 j1 = some r := hm
  unfold home_acts_J1 at hm
  show Walk _ _ _ [.fact 8 (.isv 22), .fact 19 (.top), .fact 100023 (.at 23 (.rep [] a0.Id)), .fact 100024 (.at 24 (.rep [] a0.Members)), .fact 100025 (.at 25 (.rep [] a0.Chunk)), .fact 100026 (.at 26 (.rep [] a0.Rows)), .fact 100027 (.at 27 (.rep [] a0.Log)), .fact 100028 (.at 28 (.rep [] a0.Heads)), .fact 100029 (.at 29 (.rep [] (a1 : Int))), .fact 100030 (.at 30 (.rep [] a2.Stripe)), .fact 100031 (.at 31 (.ow [48] [45, 46, 47, 50, 51, 52] 37 (j1 : List Act37))), .fact 100022 (.obj 22 [(false, 1), (false, 1), (false, 1), (false, 1), (false, 1), (false, 1), (false, 1), (false, 1), (false, 1)])] _
  refine Walk.nil ?_
  refine Leaf.thenN ?_
  refine CWalk.seq ?_
  refine CWalk.region ?_
  refine mv ?_
  refine wo (Spec.nilCheckI (Has.s rfl) rfl) ?_
  refine wo (Spec.fieldAddrO fd113_3 (Has.cv (Has.s rfl) (Cv.isvP rfl))) ?_
  refine wo (Spec.loadF (i := 8) ty31 rfl (Has.s rfl) rfl (HasG.s rfl)) ?_
  refine wo (Spec.assign (Has.s rfl)) ?_
  refine wo (Spec.assign Has.int) ?_
  refine Walk.nil ?_
  refine Leaf.thenN ?_
  refine CWalk.ret ?_
  obtain rfl := Option.some.inj hm
  exact Leaf.retC2 rfl (HasR.cv (HasR.tmp (Has.s rfl)) (Cv.owM (T := [48]) (te := [45, 46, 47, 50, 51, 52]) rfl rfl)) (HasR.cv (HasR.tmp (Has.s rfl)) Cv.fl)

/-- freeboard/home.Again -/
def home_Again (a0 : Config) (a1 : Int) (a2 : Deal) : Option ((List Act37) × Int) :=
  Option.bind (deal_Check a0 a2) (fun x1 => (bif (x1 != (0 : Int)) then some (([] : List Act37), x1) else Option.bind (home_member a0 a1) (fun x2 => (bif (!x2) then some (([] : List Act37), (2 : Int)) else (bif (((a2.Parity).length : Int) == (0 : Int)) then some (([] : List Act37), (6 : Int)) else Option.bind (home_acts a0 a1 a2) (fun x3 => some (x3.1, x3.2)))))))
set_option maxRecDepth 100000 in
set_option maxHeartbeats 2000000 in
theorem home_Again_c (a0 : Config) (a1 : Int) (a2 : Deal) {r : (List Act37) × Int} (hm : home_Again a0 a1 a2 = some r) : Ctr Try.prog 12 [.rep 0 a0, .rep 0 a1, .rep 0 a2] (.tup2 (.own 0 (some 1) 37 r.1) (.fl r.2)) [] := by
 refine ctr_of_walk [[24], [25]] 31 Try.func12 rfl rfl rfl rfl (fun w0 om => ?_)
 unfold home_Again at hm
 refine CWalk.sub (G' := [.fact 0 (.rep [] (a0 : Config)), .fact 1 (.rep [] (a1 : Int)), .fact 2 (.rep [0] (a2 : Deal))]) (Sub.cons (Has.fl (Has.s rfl)) (Sub.cons (Has.fl (Has.s rfl)) (sn Sub.nil))) ?_
 refine CWalk.seq ?_
 refine CWalk.region ?_
 refine ws (Step.boxObj (ls := [(false, 1, Fact.rep [] a0.Id), (false, 1, Fact.rep [] a0.Members), (false, 1, Fact.rep [] a0.Chunk), (false, 1, Fact.rep [] a0.Rows), (false, 1, Fact.rep [] a0.Log), (false, 1, Fact.rep [] a0.Heads)]) 10 rfl rfl rfl rfl (HasL.flds (Has.cv (Has.s rfl) (Cv.trans (Cv.opens (chConfig a0)) (Cv.flds (CvL.cons Cv.fl (CvL.cons Cv.fl (CvL.cons Cv.fl (CvL.cons Cv.fl (CvL.cons Cv.fl (CvL.cons Cv.fl CvL.nil))))))))))) ?_
 refine ws (Step.boxObj (ls := [(false, 1, Fact.rep [] a2.Stripe), (false, 1, Fact.rep [0] a2.Slots), (false, 1, Fact.rep [0] a2.Blocks), (false, 1, Fact.rep [0] a2.Parity)]) 17 rfl rfl rfl rfl (HasL.flds (Has.cv (Has.s rfl) (Cv.trans (Cv.opens (chDeal a2)) (Cv.flds (CvL.cons Cv.fl (CvL.cons Cv.refl (CvL.cons Cv.refl (CvL.cons Cv.refl CvL.nil))))))))) ?_
 refine wo (Spec.assign Has.nilv) ?_
 refine wo (Spec.assign Has.int) ?_
 refine Walk.nil ?_
 refine Leaf.thenN ?_
 refine CWalk.seq ?_
 refine CWalk.seq ?_
 refine CWalk.region ?_
 refine wo (Spec.loadObj (ls := [(false, 1, Fact.rep [] a0.Id), (false, 1, Fact.rep [] a0.Members), (false, 1, Fact.rep [] a0.Chunk), (false, 1, Fact.rep [] a0.Rows), (false, 1, Fact.rep [] a0.Log), (false, 1, Fact.rep [] a0.Heads)]) ty24 rfl rfl (Has.s rfl) rfl (HasGs.cons (HasG.s rfl) (HasGs.cons (HasG.s rfl) (HasGs.cons (HasG.s rfl) (HasGs.cons (HasG.s rfl) (HasGs.cons (HasG.s rfl) (HasGs.cons (HasG.s rfl) HasGs.nil))))))) ?_
 refine wo (Spec.loadObj (ls := [(false, 1, Fact.rep [] a2.Stripe), (false, 1, Fact.rep [0] a2.Slots), (false, 1, Fact.rep [0] a2.Blocks), (false, 1, Fact.rep [0] a2.Parity)]) ty43 rfl rfl (Has.s rfl) rfl (HasGs.cons (HasG.s rfl) (HasGs.cons (HasG.s rfl) (HasGs.cons (HasG.s rfl) (HasGs.cons (HasG.s rfl) HasGs.nil))))) ?_
 obtain ⟨x1, hx1, hm⟩ := bind_some hm
 refine wo (f := Fact.rep [] (x1 : Int)) (Spec.callE [0] 22 rfl en22 (deal_Check_c a0 a2 hx1) (HasAll.cons (Has.fl (Has.cv (Has.s rfl) (Cv.trans (Cv.flds (CvL.cons Cv.fl (CvL.cons Cv.fl (CvL.cons Cv.fl (CvL.cons Cv.fl (CvL.cons Cv.fl (CvL.cons Cv.fl CvL.nil))))))) (Cv.close (T := []) (chConfig a0))))) (HasAll.cons (Has.m (Has.cv (Has.s rfl) (Cv.trans (Cv.flds (CvL.cons Cv.fl (CvL.cons (Cv.m rfl) (CvL.cons (Cv.m rfl) (CvL.cons (Cv.m rfl) CvL.nil))))) (Cv.close (T := [0]) (chDeal a2)))) rfl) HasAll.nil))) ?_
 refine wo (Spec.assign (Has.s rfl)) ?_
 refine Walk.nil ?_
 refine Leaf.thenN ?_
 refine CWalk.seq ?_
 refine CWalk.region ?_
 refine mv ?_
 refine wo (Spec.neqI (Has.s rfl) Has.int) ?_
 refine Walk.nil ?_
 refine Leaf.thenN ?_
 refine CWalk.cond rfl (fun hb => ?_) (fun hb => ?_)
 ·have hm := cond_t hb hm
  refine CWalk.seq ?_
  refine CWalk.region ?_
  refine mv ?_
  refine wo (Spec.assign Has.nilv) ?_
  refine wo (Spec.assign (Has.s rfl)) ?_
  refine Walk.nil ?_
  refine Leaf.thenN ?_
  refine CWalk.ret ?_
  refine Leaf.thenR ?_
  obtain rfl := Option.some.inj hm
  exact Leaf.retC2 rfl (HasR.cv (HasR.tmp (Has.s rfl)) (Cv.trans Cv.nilOw (Cv.owM (T := []) (te := []) rfl rfl))) (HasR.cv (HasR.tmp (Has.s rfl)) Cv.fl)
 ·have hm := cond_f hb hm
  refine CWalk.skip ?_
  refine Leaf.thenN ?_
  refine CWalk.seq ?_
  refine CWalk.block ?_
  refine CWalk.seq ?_
  refine CWalk.region ?_
  refine wo (Spec.loadObj (ls := [(false, 1, Fact.rep [] a0.Id), (false, 1, Fact.rep [] a0.Members), (false, 1, Fact.rep [] a0.Chunk), (false, 1, Fact.rep [] a0.Rows), (false, 1, Fact.rep [] a0.Log), (false, 1, Fact.rep [] a0.Heads)]) ty24 rfl rfl (Has.s rfl) rfl (HasGs.cons (HasG.s rfl) (HasGs.cons (HasG.s rfl) (HasGs.cons (HasG.s rfl) (HasGs.cons (HasG.s rfl) (HasGs.cons (HasG.s rfl) (HasGs.cons (HasG.s rfl) HasGs.nil))))))) ?_
  refine mv ?_
  obtain ⟨x2, hx2, hm⟩ := bind_some hm
  refine wo (f := Fact.rep [] (x2 : Bool)) (Spec.callE [] 23 rfl en32 (home_member_c a0 a1 hx2) (HasAll.cons (Has.fl (Has.cv (Has.s rfl) (Cv.trans (Cv.flds (CvL.cons Cv.fl (CvL.cons Cv.fl (CvL.cons Cv.fl (CvL.cons Cv.fl (CvL.cons Cv.fl (CvL.cons Cv.fl CvL.nil))))))) (Cv.close (T := []) (chConfig a0))))) (HasAll.cons (Has.fl (Has.s rfl)) HasAll.nil))) ?_
  refine wo (Spec.not (Has.s rfl)) ?_
  refine wo (Spec.assign (Has.s rfl)) ?_
  refine Walk.nil ?_
  refine Leaf.thenN ?_
  refine CWalk.cond rfl (fun hb => ?_) (fun hb => ?_)
  ·have hm := cond_t hb hm
   refine CWalk.seq ?_
   refine CWalk.region ?_
   refine wo (Spec.assign Has.nilv) ?_
   refine wo (Spec.assign Has.int) ?_
   refine Walk.nil ?_
   refine Leaf.thenN ?_
   refine CWalk.ret ?_
   refine Leaf.blockR ?_
   refine Leaf.thenR ?_
   obtain rfl := Option.some.inj hm
   exact Leaf.retC2 rfl (HasR.cv (HasR.tmp (Has.s rfl)) (Cv.trans Cv.nilOw (Cv.owM (T := []) (te := []) rfl rfl))) (HasR.cv (HasR.tmp (Has.s rfl)) Cv.fl)
  ·have hm := cond_f hb hm
   refine CWalk.seq ?_
   refine CWalk.region ?_
   refine wo (Spec.fieldAddrO fd43_3 (Has.cv (Has.s rfl) (Cv.isvP rfl))) ?_
   refine wo (Spec.loadF (i := 3) ty35 rfl (Has.s rfl) rfl (HasG.s rfl)) ?_
   refine wo (Spec.len (Has.s rfl) Try.underlying35) ?_
   refine wo (Spec.eqlI (Has.s rfl) Has.int) ?_
   refine wo (Spec.assign (Has.s rfl)) ?_
   refine Walk.nil ?_
   refine Leaf.thenN ?_
   refine CWalk.cond rfl (fun hb => ?_) (fun hb => ?_)
   ·have hm := cond_t hb hm
    refine CWalk.seq ?_
    refine CWalk.region ?_
    refine wo (Spec.assign Has.nilv) ?_
    refine wo (Spec.assign Has.int) ?_
    refine Walk.nil ?_
    refine Leaf.thenN ?_
    refine CWalk.ret ?_
    refine Leaf.blockR ?_
    refine Leaf.thenR ?_
    obtain rfl := Option.some.inj hm
    exact Leaf.retC2 rfl (HasR.cv (HasR.tmp (Has.s rfl)) (Cv.trans Cv.nilOw (Cv.owM (T := []) (te := []) rfl rfl))) (HasR.cv (HasR.tmp (Has.s rfl)) Cv.fl)
   ·have hm := cond_f hb hm
    refine CWalk.skip ?_
    refine Leaf.blockN ?_
    refine Leaf.thenN ?_
    refine CWalk.seq ?_
    refine CWalk.region ?_
    refine wo (Spec.loadObj (ls := [(false, 1, Fact.rep [] a0.Id), (false, 1, Fact.rep [] a0.Members), (false, 1, Fact.rep [] a0.Chunk), (false, 1, Fact.rep [] a0.Rows), (false, 1, Fact.rep [] a0.Log), (false, 1, Fact.rep [] a0.Heads)]) ty24 rfl rfl (Has.s rfl) rfl (HasGs.cons (HasG.s rfl) (HasGs.cons (HasG.s rfl) (HasGs.cons (HasG.s rfl) (HasGs.cons (HasG.s rfl) (HasGs.cons (HasG.s rfl) (HasGs.cons (HasG.s rfl) HasGs.nil))))))) ?_
    refine mv ?_
    refine wo (Spec.loadObj (ls := [(false, 1, Fact.rep [] a2.Stripe), (false, 1, Fact.rep [0] a2.Slots), (false, 1, Fact.rep [0] a2.Blocks), (false, 1, Fact.rep [0] a2.Parity)]) ty43 rfl rfl (Has.s rfl) rfl (HasGs.cons (HasG.s rfl) (HasGs.cons (HasG.s rfl) (HasGs.cons (HasG.s rfl) (HasGs.cons (HasG.s rfl) HasGs.nil))))) ?_
    obtain ⟨x3, hx3, hm⟩ := bind_some hm
    refine wo (f := Fact.tup2 (Fact.ow [24] [25] 37 (x3.1 : List Act37)) (Fact.rep [] x3.2)) (Spec.callE [0] 24 rfl en34 (home_acts_c a0 a1 a2 hx3) (HasAll.cons (Has.fl (Has.cv (Has.s rfl) (Cv.trans (Cv.flds (CvL.cons Cv.fl (CvL.cons Cv.fl (CvL.cons Cv.fl (CvL.cons Cv.fl (CvL.cons Cv.fl (CvL.cons Cv.fl CvL.nil))))))) (Cv.close (T := []) (chConfig a0))))) (HasAll.cons (Has.fl (Has.s rfl)) (HasAll.cons (Has.m (Has.cv (Has.s rfl) (Cv.trans (Cv.flds (CvL.cons Cv.fl (CvL.cons (Cv.m rfl) (CvL.cons (Cv.m rfl) (CvL.cons (Cv.m rfl) CvL.nil))))) (Cv.close (T := [0]) (chDeal a2)))) rfl) HasAll.nil)))) ?_
    refine wo (Spec.ext0 (Has.s rfl)) ?_
    refine wo (Spec.ext1 (Has.s rfl)) ?_
    refine wo (Spec.assign (Has.s rfl)) ?_
    refine wo (Spec.assign (Has.s rfl)) ?_
    refine Walk.nil ?_
    refine Leaf.thenN ?_
    refine CWalk.ret ?_
    obtain rfl := Option.some.inj hm
    exact Leaf.retC2 rfl (HasR.cv (HasR.tmp (Has.s rfl)) (Cv.owM (T := [24]) (te := [25]) rfl rfl)) (HasR.cv (HasR.tmp (Has.s rfl)) Cv.fl)

def ref05_Same_L1 (a0 : List Act37) (a1 : List Act37) (s1 : Int) : Option (Ctl (Int) ((Unit) ⊕ (Unit))) :=
  (bif (decide (s1 < ((a0).length : Int))) then Option.bind (idx a0 s1) (fun x3 => Option.bind (idx a1 s1) (fun x4 => Option.bind (gO (!(x3.Disk != x4.Disk)) (idx a0 s1)) (fun x5 => Option.bind (gO (!(x3.Disk != x4.Disk)) (idx a1 s1)) (fun x6 => Option.bind (gO (!((x3.Disk != x4.Disk) || (x5.Kind != x6.Kind))) (idx a0 s1)) (fun x7 => Option.bind (gO (!((x3.Disk != x4.Disk) || (x5.Kind != x6.Kind))) (idx a1 s1)) (fun x8 => Option.bind (gO (!(((x3.Disk != x4.Disk) || (x5.Kind != x6.Kind)) || (x7.At != x8.At))) (idx a0 s1)) (fun x9 => Option.bind (gO (!(((x3.Disk != x4.Disk) || (x5.Kind != x6.Kind)) || (x7.At != x8.At))) (idx a1 s1)) (fun x10 => (bif ((((x3.Disk != x4.Disk) || (x5.Kind != x6.Kind)) || (x7.At != x8.At)) || (!((Str.mk x9.Data).s == (Str.mk x10.Data).s))) then some (Ctl.brk (Sum.inr ())) else some (Ctl.next (wI (s1 + (1 : Int))))))))))))) else some (Ctl.brk (Sum.inl ())))
/-- freeboard/freeboardref05.Same -/
def ref05_Same (a0 : List Act37) (a1 : List Act37) : Option (Bool) :=
  (bif (((a0).length : Int) != ((a1).length : Int)) then some false else Option.bind (loopM (fun s : Int => ref05_Same_L1 a0 a1 s) FUEL (0 : Int)) (fun b11 => Sum.elim (fun b12 => some true) (fun b13 => some false) b11))
set_option maxRecDepth 100000 in
set_option maxHeartbeats 2000000 in
theorem ref05_Same_c (a0 : List Act37) (a1 : List Act37) {r : Bool} (hm : ref05_Same a0 a1 = some r) : Ctr Try.prog 18 [.rep 0 a0, .rep 0 a1] (.fl r) [] := by
 refine ctr_of_walk [[]] 69 Try.func18 rfl rfl rfl rfl (fun w0 om => ?_)
 unfold ref05_Same at hm
 refine CWalk.sub (G' := [.fact 0 (.rep [0] (a0 : List Act37)), .fact 1 (.rep [0] (a1 : List Act37))]) (sn (sn Sub.nil)) ?_
 refine CWalk.seq ?_
 refine CWalk.region ?_
 refine wo (Spec.assign Has.bool) ?_
 refine Walk.nil ?_
 refine Leaf.thenN ?_
 refine CWalk.seq ?_
 refine CWalk.seq ?_
 refine CWalk.region ?_
 refine mv ?_
 refine wo (Spec.len (Has.s rfl) Try.underlying31) ?_
 refine mv ?_
 refine wo (Spec.len (Has.s rfl) Try.underlying31) ?_
 refine wo (Spec.neqI (Has.s rfl) (Has.s rfl)) ?_
 refine Walk.nil ?_
 refine Leaf.thenN ?_
 refine CWalk.cond rfl (fun hb => ?_) (fun hb => ?_)
 ·have hm := cond_t hb hm
  refine CWalk.seq ?_
  refine CWalk.region ?_
  refine wo (Spec.assign Has.bool) ?_
  refine Walk.nil ?_
  refine Leaf.thenN ?_
  refine CWalk.ret ?_
  refine Leaf.thenR ?_
  obtain rfl := Option.some.inj hm
  exact Leaf.retC1 rfl (HasR.cv (HasR.tmp (Has.s rfl)) Cv.fl)
 ·have hm := cond_f hb hm
  refine CWalk.skip ?_
  refine Leaf.thenN ?_
  refine CWalk.seq ?_
  refine CWalk.seq ?_
  refine CWalk.region ?_
  refine wo (Spec.assign Has.int) ?_
  refine Walk.nil ?_
  refine Leaf.thenN ?_
  refine CWalk.block ?_
  obtain ⟨b11, hb11, hm⟩ := bind_some hm
  refine CWalk.loop (fun s : Int => [.fact 0 (.rep [0] (a0 : List Act37)), .fact 1 (.rep [0] (a1 : List Act37)), .fact 5 (.rep [] (s : Int))]) (fun b : (Unit) ⊕ (Unit) => Sum.elim (fun b => (Exit.exit 0, [])) (fun b => (Exit.ret, [.fact 4 (.rep [] (false : Bool))])) b) hb11 (su (su (st Sub.nil))) ?_ ?_
  ·rintro s1 c2 hm
   replace hm : ref05_Same_L1 a0 a1 s1 = some c2 := hm
   unfold ref05_Same_L1 at hm
   show CWalk _ [.fact 0 (.rep [0] (a0 : List Act37)), .fact 1 (.rep [0] (a1 : List Act37)), .fact 5 (.rep [] (s1 : Int))] _ _
   refine CWalk.seq ?_
   refine CWalk.seq ?_
   refine CWalk.region ?_
   refine mv ?_
   refine mv ?_
   refine wo (Spec.len (Has.s rfl) Try.underlying31) ?_
   refine wo (Spec.lssI (Has.s rfl) (Has.s rfl)) ?_
   refine Walk.nil ?_
   refine Leaf.thenN ?_
   refine CWalk.cond rfl (fun hb => ?_) (fun hb => ?_)
   ·have hm := cond_t hb hm
    refine CWalk.skip ?_
    refine Leaf.thenN ?_
    refine CWalk.seq ?_
    refine CWalk.block ?_
    refine CWalk.seq ?_
    obtain ⟨x3, hx3, hm⟩ := bind_some hm
    obtain ⟨x4, hx4, hm⟩ := bind_some hm
    obtain ⟨x5, hx5, hm⟩ := bind_some hm
    obtain ⟨x6, hx6, hm⟩ := bind_some hm
    obtain ⟨x7, hx7, hm⟩ := bind_some hm
    obtain ⟨x8, hx8, hm⟩ := bind_some hm
    obtain ⟨x9, hx9, hm⟩ := bind_some hm
    obtain ⟨x10, hx10, hm⟩ := bind_some hm
    refine CWalk.drawM [[], [], [0, 1], [0, 1, 2], [0, 1, 2, 3], [], [], [5, 6], [5, 6, 7], [5, 6, 7, 8], [0, 1, 2, 3, 4, 5, 6, 7, 8, 9], [0, 1, 2, 3, 4, 5, 6, 7, 8, 9, 10], [0, 1, 2, 3, 4, 5, 6, 7, 8, 9, 10, 11], [0, 1, 2, 3, 4, 5, 6, 7, 8, 9, 10, 11], [0, 1, 2, 3, 4, 5, 6, 7, 8, 9, 10, 11, 12, 13], [0, 1, 2, 3, 4, 5, 6, 7, 8, 9, 10, 11, 12, 13, 14], [0, 1, 2, 3, 4, 5, 6, 7, 8, 9, 10, 11, 12, 13, 14, 15], [0, 1, 2, 3, 4, 5, 6, 7, 8, 9, 10, 11], [0, 1, 2, 3, 4, 5, 6, 7, 8, 9, 10, 11], [0, 1, 2, 3, 4, 5, 6, 7, 8, 9, 10, 11, 17, 18], [0, 1, 2, 3, 4, 5, 6, 7, 8, 9, 10, 11, 17, 18, 19], [0, 1, 2, 3, 4, 5, 6, 7, 8, 9, 10, 11, 17, 18, 19, 20], [0, 1, 2, 3, 4, 5, 6, 7, 8, 9, 10, 11, 12, 13, 14, 15, 16, 17, 18, 19, 20, 21], [0, 1, 2, 3, 4, 5, 6, 7, 8, 9, 10, 11, 12, 13, 14, 15, 16, 17, 18, 19, 20, 21, 22], [0, 1, 2, 3, 4, 5, 6, 7, 8, 9, 10, 11, 12, 13, 14, 15, 16, 17, 18, 19, 20, 21, 22, 23], [0, 1, 2, 3, 4, 5, 6, 7, 8, 9, 10, 11, 12, 13, 14, 15, 16, 17, 18, 19, 20, 21, 22, 23, 24], [0, 1, 2, 3, 4, 5, 6, 7, 8, 9, 10, 11, 12, 13, 14, 15, 16, 17, 18, 19, 20, 21, 22, 23, 24], [0, 1, 2, 3, 4, 5, 6, 7, 8, 9, 10, 11, 12, 13, 14, 15, 16, 17, 18, 19, 20, 21, 22, 23, 24, 25, 26], [0, 1, 2, 3, 4, 5, 6, 7, 8, 9, 10, 11, 12, 13, 14, 15, 16, 17, 18, 19, 20, 21, 22, 23, 24, 25, 26, 27], [0, 1, 2, 3, 4, 5, 6, 7, 8, 9, 10, 11, 12, 13, 14, 15, 16, 17, 18, 19, 20, 21, 22, 23, 24, 25, 26, 27, 28], [0, 1, 2, 3, 4, 5, 6, 7, 8, 9, 10, 11, 12, 13, 14, 15, 16, 17, 18, 19, 20, 21, 22, 23, 24], [0, 1, 2, 3, 4, 5, 6, 7, 8, 9, 10, 11, 12, 13, 14, 15, 16, 17, 18, 19, 20, 21, 22, 23, 24], [0, 1, 2, 3, 4, 5, 6, 7, 8, 9, 10, 11, 12, 13, 14, 15, 16, 17, 18, 19, 20, 21, 22, 23, 24, 30, 31], [0, 1, 2, 3, 4, 5, 6, 7, 8, 9, 10, 11, 12, 13, 14, 15, 16, 17, 18, 19, 20, 21, 22, 23, 24, 30, 31, 32], [0, 1, 2, 3, 4, 5, 6, 7, 8, 9, 10, 11, 12, 13, 14, 15, 16, 17, 18, 19, 20, 21, 22, 23, 24, 30, 31, 32, 33], [0, 1, 2, 3, 4, 5, 6, 7, 8, 9, 10, 11, 12, 13, 14, 15, 16, 17, 18, 19, 20, 21, 22, 23, 24, 25, 26, 27, 28, 29, 30, 31, 32, 33, 34], [0, 1, 2, 3, 4, 5, 6, 7, 8, 9, 10, 11, 12, 13, 14, 15, 16, 17, 18, 19, 20, 21, 22, 23, 24, 25, 26, 27, 28, 29, 30, 31, 32, 33, 34, 35], [0, 1, 2, 3, 4, 5, 6, 7, 8, 9, 10, 11, 12, 13, 14, 15, 16, 17, 18, 19, 20, 21, 22, 23, 24, 25, 26, 27, 28, 29, 30, 31, 32, 33, 34, 35, 36], [0, 1, 2, 3, 4, 5, 6, 7, 8, 9, 10, 11, 12, 13, 14, 15, 16, 17, 18, 19, 20, 21, 22, 23, 24, 25, 26, 27, 28, 29, 30, 31, 32, 33, 34, 35, 36, 37], [0, 1, 2, 3, 4, 5, 6, 7, 8, 9, 10, 11, 12, 13, 14, 15, 16, 17, 18, 19, 20, 21, 22, 23, 24, 25, 26, 27, 28, 29, 30, 31, 32, 33, 34, 35, 36, 37], [0, 1, 2, 3, 4, 5, 6, 7, 8, 9, 10, 11, 12, 13, 14, 15, 16, 17, 18, 19, 20, 21, 22, 23, 24, 25, 26, 27, 28, 29, 30, 31, 32, 33, 34, 35, 36, 37, 38, 39], [0, 1, 2, 3, 4, 5, 6, 7, 8, 9, 10, 11, 12, 13, 14, 15, 16, 17, 18, 19, 20, 21, 22, 23, 24, 25, 26, 27, 28, 29, 30, 31, 32, 33, 34, 35, 36, 37, 38, 39, 40], [0, 1, 2, 3, 4, 5, 6, 7, 8, 9, 10, 11, 12, 13, 14, 15, 16, 17, 18, 19, 20, 21, 22, 23, 24, 25, 26, 27, 28, 29, 30, 31, 32, 33, 34, 35, 36, 37, 38, 39, 40, 41], [0, 1, 2, 3, 4, 5, 6, 7, 8, 9, 10, 11, 12, 13, 14, 15, 16, 17, 18, 19, 20, 21, 22, 23, 24, 25, 26, 27, 28, 29, 30, 31, 32, 33, 34, 35, 36, 37, 38, 39, 40, 41, 42], [0, 1, 2, 3, 4, 5, 6, 7, 8, 9, 10, 11, 12, 13, 14, 15, 16, 17, 18, 19, 20, 21, 22, 23, 24, 25, 26, 27, 28, 29, 30, 31, 32, 33, 34, 35, 36, 37], [0, 1, 2, 3, 4, 5, 6, 7, 8, 9, 10, 11, 12, 13, 14, 15, 16, 17, 18, 19, 20, 21, 22, 23, 24, 25, 26, 27, 28, 29, 30, 31, 32, 33, 34, 35, 36, 37], [0, 1, 2, 3, 4, 5, 6, 7, 8, 9, 10, 11, 12, 13, 14, 15, 16, 17, 18, 19, 20, 21, 22, 23, 24, 25, 26, 27, 28, 29, 30, 31, 32, 33, 34, 35, 36, 37, 44, 45], [0, 1, 2, 3, 4, 5, 6, 7, 8, 9, 10, 11, 12, 13, 14, 15, 16, 17, 18, 19, 20, 21, 22, 23, 24, 25, 26, 27, 28, 29, 30, 31, 32, 33, 34, 35, 36, 37, 44, 45, 46], [0, 1, 2, 3, 4, 5, 6, 7, 8, 9, 10, 11, 12, 13, 14, 15, 16, 17, 18, 19, 20, 21, 22, 23, 24, 25, 26, 27, 28, 29, 30, 31, 32, 33, 34, 35, 36, 37, 44, 45, 46, 47], [0, 1, 2, 3, 4, 5, 6, 7, 8, 9, 10, 11, 12, 13, 14, 15, 16, 17, 18, 19, 20, 21, 22, 23, 24, 25, 26, 27, 28, 29, 30, 31, 32, 33, 34, 35, 36, 37, 44, 45, 46, 47, 48], [0, 1, 2, 3, 4, 5, 6, 7, 8, 9, 10, 11, 12, 13, 14, 15, 16, 17, 18, 19, 20, 21, 22, 23, 24, 25, 26, 27, 28, 29, 30, 31, 32, 33, 34, 35, 36, 37, 38, 39, 40, 41, 42, 43, 44, 45, 46, 47, 48, 49], [0, 1, 2, 3, 4, 5, 6, 7, 8, 9, 10, 11, 12, 13, 14, 15, 16, 17, 18, 19, 20, 21, 22, 23, 24, 25, 26, 27, 28, 29, 30, 31, 32, 33, 34, 35, 36, 37, 38, 39, 40, 41, 42, 43, 44, 45, 46, 47, 48, 49, 50]] [[.fact 17 (.rep [0] (a0 : List Act37))], [.fact 18 (.rep [] (s1 : Int))], [.fact 19 (.ptr [0] (x3 : Act37))], [.fact 20 (.ptr [0] (x3.Disk : Int))], [.fact 21 (.rep [] x3.Disk)], [.fact 22 (.rep [0] (a1 : List Act37))], [.fact 23 (.rep [] (s1 : Int))], [.fact 24 (.ptr [0] (x4 : Act37))], [.fact 25 (.ptr [0] (x4.Disk : Int))], [.fact 26 (.rep [] x4.Disk)], [.fact 27 (.rep [] ((x3.Disk != x4.Disk) : Bool))], [.fact 28 (.rep [] ((x3.Disk != x4.Disk) : Bool))], [.fact 29 (.under ((x3.Disk != x4.Disk) = false) (.rep [0] (a0 : List Act37)))], [.fact 30 (.under ((x3.Disk != x4.Disk) = false) (.rep [] (s1 : Int)))], [.fact 31 (.under ((x3.Disk != x4.Disk) = false) (.ptr [0] (x5 : Act37)))], [.fact 32 (.under ((x3.Disk != x4.Disk) = false) (.ptr [0] (x5.Kind : UInt8)))], [.fact 33 (.under ((x3.Disk != x4.Disk) = false) (.rep [] x5.Kind))], [.fact 34 (.under ((x3.Disk != x4.Disk) = false) (.rep [0] (a1 : List Act37)))], [.fact 35 (.under ((x3.Disk != x4.Disk) = false) (.rep [] (s1 : Int)))], [.fact 36 (.under ((x3.Disk != x4.Disk) = false) (.ptr [0] (x6 : Act37)))], [.fact 37 (.under ((x3.Disk != x4.Disk) = false) (.ptr [0] (x6.Kind : UInt8)))], [.fact 38 (.under ((x3.Disk != x4.Disk) = false) (.rep [] x6.Kind))], [.fact 39 (.under ((x3.Disk != x4.Disk) = false) (.rep [] ((x5.Kind != x6.Kind) : Bool)))], [.fact 40 (.rep [] (((x3.Disk != x4.Disk) || (x5.Kind != x6.Kind)) : Bool))], [.fact 41 (.rep [] (((x3.Disk != x4.Disk) || (x5.Kind != x6.Kind)) : Bool))], [.fact 42 (.under (((x3.Disk != x4.Disk) || (x5.Kind != x6.Kind)) = false) (.rep [0] (a0 : List Act37)))], [.fact 43 (.under (((x3.Disk != x4.Disk) || (x5.Kind != x6.Kind)) = false) (.rep [] (s1 : Int)))], [.fact 44 (.under (((x3.Disk != x4.Disk) || (x5.Kind != x6.Kind)) = false) (.ptr [0] (x7 : Act37)))], [.fact 45 (.under (((x3.Disk != x4.Disk) || (x5.Kind != x6.Kind)) = false) (.ptr [0] (x7.At : Int)))], [.fact 46 (.under (((x3.Disk != x4.Disk) || (x5.Kind != x6.Kind)) = false) (.rep [] x7.At))], [.fact 47 (.under (((x3.Disk != x4.Disk) || (x5.Kind != x6.Kind)) = false) (.rep [0] (a1 : List Act37)))], [.fact 48 (.under (((x3.Disk != x4.Disk) || (x5.Kind != x6.Kind)) = false) (.rep [] (s1 : Int)))], [.fact 49 (.under (((x3.Disk != x4.Disk) || (x5.Kind != x6.Kind)) = false) (.ptr [0] (x8 : Act37)))], [.fact 50 (.under (((x3.Disk != x4.Disk) || (x5.Kind != x6.Kind)) = false) (.ptr [0] (x8.At : Int)))], [.fact 51 (.under (((x3.Disk != x4.Disk) || (x5.Kind != x6.Kind)) = false) (.rep [] x8.At))], [.fact 52 (.under (((x3.Disk != x4.Disk) || (x5.Kind != x6.Kind)) = false) (.rep [] ((x7.At != x8.At) : Bool)))], [.fact 53 (.rep [] ((((x3.Disk != x4.Disk) || (x5.Kind != x6.Kind)) || (x7.At != x8.At)) : Bool))], [.fact 54 (.rep [] ((((x3.Disk != x4.Disk) || (x5.Kind != x6.Kind)) || (x7.At != x8.At)) : Bool))], [.fact 55 (.under ((((x3.Disk != x4.Disk) || (x5.Kind != x6.Kind)) || (x7.At != x8.At)) = false) (.rep [0] (a0 : List Act37)))], [.fact 56 (.under ((((x3.Disk != x4.Disk) || (x5.Kind != x6.Kind)) || (x7.At != x8.At)) = false) (.rep [] (s1 : Int)))], [.fact 57 (.under ((((x3.Disk != x4.Disk) || (x5.Kind != x6.Kind)) || (x7.At != x8.At)) = false) (.ptr [0] (x9 : Act37)))], [.fact 58 (.under ((((x3.Disk != x4.Disk) || (x5.Kind != x6.Kind)) || (x7.At != x8.At)) = false) (.ptr [0] (x9.Data : List UInt8)))], [.fact 59 (.under ((((x3.Disk != x4.Disk) || (x5.Kind != x6.Kind)) || (x7.At != x8.At)) = false) (.rep [0] x9.Data))], [.fact 60 (.under ((((x3.Disk != x4.Disk) || (x5.Kind != x6.Kind)) || (x7.At != x8.At)) = false) (.rep [] ((Str.mk x9.Data) : Str)))], [.fact 61 (.under ((((x3.Disk != x4.Disk) || (x5.Kind != x6.Kind)) || (x7.At != x8.At)) = false) (.rep [0] (a1 : List Act37)))], [.fact 62 (.under ((((x3.Disk != x4.Disk) || (x5.Kind != x6.Kind)) || (x7.At != x8.At)) = false) (.rep [] (s1 : Int)))], [.fact 63 (.under ((((x3.Disk != x4.Disk) || (x5.Kind != x6.Kind)) || (x7.At != x8.At)) = false) (.ptr [0] (x10 : Act37)))], [.fact 64 (.under ((((x3.Disk != x4.Disk) || (x5.Kind != x6.Kind)) || (x7.At != x8.At)) = false) (.ptr [0] (x10.Data : List UInt8)))], [.fact 65 (.under ((((x3.Disk != x4.Disk) || (x5.Kind != x6.Kind)) || (x7.At != x8.At)) = false) (.rep [0] x10.Data))], [.fact 66 (.under ((((x3.Disk != x4.Disk) || (x5.Kind != x6.Kind)) || (x7.At != x8.At)) = false) (.rep [] ((Str.mk x10.Data) : Str)))], [.fact 67 (.under ((((x3.Disk != x4.Disk) || (x5.Kind != x6.Kind)) || (x7.At != x8.At)) = false) (.rep [] ((!((Str.mk x9.Data).s == (Str.mk x10.Data).s)) : Bool)))], [.fact 68 (.rep [] (((((x3.Disk != x4.Disk) || (x5.Kind != x6.Kind)) || (x7.At != x8.At)) || (!((Str.mk x9.Data).s == (Str.mk x10.Data).s))) : Bool))]] mixed (by kernel_rfl) (ao (so (Spec.move (Has.s rfl))) (ao (so (Spec.move (Has.s rfl))) (ao (so (Spec.indexAddr hx3 sl31 (Has.s rfl) (Has.s rfl))) (ao (so (Spec.fieldAddrP fd37_0 (chAct37 x3) rfl (Has.s rfl))) (ao (so ((Spec.load ty3 (Has.s rfl)).flat (T' := []))) (ao (so (Spec.move (Has.s rfl))) (ao (so (Spec.move (Has.s rfl))) (ao (so (Spec.indexAddr hx4 sl31 (Has.s rfl) (Has.s rfl))) (ao (so (Spec.fieldAddrP fd37_0 (chAct37 x4) rfl (Has.s rfl))) (ao (so ((Spec.load ty3 (Has.s rfl)).flat (T' := []))) (ao (so (Spec.neqI (Has.s rfl) (Has.s rfl))) (ao (so (Spec.move (Has.s rfl))) (ao (StepG.opg rfl rfl rfl (fun hb => Spec.move (Has.s rfl))) (ao (StepG.opg rfl rfl rfl (fun hb => Spec.move (Has.s rfl))) (ao (StepG.opg rfl rfl rfl (fun hb => Spec.indexAddr (gO_t hx5 (not_t hb)) sl31 (Has.u rfl hb) (Has.u rfl hb))) (ao (StepG.opg rfl rfl rfl (fun hb => Spec.fieldAddrP fd37_1 (chAct37 x5) rfl (Has.u rfl hb))) (ao (StepG.opg rfl rfl rfl (fun hb => (Spec.load ty5 (Has.u rfl hb)).flat (T' := []))) (ao (StepG.opg rfl rfl rfl (fun hb => Spec.move (Has.s rfl))) (ao (StepG.opg rfl rfl rfl (fun hb => Spec.move (Has.s rfl))) (ao (StepG.opg rfl rfl rfl (fun hb => Spec.indexAddr (gO_t hx6 (not_t hb)) sl31 (Has.u rfl hb) (Has.u rfl hb))) (ao (StepG.opg rfl rfl rfl (fun hb => Spec.fieldAddrP fd37_1 (chAct37 x6) rfl (Has.u rfl hb))) (ao (StepG.opg rfl rfl rfl (fun hb => (Spec.load ty5 (Has.u rfl hb)).flat (T' := []))) (ao (StepG.opg rfl rfl rfl (fun hb => Spec.neqB (Has.u rfl hb) (Has.u rfl hb))) (ao (so (Spec.or (Has.s rfl) (fun h => Has.u rfl h))) (ao (so (Spec.move (Has.s rfl))) (ao (StepG.opg rfl rfl rfl (fun hb => Spec.move (Has.s rfl))) (ao (StepG.opg rfl rfl rfl (fun hb => Spec.move (Has.s rfl))) (ao (StepG.opg rfl rfl rfl (fun hb => Spec.indexAddr (gO_t hx7 (not_t hb)) sl31 (Has.u rfl hb) (Has.u rfl hb))) (ao (StepG.opg rfl rfl rfl (fun hb => Spec.fieldAddrP fd37_2 (chAct37 x7) rfl (Has.u rfl hb))) (ao (StepG.opg rfl rfl rfl (fun hb => (Spec.load ty3 (Has.u rfl hb)).flat (T' := []))) (ao (StepG.opg rfl rfl rfl (fun hb => Spec.move (Has.s rfl))) (ao (StepG.opg rfl rfl rfl (fun hb => Spec.move (Has.s rfl))) (ao (StepG.opg rfl rfl rfl (fun hb => Spec.indexAddr (gO_t hx8 (not_t hb)) sl31 (Has.u rfl hb) (Has.u rfl hb))) (ao (StepG.opg rfl rfl rfl (fun hb => Spec.fieldAddrP fd37_2 (chAct37 x8) rfl (Has.u rfl hb))) (ao (StepG.opg rfl rfl rfl (fun hb => (Spec.load ty3 (Has.u rfl hb)).flat (T' := []))) (ao (StepG.opg rfl rfl rfl (fun hb => Spec.neqI (Has.u rfl hb) (Has.u rfl hb))) (ao (so (Spec.or (Has.s rfl) (fun h => Has.u rfl h))) (ao (so (Spec.move (Has.s rfl))) (ao (StepG.opg rfl rfl rfl (fun hb => Spec.move (Has.s rfl))) (ao (StepG.opg rfl rfl rfl (fun hb => Spec.move (Has.s rfl))) (ao (StepG.opg rfl rfl rfl (fun hb => Spec.indexAddr (gO_t hx9 (not_t hb)) sl31 (Has.u rfl hb) (Has.u rfl hb))) (ao (StepG.opg rfl rfl rfl (fun hb => Spec.fieldAddrP fd37_3 (chAct37 x9) rfl (Has.u rfl hb))) (ao (StepG.opg rfl rfl rfl (fun hb => Spec.load ty35 (Has.u rfl hb))) (ao (StepG.opg rfl rfl rfl (fun hb => Spec.toStr Try.underlying35 Try.underlying5 Try.underlying9 (Has.u rfl hb))) (ao (StepG.opg rfl rfl rfl (fun hb => Spec.move (Has.s rfl))) (ao (StepG.opg rfl rfl rfl (fun hb => Spec.move (Has.s rfl))) (ao (StepG.opg rfl rfl rfl (fun hb => Spec.indexAddr (gO_t hx10 (not_t hb)) sl31 (Has.u rfl hb) (Has.u rfl hb))) (ao (StepG.opg rfl rfl rfl (fun hb => Spec.fieldAddrP fd37_3 (chAct37 x10) rfl (Has.u rfl hb))) (ao (StepG.opg rfl rfl rfl (fun hb => Spec.load ty35 (Has.u rfl hb))) (ao (StepG.opg rfl rfl rfl (fun hb => Spec.toStr Try.underlying35 Try.underlying5 Try.underlying9 (Has.u rfl hb))) (ao (StepG.opg rfl rfl rfl (fun hb => Spec.neqS (Has.u rfl hb) (Has.u rfl hb))) (ao (so (Spec.or (Has.s rfl) (fun h => Has.u rfl h))) AllM.nil)))))))))))))))))))))))))))))))))))))))))))))))))))) ?_
    refine Leaf.thenN ?_
    refine CWalk.cond rfl (fun hb => ?_) (fun hb => ?_)
    ·have hm := cond_t hb hm
     refine CWalk.seq ?_
     refine CWalk.region ?_
     refine wo (Spec.assign Has.bool) ?_
     refine Walk.nil ?_
     refine Leaf.thenN ?_
     refine CWalk.ret ?_
     refine Leaf.blockR ?_
     refine Leaf.thenR ?_
     exact Leaf.brk hm (fun h => nomatch h) rfl (st Sub.nil)
    ·have hm := cond_f hb hm
     refine CWalk.skip ?_
     refine Leaf.blockN ?_
     refine Leaf.thenN ?_
     refine CWalk.region ?_
     refine mv ?_
     refine wo (Spec.addI (Has.s rfl) Has.int) ?_
     refine wo (Spec.assign (Has.s rfl)) ?_
     refine Walk.nil ?_
     exact Leaf.next hm (su (su (st Sub.nil)))
   ·have hm := cond_f hb hm
    refine CWalk.exit ?_
    refine Leaf.thenE ?_
    exact Leaf.brk hm (fun h => nomatch h) rfl (Sub.nil)
  ·intro _
   rcases b11 with b12 | b13
   ·have hm := selim_l hm
    refine Leaf.blockE ?_
    refine Leaf.thenN ?_
    refine CWalk.seq ?_
    refine CWalk.region ?_
    refine wo (Spec.assign Has.bool) ?_
    refine Walk.nil ?_
    refine Leaf.thenN ?_
    refine CWalk.ret ?_
    obtain rfl := Option.some.inj hm
    exact Leaf.retC1 rfl (HasR.cv (HasR.tmp (Has.s rfl)) Cv.fl)
   ·have hm := selim_r hm
    refine Leaf.blockR ?_
    refine Leaf.thenR ?_
    obtain rfl := Option.some.inj hm
    exact Leaf.retC1 rfl (HasR.cv (HasR.tmp (Has.s rfl)) Cv.fl)

/-- freeboard/freeboardlaw21.is -/
def law21_is (a0 : Int) (a1 : List Act37) : Option (Bool) :=
  Option.bind (law21_three) (fun x1 => Option.bind (law21_one) (fun x2 => Option.bind (home_Again x1 a0 x2) (fun x3 => Option.bind (gO ((x3.2 == (0 : Int))) (ref05_Same x3.1 a1)) (fun x4 => some ((x3.2 == (0 : Int)) && x4)))))
set_option maxRecDepth 100000 in
set_option maxHeartbeats 2000000 in
theorem law21_is_c (a0 : Int) (a1 : List Act37) {r : Bool} (hm : law21_is a0 a1 = some r) : Ctr Try.prog 16 [.rep 0 a0, .rep 0 a1] (.fl r) [] := by
 refine ctr_of_walk [[]] 21 Try.func16 rfl rfl rfl rfl (fun w0 om => ?_)
 unfold law21_is at hm
 refine CWalk.sub (G' := [.fact 0 (.rep [] (a0 : Int)), .fact 1 (.rep [0] (a1 : List Act37))]) (Sub.cons (Has.fl (Has.s rfl)) (sn Sub.nil)) ?_
 refine CWalk.seq ?_
 refine CWalk.region ?_
 refine wo (Spec.assign Has.bool) ?_
 refine Walk.nil ?_
 refine Leaf.thenN ?_
 refine CWalk.seq ?_
 refine CWalk.region ?_
 obtain ⟨x1, hx1, hm⟩ := bind_some hm
 refine wo (f := Fact.rep [] (x1 : Config)) (Spec.callE [] 10 rfl en13 (law21_three_c  hx1) HasAll.nil) ?_
 refine mv ?_
 obtain ⟨x2, hx2, hm⟩ := bind_some hm
 refine wo (f := Fact.flds [(false, 1, Fact.rep [] x2.Stripe), (false, 1, Fact.rep [11] x2.Slots), (false, 1, Fact.rep [12] x2.Blocks), (false, 1, Fact.ow [13] [] 5 (x2.Parity : List UInt8))]) (Spec.callE [] 11 rfl en11 (law21_one_c  hx2) HasAll.nil) ?_
 obtain ⟨x3, hx3, hm⟩ := bind_some hm
 refine wo (f := Fact.tup2 (Fact.ow [14] [15] 37 (x3.1 : List Act37)) (Fact.rep [] x3.2)) (Spec.callE [11, 12, 13] 14 rfl en12 (home_Again_c x1 a0 x2 hx3) (HasAll.cons (Has.fl (Has.s rfl)) (HasAll.cons (Has.fl (Has.s rfl)) (HasAll.cons (Has.m (Has.cv (Has.s rfl) (Cv.trans (Cv.flds (CvL.cons Cv.fl (CvL.cons (Cv.m rfl) (CvL.cons (Cv.m rfl) (CvL.cons (Cv.trans (Cv.trans Cv.owSl (Cv.slRep (T' := [13]) rfl rfl)) (Cv.m rfl)) CvL.nil))))) (Cv.close (T := [11, 12, 13]) (chDeal x2)))) rfl) HasAll.nil)))) ?_
 refine mv ?_
 refine wo (Spec.ext0 (Has.s rfl)) ?_
 refine wo (Spec.ext1 (Has.s rfl)) ?_
 refine wo (Spec.assign (Has.s rfl)) ?_
 refine wo (Spec.assign (Has.s rfl)) ?_
 refine Walk.nil ?_
 refine Leaf.thenN ?_
 refine CWalk.seq ?_
 refine CWalk.region ?_
 refine mv ?_
 refine wo (Spec.eqlI (Has.s rfl) Has.int) ?_
 refine mv ?_
 refine wg rfl rfl (fun hb => Spec.move (Has.s rfl)) ?_
 refine wg rfl rfl (fun hb => Spec.move (Has.s rfl)) ?_
 obtain ⟨x4, hx4, hm⟩ := bind_some hm
 refine wg (f := Fact.rep [] (x4 : Bool)) rfl rfl (fun hb => Spec.callE [0, 14, 15] 16 rfl en18 (ref05_Same_c x3.1 a1 (gO_t hx4 hb)) (HasAll.cons (Has.m (Has.cv (Has.u rfl hb) (Cv.trans Cv.owSl (Cv.slRep (T' := [14, 15]) rfl rfl))) rfl) (HasAll.cons (Has.m (Has.u rfl hb) rfl) HasAll.nil))) ?_
 refine wo (Spec.and (Has.s rfl) (fun h => Has.u rfl h)) ?_
 refine wo (Spec.assign (Has.s rfl)) ?_
 refine Walk.nil ?_
 refine Leaf.thenN ?_
 refine CWalk.ret ?_
 obtain rfl := Option.some.inj hm
 exact Leaf.retC1 rfl (HasR.cv (HasR.tmp (Has.s rfl)) Cv.fl)

/-- freeboard/freeboardlaw21.alive -/
def law21_alive : Option (Bool) :=
  Option.bind (law21_write (0 : Int) (2 : Int) (120 : UInt8)) (fun x1 => Option.bind (law21_write (1 : Int) (2 : Int) (112 : UInt8)) (fun x2 => Option.bind (law21_is (-1 : Int) ([x1, x2])) (fun x3 => Option.bind (gO (x3) (law21_write (1 : Int) (2 : Int) (112 : UInt8))) (fun x4 => Option.bind (gO (x3) (law21_is (0 : Int) ([x4]))) (fun x5 => Option.bind (gO ((x3 && x5)) (law21_write (0 : Int) (2 : Int) (120 : UInt8))) (fun x6 => Option.bind (gO ((x3 && x5)) (law21_is (1 : Int) ([x6]))) (fun x7 => some ((x3 && x5) && x7))))))))
set_option maxRecDepth 100000 in
set_option maxHeartbeats 2000000 in
theorem law21_alive_c {r : Bool} (hm : law21_alive = some r) : Ctr Try.prog 7 [] (.fl r) [] := by
 refine ctr_of_walk [[]] 15 Try.func7 rfl rfl rfl rfl (fun w0 om => ?_)
 unfold law21_alive at hm
 refine CWalk.sub (G' := []) (Sub.nil) ?_
 refine CWalk.seq ?_
 refine CWalk.region ?_
 refine wo (Spec.assign Has.bool) ?_
 refine Walk.nil ?_
 refine Leaf.thenN ?_
 refine CWalk.seq ?_
 refine CWalk.region ?_
 obtain ⟨x1, hx1, hm⟩ := bind_some hm
 refine wo (f := Fact.flds [(false, 1, Fact.rep [] x1.Disk), (false, 1, Fact.rep [] x1.Kind), (false, 1, Fact.rep [] x1.At), (false, 1, Fact.ow [10] [] 5 (x1.Data : List UInt8))]) (Spec.callE [] 10 rfl en17 (law21_write_c (0 : Int) (2 : Int) (120 : UInt8) hx1) (HasAll.cons (Has.fl Has.int) (HasAll.cons (Has.fl Has.int) (HasAll.cons (Has.fl (Has.u8 120 rfl)) HasAll.nil)))) ?_
 obtain ⟨x2, hx2, hm⟩ := bind_some hm
 refine wo (f := Fact.flds [(false, 1, Fact.rep [] x2.Disk), (false, 1, Fact.rep [] x2.Kind), (false, 1, Fact.rep [] x2.At), (false, 1, Fact.ow [11] [] 5 (x2.Data : List UInt8))]) (Spec.callE [] 11 rfl en17 (law21_write_c (1 : Int) (2 : Int) (112 : UInt8) hx2) (HasAll.cons (Has.fl Has.int) (HasAll.cons (Has.fl Has.int) (HasAll.cons (Has.fl (Has.u8 112 rfl)) HasAll.nil)))) ?_
 refine wo (Spec.lit (xs := [.tmp 1, .tmp 2]) (T := [10, 11]) 12 rfl ow31 rfl rfl rfl rfl (HasEach.cons (Has.m (Has.cv (Has.s rfl) (Cv.trans (Cv.flds (CvL.cons Cv.fl (CvL.cons Cv.fl (CvL.cons Cv.fl (CvL.cons (Cv.trans (Cv.trans Cv.owSl (Cv.slRep (T' := [10]) rfl rfl)) (Cv.m rfl)) CvL.nil))))) (Cv.close (T := [10]) (chAct37 x1)))) rfl) (HasEach.cons (Has.m (Has.cv (Has.s rfl) (Cv.trans (Cv.flds (CvL.cons Cv.fl (CvL.cons Cv.fl (CvL.cons Cv.fl (CvL.cons (Cv.trans (Cv.trans Cv.owSl (Cv.slRep (T' := [11]) rfl rfl)) (Cv.m rfl)) CvL.nil))))) (Cv.close (T := [11]) (chAct37 x2)))) rfl) HasEach.nil))) ?_
 obtain ⟨x3, hx3, hm⟩ := bind_some hm
 refine wo (f := Fact.rep [] (x3 : Bool)) (Spec.callE [10, 11, 12] 13 rfl en16 (law21_is_c (-1 : Int) ([x1, x2]) hx3) (HasAll.cons (Has.fl Has.int) (HasAll.cons (Has.m (Has.s rfl) rfl) HasAll.nil))) ?_
 refine mv ?_
 obtain ⟨x4, hx4, hm⟩ := bind_some hm
 refine wg (f := Fact.flds [(false, 1, Fact.rep [] x4.Disk), (false, 1, Fact.rep [] x4.Kind), (false, 1, Fact.rep [] x4.At), (false, 1, Fact.ow [14] [] 5 (x4.Data : List UInt8))]) rfl rfl (fun hb => Spec.callE [] 14 rfl en17 (law21_write_c (1 : Int) (2 : Int) (112 : UInt8) (gO_t hx4 hb)) (HasAll.cons (Has.fl Has.int) (HasAll.cons (Has.fl Has.int) (HasAll.cons (Has.fl (Has.u8 112 rfl)) HasAll.nil)))) ?_
 refine wg rfl rfl (fun hb => Spec.lit (xs := [.tmp 6]) (T := [14]) 15 rfl ow31 rfl rfl rfl rfl (HasEach.cons (Has.m (Has.cv (Has.u rfl hb) (Cv.trans (Cv.flds (CvL.cons Cv.fl (CvL.cons Cv.fl (CvL.cons Cv.fl (CvL.cons (Cv.trans (Cv.trans Cv.owSl (Cv.slRep (T' := [14]) rfl rfl)) (Cv.m rfl)) CvL.nil))))) (Cv.close (T := [14]) (chAct37 x4)))) rfl) HasEach.nil)) ?_
 obtain ⟨x5, hx5, hm⟩ := bind_some hm
 refine wg (f := Fact.rep [] (x5 : Bool)) rfl rfl (fun hb => Spec.callE [14, 15] 16 rfl en16 (law21_is_c (0 : Int) ([x4]) (gO_t hx5 hb)) (HasAll.cons (Has.fl Has.int) (HasAll.cons (Has.m (Has.u rfl hb) rfl) HasAll.nil))) ?_
 refine wo (Spec.and (Has.s rfl) (fun h => Has.u rfl h)) ?_
 refine mv ?_
 obtain ⟨x6, hx6, hm⟩ := bind_some hm
 refine wg (f := Fact.flds [(false, 1, Fact.rep [] x6.Disk), (false, 1, Fact.rep [] x6.Kind), (false, 1, Fact.rep [] x6.At), (false, 1, Fact.ow [17] [] 5 (x6.Data : List UInt8))]) rfl rfl (fun hb => Spec.callE [] 17 rfl en17 (law21_write_c (0 : Int) (2 : Int) (120 : UInt8) (gO_t hx6 hb)) (HasAll.cons (Has.fl Has.int) (HasAll.cons (Has.fl Has.int) (HasAll.cons (Has.fl (Has.u8 120 rfl)) HasAll.nil)))) ?_
 refine wg rfl rfl (fun hb => Spec.lit (xs := [.tmp 11]) (T := [17]) 18 rfl ow31 rfl rfl rfl rfl (HasEach.cons (Has.m (Has.cv (Has.u rfl hb) (Cv.trans (Cv.flds (CvL.cons Cv.fl (CvL.cons Cv.fl (CvL.cons Cv.fl (CvL.cons (Cv.trans (Cv.trans Cv.owSl (Cv.slRep (T' := [17]) rfl rfl)) (Cv.m rfl)) CvL.nil))))) (Cv.close (T := [17]) (chAct37 x6)))) rfl) HasEach.nil)) ?_
 obtain ⟨x7, hx7, hm⟩ := bind_some hm
 refine wg (f := Fact.rep [] (x7 : Bool)) rfl rfl (fun hb => Spec.callE [17, 18] 19 rfl en16 (law21_is_c (1 : Int) ([x6]) (gO_t hx7 hb)) (HasAll.cons (Has.fl Has.int) (HasAll.cons (Has.m (Has.u rfl hb) rfl) HasAll.nil))) ?_
 refine wo (Spec.and (Has.s rfl) (fun h => Has.u rfl h)) ?_
 refine wo (Spec.assign (Has.s rfl)) ?_
 refine Walk.nil ?_
 refine Leaf.thenN ?_
 refine CWalk.ret ?_
 obtain rfl := Option.some.inj hm
 exact Leaf.retC1 rfl (HasR.cv (HasR.tmp (Has.s rfl)) Cv.fl)

def ref04_Great_L1 (a0 : Disk) (s1 : Int) (s2 : Int) : Option (Ctl (Int × Int) (Int)) :=
  (bif ((decide (s2 < ((a0.Blocks).length : Int))) && (decide (s2 < (400 : Int)))) then Option.bind (idx a0.Blocks s2) (fun x4 => some (Ctl.next ((wI (s1 + (wI ((8 : Int) + (min ((x4).length : Int) (100000 : Int)))))), (wI (s2 + (1 : Int)))))) else some (Ctl.brk s1))
def ref04_Great_L2 (a0 : Disk) (s6 : Int) (s7 : Int) : Option (Ctl (Int × Int) (Int)) :=
  (bif ((decide (s7 < ((a0.Wait).length : Int))) && (decide (s7 < (1200 : Int)))) then Option.bind (idx a0.Wait s7) (fun x9 => some (Ctl.next ((wI (s6 + (wI ((8 : Int) + (min ((x9.Data).length : Int) (100000 : Int)))))), (wI (s7 + (1 : Int)))))) else some (Ctl.brk s6))
/-- freeboard/freeboardref04.Great -/
def ref04_Great (a0 : Disk) : Option (Bool) :=
  Option.bind (loopM (fun s : Int × Int => ref04_Great_L1 a0 s.1 s.2) FUEL ((0 : Int), (0 : Int))) (fun b5 => Option.bind (loopM (fun s : Int × Int => ref04_Great_L2 a0 s.1 s.2) FUEL (b5, (0 : Int))) (fun b10 => some (((decide (((a0.Blocks).length : Int) > (300 : Int))) || (decide (((a0.Wait).length : Int) > (1100 : Int)))) || (decide (b10 > (60000 : Int))))))
set_option maxRecDepth 100000 in
set_option maxHeartbeats 2000000 in
theorem ref04_Great_c (a0 : Disk) {r : Bool} (hm : ref04_Great a0 = some r) : Ctr Try.prog 39 [.rep 0 a0] (.fl r) [] := by
 refine ctr_of_walk [[]] 63 Try.func39 rfl rfl rfl rfl (fun w0 om => ?_)
 unfold ref04_Great at hm
 refine CWalk.sub (G' := [.fact 0 (.rep [0] (a0 : Disk))]) (sn Sub.nil) ?_
 refine CWalk.seq ?_
 refine CWalk.region ?_
 refine ws (Step.boxObj (ls := [(false, 1, Fact.rep [0] a0.Blocks), (false, 1, Fact.rep [0] a0.Wait), (false, 1, Fact.rep [] a0.Dead)]) 10 rfl rfl rfl rfl (HasL.flds (Has.cv (Has.s rfl) (Cv.trans (Cv.opens (chDisk a0)) (Cv.flds (CvL.cons Cv.refl (CvL.cons Cv.refl (CvL.cons Cv.fl CvL.nil)))))))) ?_
 refine wo (Spec.assign Has.bool) ?_
 refine Walk.nil ?_
 refine Leaf.thenN ?_
 refine CWalk.seq ?_
 refine CWalk.region ?_
 refine wo (Spec.assign Has.int) ?_
 refine Walk.nil ?_
 refine Leaf.thenN ?_
 refine CWalk.seq ?_
 refine CWalk.seq ?_
 refine CWalk.region ?_
 refine wo (Spec.assign Has.int) ?_
 refine Walk.nil ?_
 refine Leaf.thenN ?_
 refine CWalk.block ?_
 obtain ⟨b5, hb5, hm⟩ := bind_some hm
 refine CWalk.loop (fun s : Int × Int => [.fact 1 (.isv 10), .fact 3 (.rep [] s.1), .fact 4 (.rep [] s.2), .fact 100011 (.at 11 (.rep [0] a0.Blocks)), .fact 100012 (.at 12 (.rep [0] a0.Wait)), .fact 100013 (.at 13 (.rep [] a0.Dead)), .fact 100010 (.obj 10 [(false, 1), (false, 1), (false, 1)])]) (fun b : Int => (Exit.exit 0, [.fact 1 (.isv 10), .fact 3 (.rep [] (b : Int)), .fact 100011 (.at 11 (.rep [0] a0.Blocks)), .fact 100012 (.at 12 (.rep [0] a0.Wait)), .fact 100013 (.at 13 (.rep [] a0.Dead)), .fact 100010 (.obj 10 [(false, 1), (false, 1), (false, 1)])])) hb5 (sn (st (st (sm (sm (sf (sn Sub.nil))))))) ?_ ?_
 ·rintro ⟨s1, s2⟩ c3 hm
  replace hm : ref04_Great_L1 a0 s1 s2 = some c3 := hm
  unfold ref04_Great_L1 at hm
  show CWalk _ [.fact 1 (.isv 10), .fact 3 (.rep [] (s1 : Int)), .fact 4 (.rep [] (s2 : Int)), .fact 100011 (.at 11 (.rep [0] a0.Blocks)), .fact 100012 (.at 12 (.rep [0] a0.Wait)), .fact 100013 (.at 13 (.rep [] a0.Dead)), .fact 100010 (.obj 10 [(false, 1), (false, 1), (false, 1)])] _ _
  refine CWalk.seq ?_
  refine CWalk.seq ?_
  refine CWalk.region ?_
  refine mv ?_
  refine wo (Spec.fieldAddrO fd66_0 (Has.cv (Has.s rfl) (Cv.isvP rfl))) ?_
  refine wo (Spec.loadF (i := 0) ty25 rfl (Has.s rfl) rfl (HasG.s rfl)) ?_
  refine wo (Spec.len (Has.s rfl) Try.underlying25) ?_
  refine wo (Spec.lssI (Has.s rfl) (Has.s rfl)) ?_
  refine mv ?_
  refine wg rfl rfl (fun hb => Spec.move (Has.s rfl)) ?_
  refine wg rfl rfl (fun hb => Spec.lssI (Has.u rfl hb) Has.int) ?_
  refine wo (Spec.and (Has.s rfl) (fun h => Has.u rfl h)) ?_
  refine Walk.nil ?_
  refine Leaf.thenN ?_
  refine CWalk.cond rfl (fun hb => ?_) (fun hb => ?_)
  ·have hm := cond_t hb hm
   refine CWalk.skip ?_
   refine Leaf.thenN ?_
   refine CWalk.seq ?_
   refine CWalk.block ?_
   refine CWalk.region ?_
   refine mv ?_
   refine wo (Spec.fieldAddrO fd66_0 (Has.cv (Has.s rfl) (Cv.isvP rfl))) ?_
   refine wo (Spec.loadF (i := 0) ty25 rfl (Has.s rfl) rfl (HasG.s rfl)) ?_
   refine mv ?_
   obtain ⟨x4, hx4, hm⟩ := bind_some hm
   refine wo (Spec.indexAddr hx4 sl25 (Has.s rfl) (Has.s rfl)) ?_
   refine wo (Spec.load ty35 (Has.s rfl)) ?_
   refine wo (Spec.len (Has.s rfl) Try.underlying35) ?_
   refine wo (Spec.minI (Has.s rfl) Has.int) ?_
   refine wo (Spec.addI Has.int (Has.s rfl)) ?_
   refine wo (Spec.addI (Has.s rfl) (Has.s rfl)) ?_
   refine wo (Spec.assign (Has.s rfl)) ?_
   refine Walk.nil ?_
   refine Leaf.blockN ?_
   refine Leaf.thenN ?_
   refine CWalk.region ?_
   refine mv ?_
   refine wo (Spec.addI (Has.s rfl) Has.int) ?_
   refine wo (Spec.assign (Has.s rfl)) ?_
   refine Walk.nil ?_
   exact Leaf.next hm (sn (st (st (sm (sm (sf (sn Sub.nil)))))))
  ·have hm := cond_f hb hm
   refine CWalk.exit ?_
   refine Leaf.thenE ?_
   exact Leaf.brk hm (fun h => nomatch h) rfl (sn (st (sm (sm (sf (sn Sub.nil))))))
 ·intro _
  refine Leaf.blockE ?_
  refine Leaf.thenN ?_
  refine CWalk.seq ?_
  refine CWalk.seq ?_
  refine CWalk.region ?_
  refine wo (Spec.assign Has.int) ?_
  refine Walk.nil ?_
  refine Leaf.thenN ?_
  refine CWalk.block ?_
  obtain ⟨b10, hb10, hm⟩ := bind_some hm
  refine CWalk.loop (fun s : Int × Int => [.fact 1 (.isv 10), .fact 3 (.rep [] s.1), .fact 5 (.rep [] s.2), .fact 100011 (.at 11 (.rep [0] a0.Blocks)), .fact 100012 (.at 12 (.rep [0] a0.Wait)), .fact 100013 (.at 13 (.rep [] a0.Dead)), .fact 100010 (.obj 10 [(false, 1), (false, 1), (false, 1)])]) (fun b : Int => (Exit.exit 2, [.fact 1 (.isv 10), .fact 3 (.rep [] (b : Int)), .fact 100011 (.at 11 (.rep [0] a0.Blocks)), .fact 100012 (.at 12 (.rep [0] a0.Wait)), .fact 100013 (.at 13 (.rep [] a0.Dead)), .fact 100010 (.obj 10 [(false, 1), (false, 1), (false, 1)])])) hb10 (sn (st (st (sm (sm (sf (sn Sub.nil))))))) ?_ ?_
  ·rintro ⟨s6, s7⟩ c8 hm
   replace hm : ref04_Great_L2 a0 s6 s7 = some c8 := hm
   unfold ref04_Great_L2 at hm
   show CWalk _ [.fact 1 (.isv 10), .fact 3 (.rep [] (s6 : Int)), .fact 5 (.rep [] (s7 : Int)), .fact 100011 (.at 11 (.rep [0] a0.Blocks)), .fact 100012 (.at 12 (.rep [0] a0.Wait)), .fact 100013 (.at 13 (.rep [] a0.Dead)), .fact 100010 (.obj 10 [(false, 1), (false, 1), (false, 1)])] _ _
   refine CWalk.seq ?_
   refine CWalk.seq ?_
   refine CWalk.region ?_
   refine mv ?_
   refine wo (Spec.fieldAddrO fd66_1 (Has.cv (Has.s rfl) (Cv.isvP rfl))) ?_
   refine wo (Spec.loadF (i := 1) ty64 rfl (Has.s rfl) rfl (HasG.s rfl)) ?_
   refine wo (Spec.len (Has.s rfl) Try.underlying64) ?_
   refine wo (Spec.lssI (Has.s rfl) (Has.s rfl)) ?_
   refine mv ?_
   refine wg rfl rfl (fun hb => Spec.move (Has.s rfl)) ?_
   refine wg rfl rfl (fun hb => Spec.lssI (Has.u rfl hb) Has.int) ?_
   refine wo (Spec.and (Has.s rfl) (fun h => Has.u rfl h)) ?_
   refine Walk.nil ?_
   refine Leaf.thenN ?_
   refine CWalk.cond rfl (fun hb => ?_) (fun hb => ?_)
   ·have hm := cond_t hb hm
    refine CWalk.skip ?_
    refine Leaf.thenN ?_
    refine CWalk.seq ?_
    refine CWalk.block ?_
    refine CWalk.region ?_
    refine mv ?_
    refine wo (Spec.fieldAddrO fd66_1 (Has.cv (Has.s rfl) (Cv.isvP rfl))) ?_
    refine wo (Spec.loadF (i := 1) ty64 rfl (Has.s rfl) rfl (HasG.s rfl)) ?_
    refine mv ?_
    obtain ⟨x9, hx9, hm⟩ := bind_some hm
    refine wo (Spec.indexAddr hx9 sl64 (Has.s rfl) (Has.s rfl)) ?_
    refine wo (Spec.fieldAddrP fd86_1 (chWrite x9) rfl (Has.s rfl)) ?_
    refine wo (Spec.load ty35 (Has.s rfl)) ?_
    refine wo (Spec.len (Has.s rfl) Try.underlying35) ?_
    refine wo (Spec.minI (Has.s rfl) Has.int) ?_
    refine wo (Spec.addI Has.int (Has.s rfl)) ?_
    refine wo (Spec.addI (Has.s rfl) (Has.s rfl)) ?_
    refine wo (Spec.assign (Has.s rfl)) ?_
    refine Walk.nil ?_
    refine Leaf.blockN ?_
    refine Leaf.thenN ?_
    refine CWalk.region ?_
    refine mv ?_
    refine wo (Spec.addI (Has.s rfl) Has.int) ?_
    refine wo (Spec.assign (Has.s rfl)) ?_
    refine Walk.nil ?_
    exact Leaf.next hm (sn (st (st (sm (sm (sf (sn Sub.nil)))))))
   ·have hm := cond_f hb hm
    refine CWalk.exit ?_
    refine Leaf.thenE ?_
    exact Leaf.brk hm (fun h => nomatch h) rfl (sn (st (sm (sm (sf (sn Sub.nil))))))
  ·intro _
   refine Leaf.blockE ?_
   refine Leaf.thenN ?_
   refine CWalk.seq ?_
   refine CWalk.region ?_
   refine wo (Spec.fieldAddrO fd66_0 (Has.cv (Has.s rfl) (Cv.isvP rfl))) ?_
   refine wo (Spec.loadF (i := 0) ty25 rfl (Has.s rfl) rfl (HasG.s rfl)) ?_
   refine wo (Spec.len (Has.s rfl) Try.underlying25) ?_
   refine wo (Spec.gtrI (Has.s rfl) Has.int) ?_
   refine mv ?_
   refine wg rfl rfl (fun hb => Spec.fieldAddrO fd66_1 (Has.cv (Has.s rfl) (Cv.isvP rfl))) ?_
   refine wg rfl rfl (fun hb => Spec.loadF (i := 1) ty64 rfl (Has.u rfl hb) rfl (HasG.s rfl)) ?_
   refine wg rfl rfl (fun hb => Spec.len (Has.u rfl hb) Try.underlying64) ?_
   refine wg rfl rfl (fun hb => Spec.gtrI (Has.u rfl hb) Has.int) ?_
   refine wo (Spec.or (Has.s rfl) (fun h => Has.u rfl h)) ?_
   refine mv ?_
   refine wg rfl rfl (fun hb => Spec.move (Has.s rfl)) ?_
   refine wg rfl rfl (fun hb => Spec.gtrI (Has.u rfl hb) Has.int) ?_
   refine wo (Spec.or (Has.s rfl) (fun h => Has.u rfl h)) ?_
   refine wo (Spec.assign (Has.s rfl)) ?_
   refine Walk.nil ?_
   refine Leaf.thenN ?_
   refine CWalk.ret ?_
   obtain rfl := Option.some.inj hm
   exact Leaf.retC1 rfl (HasR.cv (HasR.tmp (Has.s rfl)) Cv.fl)

def ref05_Great_L2 (a0 : List Disk) (s2 : Int) (s6 : Int) (s7 : Int) : Option (Ctl (Int × Int) (Int)) :=
  Option.bind (idx a0 s2) (fun x9 => (bif (decide (s7 < ((x9.Blocks).length : Int))) then Option.bind (idx a0 s2) (fun x10 => Option.bind (idx x10.Blocks s7) (fun x11 => some (Ctl.next ((wI (s6 + (wI ((8 : Int) + ((x11).length : Int))))), (wI (s7 + (1 : Int))))))) else some (Ctl.brk s6)))
def ref05_Great_L3 (a0 : List Disk) (s2 : Int) (s13 : Int) (s14 : Int) : Option (Ctl (Int × Int) (Int)) :=
  Option.bind (idx a0 s2) (fun x16 => (bif (decide (s14 < ((x16.Wait).length : Int))) then Option.bind (idx a0 s2) (fun x17 => Option.bind (idx x17.Wait s14) (fun x18 => some (Ctl.next ((wI (s13 + (wI ((8 : Int) + ((x18.Data).length : Int))))), (wI (s14 + (1 : Int))))))) else some (Ctl.brk s13)))
def ref05_Great_L1 (a0 : List Disk) (s1 : Int) (s2 : Int) : Option (Ctl (Int × Int) ((Unit) ⊕ (Unit))) :=
  (bif ((decide (s2 < ((a0).length : Int))) && (decide (s2 < (30 : Int)))) then Option.bind (idx a0 s2) (fun x4 => Option.bind (ref04_Great x4) (fun x5 => (bif x5 then some (Ctl.brk (Sum.inr ())) else Option.bind (loopM (fun s : Int × Int => ref05_Great_L2 a0 s2 s.1 s.2) FUEL (s1, (0 : Int))) (fun b12 => Option.bind (loopM (fun s : Int × Int => ref05_Great_L3 a0 s2 s.1 s.2) FUEL (b12, (0 : Int))) (fun b19 => (bif (decide (b19 > (60000 : Int))) then some (Ctl.brk (Sum.inr ())) else some (Ctl.next (b19, (wI (s2 + (1 : Int))))))))))) else some (Ctl.brk (Sum.inl ())))
/-- freeboard/freeboardref05.Great -/
def ref05_Great (a0 : List Disk) : Option (Bool) :=
  Option.bind (loopM (fun s : Int × Int => ref05_Great_L1 a0 s.1 s.2) FUEL ((0 : Int), (0 : Int))) (fun b20 => Sum.elim (fun b21 => some (decide (((a0).length : Int) > (30 : Int)))) (fun b22 => some true) b20)
set_option maxRecDepth 100000 in
set_option maxHeartbeats 2000000 in
theorem ref05_Great_c (a0 : List Disk) {r : Bool} (hm : ref05_Great a0 = some r) : Ctr Try.prog 19 [.rep 0 a0] (.fl r) [] := by
 refine ctr_of_walk [[]] 72 Try.func19 rfl rfl rfl rfl (fun w0 om => ?_)
 unfold ref05_Great at hm
 refine CWalk.sub (G' := [.fact 0 (.rep [0] (a0 : List Disk))]) (sn Sub.nil) ?_
 refine CWalk.seq ?_
 refine CWalk.region ?_
 refine wo (Spec.assign Has.bool) ?_
 refine Walk.nil ?_
 refine Leaf.thenN ?_
 refine CWalk.seq ?_
 refine CWalk.region ?_
 refine wo (Spec.assign Has.int) ?_
 refine Walk.nil ?_
 refine Leaf.thenN ?_
 refine CWalk.seq ?_
 refine CWalk.seq ?_
 refine CWalk.region ?_
 refine wo (Spec.assign Has.int) ?_
 refine Walk.nil ?_
 refine Leaf.thenN ?_
 refine CWalk.block ?_
 obtain ⟨b20, hb20, hm⟩ := bind_some hm
 refine CWalk.loop (fun s : Int × Int => [.fact 0 (.rep [0] (a0 : List Disk)), .fact 3 (.rep [] s.1), .fact 4 (.rep [] s.2)]) (fun b : (Unit) ⊕ (Unit) => Sum.elim (fun b => (Exit.exit 0, [.fact 0 (.rep [0] (a0 : List Disk))])) (fun b => (Exit.ret, [.fact 2 (.rep [] (true : Bool))])) b) hb20 (su (st (st Sub.nil))) ?_ ?_
 ·rintro ⟨s1, s2⟩ c3 hm
  replace hm : ref05_Great_L1 a0 s1 s2 = some c3 := hm
  unfold ref05_Great_L1 at hm
  show CWalk _ [.fact 0 (.rep [0] (a0 : List Disk)), .fact 3 (.rep [] (s1 : Int)), .fact 4 (.rep [] (s2 : Int))] _ _
  refine CWalk.seq ?_
  refine CWalk.seq ?_
  refine CWalk.region ?_
  refine mv ?_
  refine mv ?_
  refine wo (Spec.len (Has.s rfl) Try.underlying53) ?_
  refine wo (Spec.lssI (Has.s rfl) (Has.s rfl)) ?_
  refine mv ?_
  refine wg rfl rfl (fun hb => Spec.move (Has.s rfl)) ?_
  refine wg rfl rfl (fun hb => Spec.lssI (Has.u rfl hb) Has.int) ?_
  refine wo (Spec.and (Has.s rfl) (fun h => Has.u rfl h)) ?_
  refine Walk.nil ?_
  refine Leaf.thenN ?_
  refine CWalk.cond rfl (fun hb => ?_) (fun hb => ?_)
  ·have hm := cond_t hb hm
   refine CWalk.skip ?_
   refine Leaf.thenN ?_
   refine CWalk.seq ?_
   refine CWalk.block ?_
   refine CWalk.seq ?_
   refine CWalk.seq ?_
   refine CWalk.region ?_
   refine mv ?_
   refine mv ?_
   obtain ⟨x4, hx4, hm⟩ := bind_some hm
   refine wo (Spec.indexAddr hx4 sl53 (Has.s rfl) (Has.s rfl)) ?_
   refine wo (Spec.load ty66 (Has.s rfl)) ?_
   obtain ⟨x5, hx5, hm⟩ := bind_some hm
   refine wo (f := Fact.rep [] (x5 : Bool)) (Spec.callE [0] 10 rfl en39 (ref04_Great_c x4 hx5) (HasAll.cons (Has.m (Has.s rfl) rfl) HasAll.nil)) ?_
   refine Walk.nil ?_
   refine Leaf.thenN ?_
   refine CWalk.cond rfl (fun hb => ?_) (fun hb => ?_)
   ·have hm := cond_t hb hm
    refine CWalk.seq ?_
    refine CWalk.region ?_
    refine wo (Spec.assign Has.bool) ?_
    refine Walk.nil ?_
    refine Leaf.thenN ?_
    refine CWalk.ret ?_
    refine Leaf.thenR ?_
    refine Leaf.blockR ?_
    refine Leaf.thenR ?_
    exact Leaf.brk hm (fun h => nomatch h) rfl (st Sub.nil)
   ·have hm := cond_f hb hm
    refine CWalk.skip ?_
    refine Leaf.thenN ?_
    refine CWalk.seq ?_
    refine CWalk.seq ?_
    refine CWalk.region ?_
    refine wo (Spec.assign Has.int) ?_
    refine Walk.nil ?_
    refine Leaf.thenN ?_
    refine CWalk.block ?_
    obtain ⟨b12, hb12, hm⟩ := bind_some hm
    refine CWalk.loop (fun s : Int × Int => [.fact 0 (.rep [0] (a0 : List Disk)), .fact 3 (.rep [] s.1), .fact 4 (.rep [] (s2 : Int)), .fact 5 (.rep [] s.2)]) (fun b : Int => (Exit.exit 2, [.fact 0 (.rep [0] (a0 : List Disk)), .fact 3 (.rep [] (b : Int)), .fact 4 (.rep [] (s2 : Int))])) hb12 (su (st (st (st Sub.nil)))) ?_ ?_
    ·rintro ⟨s6, s7⟩ c8 hm
     replace hm : ref05_Great_L2 a0 s2 s6 s7 = some c8 := hm
     unfold ref05_Great_L2 at hm
     show CWalk _ [.fact 0 (.rep [0] (a0 : List Disk)), .fact 3 (.rep [] (s6 : Int)), .fact 4 (.rep [] (s2 : Int)), .fact 5 (.rep [] (s7 : Int))] _ _
     refine CWalk.seq ?_
     refine CWalk.seq ?_
     refine CWalk.region ?_
     refine mv ?_
     refine mv ?_
     refine mv ?_
     obtain ⟨x9, hx9, hm⟩ := bind_some hm
     refine wo (Spec.indexAddr hx9 sl53 (Has.s rfl) (Has.s rfl)) ?_
     refine wo (Spec.fieldAddrP fd66_0 (chDisk x9) rfl (Has.s rfl)) ?_
     refine wo (Spec.load ty25 (Has.s rfl)) ?_
     refine wo (Spec.len (Has.s rfl) Try.underlying25) ?_
     refine wo (Spec.lssI (Has.s rfl) (Has.s rfl)) ?_
     refine Walk.nil ?_
     refine Leaf.thenN ?_
     refine CWalk.cond rfl (fun hb => ?_) (fun hb => ?_)
     ·have hm := cond_t hb hm
      refine CWalk.skip ?_
      refine Leaf.thenN ?_
      refine CWalk.seq ?_
      refine CWalk.block ?_
      refine CWalk.region ?_
      refine mv ?_
      refine mv ?_
      refine mv ?_
      obtain ⟨x10, hx10, hm⟩ := bind_some hm
      refine wo (Spec.indexAddr hx10 sl53 (Has.s rfl) (Has.s rfl)) ?_
      refine wo (Spec.fieldAddrP fd66_0 (chDisk x10) rfl (Has.s rfl)) ?_
      refine wo (Spec.load ty25 (Has.s rfl)) ?_
      refine mv ?_
      obtain ⟨x11, hx11, hm⟩ := bind_some hm
      refine wo (Spec.indexAddr hx11 sl25 (Has.s rfl) (Has.s rfl)) ?_
      refine wo (Spec.load ty35 (Has.s rfl)) ?_
      refine wo (Spec.len (Has.s rfl) Try.underlying35) ?_
      refine wo (Spec.addI Has.int (Has.s rfl)) ?_
      refine wo (Spec.addI (Has.s rfl) (Has.s rfl)) ?_
      refine wo (Spec.assign (Has.s rfl)) ?_
      refine Walk.nil ?_
      refine Leaf.blockN ?_
      refine Leaf.thenN ?_
      refine CWalk.region ?_
      refine mv ?_
      refine wo (Spec.addI (Has.s rfl) Has.int) ?_
      refine wo (Spec.assign (Has.s rfl)) ?_
      refine Walk.nil ?_
      exact Leaf.next hm (su (st (st (st Sub.nil))))
     ·have hm := cond_f hb hm
      refine CWalk.exit ?_
      refine Leaf.thenE ?_
      exact Leaf.brk hm (fun h => nomatch h) rfl (su (st (st Sub.nil)))
    ·intro _
     refine Leaf.blockE ?_
     refine Leaf.thenN ?_
     refine CWalk.seq ?_
     refine CWalk.seq ?_
     refine CWalk.region ?_
     refine wo (Spec.assign Has.int) ?_
     refine Walk.nil ?_
     refine Leaf.thenN ?_
     refine CWalk.block ?_
     obtain ⟨b19, hb19, hm⟩ := bind_some hm
     refine CWalk.loop (fun s : Int × Int => [.fact 0 (.rep [0] (a0 : List Disk)), .fact 3 (.rep [] s.1), .fact 4 (.rep [] (s2 : Int)), .fact 6 (.rep [] s.2)]) (fun b : Int => (Exit.exit 4, [.fact 0 (.rep [0] (a0 : List Disk)), .fact 3 (.rep [] (b : Int)), .fact 4 (.rep [] (s2 : Int))])) hb19 (su (st (st (st Sub.nil)))) ?_ ?_
     ·rintro ⟨s13, s14⟩ c15 hm
      replace hm : ref05_Great_L3 a0 s2 s13 s14 = some c15 := hm
      unfold ref05_Great_L3 at hm
      show CWalk _ [.fact 0 (.rep [0] (a0 : List Disk)), .fact 3 (.rep [] (s13 : Int)), .fact 4 (.rep [] (s2 : Int)), .fact 6 (.rep [] (s14 : Int))] _ _
      refine CWalk.seq ?_
      refine CWalk.seq ?_
      refine CWalk.region ?_
      refine mv ?_
      refine mv ?_
      refine mv ?_
      obtain ⟨x16, hx16, hm⟩ := bind_some hm
      refine wo (Spec.indexAddr hx16 sl53 (Has.s rfl) (Has.s rfl)) ?_
      refine wo (Spec.fieldAddrP fd66_1 (chDisk x16) rfl (Has.s rfl)) ?_
      refine wo (Spec.load ty64 (Has.s rfl)) ?_
      refine wo (Spec.len (Has.s rfl) Try.underlying64) ?_
      refine wo (Spec.lssI (Has.s rfl) (Has.s rfl)) ?_
      refine Walk.nil ?_
      refine Leaf.thenN ?_
      refine CWalk.cond rfl (fun hb => ?_) (fun hb => ?_)
      ·have hm := cond_t hb hm
       refine CWalk.skip ?_
       refine Leaf.thenN ?_
       refine CWalk.seq ?_
       refine CWalk.block ?_
       refine CWalk.region ?_
       refine mv ?_
       refine mv ?_
       refine mv ?_
       obtain ⟨x17, hx17, hm⟩ := bind_some hm
       refine wo (Spec.indexAddr hx17 sl53 (Has.s rfl) (Has.s rfl)) ?_
       refine wo (Spec.fieldAddrP fd66_1 (chDisk x17) rfl (Has.s rfl)) ?_
       refine wo (Spec.load ty64 (Has.s rfl)) ?_
       refine mv ?_
       obtain ⟨x18, hx18, hm⟩ := bind_some hm
       refine wo (Spec.indexAddr hx18 sl64 (Has.s rfl) (Has.s rfl)) ?_
       refine wo (Spec.fieldAddrP fd86_1 (chWrite x18) rfl (Has.s rfl)) ?_
       refine wo (Spec.load ty35 (Has.s rfl)) ?_
       refine wo (Spec.len (Has.s rfl) Try.underlying35) ?_
       refine wo (Spec.addI Has.int (Has.s rfl)) ?_
       refine wo (Spec.addI (Has.s rfl) (Has.s rfl)) ?_
       refine wo (Spec.assign (Has.s rfl)) ?_
       refine Walk.nil ?_
       refine Leaf.blockN ?_
       refine Leaf.thenN ?_
       refine CWalk.region ?_
       refine mv ?_
       refine wo (Spec.addI (Has.s rfl) Has.int) ?_
       refine wo (Spec.assign (Has.s rfl)) ?_
       refine Walk.nil ?_
       exact Leaf.next hm (su (st (st (st Sub.nil))))
      ·have hm := cond_f hb hm
       refine CWalk.exit ?_
       refine Leaf.thenE ?_
       exact Leaf.brk hm (fun h => nomatch h) rfl (su (st (st Sub.nil)))
     ·intro _
      refine Leaf.blockE ?_
      refine Leaf.thenN ?_
      refine CWalk.seq ?_
      refine CWalk.region ?_
      refine mv ?_
      refine wo (Spec.gtrI (Has.s rfl) Has.int) ?_
      refine Walk.nil ?_
      refine Leaf.thenN ?_
      refine CWalk.cond rfl (fun hb => ?_) (fun hb => ?_)
      ·have hm := cond_t hb hm
       refine CWalk.seq ?_
       refine CWalk.region ?_
       refine wo (Spec.assign Has.bool) ?_
       refine Walk.nil ?_
       refine Leaf.thenN ?_
       refine CWalk.ret ?_
       refine Leaf.blockR ?_
       refine Leaf.thenR ?_
       exact Leaf.brk hm (fun h => nomatch h) rfl (st Sub.nil)
      ·have hm := cond_f hb hm
       refine CWalk.skip ?_
       refine Leaf.blockN ?_
       refine Leaf.thenN ?_
       refine CWalk.region ?_
       refine mv ?_
       refine wo (Spec.addI (Has.s rfl) Has.int) ?_
       refine wo (Spec.assign (Has.s rfl)) ?_
       refine Walk.nil ?_
       exact Leaf.next hm (su (st (st Sub.nil)))
  ·have hm := cond_f hb hm
   refine CWalk.exit ?_
   refine Leaf.thenE ?_
   exact Leaf.brk hm (fun h => nomatch h) rfl (su Sub.nil)
 ·intro _
  rcases b20 with b21 | b22
  ·have hm := selim_l hm
   refine Leaf.blockE ?_
   refine Leaf.thenN ?_
   refine CWalk.seq ?_
   refine CWalk.region ?_
   refine mv ?_
   refine wo (Spec.len (Has.s rfl) Try.underlying53) ?_
   refine wo (Spec.gtrI (Has.s rfl) Has.int) ?_
   refine wo (Spec.assign (Has.s rfl)) ?_
   refine Walk.nil ?_
   refine Leaf.thenN ?_
   refine CWalk.ret ?_
   obtain rfl := Option.some.inj hm
   exact Leaf.retC1 rfl (HasR.cv (HasR.tmp (Has.s rfl)) Cv.fl)
  ·have hm := selim_r hm
   refine Leaf.blockR ?_
   refine Leaf.thenR ?_
   obtain rfl := Option.some.inj hm
   exact Leaf.retC1 rfl (HasR.cv (HasR.tmp (Has.s rfl)) Cv.fl)

def ref13_Great_L1 (a0 : Deal) (s1 : Int) : Option (Ctl (Int) ((Unit) ⊕ (Unit))) :=
  (bif (decide (s1 < ((a0.Blocks).length : Int))) then Option.bind (idx a0.Blocks s1) (fun x3 => (bif (decide (((x3).length : Int) > (1000 : Int))) then some (Ctl.brk (Sum.inr ())) else some (Ctl.next (wI (s1 + (1 : Int)))))) else some (Ctl.brk (Sum.inl ())))
/-- freeboard/freeboardref13.Great -/
def ref13_Great (a0 : Deal) : Option (Bool) :=
  (bif (((decide (((a0.Slots).length : Int) > (100 : Int))) || (decide (((a0.Blocks).length : Int) > (100 : Int)))) || (decide (((a0.Parity).length : Int) > (1000 : Int)))) then some true else Option.bind (loopM (fun s : Int => ref13_Great_L1 a0 s) FUEL (0 : Int)) (fun b4 => Sum.elim (fun b5 => some false) (fun b6 => some true) b4))
set_option maxRecDepth 100000 in
set_option maxHeartbeats 2000000 in
theorem ref13_Great_c (a0 : Deal) {r : Bool} (hm : ref13_Great a0 = some r) : Ctr Try.prog 20 [.rep 0 a0] (.fl r) [] := by
 refine ctr_of_walk [[]] 34 Try.func20 rfl rfl rfl rfl (fun w0 om => ?_)
 unfold ref13_Great at hm
 refine CWalk.sub (G' := [.fact 0 (.rep [0] (a0 : Deal))]) (sn Sub.nil) ?_
 refine CWalk.seq ?_
 refine CWalk.region ?_
 refine ws (Step.boxObj (ls := [(false, 1, Fact.rep [] a0.Stripe), (false, 1, Fact.rep [0] a0.Slots), (false, 1, Fact.rep [0] a0.Blocks), (false, 1, Fact.rep [0] a0.Parity)]) 10 rfl rfl rfl rfl (HasL.flds (Has.cv (Has.s rfl) (Cv.trans (Cv.opens (chDeal a0)) (Cv.flds (CvL.cons Cv.fl (CvL.cons Cv.refl (CvL.cons Cv.refl (CvL.cons Cv.refl CvL.nil))))))))) ?_
 refine wo (Spec.assign Has.bool) ?_
 refine Walk.nil ?_
 refine Leaf.thenN ?_
 refine CWalk.seq ?_
 refine CWalk.seq ?_
 refine CWalk.region ?_
 refine wo (Spec.fieldAddrO fd43_1 (Has.cv (Has.s rfl) (Cv.isvP rfl))) ?_
 refine wo (Spec.loadF (i := 1) ty41 rfl (Has.s rfl) rfl (HasG.s rfl)) ?_
 refine wo (Spec.len (Has.s rfl) Try.underlying41) ?_
 refine wo (Spec.gtrI (Has.s rfl) Has.int) ?_
 refine mv ?_
 refine wg rfl rfl (fun hb => Spec.fieldAddrO fd43_2 (Has.cv (Has.s rfl) (Cv.isvP rfl))) ?_
 refine wg rfl rfl (fun hb => Spec.loadF (i := 2) ty25 rfl (Has.u rfl hb) rfl (HasG.s rfl)) ?_
 refine wg rfl rfl (fun hb => Spec.len (Has.u rfl hb) Try.underlying25) ?_
 refine wg rfl rfl (fun hb => Spec.gtrI (Has.u rfl hb) Has.int) ?_
 refine wo (Spec.or (Has.s rfl) (fun h => Has.u rfl h)) ?_
 refine mv ?_
 refine wg rfl rfl (fun hb => Spec.fieldAddrO fd43_3 (Has.cv (Has.s rfl) (Cv.isvP rfl))) ?_
 refine wg rfl rfl (fun hb => Spec.loadF (i := 3) ty35 rfl (Has.u rfl hb) rfl (HasG.s rfl)) ?_
 refine wg rfl rfl (fun hb => Spec.len (Has.u rfl hb) Try.underlying35) ?_
 refine wg rfl rfl (fun hb => Spec.gtrI (Has.u rfl hb) Has.int) ?_
 refine wo (Spec.or (Has.s rfl) (fun h => Has.u rfl h)) ?_
 refine Walk.nil ?_
 refine Leaf.thenN ?_
 refine CWalk.cond rfl (fun hb => ?_) (fun hb => ?_)
 ·have hm := cond_t hb hm
  refine CWalk.seq ?_
  refine CWalk.region ?_
  refine wo (Spec.assign Has.bool) ?_
  refine Walk.nil ?_
  refine Leaf.thenN ?_
  refine CWalk.ret ?_
  refine Leaf.thenR ?_
  obtain rfl := Option.some.inj hm
  exact Leaf.retC1 rfl (HasR.cv (HasR.tmp (Has.s rfl)) Cv.fl)
 ·have hm := cond_f hb hm
  refine CWalk.skip ?_
  refine Leaf.thenN ?_
  refine CWalk.seq ?_
  refine CWalk.seq ?_
  refine CWalk.region ?_
  refine wo (Spec.assign Has.int) ?_
  refine Walk.nil ?_
  refine Leaf.thenN ?_
  refine CWalk.block ?_
  obtain ⟨b4, hb4, hm⟩ := bind_some hm
  refine CWalk.loop (fun s : Int => [.fact 1 (.isv 10), .fact 3 (.rep [] (s : Int)), .fact 100011 (.at 11 (.rep [] a0.Stripe)), .fact 100012 (.at 12 (.rep [0] a0.Slots)), .fact 100013 (.at 13 (.rep [0] a0.Blocks)), .fact 100014 (.at 14 (.rep [0] a0.Parity)), .fact 100010 (.obj 10 [(false, 1), (false, 1), (false, 1), (false, 1)])]) (fun b : (Unit) ⊕ (Unit) => Sum.elim (fun b => (Exit.exit 0, [])) (fun b => (Exit.ret, [.fact 2 (.rep [] (true : Bool))])) b) hb4 (sn (st (sf (sm (sm (sm (sn Sub.nil))))))) ?_ ?_
  ·rintro s1 c2 hm
   replace hm : ref13_Great_L1 a0 s1 = some c2 := hm
   unfold ref13_Great_L1 at hm
   show CWalk _ [.fact 1 (.isv 10), .fact 3 (.rep [] (s1 : Int)), .fact 100011 (.at 11 (.rep [] a0.Stripe)), .fact 100012 (.at 12 (.rep [0] a0.Slots)), .fact 100013 (.at 13 (.rep [0] a0.Blocks)), .fact 100014 (.at 14 (.rep [0] a0.Parity)), .fact 100010 (.obj 10 [(false, 1), (false, 1), (false, 1), (false, 1)])] _ _
   refine CWalk.seq ?_
   refine CWalk.seq ?_
   refine CWalk.region ?_
   refine mv ?_
   refine wo (Spec.fieldAddrO fd43_2 (Has.cv (Has.s rfl) (Cv.isvP rfl))) ?_
   refine wo (Spec.loadF (i := 2) ty25 rfl (Has.s rfl) rfl (HasG.s rfl)) ?_
   refine wo (Spec.len (Has.s rfl) Try.underlying25) ?_
   refine wo (Spec.lssI (Has.s rfl) (Has.s rfl)) ?_
   refine Walk.nil ?_
   refine Leaf.thenN ?_
   refine CWalk.cond rfl (fun hb => ?_) (fun hb => ?_)
   ·have hm := cond_t hb hm
    refine CWalk.skip ?_
    refine Leaf.thenN ?_
    refine CWalk.seq ?_
    refine CWalk.block ?_
    refine CWalk.seq ?_
    refine CWalk.region ?_
    refine wo (Spec.fieldAddrO fd43_2 (Has.cv (Has.s rfl) (Cv.isvP rfl))) ?_
    refine wo (Spec.loadF (i := 2) ty25 rfl (Has.s rfl) rfl (HasG.s rfl)) ?_
    refine mv ?_
    obtain ⟨x3, hx3, hm⟩ := bind_some hm
    refine wo (Spec.indexAddr hx3 sl25 (Has.s rfl) (Has.s rfl)) ?_
    refine wo (Spec.load ty35 (Has.s rfl)) ?_
    refine wo (Spec.len (Has.s rfl) Try.underlying35) ?_
    refine wo (Spec.gtrI (Has.s rfl) Has.int) ?_
    refine Walk.nil ?_
    refine Leaf.thenN ?_
    refine CWalk.cond rfl (fun hb => ?_) (fun hb => ?_)
    ·have hm := cond_t hb hm
     refine CWalk.seq ?_
     refine CWalk.region ?_
     refine wo (Spec.assign Has.bool) ?_
     refine Walk.nil ?_
     refine Leaf.thenN ?_
     refine CWalk.ret ?_
     refine Leaf.blockR ?_
     refine Leaf.thenR ?_
     exact Leaf.brk hm (fun h => nomatch h) rfl (st Sub.nil)
    ·have hm := cond_f hb hm
     refine CWalk.skip ?_
     refine Leaf.blockN ?_
     refine Leaf.thenN ?_
     refine CWalk.region ?_
     refine mv ?_
     refine wo (Spec.addI (Has.s rfl) Has.int) ?_
     refine wo (Spec.assign (Has.s rfl)) ?_
     refine Walk.nil ?_
     exact Leaf.next hm (sn (st (sf (sm (sm (sm (sn Sub.nil)))))))
   ·have hm := cond_f hb hm
    refine CWalk.exit ?_
    refine Leaf.thenE ?_
    exact Leaf.brk hm (fun h => nomatch h) rfl (Sub.nil)
  ·intro _
   rcases b4 with b5 | b6
   ·have hm := selim_l hm
    refine Leaf.blockE ?_
    refine Leaf.thenN ?_
    refine CWalk.seq ?_
    refine CWalk.region ?_
    refine wo (Spec.assign Has.bool) ?_
    refine Walk.nil ?_
    refine Leaf.thenN ?_
    refine CWalk.ret ?_
    obtain rfl := Option.some.inj hm
    exact Leaf.retC1 rfl (HasR.cv (HasR.tmp (Has.s rfl)) Cv.fl)
   ·have hm := selim_r hm
    refine Leaf.blockR ?_
    refine Leaf.thenR ?_
    obtain rfl := Option.some.inj hm
    exact Leaf.retC1 rfl (HasR.cv (HasR.tmp (Has.s rfl)) Cv.fl)

/-- freeboard/shape.Member -/
def shape_Member (a0 : Config) : Option (Int × Int) :=
  Option.bind (shape_told a0 (wI ((wI (a0.Chunk * a0.Rows)) + (1 : Int)))) (fun x1 => some (x1.1, x1.2))
set_option maxRecDepth 100000 in
set_option maxHeartbeats 2000000 in
theorem shape_Member_c (a0 : Config) {r : Int × Int} (hm : shape_Member a0 = some r) : Ctr Try.prog 40 [.rep 0 a0] (.tup2 (.fl r.1) (.fl r.2)) [] := by
 refine ctr_of_walk [[]] 14 Try.func40 rfl rfl rfl rfl (fun w0 om => ?_)
 unfold shape_Member at hm
 refine CWalk.sub (G' := [.fact 0 (.rep [] (a0 : Config))]) (Sub.cons (Has.fl (Has.s rfl)) Sub.nil) ?_
 refine CWalk.seq ?_
 refine CWalk.region ?_
 refine ws (Step.boxObj (ls := [(false, 1, Fact.rep [] a0.Id), (false, 1, Fact.rep [] a0.Members), (false, 1, Fact.rep [] a0.Chunk), (false, 1, Fact.rep [] a0.Rows), (false, 1, Fact.rep [] a0.Log), (false, 1, Fact.rep [] a0.Heads)]) 10 rfl rfl rfl rfl (HasL.flds (Has.cv (Has.s rfl) (Cv.trans (Cv.opens (chConfig a0)) (Cv.flds (CvL.cons Cv.fl (CvL.cons Cv.fl (CvL.cons Cv.fl (CvL.cons Cv.fl (CvL.cons Cv.fl (CvL.cons Cv.fl CvL.nil))))))))))) ?_
 refine wo (Spec.assign Has.int) ?_
 refine wo (Spec.assign Has.int) ?_
 refine Walk.nil ?_
 refine Leaf.thenN ?_
 refine CWalk.seq ?_
 refine CWalk.region ?_
 refine wo (Spec.loadObj (ls := [(false, 1, Fact.rep [] a0.Id), (false, 1, Fact.rep [] a0.Members), (false, 1, Fact.rep [] a0.Chunk), (false, 1, Fact.rep [] a0.Rows), (false, 1, Fact.rep [] a0.Log), (false, 1, Fact.rep [] a0.Heads)]) ty24 rfl rfl (Has.s rfl) rfl (HasGs.cons (HasG.s rfl) (HasGs.cons (HasG.s rfl) (HasGs.cons (HasG.s rfl) (HasGs.cons (HasG.s rfl) (HasGs.cons (HasG.s rfl) (HasGs.cons (HasG.s rfl) HasGs.nil))))))) ?_
 refine wo (Spec.fieldAddrO fd24_2 (Has.cv (Has.s rfl) (Cv.isvP rfl))) ?_
 refine wo (Spec.loadF (i := 2) ty3 rfl (Has.s rfl) rfl (HasG.s rfl)) ?_
 refine wo (Spec.fieldAddrO fd24_3 (Has.cv (Has.s rfl) (Cv.isvP rfl))) ?_
 refine wo (Spec.loadF (i := 3) ty3 rfl (Has.s rfl) rfl (HasG.s rfl)) ?_
 refine wo (Spec.mulI (Has.s rfl) (Has.s rfl)) ?_
 refine wo (Spec.addI (Has.s rfl) Has.int) ?_
 obtain ⟨x1, hx1, hm⟩ := bind_some hm
 refine wo (f := Fact.tup2 (Fact.rep [] x1.1) (Fact.rep [] x1.2)) (Spec.callE [] 17 rfl en67 (shape_told_c a0 (wI ((wI (a0.Chunk * a0.Rows)) + (1 : Int))) hx1) (HasAll.cons (Has.fl (Has.cv (Has.s rfl) (Cv.trans (Cv.flds (CvL.cons Cv.fl (CvL.cons Cv.fl (CvL.cons Cv.fl (CvL.cons Cv.fl (CvL.cons Cv.fl (CvL.cons Cv.fl CvL.nil))))))) (Cv.close (T := []) (chConfig a0))))) (HasAll.cons (Has.fl (Has.s rfl)) HasAll.nil))) ?_
 refine wo (Spec.ext0 (Has.s rfl)) ?_
 refine wo (Spec.ext1 (Has.s rfl)) ?_
 refine wo (Spec.assign (Has.s rfl)) ?_
 refine wo (Spec.assign (Has.s rfl)) ?_
 refine Walk.nil ?_
 refine Leaf.thenN ?_
 refine CWalk.ret ?_
 obtain rfl := Option.some.inj hm
 exact Leaf.retC2 rfl (HasR.cv (HasR.tmp (Has.s rfl)) Cv.fl) (HasR.cv (HasR.tmp (Has.s rfl)) Cv.fl)

/-- freeboard/shape.Journal -/
def shape_Journal (a0 : Config) : Option (Int × Int) :=
  Option.bind (shape_told a0 (wI (a0.Log + (1 : Int)))) (fun x1 => some (x1.1, x1.2))
set_option maxRecDepth 100000 in
set_option maxHeartbeats 2000000 in
theorem shape_Journal_c (a0 : Config) {r : Int × Int} (hm : shape_Journal a0 = some r) : Ctr Try.prog 41 [.rep 0 a0] (.tup2 (.fl r.1) (.fl r.2)) [] := by
 refine ctr_of_walk [[]] 11 Try.func41 rfl rfl rfl rfl (fun w0 om => ?_)
 unfold shape_Journal at hm
 refine CWalk.sub (G' := [.fact 0 (.rep [] (a0 : Config))]) (Sub.cons (Has.fl (Has.s rfl)) Sub.nil) ?_
 refine CWalk.seq ?_
 refine CWalk.region ?_
 refine ws (Step.boxObj (ls := [(false, 1, Fact.rep [] a0.Id), (false, 1, Fact.rep [] a0.Members), (false, 1, Fact.rep [] a0.Chunk), (false, 1, Fact.rep [] a0.Rows), (false, 1, Fact.rep [] a0.Log), (false, 1, Fact.rep [] a0.Heads)]) 10 rfl rfl rfl rfl (HasL.flds (Has.cv (Has.s rfl) (Cv.trans (Cv.opens (chConfig a0)) (Cv.flds (CvL.cons Cv.fl (CvL.cons Cv.fl (CvL.cons Cv.fl (CvL.cons Cv.fl (CvL.cons Cv.fl (CvL.cons Cv.fl CvL.nil))))))))))) ?_
 refine wo (Spec.assign Has.int) ?_
 refine wo (Spec.assign Has.int) ?_
 refine Walk.nil ?_
 refine Leaf.thenN ?_
 refine CWalk.seq ?_
 refine CWalk.region ?_
 refine wo (Spec.loadObj (ls := [(false, 1, Fact.rep [] a0.Id), (false, 1, Fact.rep [] a0.Members), (false, 1, Fact.rep [] a0.Chunk), (false, 1, Fact.rep [] a0.Rows), (false, 1, Fact.rep [] a0.Log), (false, 1, Fact.rep [] a0.Heads)]) ty24 rfl rfl (Has.s rfl) rfl (HasGs.cons (HasG.s rfl) (HasGs.cons (HasG.s rfl) (HasGs.cons (HasG.s rfl) (HasGs.cons (HasG.s rfl) (HasGs.cons (HasG.s rfl) (HasGs.cons (HasG.s rfl) HasGs.nil))))))) ?_
 refine wo (Spec.fieldAddrO fd24_4 (Has.cv (Has.s rfl) (Cv.isvP rfl))) ?_
 refine wo (Spec.loadF (i := 4) ty3 rfl (Has.s rfl) rfl (HasG.s rfl)) ?_
 refine wo (Spec.addI (Has.s rfl) Has.int) ?_
 obtain ⟨x1, hx1, hm⟩ := bind_some hm
 refine wo (f := Fact.tup2 (Fact.rep [] x1.1) (Fact.rep [] x1.2)) (Spec.callE [] 17 rfl en67 (shape_told_c a0 (wI (a0.Log + (1 : Int))) hx1) (HasAll.cons (Has.fl (Has.cv (Has.s rfl) (Cv.trans (Cv.flds (CvL.cons Cv.fl (CvL.cons Cv.fl (CvL.cons Cv.fl (CvL.cons Cv.fl (CvL.cons Cv.fl (CvL.cons Cv.fl CvL.nil))))))) (Cv.close (T := []) (chConfig a0))))) (HasAll.cons (Has.fl (Has.s rfl)) HasAll.nil))) ?_
 refine wo (Spec.ext0 (Has.s rfl)) ?_
 refine wo (Spec.ext1 (Has.s rfl)) ?_
 refine wo (Spec.assign (Has.s rfl)) ?_
 refine wo (Spec.assign (Has.s rfl)) ?_
 refine Walk.nil ?_
 refine Leaf.thenN ?_
 refine CWalk.ret ?_
 obtain rfl := Option.some.inj hm
 exact Leaf.retC2 rfl (HasR.cv (HasR.tmp (Has.s rfl)) Cv.fl) (HasR.cv (HasR.tmp (Has.s rfl)) Cv.fl)

/-- freeboard/disk.odd -/
def disk_odd (a0 : List UInt8) : Option (Bool) :=
  some ((((a0).length : Int) != (0 : Int)) && (((a0).length : Int) != (128 : Int)))
set_option maxRecDepth 100000 in
set_option maxHeartbeats 2000000 in
theorem disk_odd_c (a0 : List UInt8) {r : Bool} (hm : disk_odd a0 = some r) : Ctr Try.prog 69 [.rep 0 a0] (.fl r) [] := by
 refine ctr_of_walk [[]] 11 Try.func69 rfl rfl rfl rfl (fun w0 om => ?_)
 unfold disk_odd at hm
 refine CWalk.sub (G' := [.fact 0 (.rep [0] (a0 : List UInt8))]) (sn Sub.nil) ?_
 refine CWalk.seq ?_
 refine CWalk.region ?_
 refine wo (Spec.assign Has.bool) ?_
 refine Walk.nil ?_
 refine Leaf.thenN ?_
 refine CWalk.seq ?_
 refine CWalk.region ?_
 refine mv ?_
 refine wo (Spec.len (Has.s rfl) Try.underlying35) ?_
 refine wo (Spec.neqI (Has.s rfl) Has.int) ?_
 refine mv ?_
 refine wg rfl rfl (fun hb => Spec.move (Has.s rfl)) ?_
 refine wg rfl rfl (fun hb => Spec.len (Has.u rfl hb) Try.underlying35) ?_
 refine wg rfl rfl (fun hb => Spec.neqI (Has.u rfl hb) Has.int) ?_
 refine wo (Spec.and (Has.s rfl) (fun h => Has.u rfl h)) ?_
 refine wo (Spec.assign (Has.s rfl)) ?_
 refine Walk.nil ?_
 refine Leaf.thenN ?_
 refine CWalk.ret ?_
 obtain rfl := Option.some.inj hm
 exact Leaf.retC1 rfl (HasR.cv (HasR.tmp (Has.s rfl)) Cv.fl)

def slices_IndexFunc_api_Write_api_Write_L1 (a0 : List Write) (a1 : Write → Option Bool) (s1 : Int) : Option (Ctl (Int) ((Unit) ⊕ (Int))) :=
  (bif (decide (s1 < ((a0).length : Int))) then Option.bind (idx a0 s1) (fun x3 => Option.bind (a1 x3) (fun x4 => (bif x4 then some (Ctl.brk (Sum.inr s1)) else some (Ctl.next (wI (s1 + (1 : Int))))))) else some (Ctl.brk (Sum.inl ())))
/-- slices.IndexFunc[[]freeboard/api.Write,freeboard/api.Write] -/
def slices_IndexFunc_api_Write_api_Write (a0 : List Write) (a1 : Write → Option Bool) : Option (Int) :=
  Option.bind (loopM (fun s : Int => slices_IndexFunc_api_Write_api_Write_L1 a0 a1 s) FUEL (0 : Int)) (fun b5 => Sum.elim (fun b6 => some (-1 : Int)) (fun b7 => some b7) b5)
set_option maxRecDepth 100000 in
set_option maxHeartbeats 2000000 in
theorem slices_IndexFunc_api_Write_api_Write_c (a0 : List Write) (a1 : Write → Option Bool) {r : Int} (hm : slices_IndexFunc_api_Write_api_Write a0 a1 = some r) : Ctr Try.prog 84 [.rep 0 a0, .fn Try.prog pre1 0 a1] (.fl r) [] := by
 refine ctr_of_walk [[]] 19 Try.func84 rfl rfl rfl rfl (fun w0 om => ?_)
 unfold slices_IndexFunc_api_Write_api_Write at hm
 refine CWalk.sub (G' := [.fact 0 (.rep [0] (a0 : List Write)), .fact 1 (.fn Try.prog pre1 [0] (a1))]) (sn (sn Sub.nil)) ?_
 refine CWalk.seq ?_
 refine CWalk.region ?_
 refine wo (Spec.assign Has.int) ?_
 refine Walk.nil ?_
 refine Leaf.thenN ?_
 refine CWalk.seq ?_
 refine CWalk.seq ?_
 refine CWalk.region ?_
 refine mv ?_
 refine wo (Spec.len (Has.s rfl) Try.underlying64) ?_
 refine wo (Spec.move Has.int) ?_
 refine Walk.nil ?_
 refine Leaf.thenN ?_
 refine CWalk.block ?_
 obtain ⟨b5, hb5, hm⟩ := bind_some hm
 refine CWalk.loop (fun s : Int => [.fact 0 (.rep [0] (a0 : List Write)), .fact 1 (.fn Try.prog pre1 [0] (a1)), .fact 7 (.rep [] (((a0).length : Int) : Int)), .fact 8 (.rep [] (s : Int))]) (fun b : (Unit) ⊕ (Int) => Sum.elim (fun b => (Exit.exit 0, [])) (fun b => (Exit.ret, [.fact 4 (.rep [] (b : Int))])) b) hb5 (su (sn (st (st Sub.nil)))) ?_ ?_
 ·rintro s1 c2 hm
  replace hm : slices_IndexFunc_api_Write_api_Write_L1 a0 a1 s1 = some c2 := hm
  unfold slices_IndexFunc_api_Write_api_Write_L1 at hm
  show CWalk _ [.fact 0 (.rep [0] (a0 : List Write)), .fact 1 (.fn Try.prog pre1 [0] (a1)), .fact 7 (.rep [] (((a0).length : Int) : Int)), .fact 8 (.rep [] (s1 : Int))] _ _
  refine CWalk.seq ?_
  refine CWalk.region ?_
  refine wo (Spec.lssI (Has.s rfl) (Has.s rfl)) ?_
  refine Walk.nil ?_
  refine Leaf.thenN ?_
  refine CWalk.seq ?_
  refine CWalk.cond rfl (fun hb => ?_) (fun hb => ?_)
  ·have hm := cond_t hb hm
   refine CWalk.skip ?_
   refine Leaf.thenN ?_
   refine CWalk.seq ?_
   refine CWalk.block ?_
   refine CWalk.seq ?_
   refine CWalk.region ?_
   refine mv ?_
   refine wo (Spec.assign (Has.s rfl)) ?_
   refine Walk.nil ?_
   refine Leaf.thenN ?_
   refine CWalk.seq ?_
   refine CWalk.region ?_
   refine mv ?_
   refine mv ?_
   refine mv ?_
   obtain ⟨x3, hx3, hm⟩ := bind_some hm
   refine wo (Spec.indexAddr hx3 sl64 (Has.s rfl) (Has.s rfl)) ?_
   refine wo (Spec.load ty86 (Has.s rfl)) ?_
   obtain ⟨x4, hx4, hm⟩ := bind_some hm
   refine wo (Spec.callFn (xs := [.tmp 15]) (x := x3) [0] 10 rfl hx4 (Has.s rfl) (HasAll.cons (Has.m (Has.s rfl) rfl) HasAll.nil)) ?_
   refine Walk.nil ?_
   refine Leaf.thenN ?_
   refine CWalk.cond rfl (fun hb => ?_) (fun hb => ?_)
   ·have hm := cond_t hb hm
    refine CWalk.seq ?_
    refine CWalk.region ?_
    refine mv ?_
    refine wo (Spec.assign (Has.s rfl)) ?_
    refine Walk.nil ?_
    refine Leaf.thenN ?_
    refine CWalk.ret ?_
    refine Leaf.blockR ?_
    refine Leaf.thenR ?_
    exact Leaf.brk hm (fun h => nomatch h) rfl (st Sub.nil)
   ·have hm := cond_f hb hm
    refine CWalk.skip ?_
    refine Leaf.blockN ?_
    refine Leaf.thenN ?_
    refine CWalk.region ?_
    refine wo (Spec.addI (Has.s rfl) Has.int) ?_
    refine mv ?_
    refine Walk.nil ?_
    exact Leaf.next hm (su (sn (st (st Sub.nil))))
  ·have hm := cond_f hb hm
   refine CWalk.exit ?_
   refine Leaf.thenE ?_
   exact Leaf.brk hm (fun h => nomatch h) rfl (Sub.nil)
 ·intro _
  rcases b5 with b6 | b7
  ·have hm := selim_l hm
   refine Leaf.blockE ?_
   refine Leaf.thenN ?_
   refine CWalk.seq ?_
   refine CWalk.region ?_
   refine wo (Spec.assign Has.int) ?_
   refine Walk.nil ?_
   refine Leaf.thenN ?_
   refine CWalk.ret ?_
   obtain rfl := Option.some.inj hm
   exact Leaf.retC1 rfl (HasR.cv (HasR.tmp (Has.s rfl)) Cv.fl)
  ·have hm := selim_r hm
   refine Leaf.blockR ?_
   refine Leaf.thenR ?_
   obtain rfl := Option.some.inj hm
   exact Leaf.retC1 rfl (HasR.cv (HasR.tmp (Has.s rfl)) Cv.fl)

/-- slices.ContainsFunc[[]freeboard/api.Write,freeboard/api.Write] -/
def slices_ContainsFunc_api_Write_api_Write (a0 : List Write) (a1 : Write → Option Bool) : Option (Bool) :=
  Option.bind (slices_IndexFunc_api_Write_api_Write a0 a1) (fun x1 => some (decide (x1 ≥ (0 : Int))))
set_option maxRecDepth 100000 in
set_option maxHeartbeats 2000000 in
theorem slices_ContainsFunc_api_Write_api_Write_c (a0 : List Write) (a1 : Write → Option Bool) {r : Bool} (hm : slices_ContainsFunc_api_Write_api_Write a0 a1 = some r) : Ctr Try.prog 70 [.rep 0 a0, .fn Try.prog pre1 0 a1] (.fl r) [] := by
 refine ctr_of_walk [[]] 9 Try.func70 rfl rfl rfl rfl (fun w0 om => ?_)
 unfold slices_ContainsFunc_api_Write_api_Write at hm
 refine CWalk.sub (G' := [.fact 0 (.rep [0] (a0 : List Write)), .fact 1 (.fn Try.prog pre1 [0] (a1))]) (sn (sn Sub.nil)) ?_
 refine CWalk.seq ?_
 refine CWalk.region ?_
 refine wo (Spec.assign Has.bool) ?_
 refine Walk.nil ?_
 refine Leaf.thenN ?_
 refine CWalk.seq ?_
 refine CWalk.region ?_
 refine mv ?_
 refine mv ?_
 obtain ⟨x1, hx1, hm⟩ := bind_some hm
 refine wo (f := Fact.rep [] (x1 : Int)) (Spec.callE [0] 10 rfl en84 (slices_IndexFunc_api_Write_api_Write_c a0 a1 hx1) (HasAll.cons (Has.m (Has.s rfl) rfl) (HasAll.cons (Has.cv (Has.s rfl) (Cv.fnM rfl)) HasAll.nil))) ?_
 refine wo (Spec.geqI (Has.s rfl) Has.int) ?_
 refine wo (Spec.assign (Has.s rfl)) ?_
 refine Walk.nil ?_
 refine Leaf.thenN ?_
 refine CWalk.ret ?_
 obtain rfl := Option.some.inj hm
 exact Leaf.retC1 rfl (HasR.cv (HasR.tmp (Has.s rfl)) Cv.fl)

/-- freeboard/disk.Check$1 -/
def disk_Check_1 (a0 : Write) (a1 : Int) : Option (Bool) :=
  Option.bind (gO (!((decide (a0.At < (0 : Int))) || (decide (a0.At ≥ a1)))) (disk_odd a0.Data)) (fun x1 => some (((decide (a0.At < (0 : Int))) || (decide (a0.At ≥ a1))) || x1))
set_option maxRecDepth 100000 in
set_option maxHeartbeats 2000000 in
theorem disk_Check_1_c (a0 : Write) (a1 : Int) {r : Bool} (hm : disk_Check_1 a0 a1 = some r) : Ctr Try.prog 71 [.rep 0 a0, .ptr 0 a1] (.fl r) [] := by
 refine ctr_of_walk [[]] 18 Try.func71 rfl rfl rfl rfl (fun w0 om => ?_)
 unfold disk_Check_1 at hm
 refine CWalk.sub (G' := [.fact 0 (.rep [0] (a0 : Write)), .fact 1 (.ptr [0] (a1 : Int))]) (sn (sn Sub.nil)) ?_
 refine CWalk.seq ?_
 refine CWalk.region ?_
 refine ws (Step.boxObj (ls := [(false, 1, Fact.rep [] a0.At), (false, 1, Fact.rep [0] a0.Data)]) 10 rfl rfl rfl rfl (HasL.flds (Has.cv (Has.s rfl) (Cv.trans (Cv.opens (chWrite a0)) (Cv.flds (CvL.cons Cv.fl (CvL.cons Cv.refl CvL.nil))))))) ?_
 refine wo (Spec.assign Has.bool) ?_
 refine Walk.nil ?_
 refine Leaf.thenN ?_
 refine CWalk.seq ?_
 refine CWalk.region ?_
 refine wo (Spec.fieldAddrO fd86_0 (Has.cv (Has.s rfl) (Cv.isvP rfl))) ?_
 refine wo (Spec.loadF (i := 0) ty3 rfl (Has.s rfl) rfl (HasG.s rfl)) ?_
 refine wo (Spec.lssI (Has.s rfl) Has.int) ?_
 refine mv ?_
 refine wg rfl rfl (fun hb => Spec.fieldAddrO fd86_0 (Has.cv (Has.s rfl) (Cv.isvP rfl))) ?_
 refine wg rfl rfl (fun hb => Spec.loadF (i := 0) ty3 rfl (Has.u rfl hb) rfl (HasG.s rfl)) ?_
 refine wg rfl rfl (fun hb => (Spec.load ty3 (Has.s rfl)).flat (T' := [])) ?_
 refine wg rfl rfl (fun hb => Spec.geqI (Has.u rfl hb) (Has.u rfl hb)) ?_
 refine wo (Spec.or (Has.s rfl) (fun h => Has.u rfl h)) ?_
 refine mv ?_
 refine wg rfl rfl (fun hb => Spec.fieldAddrO fd86_1 (Has.cv (Has.s rfl) (Cv.isvP rfl))) ?_
 refine wg rfl rfl (fun hb => Spec.loadF (i := 1) ty35 rfl (Has.u rfl hb) rfl (HasG.s rfl)) ?_
 obtain ⟨x1, hx1, hm⟩ := bind_some hm
 refine wg (f := Fact.rep [] (x1 : Bool)) rfl rfl (fun hb => Spec.callE [0] 13 rfl en69 (disk_odd_c a0.Data (gO_t hx1 (not_t hb))) (HasAll.cons (Has.m (Has.u rfl hb) rfl) HasAll.nil)) ?_
 refine wo (Spec.or (Has.s rfl) (fun h => Has.u rfl h)) ?_
 refine wo (Spec.assign (Has.s rfl)) ?_
 refine Walk.nil ?_
 refine Leaf.thenN ?_
 refine CWalk.ret ?_
 obtain rfl := Option.some.inj hm
 exact Leaf.retC1 rfl (HasR.cv (HasR.tmp (Has.s rfl)) Cv.fl)

/-- freeboard/disk.Check$2 -/
def disk_Check_2 (a0 : List UInt8) : Option (Bool) :=
  some (decide (((a0).length : Int) > (0 : Int)))
set_option maxRecDepth 100000 in
set_option maxHeartbeats 2000000 in
theorem disk_Check_2_c (a0 : List UInt8) {r : Bool} (hm : disk_Check_2 a0 = some r) : Ctr Try.prog 72 [.rep 0 a0] (.fl r) [] := by
 refine ctr_of_walk [[]] 6 Try.func72 rfl rfl rfl rfl (fun w0 om => ?_)
 unfold disk_Check_2 at hm
 refine CWalk.sub (G' := [.fact 0 (.rep [0] (a0 : List UInt8))]) (sn Sub.nil) ?_
 refine CWalk.seq ?_
 refine CWalk.region ?_
 refine wo (Spec.assign Has.bool) ?_
 refine Walk.nil ?_
 refine Leaf.thenN ?_
 refine CWalk.seq ?_
 refine CWalk.region ?_
 refine mv ?_
 refine wo (Spec.len (Has.s rfl) Try.underlying35) ?_
 refine wo (Spec.gtrI (Has.s rfl) Has.int) ?_
 refine wo (Spec.assign (Has.s rfl)) ?_
 refine Walk.nil ?_
 refine Leaf.thenN ?_
 refine CWalk.ret ?_
 obtain rfl := Option.some.inj hm
 exact Leaf.retC1 rfl (HasR.cv (HasR.tmp (Has.s rfl)) Cv.fl)

/-- freeboard/disk.Check -/
def disk_Check (a0 : Disk) : Option (Int) :=
  Option.bind (gO (!(((decide (((a0.Blocks).length : Int) < (1 : Int))) || (decide (((a0.Blocks).length : Int) > (256 : Int)))) || (decide (((a0.Wait).length : Int) > (1024 : Int))))) (slices_ContainsFunc_byte_byte a0.Blocks (fun y => disk_odd y))) (fun x1 => (bif ((((decide (((a0.Blocks).length : Int) < (1 : Int))) || (decide (((a0.Blocks).length : Int) > (256 : Int)))) || (decide (((a0.Wait).length : Int) > (1024 : Int)))) || x1) then some (8 : Int) else Option.bind (slices_ContainsFunc_api_Write_api_Write a0.Wait (fun y => disk_Check_1 y ((a0.Blocks).length : Int))) (fun x2 => (bif x2 then some (8 : Int) else Option.bind (gO ((a0.Dead) && (!(decide (((a0.Wait).length : Int) > (0 : Int))))) (slices_ContainsFunc_byte_byte a0.Blocks (fun y => disk_Check_2 y))) (fun x3 => (bif (a0.Dead && ((decide (((a0.Wait).length : Int) > (0 : Int))) || x3)) then some (8 : Int) else some (0 : Int)))))))
set_option maxRecDepth 100000 in
set_option maxHeartbeats 2000000 in
theorem disk_Check_c (a0 : Disk) {r : Int} (hm : disk_Check a0 = some r) : Ctr Try.prog 42 [.rep 0 a0] (.fl r) [] := by
 refine ctr_of_walk [[]] 41 Try.func42 rfl rfl rfl rfl (fun w0 om => ?_)
 unfold disk_Check at hm
 refine CWalk.sub (G' := [.fact 0 (.rep [0] (a0 : Disk))]) (sn Sub.nil) ?_
 refine CWalk.seq ?_
 refine CWalk.region ?_
 refine ws (Step.boxObj (ls := [(false, 1, Fact.rep [0] a0.Blocks), (false, 1, Fact.rep [0] a0.Wait), (false, 1, Fact.rep [] a0.Dead)]) 10 rfl rfl rfl rfl (HasL.flds (Has.cv (Has.s rfl) (Cv.trans (Cv.opens (chDisk a0)) (Cv.flds (CvL.cons Cv.refl (CvL.cons Cv.refl (CvL.cons Cv.fl CvL.nil)))))))) ?_
 refine wo (Spec.assign Has.int) ?_
 refine Walk.nil ?_
 refine Leaf.thenN ?_
 refine CWalk.seq ?_
 refine CWalk.region ?_
 refine wo (Spec.fieldAddrO fd66_0 (Has.cv (Has.s rfl) (Cv.isvP rfl))) ?_
 refine wo (Spec.loadF (i := 0) ty25 rfl (Has.s rfl) rfl (HasG.s rfl)) ?_
 refine wo (Spec.len (Has.s rfl) Try.underlying25) ?_
 refine ws (Step.allocObj (ls := [(false, 1, Fact.rep [] ((0 : Int) : Int))]) 14 rfl rfl rfl rfl zl3) ?_
 refine ws (Step.storeF (i := 0) (f := Fact.rep [] (((a0.Blocks).length : Int) : Int)) rfl ty3 rfl (Has.cv (Has.s rfl) (Cv.isvP rfl)) rfl (Has.s rfl) (Has.s rfl) rfl) ?_
 refine Walk.nil ?_
 refine Leaf.thenN ?_
 refine CWalk.seq ?_
 refine CWalk.seq ?_
 refine CWalk.region ?_
 refine wo (Spec.loadF (i := 0) ty3 rfl (Has.cv (Has.s rfl) (Cv.isvP rfl)) rfl (HasG.s rfl)) ?_
 refine wo (Spec.lssI (Has.s rfl) Has.int) ?_
 refine mv ?_
 refine wg rfl rfl (fun hb => Spec.loadF (i := 0) ty3 rfl (Has.cv (Has.s rfl) (Cv.isvP rfl)) rfl (HasG.s rfl)) ?_
 refine wg rfl rfl (fun hb => Spec.gtrI (Has.u rfl hb) Has.int) ?_
 refine wo (Spec.or (Has.s rfl) (fun h => Has.u rfl h)) ?_
 refine mv ?_
 refine wg rfl rfl (fun hb => Spec.fieldAddrO fd66_1 (Has.cv (Has.s rfl) (Cv.isvP rfl))) ?_
 refine wg rfl rfl (fun hb => Spec.loadF (i := 1) ty64 rfl (Has.u rfl hb) rfl (HasG.s rfl)) ?_
 refine wg rfl rfl (fun hb => Spec.len (Has.u rfl hb) Try.underlying64) ?_
 refine wg rfl rfl (fun hb => Spec.gtrI (Has.u rfl hb) Has.int) ?_
 refine wo (Spec.or (Has.s rfl) (fun h => Has.u rfl h)) ?_
 refine mv ?_
 refine wg rfl rfl (fun hb => Spec.fieldAddrO fd66_0 (Has.cv (Has.s rfl) (Cv.isvP rfl))) ?_
 refine wg rfl rfl (fun hb => Spec.loadF (i := 0) ty25 rfl (Has.u rfl hb) rfl (HasG.s rfl)) ?_
 obtain ⟨x1, hx1, hm⟩ := bind_some hm
 refine wg (f := Fact.rep [] (x1 : Bool)) rfl rfl (fun hb => Spec.callE [0] 16 rfl en43 (slices_ContainsFunc_byte_byte_c a0.Blocks (fun y => disk_odd y) (gO_t hx1 (not_t hb))) (HasAll.cons (Has.m (Has.u rfl hb) rfl) (HasAll.cons (Has.cv Has.func (Cv.fn (pu := []) (pc := []) (shc := []) en69 CvF.nil CvF.nil (fun y r h => disk_odd_c y h))) HasAll.nil))) ?_
 refine wo (Spec.or (Has.s rfl) (fun h => Has.u rfl h)) ?_
 refine Walk.nil ?_
 refine Leaf.thenN ?_
 refine CWalk.cond rfl (fun hb => ?_) (fun hb => ?_)
 ·have hm := cond_t hb hm
  refine CWalk.seq ?_
  refine CWalk.region ?_
  refine wo (Spec.assign Has.int) ?_
  refine Walk.nil ?_
  refine Leaf.thenN ?_
  refine CWalk.ret ?_
  refine Leaf.thenR ?_
  obtain rfl := Option.some.inj hm
  exact Leaf.retC1 rfl (HasR.cv (HasR.tmp (Has.s rfl)) Cv.fl)
 ·have hm := cond_f hb hm
  refine CWalk.skip ?_
  refine Leaf.thenN ?_
  refine CWalk.seq ?_
  refine CWalk.seq ?_
  refine CWalk.region ?_
  refine wo (Spec.fieldAddrO fd66_1 (Has.cv (Has.s rfl) (Cv.isvP rfl))) ?_
  refine wo (Spec.loadF (i := 1) ty64 rfl (Has.s rfl) rfl (HasG.s rfl)) ?_
  refine wo (Spec.makeFunc (xs := []) (ys := [.tmp 3]) rfl rfl HasF.nil (HasF.cons (Has.s rfl) HasF.nil) (fun _ _ _ => rfl)) ?_
  obtain ⟨x2, hx2, hm⟩ := bind_some hm
  refine wo (f := Fact.rep [] (x2 : Bool)) (Spec.callE [0, 14] 17 rfl en70 (slices_ContainsFunc_api_Write_api_Write_c a0.Wait (fun y => disk_Check_1 y ((a0.Blocks).length : Int)) hx2) (HasAll.cons (Has.m (Has.s rfl) rfl) (HasAll.cons (Has.cv (Has.s rfl) (Cv.fn (pu := []) (pc := [.ptr 0 ((a0.Blocks).length : Int)]) (shc := []) en71 CvF.nil (CvF.cons (Cv.trans (Cv.objPtr1 (f := Fact.rep [] (((a0.Blocks).length : Int) : Int)) rfl rfl (HasG.s rfl) (Cv.fl (T' := []))) (Cv.ptrM rfl)) CvF.nil) (fun y r h => disk_Check_1_c y ((a0.Blocks).length : Int) h))) HasAll.nil))) ?_
  refine Walk.nil ?_
  refine Leaf.thenN ?_
  refine CWalk.cond rfl (fun hb => ?_) (fun hb => ?_)
  ·have hm := cond_t hb hm
   refine CWalk.seq ?_
   refine CWalk.region ?_
   refine wo (Spec.assign Has.int) ?_
   refine Walk.nil ?_
   refine Leaf.thenN ?_
   refine CWalk.ret ?_
   refine Leaf.thenR ?_
   obtain rfl := Option.some.inj hm
   exact Leaf.retC1 rfl (HasR.cv (HasR.tmp (Has.s rfl)) Cv.fl)
  ·have hm := cond_f hb hm
   refine CWalk.skip ?_
   refine Leaf.thenN ?_
   refine CWalk.seq ?_
   refine CWalk.seq ?_
   refine CWalk.region ?_
   refine wo (Spec.fieldAddrO fd66_2 (Has.cv (Has.s rfl) (Cv.isvP rfl))) ?_
   refine wo (Spec.loadF (i := 2) ty4 rfl (Has.s rfl) rfl (HasG.s rfl)) ?_
   refine mv ?_
   refine wg rfl rfl (fun hb => Spec.fieldAddrO fd66_1 (Has.cv (Has.s rfl) (Cv.isvP rfl))) ?_
   refine wg rfl rfl (fun hb => Spec.loadF (i := 1) ty64 rfl (Has.u rfl hb) rfl (HasG.s rfl)) ?_
   refine wg rfl rfl (fun hb => Spec.len (Has.u rfl hb) Try.underlying64) ?_
   refine wg rfl rfl (fun hb => Spec.gtrI (Has.u rfl hb) Has.int) ?_
   refine wg rfl rfl (fun hb => Spec.move (Has.u rfl hb)) ?_
   refine Walk.opgu rfl rfl rfl (fun hb => Spec.fieldAddrO fd66_0 (Has.cv (Has.s rfl) (Cv.isvP rfl))) ?_
   refine Walk.opgu rfl rfl rfl (fun hb => Spec.loadF (i := 0) ty25 rfl (Has.u rfl hb) rfl (HasG.s rfl)) ?_
   obtain ⟨x3, hx3, hm⟩ := bind_some hm
   refine Walk.opgu (f := Fact.rep [] (x3 : Bool)) rfl rfl rfl (fun hb => Spec.callE [0] 18 rfl en43 (slices_ContainsFunc_byte_byte_c a0.Blocks (fun y => disk_Check_2 y) (gO_t hx3 (and_t hb.1 (not_t hb.2)))) (HasAll.cons (Has.m (Has.u rfl hb) rfl) (HasAll.cons (Has.cv Has.func (Cv.fn (pu := []) (pc := []) (shc := []) en72 CvF.nil CvF.nil (fun y r h => disk_Check_2_c y h))) HasAll.nil))) ?_
   refine wg rfl rfl (fun hb => Spec.or (Has.u rfl hb) (fun h => Has.u rfl ⟨hb, h⟩)) ?_
   refine wo (Spec.and (Has.s rfl) (fun h => Has.u rfl h)) ?_
   refine Walk.nil ?_
   refine Leaf.thenN ?_
   refine CWalk.cond rfl (fun hb => ?_) (fun hb => ?_)
   ·have hm := cond_t hb hm
    refine CWalk.seq ?_
    refine CWalk.region ?_
    refine wo (Spec.assign Has.int) ?_
    refine Walk.nil ?_
    refine Leaf.thenN ?_
    refine CWalk.ret ?_
    refine Leaf.thenR ?_
    obtain rfl := Option.some.inj hm
    exact Leaf.retC1 rfl (HasR.cv (HasR.tmp (Has.s rfl)) Cv.fl)
   ·have hm := cond_f hb hm
    refine CWalk.skip ?_
    refine Leaf.thenN ?_
    refine CWalk.seq ?_
    refine CWalk.region ?_
    refine wo (Spec.assign Has.int) ?_
    refine Walk.nil ?_
    refine Leaf.thenN ?_
    refine CWalk.ret ?_
    obtain rfl := Option.some.inj hm
    exact Leaf.retC1 rfl (HasR.cv (HasR.tmp (Has.s rfl)) Cv.fl)

def fetch_Check_J2 (s2 : Int) (x4 : Disk) (j5 : Int) : Option (Ctl (Int) ((Unit) ⊕ (Unit))) :=
  Option.bind (gO (!(((x4.Blocks).length : Int) != j5)) (disk_Check x4)) (fun x6 => (bif ((((x4.Blocks).length : Int) != j5) || (x6 != (0 : Int))) then some (Ctl.brk (Sum.inr ())) else some (Ctl.next (wI (s2 + (1 : Int))))))
def fetch_Check_L1 (a0 : Config) (a1 : List Disk) (x1 : Int × Int) (s2 : Int) : Option (Ctl (Int) ((Unit) ⊕ (Unit))) :=
  (bif (decide (s2 < ((a1).length : Int))) then Option.bind (idx a1 s2) (fun x4 => (bif (s2 == a0.Members) then Option.bind (shape_Journal a0) (fun x7 => (fetch_Check_J2 s2 x4 x7.1)) else (fetch_Check_J2 s2 x4 x1.1))) else some (Ctl.brk (Sum.inl ())))
/-- freeboard/fetch.Check -/
def fetch_Check (a0 : Config) (a1 : List Disk) : Option (Int) :=
  Option.bind (shape_Member a0) (fun x1 => (bif ((x1.2 != (0 : Int)) || (((a1).length : Int) != (wI (a0.Members + (1 : Int))))) then some (8 : Int) else Option.bind (loopM (fun s : Int => fetch_Check_L1 a0 a1 x1 s) FUEL (0 : Int)) (fun b8 => Sum.elim (fun b9 => some (0 : Int)) (fun b10 => some (8 : Int)) b8)))
set_option maxRecDepth 100000 in
set_option maxHeartbeats 2000000 in
theorem fetch_Check_c (a0 : Config) (a1 : List Disk) {r : Int} (hm : fetch_Check a0 a1 = some r) : Ctr Try.prog 21 [.rep 0 a0, .rep 0 a1] (.fl r) [] := by
 refine ctr_of_walk [[]] 53 Try.func21 rfl rfl rfl rfl (fun w0 om => ?_)
 unfold fetch_Check at hm
 refine CWalk.sub (G' := [.fact 0 (.rep [] (a0 : Config)), .fact 1 (.rep [0] (a1 : List Disk))]) (Sub.cons (Has.fl (Has.s rfl)) (sn Sub.nil)) ?_
 refine CWalk.seq ?_
 refine CWalk.region ?_
 refine ws (Step.boxObj (ls := [(false, 1, Fact.rep [] a0.Id), (false, 1, Fact.rep [] a0.Members), (false, 1, Fact.rep [] a0.Chunk), (false, 1, Fact.rep [] a0.Rows), (false, 1, Fact.rep [] a0.Log), (false, 1, Fact.rep [] a0.Heads)]) 10 rfl rfl rfl rfl (HasL.flds (Has.cv (Has.s rfl) (Cv.trans (Cv.opens (chConfig a0)) (Cv.flds (CvL.cons Cv.fl (CvL.cons Cv.fl (CvL.cons Cv.fl (CvL.cons Cv.fl (CvL.cons Cv.fl (CvL.cons Cv.fl CvL.nil))))))))))) ?_
 refine wo (Spec.assign Has.int) ?_
 refine Walk.nil ?_
 refine Leaf.thenN ?_
 refine CWalk.seq ?_
 refine CWalk.region ?_
 refine wo (Spec.loadObj (ls := [(false, 1, Fact.rep [] a0.Id), (false, 1, Fact.rep [] a0.Members), (false, 1, Fact.rep [] a0.Chunk), (false, 1, Fact.rep [] a0.Rows), (false, 1, Fact.rep [] a0.Log), (false, 1, Fact.rep [] a0.Heads)]) ty24 rfl rfl (Has.s rfl) rfl (HasGs.cons (HasG.s rfl) (HasGs.cons (HasG.s rfl) (HasGs.cons (HasG.s rfl) (HasGs.cons (HasG.s rfl) (HasGs.cons (HasG.s rfl) (HasGs.cons (HasG.s rfl) HasGs.nil))))))) ?_
 obtain ⟨x1, hx1, hm⟩ := bind_some hm
 refine wo (f := Fact.tup2 (Fact.rep [] x1.1) (Fact.rep [] x1.2)) (Spec.callE [] 17 rfl en40 (shape_Member_c a0 hx1) (HasAll.cons (Has.fl (Has.cv (Has.s rfl) (Cv.trans (Cv.flds (CvL.cons Cv.fl (CvL.cons Cv.fl (CvL.cons Cv.fl (CvL.cons Cv.fl (CvL.cons Cv.fl (CvL.cons Cv.fl CvL.nil))))))) (Cv.close (T := []) (chConfig a0))))) HasAll.nil)) ?_
 refine mv ?_
 refine wo (Spec.ext0 (Has.s rfl)) ?_
 refine wo (Spec.ext1 (Has.s rfl)) ?_
 refine wo (Spec.assign (Has.s rfl)) ?_
 refine wo (Spec.assign (Has.s rfl)) ?_
 refine Walk.nil ?_
 refine Leaf.thenN ?_
 refine CWalk.seq ?_
 refine CWalk.seq ?_
 refine CWalk.region ?_
 refine mv ?_
 refine wo (Spec.neqI (Has.s rfl) Has.int) ?_
 refine mv ?_
 refine wg rfl rfl (fun hb => Spec.move (Has.s rfl)) ?_
 refine wg rfl rfl (fun hb => Spec.len (Has.u rfl hb) Try.underlying53) ?_
 refine wg rfl rfl (fun hb => Spec.fieldAddrO fd24_1 (Has.cv (Has.s rfl) (Cv.isvP rfl))) ?_
 refine wg rfl rfl (fun hb => Spec.loadF (i := 1) ty3 rfl (Has.u rfl hb) rfl (HasG.s rfl)) ?_
 refine wg rfl rfl (fun hb => Spec.addI (Has.u rfl hb) Has.int) ?_
 refine wg rfl rfl (fun hb => Spec.neqI (Has.u rfl hb) (Has.u rfl hb)) ?_
 refine wo (Spec.or (Has.s rfl) (fun h => Has.u rfl h)) ?_
 refine Walk.nil ?_
 refine Leaf.thenN ?_
 refine CWalk.cond rfl (fun hb => ?_) (fun hb => ?_)
 ·have hm := cond_t hb hm
  refine CWalk.seq ?_
  refine CWalk.region ?_
  refine wo (Spec.assign Has.int) ?_
  refine Walk.nil ?_
  refine Leaf.thenN ?_
  refine CWalk.ret ?_
  refine Leaf.thenR ?_
  obtain rfl := Option.some.inj hm
  exact Leaf.retC1 rfl (HasR.cv (HasR.tmp (Has.s rfl)) Cv.fl)
 ·have hm := cond_f hb hm
  refine CWalk.skip ?_
  refine Leaf.thenN ?_
  refine CWalk.seq ?_
  refine CWalk.seq ?_
  refine CWalk.region ?_
  refine mv ?_
  refine wo (Spec.len (Has.s rfl) Try.underlying53) ?_
  refine wo (Spec.move Has.int) ?_
  refine Walk.nil ?_
  refine Leaf.thenN ?_
  refine CWalk.block ?_
  obtain ⟨b8, hb8, hm⟩ := bind_some hm
  refine CWalk.loop (fun s : Int => [.fact 2 (.isv 10), .fact 5 (.rep [] x1.1), .fact 25 (.rep [0] (a1 : List Disk)), .fact 26 (.rep [] (((a1).length : Int) : Int)), .fact 27 (.rep [] (s : Int)), .fact 100011 (.at 11 (.rep [] a0.Id)), .fact 100012 (.at 12 (.rep [] a0.Members)), .fact 100013 (.at 13 (.rep [] a0.Chunk)), .fact 100014 (.at 14 (.rep [] a0.Rows)), .fact 100015 (.at 15 (.rep [] a0.Log)), .fact 100016 (.at 16 (.rep [] a0.Heads)), .fact 100010 (.obj 10 [(false, 1), (false, 1), (false, 1), (false, 1), (false, 1), (false, 1)])]) (fun b : (Unit) ⊕ (Unit) => Sum.elim (fun b => (Exit.exit 0, [])) (fun b => (Exit.ret, [.fact 4 (.rep [] ((8 : Int) : Int))])) b) hb8 (sn (st (su (st (st (sf (sf (sf (sf (sf (sf (sn Sub.nil)))))))))))) ?_ ?_
  ·rintro s2 c3 hm
   replace hm : fetch_Check_L1 a0 a1 x1 s2 = some c3 := hm
   unfold fetch_Check_L1 at hm
   show CWalk _ [.fact 2 (.isv 10), .fact 5 (.rep [] x1.1), .fact 25 (.rep [0] (a1 : List Disk)), .fact 26 (.rep [] (((a1).length : Int) : Int)), .fact 27 (.rep [] (s2 : Int)), .fact 100011 (.at 11 (.rep [] a0.Id)), .fact 100012 (.at 12 (.rep [] a0.Members)), .fact 100013 (.at 13 (.rep [] a0.Chunk)), .fact 100014 (.at 14 (.rep [] a0.Rows)), .fact 100015 (.at 15 (.rep [] a0.Log)), .fact 100016 (.at 16 (.rep [] a0.Heads)), .fact 100010 (.obj 10 [(false, 1), (false, 1), (false, 1), (false, 1), (false, 1), (false, 1)])] _ _
   refine CWalk.seq ?_
   refine CWalk.region ?_
   refine wo (Spec.lssI (Has.s rfl) (Has.s rfl)) ?_
   refine Walk.nil ?_
   refine Leaf.thenN ?_
   refine CWalk.seq ?_
   refine CWalk.cond rfl (fun hb => ?_) (fun hb => ?_)
   ·have hm := cond_t hb hm
    refine CWalk.skip ?_
    refine Leaf.thenN ?_
    refine CWalk.seq ?_
    refine CWalk.block ?_
    refine CWalk.seq ?_
    refine CWalk.region ?_
    refine mv ?_
    obtain ⟨x4, hx4, hm⟩ := bind_some hm
    refine wo (Spec.indexAddr hx4 sl53 (Has.s rfl) (Has.s rfl)) ?_
    refine wo (Spec.load ty66 (Has.s rfl)) ?_
    refine ws (Step.allocObj (ls := [(false, 1, Fact.nilv), (false, 1, Fact.nilv), (false, 1, Fact.rep [] (false : Bool))]) 18 rfl rfl rfl rfl zl66) ?_
    refine wo (Spec.assign (Has.s rfl)) ?_
    refine ws (Step.storeObj (ls := [(false, 1, Fact.rep [0] x4.Blocks), (false, 1, Fact.rep [0] x4.Wait), (false, 1, Fact.rep [] x4.Dead)]) rfl ty66 rfl rfl (Has.s rfl) rfl (HasL.flds (Has.cv (Has.s rfl) (Cv.trans (Cv.opens (chDisk x4)) (Cv.flds (CvL.cons Cv.refl (CvL.cons Cv.refl (CvL.cons Cv.fl CvL.nil))))))) rfl) ?_
    refine Walk.nil ?_
    refine Leaf.thenN ?_
    refine CWalk.seq ?_
    refine CWalk.region ?_
    refine mv ?_
    refine wo (Spec.assign (Has.s rfl)) ?_
    refine Walk.nil ?_
    refine Leaf.thenN ?_
    refine CWalk.seqJ (fun p : Int => [.fact 2 (.isv 10), .fact 5 (.rep [] x1.1), .fact 8 (.isv 18), .fact 9 (.rep [] (p : Int)), .fact 25 (.rep [0] (a1 : List Disk)), .fact 26 (.rep [] (((a1).length : Int) : Int)), .fact 27 (.rep [] (s2 : Int)), .fact 100011 (.at 11 (.rep [] a0.Id)), .fact 100012 (.at 12 (.rep [] a0.Members)), .fact 100013 (.at 13 (.rep [] a0.Chunk)), .fact 100014 (.at 14 (.rep [] a0.Rows)), .fact 100015 (.at 15 (.rep [] a0.Log)), .fact 100016 (.at 16 (.rep [] a0.Heads)), .fact 100019 (.at 19 (.rep [0] x4.Blocks)), .fact 100020 (.at 20 (.rep [0] x4.Wait)), .fact 100021 (.at 21 (.rep [] x4.Dead)), .fact 100010 (.obj 10 [(false, 1), (false, 1), (false, 1), (false, 1), (false, 1), (false, 1)]), .fact 100018 (.obj 18 [(false, 1), (false, 1), (false, 1)])]) (fun p : Int => fetch_Check_J2 s2 x4 p = some c3) ?_ ?_
    ·rintro j5 hm
     replace hm : fetch_Check_J2 s2 x4 j5 = some c3 := hm
     unfold fetch_Check_J2 at hm
     show CWalk _ [.fact 2 (.isv 10), .fact 5 (.rep [] x1.1), .fact 8 (.isv 18), .fact 9 (.rep [] (j5 : Int)), .fact 25 (.rep [0] (a1 : List Disk)), .fact 26 (.rep [] (((a1).length : Int) : Int)), .fact 27 (.rep [] (s2 : Int)), .fact 100011 (.at 11 (.rep [] a0.Id)), .fact 100012 (.at 12 (.rep [] a0.Members)), .fact 100013 (.at 13 (.rep [] a0.Chunk)), .fact 100014 (.at 14 (.rep [] a0.Rows)), .fact 100015 (.at 15 (.rep [] a0.Log)), .fact 100016 (.at 16 (.rep [] a0.Heads)), .fact 100019 (.at 19 (.rep [0] x4.Blocks)), .fact 100020 (.at 20 (.rep [0] x4.Wait)), .fact 100021 (.at 21 (.rep [] x4.Dead)), .fact 100010 (.obj 10 [(false, 1), (false, 1), (false, 1), (false, 1), (false, 1), (false, 1)]), .fact 100018 (.obj 18 [(false, 1), (false, 1), (false, 1)])] _ _
     refine CWalk.seq ?_
     refine CWalk.region ?_
     refine wo (Spec.fieldAddrO fd66_0 (Has.cv (Has.s rfl) (Cv.isvP rfl))) ?_
     refine wo (Spec.loadF (i := 0) ty25 rfl (Has.s rfl) rfl (HasG.s rfl)) ?_
     refine wo (Spec.len (Has.s rfl) Try.underlying25) ?_
     refine mv ?_
     refine wo (Spec.neqI (Has.s rfl) (Has.s rfl)) ?_
     refine mv ?_
     refine wg rfl rfl (fun hb => Spec.loadObj (ls := [(false, 1, Fact.rep [0] x4.Blocks), (false, 1, Fact.rep [0] x4.Wait), (false, 1, Fact.rep [] x4.Dead)]) ty66 rfl rfl (Has.s rfl) rfl (HasGs.cons (HasG.s rfl) (HasGs.cons (HasG.s rfl) (HasGs.cons (HasG.s rfl) HasGs.nil)))) ?_
     obtain ⟨x6, hx6, hm⟩ := bind_some hm
     refine wg (f := Fact.rep [] (x6 : Int)) rfl rfl (fun hb => Spec.callE [0] 23 rfl en42 (disk_Check_c x4 (gO_t hx6 (not_t hb))) (HasAll.cons (Has.m (Has.cv (Has.u rfl hb) (Cv.trans (Cv.flds (CvL.cons (Cv.m rfl) (CvL.cons (Cv.m rfl) (CvL.cons Cv.fl CvL.nil)))) (Cv.close (T := [0]) (chDisk x4)))) rfl) HasAll.nil)) ?_
     refine wg rfl rfl (fun hb => Spec.neqI (Has.u rfl hb) Has.int) ?_
     refine wo (Spec.or (Has.s rfl) (fun h => Has.u rfl h)) ?_
     refine Walk.nil ?_
     refine Leaf.thenN ?_
     refine CWalk.cond rfl (fun hb => ?_) (fun hb => ?_)
     ·have hm := cond_t hb hm
      refine CWalk.seq ?_
      refine CWalk.region ?_
      refine wo (Spec.assign Has.int) ?_
      refine Walk.nil ?_
      refine Leaf.thenN ?_
      refine CWalk.ret ?_
      refine Leaf.blockR ?_
      refine Leaf.thenR ?_
      exact Leaf.brk hm (fun h => nomatch h) rfl (st Sub.nil)
     ·have hm := cond_f hb hm
      refine CWalk.skip ?_
      refine Leaf.blockN ?_
      refine Leaf.thenN ?_
      refine CWalk.region ?_
      refine wo (Spec.addI (Has.s rfl) Has.int) ?_
      refine mv ?_
      refine Walk.nil ?_
      exact Leaf.next hm (sn (st (su (st (st (sf (sf (sf (sf (sf (sf (sn Sub.nil))))))))))))
    ·refine CWalk.seq ?_
     refine CWalk.region ?_
     refine mv ?_
     refine wo (Spec.fieldAddrO fd24_1 (Has.cv (Has.s rfl) (Cv.isvP rfl))) ?_
     refine wo (Spec.loadF (i := 1) ty3 rfl (Has.s rfl) rfl (HasG.s rfl)) ?_
     refine wo (Spec.eqlI (Has.s rfl) (Has.s rfl)) ?_
     refine Walk.nil ?_
     refine Leaf.thenN ?_
     refine CWalk.cond rfl (fun hb => ?_) (fun hb => ?_)
     ·have hm := cond_t hb hm
      refine CWalk.region ?_
      refine wo (Spec.loadObj (ls := [(false, 1, Fact.rep [] a0.Id), (false, 1, Fact.rep [] a0.Members), (false, 1, Fact.rep [] a0.Chunk), (false, 1, Fact.rep [] a0.Rows), (false, 1, Fact.rep [] a0.Log), (false, 1, Fact.rep [] a0.Heads)]) ty24 rfl rfl (Has.s rfl) rfl (HasGs.cons (HasG.s rfl) (HasGs.cons (HasG.s rfl) (HasGs.cons (HasG.s rfl) (HasGs.cons (HasG.s rfl) (HasGs.cons (HasG.s rfl) (HasGs.cons (HasG.s rfl) HasGs.nil))))))) ?_
      obtain ⟨x7, hx7, hm⟩ := bind_some hm
      refine wo (f := Fact.tup2 (Fact.rep [] x7.1) (Fact.rep [] x7.2)) (Spec.callE [] 22 rfl en41 (shape_Journal_c a0 hx7) (HasAll.cons (Has.fl (Has.cv (Has.s rfl) (Cv.trans (Cv.flds (CvL.cons Cv.fl (CvL.cons Cv.fl (CvL.cons Cv.fl (CvL.cons Cv.fl (CvL.cons Cv.fl (CvL.cons Cv.fl CvL.nil))))))) (Cv.close (T := []) (chConfig a0))))) HasAll.nil)) ?_
      refine mv ?_
      refine wo (Spec.ext0 (Has.s rfl)) ?_
      refine wo (Spec.ext1 (Has.s rfl)) ?_
      refine wo (Spec.assign (Has.s rfl)) ?_
      refine Walk.nil ?_
      exact Leaf.join x7.1 hm (sn (st (sn (st (su (st (st (sf (sf (sf (sf (sf (sf (sm (sm (sf (sn (sn Sub.nil))))))))))))))))))
     ·have hm := cond_f hb hm
      refine CWalk.skip ?_
      exact Leaf.join x1.1 hm (sn (st (sn (st (su (st (st (sf (sf (sf (sf (sf (sf (sm (sm (sf (sn (sn Sub.nil))))))))))))))))))
   ·have hm := cond_f hb hm
    refine CWalk.exit ?_
    refine Leaf.thenE ?_
    exact Leaf.brk hm (fun h => nomatch h) rfl (Sub.nil)
  ·intro _
   rcases b8 with b9 | b10
   ·have hm := selim_l hm
    refine Leaf.blockE ?_
    refine Leaf.thenN ?_
    refine CWalk.seq ?_
    refine CWalk.region ?_
    refine wo (Spec.assign Has.int) ?_
    refine Walk.nil ?_
    refine Leaf.thenN ?_
    refine CWalk.ret ?_
    obtain rfl := Option.some.inj hm
    exact Leaf.retC1 rfl (HasR.cv (HasR.tmp (Has.s rfl)) Cv.fl)
   ·have hm := selim_r hm
    refine Leaf.blockR ?_
    refine Leaf.thenR ?_
    obtain rfl := Option.some.inj hm
    exact Leaf.retC1 rfl (HasR.cv (HasR.tmp (Has.s rfl)) Cv.fl)

def slices_IndexFunc_api_Disk_api_Disk_L1 (a0 : List Disk) (a1 : Disk → Option Bool) (s1 : Int) : Option (Ctl (Int) ((Unit) ⊕ (Int))) :=
  (bif (decide (s1 < ((a0).length : Int))) then Option.bind (idx a0 s1) (fun x3 => Option.bind (a1 x3) (fun x4 => (bif x4 then some (Ctl.brk (Sum.inr s1)) else some (Ctl.next (wI (s1 + (1 : Int))))))) else some (Ctl.brk (Sum.inl ())))
/-- slices.IndexFunc[[]freeboard/api.Disk,freeboard/api.Disk] -/
def slices_IndexFunc_api_Disk_api_Disk (a0 : List Disk) (a1 : Disk → Option Bool) : Option (Int) :=
  Option.bind (loopM (fun s : Int => slices_IndexFunc_api_Disk_api_Disk_L1 a0 a1 s) FUEL (0 : Int)) (fun b5 => Sum.elim (fun b6 => some (-1 : Int)) (fun b7 => some b7) b5)
set_option maxRecDepth 100000 in
set_option maxHeartbeats 2000000 in
theorem slices_IndexFunc_api_Disk_api_Disk_c (a0 : List Disk) (a1 : Disk → Option Bool) {r : Int} (hm : slices_IndexFunc_api_Disk_api_Disk a0 a1 = some r) : Ctr Try.prog 90 [.rep 0 a0, .fn Try.prog pre1 0 a1] (.fl r) [] := by
 refine ctr_of_walk [[]] 19 Try.func90 rfl rfl rfl rfl (fun w0 om => ?_)
 unfold slices_IndexFunc_api_Disk_api_Disk at hm
 refine CWalk.sub (G' := [.fact 0 (.rep [0] (a0 : List Disk)), .fact 1 (.fn Try.prog pre1 [0] (a1))]) (sn (sn Sub.nil)) ?_
 refine CWalk.seq ?_
 refine CWalk.region ?_
 refine wo (Spec.assign Has.int) ?_
 refine Walk.nil ?_
 refine Leaf.thenN ?_
 refine CWalk.seq ?_
 refine CWalk.seq ?_
 refine CWalk.region ?_
 refine mv ?_
 refine wo (Spec.len (Has.s rfl) Try.underlying53) ?_
 refine wo (Spec.move Has.int) ?_
 refine Walk.nil ?_
 refine Leaf.thenN ?_
 refine CWalk.block ?_
 obtain ⟨b5, hb5, hm⟩ := bind_some hm
 refine CWalk.loop (fun s : Int => [.fact 0 (.rep [0] (a0 : List Disk)), .fact 1 (.fn Try.prog pre1 [0] (a1)), .fact 7 (.rep [] (((a0).length : Int) : Int)), .fact 8 (.rep [] (s : Int))]) (fun b : (Unit) ⊕ (Int) => Sum.elim (fun b => (Exit.exit 0, [])) (fun b => (Exit.ret, [.fact 4 (.rep [] (b : Int))])) b) hb5 (su (sn (st (st Sub.nil)))) ?_ ?_
 ·rintro s1 c2 hm
  replace hm : slices_IndexFunc_api_Disk_api_Disk_L1 a0 a1 s1 = some c2 := hm
  unfold slices_IndexFunc_api_Disk_api_Disk_L1 at hm
  show CWalk _ [.fact 0 (.rep [0] (a0 : List Disk)), .fact 1 (.fn Try.prog pre1 [0] (a1)), .fact 7 (.rep [] (((a0).length : Int) : Int)), .fact 8 (.rep [] (s1 : Int))] _ _
  refine CWalk.seq ?_
  refine CWalk.region ?_
  refine wo (Spec.lssI (Has.s rfl) (Has.s rfl)) ?_
  refine Walk.nil ?_
  refine Leaf.thenN ?_
  refine CWalk.seq ?_
  refine CWalk.cond rfl (fun hb => ?_) (fun hb => ?_)
  ·have hm := cond_t hb hm
   refine CWalk.skip ?_
   refine Leaf.thenN ?_
   refine CWalk.seq ?_
   refine CWalk.block ?_
   refine CWalk.seq ?_
   refine CWalk.region ?_
   refine mv ?_
   refine wo (Spec.assign (Has.s rfl)) ?_
   refine Walk.nil ?_
   refine Leaf.thenN ?_
   refine CWalk.seq ?_
   refine CWalk.region ?_
   refine mv ?_
   refine mv ?_
   refine mv ?_
   obtain ⟨x3, hx3, hm⟩ := bind_some hm
   refine wo (Spec.indexAddr hx3 sl53 (Has.s rfl) (Has.s rfl)) ?_
   refine wo (Spec.load ty66 (Has.s rfl)) ?_
   obtain ⟨x4, hx4, hm⟩ := bind_some hm
   refine wo (Spec.callFn (xs := [.tmp 15]) (x := x3) [0] 10 rfl hx4 (Has.s rfl) (HasAll.cons (Has.m (Has.s rfl) rfl) HasAll.nil)) ?_
   refine Walk.nil ?_
   refine Leaf.thenN ?_
   refine CWalk.cond rfl (fun hb => ?_) (fun hb => ?_)
   ·have hm := cond_t hb hm
    refine CWalk.seq ?_
    refine CWalk.region ?_
    refine mv ?_
    refine wo (Spec.assign (Has.s rfl)) ?_
    refine Walk.nil ?_
    refine Leaf.thenN ?_
    refine CWalk.ret ?_
    refine Leaf.blockR ?_
    refine Leaf.thenR ?_
    exact Leaf.brk hm (fun h => nomatch h) rfl (st Sub.nil)
   ·have hm := cond_f hb hm
    refine CWalk.skip ?_
    refine Leaf.blockN ?_
    refine Leaf.thenN ?_
    refine CWalk.region ?_
    refine wo (Spec.addI (Has.s rfl) Has.int) ?_
    refine mv ?_
    refine Walk.nil ?_
    exact Leaf.next hm (su (sn (st (st Sub.nil))))
  ·have hm := cond_f hb hm
   refine CWalk.exit ?_
   refine Leaf.thenE ?_
   exact Leaf.brk hm (fun h => nomatch h) rfl (Sub.nil)
 ·intro _
  rcases b5 with b6 | b7
  ·have hm := selim_l hm
   refine Leaf.blockE ?_
   refine Leaf.thenN ?_
   refine CWalk.seq ?_
   refine CWalk.region ?_
   refine wo (Spec.assign Has.int) ?_
   refine Walk.nil ?_
   refine Leaf.thenN ?_
   refine CWalk.ret ?_
   obtain rfl := Option.some.inj hm
   exact Leaf.retC1 rfl (HasR.cv (HasR.tmp (Has.s rfl)) Cv.fl)
  ·have hm := selim_r hm
   refine Leaf.blockR ?_
   refine Leaf.thenR ?_
   obtain rfl := Option.some.inj hm
   exact Leaf.retC1 rfl (HasR.cv (HasR.tmp (Has.s rfl)) Cv.fl)

/-- slices.ContainsFunc[[]freeboard/api.Disk,freeboard/api.Disk] -/
def slices_ContainsFunc_api_Disk_api_Disk (a0 : List Disk) (a1 : Disk → Option Bool) : Option (Bool) :=
  Option.bind (slices_IndexFunc_api_Disk_api_Disk a0 a1) (fun x1 => some (decide (x1 ≥ (0 : Int))))
set_option maxRecDepth 100000 in
set_option maxHeartbeats 2000000 in
theorem slices_ContainsFunc_api_Disk_api_Disk_c (a0 : List Disk) (a1 : Disk → Option Bool) {r : Bool} (hm : slices_ContainsFunc_api_Disk_api_Disk a0 a1 = some r) : Ctr Try.prog 82 [.rep 0 a0, .fn Try.prog pre1 0 a1] (.fl r) [] := by
 refine ctr_of_walk [[]] 9 Try.func82 rfl rfl rfl rfl (fun w0 om => ?_)
 unfold slices_ContainsFunc_api_Disk_api_Disk at hm
 refine CWalk.sub (G' := [.fact 0 (.rep [0] (a0 : List Disk)), .fact 1 (.fn Try.prog pre1 [0] (a1))]) (sn (sn Sub.nil)) ?_
 refine CWalk.seq ?_
 refine CWalk.region ?_
 refine wo (Spec.assign Has.bool) ?_
 refine Walk.nil ?_
 refine Leaf.thenN ?_
 refine CWalk.seq ?_
 refine CWalk.region ?_
 refine mv ?_
 refine mv ?_
 obtain ⟨x1, hx1, hm⟩ := bind_some hm
 refine wo (f := Fact.rep [] (x1 : Int)) (Spec.callE [0] 10 rfl en90 (slices_IndexFunc_api_Disk_api_Disk_c a0 a1 hx1) (HasAll.cons (Has.m (Has.s rfl) rfl) (HasAll.cons (Has.cv (Has.s rfl) (Cv.fnM rfl)) HasAll.nil))) ?_
 refine wo (Spec.geqI (Has.s rfl) Has.int) ?_
 refine wo (Spec.assign (Has.s rfl)) ?_
 refine Walk.nil ?_
 refine Leaf.thenN ?_
 refine CWalk.ret ?_
 obtain rfl := Option.some.inj hm
 exact Leaf.retC1 rfl (HasR.cv (HasR.tmp (Has.s rfl)) Cv.fl)

/-- freeboard/acts.devices$1 -/
def acts_devices_1 (a0 : Disk) : Option (Bool) :=
  Option.bind (disk_Check a0) (fun x1 => some (x1 != (0 : Int)))
set_option maxRecDepth 100000 in
set_option maxHeartbeats 2000000 in
theorem acts_devices_1_c (a0 : Disk) {r : Bool} (hm : acts_devices_1 a0 = some r) : Ctr Try.prog 81 [.rep 0 a0] (.fl r) [] := by
 refine ctr_of_walk [[]] 6 Try.func81 rfl rfl rfl rfl (fun w0 om => ?_)
 unfold acts_devices_1 at hm
 refine CWalk.sub (G' := [.fact 0 (.rep [0] (a0 : Disk))]) (sn Sub.nil) ?_
 refine CWalk.seq ?_
 refine CWalk.region ?_
 refine ws (Step.boxObj (ls := [(false, 1, Fact.rep [0] a0.Blocks), (false, 1, Fact.rep [0] a0.Wait), (false, 1, Fact.rep [] a0.Dead)]) 10 rfl rfl rfl rfl (HasL.flds (Has.cv (Has.s rfl) (Cv.trans (Cv.opens (chDisk a0)) (Cv.flds (CvL.cons Cv.refl (CvL.cons Cv.refl (CvL.cons Cv.fl CvL.nil)))))))) ?_
 refine wo (Spec.assign Has.bool) ?_
 refine Walk.nil ?_
 refine Leaf.thenN ?_
 refine CWalk.seq ?_
 refine CWalk.region ?_
 refine wo (Spec.loadObj (ls := [(false, 1, Fact.rep [0] a0.Blocks), (false, 1, Fact.rep [0] a0.Wait), (false, 1, Fact.rep [] a0.Dead)]) ty66 rfl rfl (Has.s rfl) rfl (HasGs.cons (HasG.s rfl) (HasGs.cons (HasG.s rfl) (HasGs.cons (HasG.s rfl) HasGs.nil)))) ?_
 obtain ⟨x1, hx1, hm⟩ := bind_some hm
 refine wo (f := Fact.rep [] (x1 : Int)) (Spec.callE [0] 14 rfl en42 (disk_Check_c a0 hx1) (HasAll.cons (Has.m (Has.cv (Has.s rfl) (Cv.trans (Cv.flds (CvL.cons (Cv.m rfl) (CvL.cons (Cv.m rfl) (CvL.cons Cv.fl CvL.nil)))) (Cv.close (T := [0]) (chDisk a0)))) rfl) HasAll.nil)) ?_
 refine wo (Spec.neqI (Has.s rfl) Has.int) ?_
 refine wo (Spec.assign (Has.s rfl)) ?_
 refine Walk.nil ?_
 refine Leaf.thenN ?_
 refine CWalk.ret ?_
 obtain rfl := Option.some.inj hm
 exact Leaf.retC1 rfl (HasR.cv (HasR.tmp (Has.s rfl)) Cv.fl)

end Go.Proofs.Ytcnmlbgcnkfnhaa
