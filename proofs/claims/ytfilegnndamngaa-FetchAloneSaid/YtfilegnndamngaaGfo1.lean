/- Printed by a program of ours: models of functions, and that calls do what they say. -/
import Derived.Test.YtfilegnndamngaaProg
import Derived.Test.YtfilegnndamngaaCore35
import Derived.KernelRfl
namespace Go.Proofs.Ytfilegnndamngaa
open Go GL
set_option linter.unusedVariables false

structure Config where
  Id : UInt32
  Members : Int
  Chunk : Int
  Rows : Int
  Log : Int
  Heads : Int
  deriving Inhabited, DecidableEq
instance : Rp Config := Rp.via (inferInstance : Rp (UInt32 × Int × Int × Int × Int × Int)) (fun x => (x.Id, x.Members, x.Chunk, x.Rows, x.Log, x.Heads))
theorem chConfig (x : Config) : Ch x [⟨inferInstance, x.Id⟩, ⟨inferInstance, x.Members⟩, ⟨inferInstance, x.Chunk⟩, ⟨inferInstance, x.Rows⟩, ⟨inferInstance, x.Log⟩, ⟨inferInstance, x.Heads⟩] := Ch.via (ChT.cons (ChT.cons (ChT.cons (ChT.cons (ChT.cons (ChT.one _))))))
instance : Lo Config := Lo.via (inferInstance : Rp (UInt32 × Int × Int × Int × Int × Int)) inferInstance (fun x : Config => (x.Id, x.Members, x.Chunk, x.Rows, x.Log, x.Heads))
theorem loConfig_0 (x : Config) : LoAt x 0 x.Id := fun F cs w h => (LoAt.fst : LoAt ((x.Id, x.Members, x.Chunk, x.Rows, x.Log, x.Heads)) 0 x.Id) F cs w h
theorem loConfig_1 (x : Config) : LoAt x 1 x.Members := fun F cs w h => ((LoAt.snd LoAt.fst) : LoAt ((x.Id, x.Members, x.Chunk, x.Rows, x.Log, x.Heads)) 1 x.Members) F cs w h
theorem loConfig_2 (x : Config) : LoAt x 2 x.Chunk := fun F cs w h => ((LoAt.snd (LoAt.snd LoAt.fst)) : LoAt ((x.Id, x.Members, x.Chunk, x.Rows, x.Log, x.Heads)) 2 x.Chunk) F cs w h
theorem loConfig_3 (x : Config) : LoAt x 3 x.Rows := fun F cs w h => ((LoAt.snd (LoAt.snd (LoAt.snd LoAt.fst))) : LoAt ((x.Id, x.Members, x.Chunk, x.Rows, x.Log, x.Heads)) 3 x.Rows) F cs w h
theorem loConfig_4 (x : Config) : LoAt x 4 x.Log := fun F cs w h => ((LoAt.snd (LoAt.snd (LoAt.snd (LoAt.snd LoAt.fst)))) : LoAt ((x.Id, x.Members, x.Chunk, x.Rows, x.Log, x.Heads)) 4 x.Log) F cs w h
theorem loConfig_5 (x : Config) : LoAt x 5 x.Heads := fun F cs w h => ((LoAt.snd (LoAt.snd (LoAt.snd (LoAt.snd (LoAt.snd LoAt.self))))) : LoAt ((x.Id, x.Members, x.Chunk, x.Rows, x.Log, x.Heads)) 5 x.Heads) F cs w h
instance : Flat Config := ⟨fun F F' x cs w w' h => Flat.flat (α := UInt32 × Int × Int × Int × Int × Int) F F' ((x.Id, x.Members, x.Chunk, x.Rows, x.Log, x.Heads)) cs w w' h⟩

structure Write where
  At : Int
  Data : List UInt8
  deriving Inhabited, DecidableEq
instance : Rp Write := Rp.via (inferInstance : Rp (Int × (List UInt8))) (fun x => (x.At, x.Data))
theorem chWrite (x : Write) : Ch x [⟨inferInstance, x.At⟩, ⟨inferInstance, x.Data⟩] := Ch.via (ChT.cons (ChT.one _))
instance : Lo Write := Lo.via (inferInstance : Rp (Int × (List UInt8))) inferInstance (fun x : Write => (x.At, x.Data))
theorem loWrite_0 (x : Write) : LoAt x 0 x.At := fun F cs w h => (LoAt.fst : LoAt ((x.At, x.Data)) 0 x.At) F cs w h
theorem loWrite_1 (x : Write) : LoAt x 1 x.Data := fun F cs w h => ((LoAt.snd LoAt.self) : LoAt ((x.At, x.Data)) 1 x.Data) F cs w h

structure Disk where
  Blocks : List (List UInt8)
  Wait : List Write
  Dead : Bool
  deriving Inhabited, DecidableEq
instance : Rp Disk := Rp.via (inferInstance : Rp ((List (List UInt8)) × (List Write) × Bool)) (fun x => (x.Blocks, x.Wait, x.Dead))
theorem chDisk (x : Disk) : Ch x [⟨inferInstance, x.Blocks⟩, ⟨inferInstance, x.Wait⟩, ⟨inferInstance, x.Dead⟩] := Ch.via (ChT.cons (ChT.cons (ChT.one _)))
instance : Lo Disk := Lo.via (inferInstance : Rp ((List (List UInt8)) × (List Write) × Bool)) inferInstance (fun x : Disk => (x.Blocks, x.Wait, x.Dead))
theorem loDisk_0 (x : Disk) : LoAt x 0 x.Blocks := fun F cs w h => (LoAt.fst : LoAt ((x.Blocks, x.Wait, x.Dead)) 0 x.Blocks) F cs w h
theorem loDisk_1 (x : Disk) : LoAt x 1 x.Wait := fun F cs w h => ((LoAt.snd LoAt.fst) : LoAt ((x.Blocks, x.Wait, x.Dead)) 1 x.Wait) F cs w h
theorem loDisk_2 (x : Disk) : LoAt x 2 x.Dead := fun F cs w h => ((LoAt.snd (LoAt.snd LoAt.self)) : LoAt ((x.Blocks, x.Wait, x.Dead)) 2 x.Dead) F cs w h

structure Arr3_Int where
  e0 : Int
  e1 : Int
  e2 : Int
  deriving Inhabited, DecidableEq
instance : Rp Arr3_Int := Rp.via (inferInstance : Rp (Int × Int × Int)) (fun x => (x.e0, x.e1, x.e2))
theorem chArr3_Int (x : Arr3_Int) : Ch x [⟨inferInstance, x.e0⟩, ⟨inferInstance, x.e1⟩, ⟨inferInstance, x.e2⟩] := Ch.via (ChT.cons (ChT.cons (ChT.one _)))
instance : Lo Arr3_Int := Lo.via (inferInstance : Rp (Int × Int × Int)) inferInstance (fun x : Arr3_Int => (x.e0, x.e1, x.e2))
theorem loArr3_Int_0 (x : Arr3_Int) : LoAt x 0 x.e0 := fun F cs w h => (LoAt.fst : LoAt ((x.e0, x.e1, x.e2)) 0 x.e0) F cs w h
theorem loArr3_Int_1 (x : Arr3_Int) : LoAt x 1 x.e1 := fun F cs w h => ((LoAt.snd LoAt.fst) : LoAt ((x.e0, x.e1, x.e2)) 1 x.e1) F cs w h
theorem loArr3_Int_2 (x : Arr3_Int) : LoAt x 2 x.e2 := fun F cs w h => ((LoAt.snd (LoAt.snd LoAt.self)) : LoAt ((x.e0, x.e1, x.e2)) 2 x.e2) F cs w h
instance : Flat Arr3_Int := ⟨fun F F' x cs w w' h => Flat.flat (α := Int × Int × Int) F F' ((x.e0, x.e1, x.e2)) cs w w' h⟩

structure Row74 where
  Config : Config
  n : Int
  deriving Inhabited, DecidableEq
instance : Rp Row74 := Rp.via (inferInstance : Rp (Config × Int)) (fun x => (x.Config, x.n))
theorem chRow74 (x : Row74) : Ch x [⟨inferInstance, x.Config⟩, ⟨inferInstance, x.n⟩] := Ch.via (ChT.cons (ChT.one _))
instance : Lo Row74 := Lo.via (inferInstance : Rp (Config × Int)) inferInstance (fun x : Row74 => (x.Config, x.n))
theorem loRow74_0 (x : Row74) : LoAt x 0 x.Config := fun F cs w h => (LoAt.fst : LoAt ((x.Config, x.n)) 0 x.Config) F cs w h
theorem loRow74_1 (x : Row74) : LoAt x 6 x.n := fun F cs w h => ((LoAt.snd LoAt.self) : LoAt ((x.Config, x.n)) 6 x.n) F cs w h
instance : Flat Row74 := ⟨fun F F' x cs w w' h => Flat.flat (α := Config × Int) F F' ((x.Config, x.n)) cs w w' h⟩

theorem zl49 : ZeroLs Try.prog 49 [(false, 1, Fact.nilv), (false, 1, Fact.nilv), (false, 1, Fact.rep [] (false : Bool))] := ⟨⟨[.slice none 0 0, .slice none 0 0, .bool false], by kernel_rfl, fun g w => FldRel.zn (FldRel.zn (FldRel.zr (fun _ _ => rfl) (rfl)))⟩⟩
theorem bd49 : BuildTy Try.prog 49 [(0, 1), (1, 1), (2, 1)] [(false, 1, Fact.nilv), (false, 1, Fact.nilv), (false, 1, Fact.rep [] (false : Bool))] := ⟨⟨_, [.slice none 0 0, .slice none 0 0, .bool false], by kernel_rfl, Try.underlying49, (fun g w => FldRel.zn (FldRel.zn (FldRel.zr (fun _ _ => rfl) (rfl)))), by kernel_rfl⟩⟩
theorem ty49 : Ty Try.prog 49 (Disk) := Ty.of (by kernel_rfl)
theorem ow46 : OwnTy Try.prog 46 28 (List UInt8) := OwnTy.of Try.underlying46 (by kernel_rfl) rfl (by kernel_rfl)
theorem zt28 : ZeroTy Try.prog 28 ([] : List UInt8) := ⟨.slice none 0 0, by kernel_rfl, fun _ => nil_rel⟩
theorem en35 : enters Try.prog 35 = true := by kernel_rfl
theorem ow28 : OwnTy Try.prog 28 5 (UInt8) := OwnTy.of Try.underlying28 (by kernel_rfl) rfl (by kernel_rfl)
theorem sl28 : SlTy Try.prog 28 5 (UInt8) := SlTy.of Try.underlying28 (by kernel_rfl) rfl
theorem ty5 : Ty Try.prog 5 (UInt8) := Ty.of (by kernel_rfl)
theorem zt5 : ZeroTy Try.prog 5 (0 : UInt8) := ⟨.int .u8 0, by kernel_rfl, fun _ => rfl⟩
theorem en37 : enters Try.prog 37 = true := by kernel_rfl
theorem ty3 : Ty Try.prog 3 (Int) := Ty.of (by kernel_rfl)
theorem fd49_0 : FieldTy Try.prog 49 0 0 1 := FieldTy.of Try.underlying49 (by kernel_rfl) rfl
theorem ty46 : Ty Try.prog 46 (List (List UInt8)) := Ty.of (by kernel_rfl)
theorem zl3 : ZeroLs Try.prog 3 [(false, 1, Fact.rep [] ((0 : Int) : Int))] := ⟨⟨[.int .i64 0], by kernel_rfl, fun g w => FldRel.zr (fun _ _ => rfl) (rfl)⟩⟩
theorem fd49_1 : FieldTy Try.prog 49 1 1 1 := FieldTy.of Try.underlying49 (by kernel_rfl) rfl
theorem ty47 : Ty Try.prog 47 (List Write) := Ty.of (by kernel_rfl)
theorem sl46 : SlTy Try.prog 46 28 (List UInt8) := SlTy.of Try.underlying46 (by kernel_rfl) rfl
theorem ty28 : Ty Try.prog 28 (List UInt8) := Ty.of (by kernel_rfl)
theorem en74 : enters Try.prog 74 = true := by kernel_rfl
theorem en51 : enters Try.prog 51 = true := by kernel_rfl
theorem en50 : enters Try.prog 50 = true := by kernel_rfl
theorem sl47 : SlTy Try.prog 47 52 (Write) := SlTy.of Try.underlying47 (by kernel_rfl) rfl
theorem ty52 : Ty Try.prog 52 (Write) := Ty.of (by kernel_rfl)
theorem en75 : enters Try.prog 75 = true := by kernel_rfl
theorem fd52_0 : FieldTy Try.prog 52 0 0 1 := FieldTy.of Try.underlying52 (by kernel_rfl) rfl
theorem fd52_1 : FieldTy Try.prog 52 1 1 1 := FieldTy.of Try.underlying52 (by kernel_rfl) rfl
theorem en53 : enters Try.prog 53 = true := by kernel_rfl
theorem en52 : enters Try.prog 52 = true := by kernel_rfl
theorem fd49_2 : FieldTy Try.prog 49 2 2 1 := FieldTy.of Try.underlying49 (by kernel_rfl) rfl
theorem ty4 : Ty Try.prog 4 (Bool) := Ty.of (by kernel_rfl)
theorem en54 : enters Try.prog 54 = true := by kernel_rfl
theorem en30 : enters Try.prog 30 = true := by kernel_rfl
theorem en68 : enters Try.prog 68 = true := by kernel_rfl
theorem en61 : enters Try.prog 61 = true := by kernel_rfl
theorem en70 : enters Try.prog 70 = true := by kernel_rfl
theorem mixed : Try.prog.follows .mixedOrders = true := by kernel_rfl
theorem zl52 : ZeroLs Try.prog 52 [(false, 1, Fact.rep [] ((0 : Int) : Int)), (false, 1, Fact.nilv)] := ⟨⟨[.int .i64 0, .slice none 0 0], by kernel_rfl, fun g w => FldRel.zr (fun _ _ => rfl) (FldRel.zn (rfl))⟩⟩
theorem bd52 : BuildTy Try.prog 52 [(0, 1), (1, 1)] [(false, 1, Fact.rep [] ((0 : Int) : Int)), (false, 1, Fact.nilv)] := ⟨⟨_, [.int .i64 0, .slice none 0 0], by kernel_rfl, Try.underlying52, (fun g w => FldRel.zr (fun _ _ => rfl) (FldRel.zn (rfl))), by kernel_rfl⟩⟩
theorem ow47 : OwnTy Try.prog 47 52 (Write) := OwnTy.of Try.underlying47 (by kernel_rfl) rfl (by kernel_rfl)
theorem en62 : enters Try.prog 62 = true := by kernel_rfl
theorem en43 : enters Try.prog 43 = true := by kernel_rfl
theorem en63 : enters Try.prog 63 = true := by kernel_rfl
theorem en64 : enters Try.prog 64 = true := by kernel_rfl
theorem zt52 : ZeroTy Try.prog 52 (Write.mk (0 : Int) ([] : List UInt8)) := ⟨.agg #[.int .i64 0, .slice none 0 0], by kernel_rfl, fun _ => ⟨[.int .i64 0], [.slice none 0 0], rfl, rfl, nil_rel⟩⟩
theorem en36 : enters Try.prog 36 = true := by kernel_rfl
theorem ow25 : OwnTy Try.prog 25 49 (Disk) := OwnTy.of Try.underlying25 (by kernel_rfl) rfl (by kernel_rfl)
theorem en16 : enters Try.prog 16 = true := by kernel_rfl
theorem zl24 : ZeroLs Try.prog 24 [(false, 1, Fact.rep [] ((0 : UInt32) : UInt32)), (false, 1, Fact.rep [] ((0 : Int) : Int)), (false, 1, Fact.rep [] ((0 : Int) : Int)), (false, 1, Fact.rep [] ((0 : Int) : Int)), (false, 1, Fact.rep [] ((0 : Int) : Int)), (false, 1, Fact.rep [] ((0 : Int) : Int))] := ⟨⟨[.int .u32 0, .int .i64 0, .int .i64 0, .int .i64 0, .int .i64 0, .int .i64 0], by kernel_rfl, fun g w => FldRel.zr (fun _ _ => rfl) (FldRel.zr (fun _ _ => rfl) (FldRel.zr (fun _ _ => rfl) (FldRel.zr (fun _ _ => rfl) (FldRel.zr (fun _ _ => rfl) (FldRel.zr (fun _ _ => rfl) (rfl))))))⟩⟩
theorem bd24 : BuildTy Try.prog 24 [(0, 1), (1, 1), (2, 1), (3, 1), (4, 1), (5, 1)] [(false, 1, Fact.rep [] ((0 : UInt32) : UInt32)), (false, 1, Fact.rep [] ((0 : Int) : Int)), (false, 1, Fact.rep [] ((0 : Int) : Int)), (false, 1, Fact.rep [] ((0 : Int) : Int)), (false, 1, Fact.rep [] ((0 : Int) : Int)), (false, 1, Fact.rep [] ((0 : Int) : Int))] := ⟨⟨_, [.int .u32 0, .int .i64 0, .int .i64 0, .int .i64 0, .int .i64 0, .int .i64 0], by kernel_rfl, Try.underlying24, (fun g w => FldRel.zr (fun _ _ => rfl) (FldRel.zr (fun _ _ => rfl) (FldRel.zr (fun _ _ => rfl) (FldRel.zr (fun _ _ => rfl) (FldRel.zr (fun _ _ => rfl) (FldRel.zr (fun _ _ => rfl) (rfl))))))), by kernel_rfl⟩⟩
theorem ty24 : Ty Try.prog 24 (Config) := Ty.of (by kernel_rfl)
theorem en14 : enters Try.prog 14 = true := by kernel_rfl
theorem zl28 : ZeroLs Try.prog 28 [(false, 1, Fact.nilv)] := ⟨⟨[.slice none 0 0], by kernel_rfl, fun g w => FldRel.zn (rfl)⟩⟩
theorem zl29 : ZeroLs Try.prog 29 [(false, 1, Fact.rep [] ((0 : Int) : Int))] := ⟨⟨[.int .i64 0], by kernel_rfl, fun g w => FldRel.zr (fun _ _ => rfl) (rfl)⟩⟩
theorem ty25 : Ty Try.prog 25 (List Disk) := Ty.of (by kernel_rfl)
theorem fd24_2 : FieldTy Try.prog 24 2 2 1 := FieldTy.of Try.underlying24 (by kernel_rfl) rfl
theorem fd24_3 : FieldTy Try.prog 24 3 3 1 := FieldTy.of Try.underlying24 (by kernel_rfl) rfl
theorem fd24_1 : FieldTy Try.prog 24 1 1 1 := FieldTy.of Try.underlying24 (by kernel_rfl) rfl
theorem bd106 : BuildTyA Try.prog 106 [(0, 1), (1, 1), (2, 1)] [(false, 1, Fact.rep [] ((0 : Int) : Int)), (false, 1, Fact.rep [] ((0 : Int) : Int)), (false, 1, Fact.rep [] ((0 : Int) : Int))] := ⟨⟨_, _, 1, [.int .i64 0, .int .i64 0, .int .i64 0], by kernel_rfl, Try.underlying106, by kernel_rfl, (fun g w => FldRel.zr (fun _ _ => rfl) (FldRel.zr (fun _ _ => rfl) (FldRel.zr (fun _ _ => rfl) (rfl)))), rfl⟩⟩
theorem fd24_5 : FieldTy Try.prog 24 5 5 1 := FieldTy.of Try.underlying24 (by kernel_rfl) rfl
theorem ow107 : OwnTy Try.prog 107 106 (Arr3_Int) := OwnTy.of Try.underlying107 (by kernel_rfl) rfl (by kernel_rfl)
theorem sl107 : SlTy Try.prog 107 106 (Arr3_Int) := SlTy.of Try.underlying107 (by kernel_rfl) rfl
theorem ty106 : Ty Try.prog 106 (Arr3_Int) := Ty.of (by kernel_rfl)
theorem zl106 : ZeroLs Try.prog 106 [(false, 1, Fact.rep [] ((0 : Int) : Int)), (false, 1, Fact.rep [] ((0 : Int) : Int)), (false, 1, Fact.rep [] ((0 : Int) : Int))] := ⟨⟨[.int .i64 0, .int .i64 0, .int .i64 0], by kernel_rfl, fun g w => FldRel.zr (fun _ _ => rfl) (FldRel.zr (fun _ _ => rfl) (FldRel.zr (fun _ _ => rfl) (rfl)))⟩⟩
theorem sm106 : SmTy Try.prog 106 3 3 1 := ⟨Try.underlying106, by kernel_rfl⟩
theorem en78 : enters Try.prog 78 = true := by kernel_rfl
theorem fd24_4 : FieldTy Try.prog 24 4 4 1 := FieldTy.of Try.underlying24 (by kernel_rfl) rfl
theorem en73 : enters Try.prog 73 = true := by kernel_rfl
theorem en49 : enters Try.prog 49 = true := by kernel_rfl
theorem en28 : enters Try.prog 28 = true := by kernel_rfl
theorem sl25 : SlTy Try.prog 25 49 (Disk) := SlTy.of Try.underlying25 (by kernel_rfl) rfl
theorem en29 : enters Try.prog 29 = true := by kernel_rfl
theorem en11 : enters Try.prog 11 = true := by kernel_rfl
theorem ty29 : Ty Try.prog 29 (Int) := Ty.of (by kernel_rfl)
theorem zl74 : ZeroLs Try.prog 74 [(false, 1, Fact.rep [] ((0 : UInt32) : UInt32)), (false, 1, Fact.rep [] ((0 : Int) : Int)), (false, 1, Fact.rep [] ((0 : Int) : Int)), (false, 1, Fact.rep [] ((0 : Int) : Int)), (false, 1, Fact.rep [] ((0 : Int) : Int)), (false, 1, Fact.rep [] ((0 : Int) : Int)), (false, 1, Fact.rep [] ((0 : Int) : Int))] := ⟨⟨[.int .u32 0, .int .i64 0, .int .i64 0, .int .i64 0, .int .i64 0, .int .i64 0, .int .i64 0], by kernel_rfl, fun g w => FldRel.zr (fun _ _ => rfl) (FldRel.zr (fun _ _ => rfl) (FldRel.zr (fun _ _ => rfl) (FldRel.zr (fun _ _ => rfl) (FldRel.zr (fun _ _ => rfl) (FldRel.zr (fun _ _ => rfl) (FldRel.zr (fun _ _ => rfl) (rfl)))))))⟩⟩
theorem en65 : enters Try.prog 65 = true := by kernel_rfl
theorem bd74 : BuildTy Try.prog 74 [(0, 6), (6, 1)] [(true, 6, Fact.flds [(false, 1, Fact.rep [] ((0 : UInt32) : UInt32)), (false, 1, Fact.rep [] ((0 : Int) : Int)), (false, 1, Fact.rep [] ((0 : Int) : Int)), (false, 1, Fact.rep [] ((0 : Int) : Int)), (false, 1, Fact.rep [] ((0 : Int) : Int)), (false, 1, Fact.rep [] ((0 : Int) : Int))]), (false, 1, Fact.rep [] ((0 : Int) : Int))] := ⟨⟨_, [.int .u32 0, .int .i64 0, .int .i64 0, .int .i64 0, .int .i64 0, .int .i64 0, .int .i64 0], by kernel_rfl, Try.underlying74, (fun g w => FldRel.zs (c1 := [.int .u32 0, .int .i64 0, .int .i64 0, .int .i64 0, .int .i64 0, .int .i64 0]) (FldRel.zr (fun _ _ => rfl) (FldRel.zr (fun _ _ => rfl) (FldRel.zr (fun _ _ => rfl) (FldRel.zr (fun _ _ => rfl) (FldRel.zr (fun _ _ => rfl) (FldRel.zr (fun _ _ => rfl) (rfl))))))) (FldRel.zr (fun _ _ => rfl) (rfl))), by kernel_rfl⟩⟩
theorem ty74 : Ty Try.prog 74 (Row74) := Ty.of (by kernel_rfl)
theorem en66 : enters Try.prog 66 = true := by kernel_rfl
theorem en39 : enters Try.prog 39 = true := by kernel_rfl
theorem fd74_1 : FieldTy Try.prog 74 1 6 1 := FieldTy.of Try.underlying74 (by kernel_rfl) rfl
theorem fd74_0 : FieldTy Try.prog 74 0 0 6 := FieldTy.of Try.underlying74 (by kernel_rfl) rfl
theorem en67 : enters Try.prog 67 = true := by kernel_rfl
theorem en40 : enters Try.prog 40 = true := by kernel_rfl
theorem en19 : enters Try.prog 19 = true := by kernel_rfl
theorem zl54 : ZeroLs Try.prog 54 [(false, 1, Fact.top)] := ⟨⟨[.nilFunc], by kernel_rfl, fun g w => FldRel.zt (rfl)⟩⟩
theorem tc54 : Ty Try.prog 54 Cell1 := Ty.of (by kernel_rfl)
theorem ty54 : Ty Try.prog 54 (Int) := Ty.of (by kernel_rfl)
theorem en23 : enters Try.prog 23 = true := by kernel_rfl
theorem en41 : enters Try.prog 41 = true := by kernel_rfl
theorem en42 : enters Try.prog 42 = true := by kernel_rfl
theorem en69 : enters Try.prog 69 = true := by kernel_rfl
theorem en20 : enters Try.prog 20 = true := by kernel_rfl
theorem zl46 : ZeroLs Try.prog 46 [(false, 1, Fact.nilv)] := ⟨⟨[.slice none 0 0], by kernel_rfl, fun g w => FldRel.zn (rfl)⟩⟩
theorem en24 : enters Try.prog 24 = true := by kernel_rfl
theorem ar83 : ArrTy Try.prog 83 5 128 (UInt8) (0 : UInt8) := ArrTy.of Try.underlying83 rfl (by kernel_rfl) (by kernel_rfl) (fun _ => rfl)
theorem en25 : enters Try.prog 25 = true := by kernel_rfl
theorem en44 : enters Try.prog 44 = true := by kernel_rfl
theorem en9 : enters Try.prog 9 = true := by kernel_rfl
theorem en38 : enters Try.prog 38 = true := by kernel_rfl
theorem en34 : enters Try.prog 34 = true := by kernel_rfl
theorem en15 : enters Try.prog 15 = true := by kernel_rfl
theorem en17 : enters Try.prog 17 = true := by kernel_rfl
theorem en21 : enters Try.prog 21 = true := by kernel_rfl
theorem en7 : enters Try.prog 7 = true := by kernel_rfl

/-- freeboard/disk.New -/
def disk_New (a0 : Int) : Option (Disk × Int) :=
  (bif ((decide (a0 < (1 : Int))) || (decide (a0 > (256 : Int)))) then some ((Disk.mk ([] : List (List UInt8)) ([] : List Write) false), (2 : Int)) else Option.bind (makeL ([] : List UInt8) a0) (fun x1 => some ((Disk.mk x1 ([] : List Write) false), (0 : Int))))
set_option maxRecDepth 100000 in
set_option maxHeartbeats 2000000 in
theorem disk_New_c (a0 : Int) {r : Disk × Int} (hm : disk_New a0 = some r) : Ctr Try.prog 35 [.rep 0 a0] (.tup2 (.flds [(false, 1, (.own 0 none 28 r.1.Blocks)), (false, 1, (.own 0 none 52 r.1.Wait)), (false, 1, (.fl r.1.Dead))]) (.fl r.2)) [] := by
 refine ctr_of_walk [[14]] 14 Try.func35 rfl rfl rfl rfl (fun w0 om => ?_)
 unfold disk_New at hm
 refine CWalk.sub (G' := [.fact 0 (.rep [] (a0 : Int))]) (Sub.cons (Has.fl (Has.s rfl)) Sub.nil) ?_
 refine CWalk.seq ?_
 refine CWalk.region ?_
 refine ws (Step.allocObj (ls := [(false, 1, Fact.nilv), (false, 1, Fact.nilv), (false, 1, Fact.rep [] (false : Bool))]) 10 rfl rfl rfl rfl zl49) ?_
 refine wo (Spec.assign Has.int) ?_
 refine Walk.nil ?_
 refine Leaf.thenN ?_
 refine CWalk.seq ?_
 refine CWalk.seq ?_
 refine CWalk.region ?_
 refine mv ?_
 refine wo (Spec.lssI (Has.s rfl) Has.int) ?_
 refine mv ?_
 refine wg rfl rfl (fun hb => Spec.move (Has.s rfl)) ?_
 refine wg rfl rfl (fun hb => Spec.gtrI (Has.u rfl hb) Has.int) ?_
 refine wo (Spec.or (Has.s rfl) (fun h => Has.u rfl h)) ?_
 refine Walk.nil ?_
 refine Leaf.thenN ?_
 refine CWalk.cond rfl (fun hb => ?_) (fun hb => ?_)
 ·have hm := cond_t hb hm
  refine CWalk.seq ?_
  refine CWalk.region ?_
  refine wo (Spec.build (us := []) (ls' := [(false, 1, Fact.nilv), (false, 1, Fact.nilv), (false, 1, Fact.rep [] (false : Bool))]) bd49 rfl BP.nil) ?_
  refine ws (Step.storeObj (ls := [(false, 1, Fact.nilv), (false, 1, Fact.nilv), (false, 1, Fact.rep [] (false : Bool))]) rfl ty49 rfl rfl (Has.s rfl) rfl (HasL.flds (Has.s rfl)) rfl) ?_
  refine wo (Spec.assign Has.int) ?_
  refine Walk.nil ?_
  refine Leaf.thenN ?_
  refine CWalk.ret ?_
  refine Leaf.thenR ?_
  obtain rfl := Option.some.inj hm
  exact Leaf.retC2 rfl (HasR.cv (HasR.obj (ls := [(false, 1, Fact.nilv), (false, 1, Fact.nilv), (false, 1, Fact.rep [] (false : Bool))]) ty49 rfl rfl (Has.s rfl) rfl (HasGs.cons (HasG.s rfl) (HasGs.cons (HasG.s rfl) (HasGs.cons (HasG.s rfl) HasGs.nil)))) (Cv.flds (CvL.cons (Cv.trans Cv.nilOw (Cv.owM (T := []) (te := []) rfl rfl)) (CvL.cons (Cv.trans Cv.nilOw (Cv.owM (T := []) (te := []) rfl rfl)) (CvL.cons Cv.fl CvL.nil))))) (HasR.cv (HasR.tmp (Has.s rfl)) Cv.fl)
 ·have hm := cond_f hb hm
  refine CWalk.skip ?_
  refine Leaf.thenN ?_
  refine CWalk.seq ?_
  refine CWalk.region ?_
  refine mv ?_
  obtain ⟨x1, hx1, hm⟩ := bind_some hm
  refine ws (Step.makeOwn 14 hx1 rfl rfl ow46 zt28 (Has.s rfl)) ?_
  refine wo (Spec.build (us := [(0, .tmp 12)]) (ls' := [(false, 1, Fact.isv 14), (false, 1, Fact.nilv), (false, 1, Fact.rep [] (false : Bool))]) bd49 rfl (BP.cons rfl rfl (Has.cv (Has.s rfl) (Cv.own rfl)) (Has.s rfl) BP.nil)) ?_
  refine ws (Step.storeObj (ls := [(false, 1, Fact.isv 14), (false, 1, Fact.nilv), (false, 1, Fact.rep [] (false : Bool))]) rfl ty49 rfl rfl (Has.s rfl) rfl (HasL.flds (Has.s rfl)) rfl) ?_
  refine wo (Spec.assign Has.int) ?_
  refine Walk.nil ?_
  refine Leaf.thenN ?_
  refine CWalk.ret ?_
  obtain rfl := Option.some.inj hm
  exact Leaf.retC2 rfl (HasR.cv (HasR.obj (ls := [(false, 1, Fact.isv 14), (false, 1, Fact.nilv), (false, 1, Fact.rep [] (false : Bool))]) ty49 rfl rfl (Has.s rfl) rfl (HasGs.cons (HasG.s rfl) (HasGs.cons (HasG.s rfl) (HasGs.cons (HasG.s rfl) HasGs.nil)))) (Cv.flds (CvL.cons (Cv.trans (Cv.isvOw rfl) (Cv.owM (T := [14]) (te := []) rfl rfl)) (CvL.cons (Cv.trans Cv.nilOw (Cv.owM (T := []) (te := []) rfl rfl)) (CvL.cons Cv.fl CvL.nil))))) (HasR.cv (HasR.tmp (Has.s rfl)) Cv.fl)

def law20_full_L1 (a0 : UInt8) (s2 : Int) (s3 : List UInt8) : Option (Ctl (Int × (List UInt8)) ((List UInt8))) :=
  (bif (decide (s2 < ((s3).length : Int))) then Option.bind (bnd (s3).length s2) (fun x5 => some (Ctl.next ((wI (s2 + (1 : Int))), (s3).set x5 a0))) else some (Ctl.brk s3))
/-- freeboard/freeboardlaw20.full -/
def law20_full (a0 : UInt8) : Option ((List UInt8)) :=
  Option.bind (makeL (0 : UInt8) (128 : Int)) (fun x1 => Option.bind (loopM (fun s : Int × (List UInt8) => law20_full_L1 a0 s.1 s.2) FUEL ((0 : Int), x1)) (fun b6 => some b6))
set_option maxRecDepth 100000 in
set_option maxHeartbeats 2000000 in
theorem law20_full_c (a0 : UInt8) {r : (List UInt8)} (hm : law20_full a0 = some r) : Ctr Try.prog 37 [.rep 0 a0] (.own 0 none 5 r) [] := by
 refine ctr_of_walk [[10]] 17 Try.func37 rfl rfl rfl rfl (fun w0 om => ?_)
 unfold law20_full at hm
 refine CWalk.sub (G' := [.fact 0 (.rep [] (a0 : UInt8))]) (Sub.cons (Has.fl (Has.s rfl)) Sub.nil) ?_
 refine CWalk.seq ?_
 refine CWalk.region ?_
 refine wo (Spec.assign Has.nilv) ?_
 refine Walk.nil ?_
 refine Leaf.thenN ?_
 refine CWalk.seq ?_
 refine CWalk.region ?_
 obtain ⟨x1, hx1, hm⟩ := bind_some hm
 refine ws (Step.makeOwn 10 hx1 rfl rfl ow28 zt5 Has.int) ?_
 refine wo (Spec.assign (Has.s rfl)) ?_
 refine Walk.nil ?_
 refine Leaf.thenN ?_
 refine CWalk.seq ?_
 refine CWalk.seq ?_
 refine CWalk.region ?_
 refine wo (Spec.assign Has.int) ?_
 refine Walk.nil ?_
 refine Leaf.thenN ?_
 refine CWalk.block ?_
 obtain ⟨b6, hb6, hm⟩ := bind_some hm
 refine CWalk.loop (fun s : Int × (List UInt8) => [.fact 0 (.rep [] (a0 : UInt8)), .fact 3 (.isv 10), .fact 4 (.rep [] s.1), .fact 100010 (.own 10 [] 5 (s.2 : List UInt8))]) (fun b : (List UInt8) => (Exit.exit 0, [.fact 3 (.isv 10), .fact 100010 (.own 10 [] 5 (b : List UInt8))])) hb6 (st (sn (st (Sub.cons (Has.ownM (Has.s rfl) rfl) Sub.nil)))) ?_ ?_
 ·rintro ⟨s2, s3⟩ c4 hm
  replace hm : law20_full_L1 a0 s2 s3 = some c4 := hm
  unfold law20_full_L1 at hm
  show CWalk _ [.fact 0 (.rep [] (a0 : UInt8)), .fact 3 (.isv 10), .fact 4 (.rep [] (s2 : Int)), .fact 100010 (.own 10 [] 5 (s3 : List UInt8))] _ _
  refine CWalk.seq ?_
  refine CWalk.seq ?_
  refine CWalk.region ?_
  refine mv ?_
  refine mv ?_
  refine wo (Spec.len (Has.cv (Has.s rfl) (Cv.own rfl)) Try.underlying28) ?_
  refine wo (Spec.lssI (Has.s rfl) (Has.s rfl)) ?_
  refine Walk.nil ?_
  refine Leaf.thenN ?_
  refine CWalk.cond rfl (fun hb => ?_) (fun hb => ?_)
  ·have hm := cond_t hb hm
   refine CWalk.skip ?_
   refine Leaf.thenN ?_
   refine CWalk.seq ?_
   refine CWalk.block ?_
   refine CWalk.region ?_
   refine mv ?_
   refine mv ?_
   refine mv ?_
   obtain ⟨x5, hx5, hm⟩ := bind_some hm
   refine wo (Spec.idxOwn hx5 ow28 (Has.s rfl) rfl (Has.s rfl)) ?_
   refine ws (Step.storeOwn (te' := []) rfl (bnd_lt hx5 rfl) ty5 (Has.s rfl) rfl (Has.s rfl) ElKeep.flat ElKeep.flat) ?_
   refine Walk.nil ?_
   refine Leaf.blockN ?_
   refine Leaf.thenN ?_
   refine CWalk.region ?_
   refine mv ?_
   refine wo (Spec.addI (Has.s rfl) Has.int) ?_
   refine wo (Spec.assign (Has.s rfl)) ?_
   refine Walk.nil ?_
   exact Leaf.next hm (st (sn (st (Sub.cons (Has.ownM (Has.s rfl) rfl) Sub.nil))))
  ·have hm := cond_f hb hm
   refine CWalk.exit ?_
   refine Leaf.thenE ?_
   exact Leaf.brk hm (fun h => nomatch h) rfl (sn (Sub.cons (Has.ownM (Has.s rfl) rfl) Sub.nil))
 ·intro _
  refine Leaf.blockE ?_
  refine Leaf.thenN ?_
  refine CWalk.seq ?_
  refine CWalk.region ?_
  refine mv ?_
  refine wo (Spec.assign (Has.s rfl)) ?_
  refine Walk.nil ?_
  refine Leaf.thenN ?_
  refine CWalk.ret ?_
  obtain rfl := Option.some.inj hm
  exact Leaf.retC1 rfl (HasR.cv (HasR.tmp (Has.s rfl)) (Cv.trans (Cv.isvOw rfl) (Cv.owF (T := [10]) (te := []) rfl)))

def slices_IndexFunc_byte_byte_L1 (a0 : List (List UInt8)) (a1 : (List UInt8) → Option Bool) (s1 : Int) : Option (Ctl (Int) ((Unit) ⊕ (Int))) :=
  (bif (decide (s1 < ((a0).length : Int))) then Option.bind (idx a0 s1) (fun x3 => Option.bind (a1 x3) (fun x4 => (bif x4 then some (Ctl.brk (Sum.inr s1)) else some (Ctl.next (wI (s1 + (1 : Int))))))) else some (Ctl.brk (Sum.inl ())))
/-- slices.IndexFunc[[][]byte,[]byte] -/
def slices_IndexFunc_byte_byte (a0 : List (List UInt8)) (a1 : (List UInt8) → Option Bool) : Option (Int) :=
  Option.bind (loopM (fun s : Int => slices_IndexFunc_byte_byte_L1 a0 a1 s) FUEL (0 : Int)) (fun b5 => Sum.elim (fun b6 => some (-1 : Int)) (fun b7 => some b7) b5)
set_option maxRecDepth 100000 in
set_option maxHeartbeats 2000000 in
theorem slices_IndexFunc_byte_byte_c (a0 : List (List UInt8)) (a1 : (List UInt8) → Option Bool) {r : Int} (hm : slices_IndexFunc_byte_byte a0 a1 = some r) : Ctr Try.prog 74 [.rep 0 a0, .fn Try.prog pre1 0 a1] (.fl r) [] := by
 refine ctr_of_walk [[]] 19 Try.func74 rfl rfl rfl rfl (fun w0 om => ?_)
 unfold slices_IndexFunc_byte_byte at hm
 refine CWalk.sub (G' := [.fact 0 (.rep [0] (a0 : List (List UInt8))), .fact 1 (.fn Try.prog pre1 [0] (a1))]) (sn (sn Sub.nil)) ?_
 refine CWalk.seq ?_
 refine CWalk.region ?_
 refine wo (Spec.assign Has.int) ?_
 refine Walk.nil ?_
 refine Leaf.thenN ?_
 refine CWalk.seq ?_
 refine CWalk.seq ?_
 refine CWalk.region ?_
 refine mv ?_
 refine wo (Spec.len (Has.s rfl) Try.underlying46) ?_
 refine wo (Spec.move Has.int) ?_
 refine Walk.nil ?_
 refine Leaf.thenN ?_
 refine CWalk.block ?_
 obtain ⟨b5, hb5, hm⟩ := bind_some hm
 refine CWalk.loop (fun s : Int => [.fact 0 (.rep [0] (a0 : List (List UInt8))), .fact 1 (.fn Try.prog pre1 [0] (a1)), .fact 7 (.rep [] (((a0).length : Int) : Int)), .fact 8 (.rep [] (s : Int))]) (fun b : (Unit) ⊕ (Int) => Sum.elim (fun b => (Exit.exit 0, [])) (fun b => (Exit.ret, [.fact 4 (.rep [] (b : Int))])) b) hb5 (su (sn (st (st Sub.nil)))) ?_ ?_
 ·rintro s1 c2 hm
  replace hm : slices_IndexFunc_byte_byte_L1 a0 a1 s1 = some c2 := hm
  unfold slices_IndexFunc_byte_byte_L1 at hm
  show CWalk _ [.fact 0 (.rep [0] (a0 : List (List UInt8))), .fact 1 (.fn Try.prog pre1 [0] (a1)), .fact 7 (.rep [] (((a0).length : Int) : Int)), .fact 8 (.rep [] (s1 : Int))] _ _
  refine CWalk.seq ?_
  refine CWalk.region ?_
  refine wo (Spec.lssI (Has.s rfl) (Has.s rfl)) ?_
  refine Walk.nil ?_
  refine Leaf.thenN ?_
  refine CWalk.seq ?_
  refine CWalk.cond rfl (fun hb => ?_) (fun hb => ?_)
  ·have hm := cond_t hb hm
   refine CWalk.skip ?_
   refine Leaf.thenN ?_
   refine CWalk.seq ?_
   refine CWalk.block ?_
   refine CWalk.seq ?_
   refine CWalk.region ?_
   refine mv ?_
   refine wo (Spec.assign (Has.s rfl)) ?_
   refine Walk.nil ?_
   refine Leaf.thenN ?_
   refine CWalk.seq ?_
   refine CWalk.region ?_
   refine mv ?_
   refine mv ?_
   refine mv ?_
   obtain ⟨x3, hx3, hm⟩ := bind_some hm
   refine wo (Spec.indexAddr hx3 sl46 (Has.s rfl) (Has.s rfl)) ?_
   refine wo (Spec.load ty28 (Has.s rfl)) ?_
   obtain ⟨x4, hx4, hm⟩ := bind_some hm
   refine wo (Spec.callFn (xs := [.tmp 15]) (x := x3) [0] 10 rfl hx4 (Has.s rfl) (HasAll.cons (Has.m (Has.s rfl) rfl) HasAll.nil)) ?_
   refine Walk.nil ?_
   refine Leaf.thenN ?_
   refine CWalk.cond rfl (fun hb => ?_) (fun hb => ?_)
   ·have hm := cond_t hb hm
    refine CWalk.seq ?_
    refine CWalk.region ?_
    refine mv ?_
    refine wo (Spec.assign (Has.s rfl)) ?_
    refine Walk.nil ?_
    refine Leaf.thenN ?_
    refine CWalk.ret ?_
    refine Leaf.blockR ?_
    refine Leaf.thenR ?_
    exact Leaf.brk hm (fun h => nomatch h) rfl (st Sub.nil)
   ·have hm := cond_f hb hm
    refine CWalk.skip ?_
    refine Leaf.blockN ?_
    refine Leaf.thenN ?_
    refine CWalk.region ?_
    refine wo (Spec.addI (Has.s rfl) Has.int) ?_
    refine mv ?_
    refine Walk.nil ?_
    exact Leaf.next hm (su (sn (st (st Sub.nil))))
  ·have hm := cond_f hb hm
   refine CWalk.exit ?_
   refine Leaf.thenE ?_
   exact Leaf.brk hm (fun h => nomatch h) rfl (Sub.nil)
 ·intro _
  rcases b5 with b6 | b7
  ·have hm := selim_l hm
   refine Leaf.blockE ?_
   refine Leaf.thenN ?_
   refine CWalk.seq ?_
   refine CWalk.region ?_
   refine wo (Spec.assign Has.int) ?_
   refine Walk.nil ?_
   refine Leaf.thenN ?_
   refine CWalk.ret ?_
   obtain rfl := Option.some.inj hm
   exact Leaf.retC1 rfl (HasR.cv (HasR.tmp (Has.s rfl)) Cv.fl)
  ·have hm := selim_r hm
   refine Leaf.blockR ?_
   refine Leaf.thenR ?_
   obtain rfl := Option.some.inj hm
   exact Leaf.retC1 rfl (HasR.cv (HasR.tmp (Has.s rfl)) Cv.fl)

/-- slices.ContainsFunc[[][]byte,[]byte] -/
def slices_ContainsFunc_byte_byte (a0 : List (List UInt8)) (a1 : (List UInt8) → Option Bool) : Option (Bool) :=
  Option.bind (slices_IndexFunc_byte_byte a0 a1) (fun x1 => some (decide (x1 ≥ (0 : Int))))
set_option maxRecDepth 100000 in
set_option maxHeartbeats 2000000 in
theorem slices_ContainsFunc_byte_byte_c (a0 : List (List UInt8)) (a1 : (List UInt8) → Option Bool) {r : Bool} (hm : slices_ContainsFunc_byte_byte a0 a1 = some r) : Ctr Try.prog 50 [.rep 0 a0, .fn Try.prog pre1 0 a1] (.fl r) [] := by
 refine ctr_of_walk [[]] 9 Try.func50 rfl rfl rfl rfl (fun w0 om => ?_)
 unfold slices_ContainsFunc_byte_byte at hm
 refine CWalk.sub (G' := [.fact 0 (.rep [0] (a0 : List (List UInt8))), .fact 1 (.fn Try.prog pre1 [0] (a1))]) (sn (sn Sub.nil)) ?_
 refine CWalk.seq ?_
 refine CWalk.region ?_
 refine wo (Spec.assign Has.bool) ?_
 refine Walk.nil ?_
 refine Leaf.thenN ?_
 refine CWalk.seq ?_
 refine CWalk.region ?_
 refine mv ?_
 refine mv ?_
 obtain ⟨x1, hx1, hm⟩ := bind_some hm
 refine wo (f := Fact.rep [] (x1 : Int)) (Spec.callE [0] 10 rfl en74 (slices_IndexFunc_byte_byte_c a0 a1 hx1) (HasAll.cons (Has.m (Has.s rfl) rfl) (HasAll.cons (Has.cv (Has.s rfl) (Cv.fnM rfl)) HasAll.nil))) ?_
 refine wo (Spec.geqI (Has.s rfl) Has.int) ?_
 refine wo (Spec.assign (Has.s rfl)) ?_
 refine Walk.nil ?_
 refine Leaf.thenN ?_
 refine CWalk.ret ?_
 obtain rfl := Option.some.inj hm
 exact Leaf.retC1 rfl (HasR.cv (HasR.tmp (Has.s rfl)) Cv.fl)

/-- freeboard/disk.odd -/
def disk_odd (a0 : List UInt8) : Option (Bool) :=
  some ((((a0).length : Int) != (0 : Int)) && (((a0).length : Int) != (128 : Int)))
set_option maxRecDepth 100000 in
set_option maxHeartbeats 2000000 in
theorem disk_odd_c (a0 : List UInt8) {r : Bool} (hm : disk_odd a0 = some r) : Ctr Try.prog 51 [.rep 0 a0] (.fl r) [] := by
 refine ctr_of_walk [[]] 11 Try.func51 rfl rfl rfl rfl (fun w0 om => ?_)
 unfold disk_odd at hm
 refine CWalk.sub (G' := [.fact 0 (.rep [0] (a0 : List UInt8))]) (sn Sub.nil) ?_
 refine CWalk.seq ?_
 refine CWalk.region ?_
 refine wo (Spec.assign Has.bool) ?_
 refine Walk.nil ?_
 refine Leaf.thenN ?_
 refine CWalk.seq ?_
 refine CWalk.region ?_
 refine mv ?_
 refine wo (Spec.len (Has.s rfl) Try.underlying28) ?_
 refine wo (Spec.neqI (Has.s rfl) Has.int) ?_
 refine mv ?_
 refine wg rfl rfl (fun hb => Spec.move (Has.s rfl)) ?_
 refine wg rfl rfl (fun hb => Spec.len (Has.u rfl hb) Try.underlying28) ?_
 refine wg rfl rfl (fun hb => Spec.neqI (Has.u rfl hb) Has.int) ?_
 refine wo (Spec.and (Has.s rfl) (fun h => Has.u rfl h)) ?_
 refine wo (Spec.assign (Has.s rfl)) ?_
 refine Walk.nil ?_
 refine Leaf.thenN ?_
 refine CWalk.ret ?_
 obtain rfl := Option.some.inj hm
 exact Leaf.retC1 rfl (HasR.cv (HasR.tmp (Has.s rfl)) Cv.fl)

def slices_IndexFunc_api_Write_api_Write_L1 (a0 : List Write) (a1 : Write → Option Bool) (s1 : Int) : Option (Ctl (Int) ((Unit) ⊕ (Int))) :=
  (bif (decide (s1 < ((a0).length : Int))) then Option.bind (idx a0 s1) (fun x3 => Option.bind (a1 x3) (fun x4 => (bif x4 then some (Ctl.brk (Sum.inr s1)) else some (Ctl.next (wI (s1 + (1 : Int))))))) else some (Ctl.brk (Sum.inl ())))
/-- slices.IndexFunc[[]freeboard/api.Write,freeboard/api.Write] -/
def slices_IndexFunc_api_Write_api_Write (a0 : List Write) (a1 : Write → Option Bool) : Option (Int) :=
  Option.bind (loopM (fun s : Int => slices_IndexFunc_api_Write_api_Write_L1 a0 a1 s) FUEL (0 : Int)) (fun b5 => Sum.elim (fun b6 => some (-1 : Int)) (fun b7 => some b7) b5)
set_option maxRecDepth 100000 in
set_option maxHeartbeats 2000000 in
theorem slices_IndexFunc_api_Write_api_Write_c (a0 : List Write) (a1 : Write → Option Bool) {r : Int} (hm : slices_IndexFunc_api_Write_api_Write a0 a1 = some r) : Ctr Try.prog 75 [.rep 0 a0, .fn Try.prog pre1 0 a1] (.fl r) [] := by
 refine ctr_of_walk [[]] 19 Try.func75 rfl rfl rfl rfl (fun w0 om => ?_)
 unfold slices_IndexFunc_api_Write_api_Write at hm
 refine CWalk.sub (G' := [.fact 0 (.rep [0] (a0 : List Write)), .fact 1 (.fn Try.prog pre1 [0] (a1))]) (sn (sn Sub.nil)) ?_
 refine CWalk.seq ?_
 refine CWalk.region ?_
 refine wo (Spec.assign Has.int) ?_
 refine Walk.nil ?_
 refine Leaf.thenN ?_
 refine CWalk.seq ?_
 refine CWalk.seq ?_
 refine CWalk.region ?_
 refine mv ?_
 refine wo (Spec.len (Has.s rfl) Try.underlying47) ?_
 refine wo (Spec.move Has.int) ?_
 refine Walk.nil ?_
 refine Leaf.thenN ?_
 refine CWalk.block ?_
 obtain ⟨b5, hb5, hm⟩ := bind_some hm
 refine CWalk.loop (fun s : Int => [.fact 0 (.rep [0] (a0 : List Write)), .fact 1 (.fn Try.prog pre1 [0] (a1)), .fact 7 (.rep [] (((a0).length : Int) : Int)), .fact 8 (.rep [] (s : Int))]) (fun b : (Unit) ⊕ (Int) => Sum.elim (fun b => (Exit.exit 0, [])) (fun b => (Exit.ret, [.fact 4 (.rep [] (b : Int))])) b) hb5 (su (sn (st (st Sub.nil)))) ?_ ?_
 ·rintro s1 c2 hm
  replace hm : slices_IndexFunc_api_Write_api_Write_L1 a0 a1 s1 = some c2 := hm
  unfold slices_IndexFunc_api_Write_api_Write_L1 at hm
  show CWalk _ [.fact 0 (.rep [0] (a0 : List Write)), .fact 1 (.fn Try.prog pre1 [0] (a1)), .fact 7 (.rep [] (((a0).length : Int) : Int)), .fact 8 (.rep [] (s1 : Int))] _ _
  refine CWalk.seq ?_
  refine CWalk.region ?_
  refine wo (Spec.lssI (Has.s rfl) (Has.s rfl)) ?_
  refine Walk.nil ?_
  refine Leaf.thenN ?_
  refine CWalk.seq ?_
  refine CWalk.cond rfl (fun hb => ?_) (fun hb => ?_)
  ·have hm := cond_t hb hm
   refine CWalk.skip ?_
   refine Leaf.thenN ?_
   refine CWalk.seq ?_
   refine CWalk.block ?_
   refine CWalk.seq ?_
   refine CWalk.region ?_
   refine mv ?_
   refine wo (Spec.assign (Has.s rfl)) ?_
   refine Walk.nil ?_
   refine Leaf.thenN ?_
   refine CWalk.seq ?_
   refine CWalk.region ?_
   refine mv ?_
   refine mv ?_
   refine mv ?_
   obtain ⟨x3, hx3, hm⟩ := bind_some hm
   refine wo (Spec.indexAddr hx3 sl47 (Has.s rfl) (Has.s rfl)) ?_
   refine wo (Spec.load ty52 (Has.s rfl)) ?_
   obtain ⟨x4, hx4, hm⟩ := bind_some hm
   refine wo (Spec.callFn (xs := [.tmp 15]) (x := x3) [0] 10 rfl hx4 (Has.s rfl) (HasAll.cons (Has.m (Has.s rfl) rfl) HasAll.nil)) ?_
   refine Walk.nil ?_
   refine Leaf.thenN ?_
   refine CWalk.cond rfl (fun hb => ?_) (fun hb => ?_)
   ·have hm := cond_t hb hm
    refine CWalk.seq ?_
    refine CWalk.region ?_
    refine mv ?_
    refine wo (Spec.assign (Has.s rfl)) ?_
    refine Walk.nil ?_
    refine Leaf.thenN ?_
    refine CWalk.ret ?_
    refine Leaf.blockR ?_
    refine Leaf.thenR ?_
    exact Leaf.brk hm (fun h => nomatch h) rfl (st Sub.nil)
   ·have hm := cond_f hb hm
    refine CWalk.skip ?_
    refine Leaf.blockN ?_
    refine Leaf.thenN ?_
    refine CWalk.region ?_
    refine wo (Spec.addI (Has.s rfl) Has.int) ?_
    refine mv ?_
    refine Walk.nil ?_
    exact Leaf.next hm (su (sn (st (st Sub.nil))))
  ·have hm := cond_f hb hm
   refine CWalk.exit ?_
   refine Leaf.thenE ?_
   exact Leaf.brk hm (fun h => nomatch h) rfl (Sub.nil)
 ·intro _
  rcases b5 with b6 | b7
  ·have hm := selim_l hm
   refine Leaf.blockE ?_
   refine Leaf.thenN ?_
   refine CWalk.seq ?_
   refine CWalk.region ?_
   refine wo (Spec.assign Has.int) ?_
   refine Walk.nil ?_
   refine Leaf.thenN ?_
   refine CWalk.ret ?_
   obtain rfl := Option.some.inj hm
   exact Leaf.retC1 rfl (HasR.cv (HasR.tmp (Has.s rfl)) Cv.fl)
  ·have hm := selim_r hm
   refine Leaf.blockR ?_
   refine Leaf.thenR ?_
   obtain rfl := Option.some.inj hm
   exact Leaf.retC1 rfl (HasR.cv (HasR.tmp (Has.s rfl)) Cv.fl)

/-- slices.ContainsFunc[[]freeboard/api.Write,freeboard/api.Write] -/
def slices_ContainsFunc_api_Write_api_Write (a0 : List Write) (a1 : Write → Option Bool) : Option (Bool) :=
  Option.bind (slices_IndexFunc_api_Write_api_Write a0 a1) (fun x1 => some (decide (x1 ≥ (0 : Int))))
set_option maxRecDepth 100000 in
set_option maxHeartbeats 2000000 in
theorem slices_ContainsFunc_api_Write_api_Write_c (a0 : List Write) (a1 : Write → Option Bool) {r : Bool} (hm : slices_ContainsFunc_api_Write_api_Write a0 a1 = some r) : Ctr Try.prog 52 [.rep 0 a0, .fn Try.prog pre1 0 a1] (.fl r) [] := by
 refine ctr_of_walk [[]] 9 Try.func52 rfl rfl rfl rfl (fun w0 om => ?_)
 unfold slices_ContainsFunc_api_Write_api_Write at hm
 refine CWalk.sub (G' := [.fact 0 (.rep [0] (a0 : List Write)), .fact 1 (.fn Try.prog pre1 [0] (a1))]) (sn (sn Sub.nil)) ?_
 refine CWalk.seq ?_
 refine CWalk.region ?_
 refine wo (Spec.assign Has.bool) ?_
 refine Walk.nil ?_
 refine Leaf.thenN ?_
 refine CWalk.seq ?_
 refine CWalk.region ?_
 refine mv ?_
 refine mv ?_
 obtain ⟨x1, hx1, hm⟩ := bind_some hm
 refine wo (f := Fact.rep [] (x1 : Int)) (Spec.callE [0] 10 rfl en75 (slices_IndexFunc_api_Write_api_Write_c a0 a1 hx1) (HasAll.cons (Has.m (Has.s rfl) rfl) (HasAll.cons (Has.cv (Has.s rfl) (Cv.fnM rfl)) HasAll.nil))) ?_
 refine wo (Spec.geqI (Has.s rfl) Has.int) ?_
 refine wo (Spec.assign (Has.s rfl)) ?_
 refine Walk.nil ?_
 refine Leaf.thenN ?_
 refine CWalk.ret ?_
 obtain rfl := Option.some.inj hm
 exact Leaf.retC1 rfl (HasR.cv (HasR.tmp (Has.s rfl)) Cv.fl)

/-- freeboard/disk.Check$1 -/
def disk_Check_1 (a0 : Write) (a1 : Int) : Option (Bool) :=
  Option.bind (gO (!((decide (a0.At < (0 : Int))) || (decide (a0.At ≥ a1)))) (disk_odd a0.Data)) (fun x1 => some (((decide (a0.At < (0 : Int))) || (decide (a0.At ≥ a1))) || x1))
set_option maxRecDepth 100000 in
set_option maxHeartbeats 2000000 in
theorem disk_Check_1_c (a0 : Write) (a1 : Int) {r : Bool} (hm : disk_Check_1 a0 a1 = some r) : Ctr Try.prog 53 [.rep 0 a0, .ptr 0 a1] (.fl r) [] := by
 refine ctr_of_walk [[]] 18 Try.func53 rfl rfl rfl rfl (fun w0 om => ?_)
 unfold disk_Check_1 at hm
 refine CWalk.sub (G' := [.fact 0 (.rep [0] (a0 : Write)), .fact 1 (.ptr [0] (a1 : Int))]) (sn (sn Sub.nil)) ?_
 refine CWalk.seq ?_
 refine CWalk.region ?_
 refine ws (Step.boxObj (ls := [(false, 1, Fact.rep [] a0.At), (false, 1, Fact.rep [0] a0.Data)]) 10 rfl rfl rfl rfl (HasL.flds (Has.cv (Has.s rfl) (Cv.trans (Cv.opens (chWrite a0)) (Cv.flds (CvL.cons Cv.fl (CvL.cons Cv.refl CvL.nil))))))) ?_
 refine wo (Spec.assign Has.bool) ?_
 refine Walk.nil ?_
 refine Leaf.thenN ?_
 refine CWalk.seq ?_
 refine CWalk.region ?_
 refine wo (Spec.fieldAddrO fd52_0 (Has.cv (Has.s rfl) (Cv.isvP rfl))) ?_
 refine wo (Spec.loadF (i := 0) ty3 rfl (Has.s rfl) rfl (HasG.s rfl)) ?_
 refine wo (Spec.lssI (Has.s rfl) Has.int) ?_
 refine mv ?_
 refine wg rfl rfl (fun hb => Spec.fieldAddrO fd52_0 (Has.cv (Has.s rfl) (Cv.isvP rfl))) ?_
 refine wg rfl rfl (fun hb => Spec.loadF (i := 0) ty3 rfl (Has.u rfl hb) rfl (HasG.s rfl)) ?_
 refine wg rfl rfl (fun hb => (Spec.load ty3 (Has.s rfl)).flat (T' := [])) ?_
 refine wg rfl rfl (fun hb => Spec.geqI (Has.u rfl hb) (Has.u rfl hb)) ?_
 refine wo (Spec.or (Has.s rfl) (fun h => Has.u rfl h)) ?_
 refine mv ?_
 refine wg rfl rfl (fun hb => Spec.fieldAddrO fd52_1 (Has.cv (Has.s rfl) (Cv.isvP rfl))) ?_
 refine wg rfl rfl (fun hb => Spec.loadF (i := 1) ty28 rfl (Has.u rfl hb) rfl (HasG.s rfl)) ?_
 obtain ⟨x1, hx1, hm⟩ := bind_some hm
 refine wg (f := Fact.rep [] (x1 : Bool)) rfl rfl (fun hb => Spec.callE [0] 13 rfl en51 (disk_odd_c a0.Data (gO_t hx1 (not_t hb))) (HasAll.cons (Has.m (Has.u rfl hb) rfl) HasAll.nil)) ?_
 refine wo (Spec.or (Has.s rfl) (fun h => Has.u rfl h)) ?_
 refine wo (Spec.assign (Has.s rfl)) ?_
 refine Walk.nil ?_
 refine Leaf.thenN ?_
 refine CWalk.ret ?_
 obtain rfl := Option.some.inj hm
 exact Leaf.retC1 rfl (HasR.cv (HasR.tmp (Has.s rfl)) Cv.fl)

/-- freeboard/disk.Check$2 -/
def disk_Check_2 (a0 : List UInt8) : Option (Bool) :=
  some (decide (((a0).length : Int) > (0 : Int)))
set_option maxRecDepth 100000 in
set_option maxHeartbeats 2000000 in
theorem disk_Check_2_c (a0 : List UInt8) {r : Bool} (hm : disk_Check_2 a0 = some r) : Ctr Try.prog 54 [.rep 0 a0] (.fl r) [] := by
 refine ctr_of_walk [[]] 6 Try.func54 rfl rfl rfl rfl (fun w0 om => ?_)
 unfold disk_Check_2 at hm
 refine CWalk.sub (G' := [.fact 0 (.rep [0] (a0 : List UInt8))]) (sn Sub.nil) ?_
 refine CWalk.seq ?_
 refine CWalk.region ?_
 refine wo (Spec.assign Has.bool) ?_
 refine Walk.nil ?_
 refine Leaf.thenN ?_
 refine CWalk.seq ?_
 refine CWalk.region ?_
 refine mv ?_
 refine wo (Spec.len (Has.s rfl) Try.underlying28) ?_
 refine wo (Spec.gtrI (Has.s rfl) Has.int) ?_
 refine wo (Spec.assign (Has.s rfl)) ?_
 refine Walk.nil ?_
 refine Leaf.thenN ?_
 refine CWalk.ret ?_
 obtain rfl := Option.some.inj hm
 exact Leaf.retC1 rfl (HasR.cv (HasR.tmp (Has.s rfl)) Cv.fl)

/-- freeboard/disk.Check -/
def disk_Check (a0 : Disk) : Option (Int) :=
  Option.bind (gO (!(((decide (((a0.Blocks).length : Int) < (1 : Int))) || (decide (((a0.Blocks).length : Int) > (256 : Int)))) || (decide (((a0.Wait).length : Int) > (1024 : Int))))) (slices_ContainsFunc_byte_byte a0.Blocks (fun y => disk_odd y))) (fun x1 => (bif ((((decide (((a0.Blocks).length : Int) < (1 : Int))) || (decide (((a0.Blocks).length : Int) > (256 : Int)))) || (decide (((a0.Wait).length : Int) > (1024 : Int)))) || x1) then some (8 : Int) else Option.bind (slices_ContainsFunc_api_Write_api_Write a0.Wait (fun y => disk_Check_1 y ((a0.Blocks).length : Int))) (fun x2 => (bif x2 then some (8 : Int) else Option.bind (gO ((a0.Dead) && (!(decide (((a0.Wait).length : Int) > (0 : Int))))) (slices_ContainsFunc_byte_byte a0.Blocks (fun y => disk_Check_2 y))) (fun x3 => (bif (a0.Dead && ((decide (((a0.Wait).length : Int) > (0 : Int))) || x3)) then some (8 : Int) else some (0 : Int)))))))
set_option maxRecDepth 100000 in
set_option maxHeartbeats 2000000 in
theorem disk_Check_c (a0 : Disk) {r : Int} (hm : disk_Check a0 = some r) : Ctr Try.prog 30 [.rep 0 a0] (.fl r) [] := by
 refine ctr_of_walk [[]] 41 Try.func30 rfl rfl rfl rfl (fun w0 om => ?_)
 unfold disk_Check at hm
 refine CWalk.sub (G' := [.fact 0 (.rep [0] (a0 : Disk))]) (sn Sub.nil) ?_
 refine CWalk.seq ?_
 refine CWalk.region ?_
 refine ws (Step.boxObj (ls := [(false, 1, Fact.rep [0] a0.Blocks), (false, 1, Fact.rep [0] a0.Wait), (false, 1, Fact.rep [] a0.Dead)]) 10 rfl rfl rfl rfl (HasL.flds (Has.cv (Has.s rfl) (Cv.trans (Cv.opens (chDisk a0)) (Cv.flds (CvL.cons Cv.refl (CvL.cons Cv.refl (CvL.cons Cv.fl CvL.nil)))))))) ?_
 refine wo (Spec.assign Has.int) ?_
 refine Walk.nil ?_
 refine Leaf.thenN ?_
 refine CWalk.seq ?_
 refine CWalk.region ?_
 refine wo (Spec.fieldAddrO fd49_0 (Has.cv (Has.s rfl) (Cv.isvP rfl))) ?_
 refine wo (Spec.loadF (i := 0) ty46 rfl (Has.s rfl) rfl (HasG.s rfl)) ?_
 refine wo (Spec.len (Has.s rfl) Try.underlying46) ?_
 refine ws (Step.allocObj (ls := [(false, 1, Fact.rep [] ((0 : Int) : Int))]) 14 rfl rfl rfl rfl zl3) ?_
 refine ws (Step.storeF (i := 0) (f := Fact.rep [] (((a0.Blocks).length : Int) : Int)) rfl ty3 rfl (Has.cv (Has.s rfl) (Cv.isvP rfl)) rfl (Has.s rfl) (Has.s rfl) rfl) ?_
 refine Walk.nil ?_
 refine Leaf.thenN ?_
 refine CWalk.seq ?_
 refine CWalk.seq ?_
 refine CWalk.region ?_
 refine wo (Spec.loadF (i := 0) ty3 rfl (Has.cv (Has.s rfl) (Cv.isvP rfl)) rfl (HasG.s rfl)) ?_
 refine wo (Spec.lssI (Has.s rfl) Has.int) ?_
 refine mv ?_
 refine wg rfl rfl (fun hb => Spec.loadF (i := 0) ty3 rfl (Has.cv (Has.s rfl) (Cv.isvP rfl)) rfl (HasG.s rfl)) ?_
 refine wg rfl rfl (fun hb => Spec.gtrI (Has.u rfl hb) Has.int) ?_
 refine wo (Spec.or (Has.s rfl) (fun h => Has.u rfl h)) ?_
 refine mv ?_
 refine wg rfl rfl (fun hb => Spec.fieldAddrO fd49_1 (Has.cv (Has.s rfl) (Cv.isvP rfl))) ?_
 refine wg rfl rfl (fun hb => Spec.loadF (i := 1) ty47 rfl (Has.u rfl hb) rfl (HasG.s rfl)) ?_
 refine wg rfl rfl (fun hb => Spec.len (Has.u rfl hb) Try.underlying47) ?_
 refine wg rfl rfl (fun hb => Spec.gtrI (Has.u rfl hb) Has.int) ?_
 refine wo (Spec.or (Has.s rfl) (fun h => Has.u rfl h)) ?_
 refine mv ?_
 refine wg rfl rfl (fun hb => Spec.fieldAddrO fd49_0 (Has.cv (Has.s rfl) (Cv.isvP rfl))) ?_
 refine wg rfl rfl (fun hb => Spec.loadF (i := 0) ty46 rfl (Has.u rfl hb) rfl (HasG.s rfl)) ?_
 obtain ⟨x1, hx1, hm⟩ := bind_some hm
 refine wg (f := Fact.rep [] (x1 : Bool)) rfl rfl (fun hb => Spec.callE [0] 16 rfl en50 (slices_ContainsFunc_byte_byte_c a0.Blocks (fun y => disk_odd y) (gO_t hx1 (not_t hb))) (HasAll.cons (Has.m (Has.u rfl hb) rfl) (HasAll.cons (Has.cv Has.func (Cv.fn (pu := []) (pc := []) (shc := []) en51 CvF.nil CvF.nil (fun y r h => disk_odd_c y h))) HasAll.nil))) ?_
 refine wo (Spec.or (Has.s rfl) (fun h => Has.u rfl h)) ?_
 refine Walk.nil ?_
 refine Leaf.thenN ?_
 refine CWalk.cond rfl (fun hb => ?_) (fun hb => ?_)
 ·have hm := cond_t hb hm
  refine CWalk.seq ?_
  refine CWalk.region ?_
  refine wo (Spec.assign Has.int) ?_
  refine Walk.nil ?_
  refine Leaf.thenN ?_
  refine CWalk.ret ?_
  refine Leaf.thenR ?_
  obtain rfl := Option.some.inj hm
  exact Leaf.retC1 rfl (HasR.cv (HasR.tmp (Has.s rfl)) Cv.fl)
 ·have hm := cond_f hb hm
  refine CWalk.skip ?_
  refine Leaf.thenN ?_
  refine CWalk.seq ?_
  refine CWalk.seq ?_
  refine CWalk.region ?_
  refine wo (Spec.fieldAddrO fd49_1 (Has.cv (Has.s rfl) (Cv.isvP rfl))) ?_
  refine wo (Spec.loadF (i := 1) ty47 rfl (Has.s rfl) rfl (HasG.s rfl)) ?_
  refine wo (Spec.makeFunc (xs := []) (ys := [.tmp 3]) rfl rfl HasF.nil (HasF.cons (Has.s rfl) HasF.nil) (fun _ _ _ => rfl)) ?_
  obtain ⟨x2, hx2, hm⟩ := bind_some hm
  refine wo (f := Fact.rep [] (x2 : Bool)) (Spec.callE [0, 14] 17 rfl en52 (slices_ContainsFunc_api_Write_api_Write_c a0.Wait (fun y => disk_Check_1 y ((a0.Blocks).length : Int)) hx2) (HasAll.cons (Has.m (Has.s rfl) rfl) (HasAll.cons (Has.cv (Has.s rfl) (Cv.fn (pu := []) (pc := [.ptr 0 ((a0.Blocks).length : Int)]) (shc := []) en53 CvF.nil (CvF.cons (Cv.trans (Cv.objPtr1 (f := Fact.rep [] (((a0.Blocks).length : Int) : Int)) rfl rfl (HasG.s rfl) (Cv.fl (T' := []))) (Cv.ptrM rfl)) CvF.nil) (fun y r h => disk_Check_1_c y ((a0.Blocks).length : Int) h))) HasAll.nil))) ?_
  refine Walk.nil ?_
  refine Leaf.thenN ?_
  refine CWalk.cond rfl (fun hb => ?_) (fun hb => ?_)
  ·have hm := cond_t hb hm
   refine CWalk.seq ?_
   refine CWalk.region ?_
   refine wo (Spec.assign Has.int) ?_
   refine Walk.nil ?_
   refine Leaf.thenN ?_
   refine CWalk.ret ?_
   refine Leaf.thenR ?_
   obtain rfl := Option.some.inj hm
   exact Leaf.retC1 rfl (HasR.cv (HasR.tmp (Has.s rfl)) Cv.fl)
  ·have hm := cond_f hb hm
   refine CWalk.skip ?_
   refine Leaf.thenN ?_
   refine CWalk.seq ?_
   refine CWalk.seq ?_
   refine CWalk.region ?_
   refine wo (Spec.fieldAddrO fd49_2 (Has.cv (Has.s rfl) (Cv.isvP rfl))) ?_
   refine wo (Spec.loadF (i := 2) ty4 rfl (Has.s rfl) rfl (HasG.s rfl)) ?_
   refine mv ?_
   refine wg rfl rfl (fun hb => Spec.fieldAddrO fd49_1 (Has.cv (Has.s rfl) (Cv.isvP rfl))) ?_
   refine wg rfl rfl (fun hb => Spec.loadF (i := 1) ty47 rfl (Has.u rfl hb) rfl (HasG.s rfl)) ?_
   refine wg rfl rfl (fun hb => Spec.len (Has.u rfl hb) Try.underlying47) ?_
   refine wg rfl rfl (fun hb => Spec.gtrI (Has.u rfl hb) Has.int) ?_
   refine wg rfl rfl (fun hb => Spec.move (Has.u rfl hb)) ?_
   refine Walk.opgu rfl rfl rfl (fun hb => Spec.fieldAddrO fd49_0 (Has.cv (Has.s rfl) (Cv.isvP rfl))) ?_
   refine Walk.opgu rfl rfl rfl (fun hb => Spec.loadF (i := 0) ty46 rfl (Has.u rfl hb) rfl (HasG.s rfl)) ?_
   obtain ⟨x3, hx3, hm⟩ := bind_some hm
   refine Walk.opgu (f := Fact.rep [] (x3 : Bool)) rfl rfl rfl (fun hb => Spec.callE [0] 18 rfl en50 (slices_ContainsFunc_byte_byte_c a0.Blocks (fun y => disk_Check_2 y) (gO_t hx3 (and_t hb.1 (not_t hb.2)))) (HasAll.cons (Has.m (Has.u rfl hb) rfl) (HasAll.cons (Has.cv Has.func (Cv.fn (pu := []) (pc := []) (shc := []) en54 CvF.nil CvF.nil (fun y r h => disk_Check_2_c y h))) HasAll.nil))) ?_
   refine wg rfl rfl (fun hb => Spec.or (Has.u rfl hb) (fun h => Has.u rfl ⟨hb, h⟩)) ?_
   refine wo (Spec.and (Has.s rfl) (fun h => Has.u rfl h)) ?_
   refine Walk.nil ?_
   refine Leaf.thenN ?_
   refine CWalk.cond rfl (fun hb => ?_) (fun hb => ?_)
   ·have hm := cond_t hb hm
    refine CWalk.seq ?_
    refine CWalk.region ?_
    refine wo (Spec.assign Has.int) ?_
    refine Walk.nil ?_
    refine Leaf.thenN ?_
    refine CWalk.ret ?_
    refine Leaf.thenR ?_
    obtain rfl := Option.some.inj hm
    exact Leaf.retC1 rfl (HasR.cv (HasR.tmp (Has.s rfl)) Cv.fl)
   ·have hm := cond_f hb hm
    refine CWalk.skip ?_
    refine Leaf.thenN ?_
    refine CWalk.seq ?_
    refine CWalk.region ?_
    refine wo (Spec.assign Has.int) ?_
    refine Walk.nil ?_
    refine Leaf.thenN ?_
    refine CWalk.ret ?_
    obtain rfl := Option.some.inj hm
    exact Leaf.retC1 rfl (HasR.cv (HasR.tmp (Has.s rfl)) Cv.fl)

/-- freeboard/disk.place -/
def disk_place (a0 : Disk) (a1 : Int) : Option (Int) :=
  Option.bind (disk_Check a0) (fun x1 => (bif (x1 != (0 : Int)) then some x1 else (bif ((decide (a1 < (0 : Int))) || (decide (a1 ≥ ((a0.Blocks).length : Int)))) then some (2 : Int) else some (0 : Int))))
set_option maxRecDepth 100000 in
set_option maxHeartbeats 2000000 in
theorem disk_place_c (a0 : Disk) (a1 : Int) {r : Int} (hm : disk_place a0 a1 = some r) : Ctr Try.prog 68 [.rep 0 a0, .rep 0 a1] (.fl r) [] := by
 refine ctr_of_walk [[]] 20 Try.func68 rfl rfl rfl rfl (fun w0 om => ?_)
 unfold disk_place at hm
 refine CWalk.sub (G' := [.fact 0 (.rep [0] (a0 : Disk)), .fact 1 (.rep [] (a1 : Int))]) (sn (Sub.cons (Has.fl (Has.s rfl)) Sub.nil)) ?_
 refine CWalk.seq ?_
 refine CWalk.region ?_
 refine ws (Step.boxObj (ls := [(false, 1, Fact.rep [0] a0.Blocks), (false, 1, Fact.rep [0] a0.Wait), (false, 1, Fact.rep [] a0.Dead)]) 10 rfl rfl rfl rfl (HasL.flds (Has.cv (Has.s rfl) (Cv.trans (Cv.opens (chDisk a0)) (Cv.flds (CvL.cons Cv.refl (CvL.cons Cv.refl (CvL.cons Cv.fl CvL.nil)))))))) ?_
 refine wo (Spec.assign Has.int) ?_
 refine Walk.nil ?_
 refine Leaf.thenN ?_
 refine CWalk.seq ?_
 refine CWalk.seq ?_
 refine CWalk.region ?_
 refine wo (Spec.loadObj (ls := [(false, 1, Fact.rep [0] a0.Blocks), (false, 1, Fact.rep [0] a0.Wait), (false, 1, Fact.rep [] a0.Dead)]) ty49 rfl rfl (Has.s rfl) rfl (HasGs.cons (HasG.s rfl) (HasGs.cons (HasG.s rfl) (HasGs.cons (HasG.s rfl) HasGs.nil)))) ?_
 obtain ⟨x1, hx1, hm⟩ := bind_some hm
 refine wo (f := Fact.rep [] (x1 : Int)) (Spec.callE [0] 14 rfl en30 (disk_Check_c a0 hx1) (HasAll.cons (Has.m (Has.cv (Has.s rfl) (Cv.trans (Cv.flds (CvL.cons (Cv.m rfl) (CvL.cons (Cv.m rfl) (CvL.cons Cv.fl CvL.nil)))) (Cv.close (T := [0]) (chDisk a0)))) rfl) HasAll.nil)) ?_
 refine wo (Spec.assign (Has.s rfl)) ?_
 refine Walk.nil ?_
 refine Leaf.thenN ?_
 refine CWalk.seq ?_
 refine CWalk.region ?_
 refine mv ?_
 refine wo (Spec.neqI (Has.s rfl) Has.int) ?_
 refine Walk.nil ?_
 refine Leaf.thenN ?_
 refine CWalk.cond rfl (fun hb => ?_) (fun hb => ?_)
 ·have hm := cond_t hb hm
  refine CWalk.seq ?_
  refine CWalk.region ?_
  refine mv ?_
  refine wo (Spec.assign (Has.s rfl)) ?_
  refine Walk.nil ?_
  refine Leaf.thenN ?_
  refine CWalk.ret ?_
  refine Leaf.thenR ?_
  obtain rfl := Option.some.inj hm
  exact Leaf.retC1 rfl (HasR.cv (HasR.tmp (Has.s rfl)) Cv.fl)
 ·have hm := cond_f hb hm
  refine CWalk.skip ?_
  refine Leaf.thenN ?_
  refine CWalk.seq ?_
  refine CWalk.seq ?_
  refine CWalk.region ?_
  refine mv ?_
  refine wo (Spec.lssI (Has.s rfl) Has.int) ?_
  refine mv ?_
  refine wg rfl rfl (fun hb => Spec.move (Has.s rfl)) ?_
  refine wg rfl rfl (fun hb => Spec.fieldAddrO fd49_0 (Has.cv (Has.s rfl) (Cv.isvP rfl))) ?_
  refine wg rfl rfl (fun hb => Spec.loadF (i := 0) ty46 rfl (Has.u rfl hb) rfl (HasG.s rfl)) ?_
  refine wg rfl rfl (fun hb => Spec.len (Has.u rfl hb) Try.underlying46) ?_
  refine wg rfl rfl (fun hb => Spec.geqI (Has.u rfl hb) (Has.u rfl hb)) ?_
  refine wo (Spec.or (Has.s rfl) (fun h => Has.u rfl h)) ?_
  refine Walk.nil ?_
  refine Leaf.thenN ?_
  refine CWalk.cond rfl (fun hb => ?_) (fun hb => ?_)
  ·have hm := cond_t hb hm
   refine CWalk.seq ?_
   refine CWalk.region ?_
   refine wo (Spec.assign Has.int) ?_
   refine Walk.nil ?_
   refine Leaf.thenN ?_
   refine CWalk.ret ?_
   refine Leaf.thenR ?_
   obtain rfl := Option.some.inj hm
   exact Leaf.retC1 rfl (HasR.cv (HasR.tmp (Has.s rfl)) Cv.fl)
  ·have hm := cond_f hb hm
   refine CWalk.skip ?_
   refine Leaf.thenN ?_
   refine CWalk.seq ?_
   refine CWalk.region ?_
   refine wo (Spec.assign Has.int) ?_
   refine Walk.nil ?_
   refine Leaf.thenN ?_
   refine CWalk.ret ?_
   obtain rfl := Option.some.inj hm
   exact Leaf.retC1 rfl (HasR.cv (HasR.tmp (Has.s rfl)) Cv.fl)

/-- freeboard/disk.write -/
def disk_write (a0 : Disk) (a1 : Int) (a2 : List UInt8) : Option (Int) :=
  Option.bind (disk_place a0 a1) (fun x1 => (bif (x1 != (0 : Int)) then some x1 else Option.bind (disk_odd a2) (fun x2 => (bif x2 then some (3 : Int) else (bif a0.Dead then some (40 : Int) else some (0 : Int))))))
set_option maxRecDepth 100000 in
set_option maxHeartbeats 2000000 in
theorem disk_write_c (a0 : Disk) (a1 : Int) (a2 : List UInt8) {r : Int} (hm : disk_write a0 a1 a2 = some r) : Ctr Try.prog 61 [.rep 0 a0, .rep 0 a1, .rep 0 a2] (.fl r) [] := by
 refine ctr_of_walk [[]] 21 Try.func61 rfl rfl rfl rfl (fun w0 om => ?_)
 unfold disk_write at hm
 refine CWalk.sub (G' := [.fact 0 (.rep [0] (a0 : Disk)), .fact 1 (.rep [] (a1 : Int)), .fact 2 (.rep [0] (a2 : List UInt8))]) (sn (Sub.cons (Has.fl (Has.s rfl)) (sn Sub.nil))) ?_
 refine CWalk.seq ?_
 refine CWalk.region ?_
 refine ws (Step.boxObj (ls := [(false, 1, Fact.rep [0] a0.Blocks), (false, 1, Fact.rep [0] a0.Wait), (false, 1, Fact.rep [] a0.Dead)]) 10 rfl rfl rfl rfl (HasL.flds (Has.cv (Has.s rfl) (Cv.trans (Cv.opens (chDisk a0)) (Cv.flds (CvL.cons Cv.refl (CvL.cons Cv.refl (CvL.cons Cv.fl CvL.nil)))))))) ?_
 refine wo (Spec.assign Has.int) ?_
 refine Walk.nil ?_
 refine Leaf.thenN ?_
 refine CWalk.seq ?_
 refine CWalk.region ?_
 refine wo (Spec.loadObj (ls := [(false, 1, Fact.rep [0] a0.Blocks), (false, 1, Fact.rep [0] a0.Wait), (false, 1, Fact.rep [] a0.Dead)]) ty49 rfl rfl (Has.s rfl) rfl (HasGs.cons (HasG.s rfl) (HasGs.cons (HasG.s rfl) (HasGs.cons (HasG.s rfl) HasGs.nil)))) ?_
 refine mv ?_
 obtain ⟨x1, hx1, hm⟩ := bind_some hm
 refine wo (f := Fact.rep [] (x1 : Int)) (Spec.callE [0] 14 rfl en68 (disk_place_c a0 a1 hx1) (HasAll.cons (Has.m (Has.cv (Has.s rfl) (Cv.trans (Cv.flds (CvL.cons (Cv.m rfl) (CvL.cons (Cv.m rfl) (CvL.cons Cv.fl CvL.nil)))) (Cv.close (T := [0]) (chDisk a0)))) rfl) (HasAll.cons (Has.fl (Has.s rfl)) HasAll.nil))) ?_
 refine wo (Spec.assign (Has.s rfl)) ?_
 refine Walk.nil ?_
 refine Leaf.thenN ?_
 refine CWalk.seq ?_
 refine CWalk.block ?_
 refine CWalk.seq ?_
 refine CWalk.region ?_
 refine mv ?_
 refine wo (Spec.neqI (Has.s rfl) Has.int) ?_
 refine wo (Spec.assign (Has.s rfl)) ?_
 refine Walk.nil ?_
 refine Leaf.thenN ?_
 refine CWalk.cond rfl (fun hb => ?_) (fun hb => ?_)
 ·have hm := cond_t hb hm
  refine CWalk.seq ?_
  refine CWalk.region ?_
  refine mv ?_
  refine wo (Spec.assign (Has.s rfl)) ?_
  refine Walk.nil ?_
  refine Leaf.thenN ?_
  refine CWalk.ret ?_
  refine Leaf.blockR ?_
  refine Leaf.thenR ?_
  obtain rfl := Option.some.inj hm
  exact Leaf.retC1 rfl (HasR.cv (HasR.tmp (Has.s rfl)) Cv.fl)
 ·have hm := cond_f hb hm
  refine CWalk.seq ?_
  refine CWalk.region ?_
  refine mv ?_
  obtain ⟨x2, hx2, hm⟩ := bind_some hm
  refine wo (f := Fact.rep [] (x2 : Bool)) (Spec.callE [0] 15 rfl en51 (disk_odd_c a2 hx2) (HasAll.cons (Has.m (Has.s rfl) rfl) HasAll.nil)) ?_
  refine wo (Spec.assign (Has.s rfl)) ?_
  refine Walk.nil ?_
  refine Leaf.thenN ?_
  refine CWalk.cond rfl (fun hb => ?_) (fun hb => ?_)
  ·have hm := cond_t hb hm
   refine CWalk.seq ?_
   refine CWalk.region ?_
   refine wo (Spec.assign Has.int) ?_
   refine Walk.nil ?_
   refine Leaf.thenN ?_
   refine CWalk.ret ?_
   refine Leaf.blockR ?_
   refine Leaf.thenR ?_
   obtain rfl := Option.some.inj hm
   exact Leaf.retC1 rfl (HasR.cv (HasR.tmp (Has.s rfl)) Cv.fl)
  ·have hm := cond_f hb hm
   refine CWalk.seq ?_
   refine CWalk.region ?_
   refine wo (Spec.fieldAddrO fd49_2 (Has.cv (Has.s rfl) (Cv.isvP rfl))) ?_
   refine wo (Spec.loadF (i := 2) ty4 rfl (Has.s rfl) rfl (HasG.s rfl)) ?_
   refine wo (Spec.assign (Has.s rfl)) ?_
   refine Walk.nil ?_
   refine Leaf.thenN ?_
   refine CWalk.cond rfl (fun hb => ?_) (fun hb => ?_)
   ·have hm := cond_t hb hm
    refine CWalk.seq ?_
    refine CWalk.region ?_
    refine wo (Spec.assign Has.int) ?_
    refine Walk.nil ?_
    refine Leaf.thenN ?_
    refine CWalk.ret ?_
    refine Leaf.blockR ?_
    refine Leaf.thenR ?_
    obtain rfl := Option.some.inj hm
    exact Leaf.retC1 rfl (HasR.cv (HasR.tmp (Has.s rfl)) Cv.fl)
   ·have hm := cond_f hb hm
    refine CWalk.skip ?_
    refine Leaf.blockN ?_
    refine Leaf.thenN ?_
    refine CWalk.seq ?_
    refine CWalk.region ?_
    refine wo (Spec.assign Has.int) ?_
    refine Walk.nil ?_
    refine Leaf.thenN ?_
    refine CWalk.ret ?_
    obtain rfl := Option.some.inj hm
    exact Leaf.retC1 rfl (HasR.cv (HasR.tmp (Has.s rfl)) Cv.fl)

/-- slices.Clone[[]byte,byte] -/
def slices_Clone_byte_byte (a0 : List UInt8) : Option ((List UInt8)) :=
  Option.bind (app ([] : List UInt8) a0) (fun x1 => some x1)
set_option maxRecDepth 100000 in
set_option maxHeartbeats 2000000 in
theorem slices_Clone_byte_byte_c (a0 : List UInt8) {r : (List UInt8)} (hm : slices_Clone_byte_byte a0 = some r) : Ctr Try.prog 70 [.rep 0 a0] (.own 0 none 5 r) [] := by
 refine ctr_of_walk [[10]] 8 Try.func70 rfl rfl rfl rfl (fun w0 om => ?_)
 unfold slices_Clone_byte_byte at hm
 refine CWalk.sub (G' := [.fact 0 (.rep [0] (a0 : List UInt8))]) (sn Sub.nil) ?_
 refine CWalk.seq ?_
 refine CWalk.region ?_
 refine wo (Spec.assign Has.nilv) ?_
 refine Walk.nil ?_
 refine Leaf.thenN ?_
 refine CWalk.seq ?_
 refine CWalk.seq ?_
 refine CWalk.region ?_
 refine mv ?_
 refine wo (Spec.eqlNil Try.underlying28 (Has.s rfl)) ?_
 refine Walk.nil ?_
 refine Leaf.thenN ?_
 refine CWalk.condNil rfl (fun hb => ?_) ?_
 ·have hm : some ([] : List UInt8) = some r := by first | simpa [app, hb] using hm | simpa [hb] using hm
  refine CWalk.seq ?_
  refine CWalk.region ?_
  refine wo (Spec.assign Has.nilv) ?_
  refine Walk.nil ?_
  refine Leaf.thenN ?_
  refine CWalk.ret ?_
  refine Leaf.thenR ?_
  obtain rfl := Option.some.inj hm
  exact Leaf.retC1 rfl (HasR.cv (HasR.tmp (Has.s rfl)) (Cv.trans Cv.nilOw (Cv.owF (T := []) (te := []) rfl)))
 ·skip
  refine CWalk.skip ?_
  refine Leaf.thenN ?_
  refine CWalk.seq ?_
  refine CWalk.region ?_
  refine ws (Step.lit0 (α := UInt8) 10 rfl rfl ow28) ?_
  refine mv ?_
  obtain ⟨x1, hx1, hm⟩ := bind_some hm
  refine ws (Step.append (te' := []) 10 hx1 rfl rfl ow28 (Has.s rfl) rfl (Has.s rfl) ElKeep.flat ElKeep.flat) ?_
  refine wo (Spec.assign (Has.s rfl)) ?_
  refine Walk.nil ?_
  refine Leaf.thenN ?_
  refine CWalk.ret ?_
  obtain rfl := Option.some.inj hm
  exact Leaf.retC1 rfl (HasR.cv (HasR.tmp (Has.s rfl)) (Cv.trans (Cv.isvOw rfl) (Cv.owF (T := [10]) (te := []) rfl)))

def disk_Twin_L1 (a0 : Disk) (s1 : Int) (s2 : List (List UInt8)) : Option (Ctl (Int × (List (List UInt8))) ((List (List UInt8)))) :=
  (bif (decide (s1 < ((a0.Blocks).length : Int))) then Option.bind (idx a0.Blocks s1) (fun x4 => Option.bind (slices_Clone_byte_byte x4) (fun x5 => Option.bind (app s2 ([x5])) (fun x6 => some (Ctl.next ((wI (s1 + (1 : Int))), x6))))) else some (Ctl.brk s2))
def disk_Twin_L2 (a0 : Disk) (s8 : Int) (s9 : List Write) : Option (Ctl (Int × (List Write)) ((List Write))) :=
  (bif (decide (s8 < ((a0.Wait).length : Int))) then Option.bind (idx a0.Wait s8) (fun x11 => Option.bind (slices_Clone_byte_byte x11.Data) (fun x12 => Option.bind (app s9 ([(Write.mk x11.At x12)])) (fun x13 => some (Ctl.next ((wI (s8 + (1 : Int))), x13))))) else some (Ctl.brk s9))
/-- freeboard/disk.Twin -/
def disk_Twin (a0 : Disk) : Option (Disk) :=
  Option.bind (loopM (fun s : Int × (List (List UInt8)) => disk_Twin_L1 a0 s.1 s.2) FUEL ((0 : Int), ([] : List (List UInt8)))) (fun b7 => Option.bind (loopM (fun s : Int × (List Write) => disk_Twin_L2 a0 s.1 s.2) FUEL ((0 : Int), ([] : List Write))) (fun b14 => some (Disk.mk b7 b14 a0.Dead)))
set_option maxRecDepth 100000 in
set_option maxHeartbeats 2000000 in
theorem disk_Twin_c (a0 : Disk) {r : Disk} (hm : disk_Twin a0 = some r) : Ctr Try.prog 62 [.rep 0 a0] (.flds [(false, 1, (.own 0 (some 1) 28 r.Blocks)), (false, 1, (.own 2 (some 3) 52 r.Wait)), (false, 1, (.fl r.Dead))]) [] := by
 refine ctr_of_walk [[24], [22, 23], [30], [28, 29]] 46 Try.func62 rfl rfl rfl rfl (fun w0 om => ?_)
 unfold disk_Twin at hm
 refine CWalk.sub (G' := [.fact 0 (.rep [0] (a0 : Disk))]) (sn Sub.nil) ?_
 refine CWalk.seq ?_
 refine CWalk.region ?_
 refine ws (Step.boxObj (ls := [(false, 1, Fact.rep [0] a0.Blocks), (false, 1, Fact.rep [0] a0.Wait), (false, 1, Fact.rep [] a0.Dead)]) 10 rfl rfl rfl rfl (HasL.flds (Has.cv (Has.s rfl) (Cv.trans (Cv.opens (chDisk a0)) (Cv.flds (CvL.cons Cv.refl (CvL.cons Cv.refl (CvL.cons Cv.fl CvL.nil)))))))) ?_
 refine ws (Step.allocObj (ls := [(false, 1, Fact.nilv), (false, 1, Fact.nilv), (false, 1, Fact.rep [] (false : Bool))]) 14 rfl rfl rfl rfl zl49) ?_
 refine Walk.nil ?_
 refine Leaf.thenN ?_
 refine CWalk.seq ?_
 refine CWalk.region ?_
 refine wo (Spec.fieldAddrO fd49_2 (Has.cv (Has.s rfl) (Cv.isvP rfl))) ?_
 refine wo (Spec.loadF (i := 2) ty4 rfl (Has.s rfl) rfl (HasG.s rfl)) ?_
 refine wo (Spec.build (us := [(2, .tmp 9)]) (ls' := [(false, 1, Fact.nilv), (false, 1, Fact.nilv), (false, 1, Fact.rep [] a0.Dead)]) bd49 rfl (BP.cons rfl rfl (Has.s rfl) (Has.s rfl) BP.nil)) ?_
 refine ws (Step.allocObj (ls := [(false, 1, Fact.nilv), (false, 1, Fact.nilv), (false, 1, Fact.rep [] (false : Bool))]) 18 rfl rfl rfl rfl zl49) ?_
 refine ws (Step.storeObj (ls := [(false, 1, Fact.nilv), (false, 1, Fact.nilv), (false, 1, Fact.rep [] a0.Dead)]) rfl ty49 rfl rfl (Has.s rfl) rfl (HasL.flds (Has.s rfl)) rfl) ?_
 refine Walk.nil ?_
 refine Leaf.thenN ?_
 refine CWalk.seq ?_
 refine CWalk.seq ?_
 refine CWalk.region ?_
 refine wo (Spec.fieldAddrO fd49_0 (Has.cv (Has.s rfl) (Cv.isvP rfl))) ?_
 refine wo (Spec.loadF (i := 0) ty46 rfl (Has.s rfl) rfl (HasG.s rfl)) ?_
 refine wo (Spec.len (Has.s rfl) Try.underlying46) ?_
 refine wo (Spec.move Has.int) ?_
 refine Walk.nil ?_
 refine Leaf.thenN ?_
 refine CWalk.block ?_
 obtain ⟨b7, hb7, hm⟩ := bind_some hm
 refine CWalk.loop (fun s : Int × (List (List UInt8)) => [.fact 1 (.isv 10), .fact 2 (.isv 14), .fact 3 (.isv 18), .fact 12 (.rep [0] a0.Blocks), .fact 13 (.rep [] (((a0.Blocks).length : Int) : Int)), .fact 14 (.rep [] s.1), .fact 100011 (.at 11 (.rep [0] a0.Blocks)), .fact 100012 (.at 12 (.rep [0] a0.Wait)), .fact 100013 (.at 13 (.rep [] a0.Dead)), .fact 100015 (.at 15 (.nilv)), .fact 100016 (.at 16 (.nilv)), .fact 100017 (.at 17 (.rep [] (false : Bool))), .fact 100019 (.at 19 (.ow [24] [22, 23] 28 (s.2 : List (List UInt8)))), .fact 100020 (.at 20 (.nilv)), .fact 100021 (.at 21 (.rep [] a0.Dead)), .fact 100010 (.obj 10 [(false, 1), (false, 1), (false, 1)]), .fact 100014 (.obj 14 [(false, 1), (false, 1), (false, 1)]), .fact 100018 (.obj 18 [(false, 1), (false, 1), (false, 1)])]) (fun b : (List (List UInt8)) => (Exit.exit 0, [.fact 1 (.isv 10), .fact 2 (.isv 14), .fact 3 (.isv 18), .fact 100011 (.at 11 (.rep [0] a0.Blocks)), .fact 100012 (.at 12 (.rep [0] a0.Wait)), .fact 100013 (.at 13 (.rep [] a0.Dead)), .fact 100015 (.at 15 (.nilv)), .fact 100016 (.at 16 (.nilv)), .fact 100017 (.at 17 (.rep [] (false : Bool))), .fact 100019 (.at 19 (.ow [24] [22, 23] 28 (b : List (List UInt8)))), .fact 100020 (.at 20 (.nilv)), .fact 100021 (.at 21 (.rep [] a0.Dead)), .fact 100010 (.obj 10 [(false, 1), (false, 1), (false, 1)]), .fact 100014 (.obj 14 [(false, 1), (false, 1), (false, 1)]), .fact 100018 (.obj 18 [(false, 1), (false, 1), (false, 1)])])) hb7 (sn (sn (sn (su (st (st (sm (sm (sf (sg (sg (sf (Sub.cons (Has.at (HasG.cv (HasG.s rfl) (Cv.trans Cv.nilOw (Cv.owM (T := []) (te := []) rfl rfl)))) (sg (sf (sn (sn (sn Sub.nil)))))))))))))))))) ?_ ?_
 ·rintro ⟨s1, s2⟩ c3 hm
  replace hm : disk_Twin_L1 a0 s1 s2 = some c3 := hm
  unfold disk_Twin_L1 at hm
  show CWalk _ [.fact 1 (.isv 10), .fact 2 (.isv 14), .fact 3 (.isv 18), .fact 12 (.rep [0] a0.Blocks), .fact 13 (.rep [] (((a0.Blocks).length : Int) : Int)), .fact 14 (.rep [] (s1 : Int)), .fact 100011 (.at 11 (.rep [0] a0.Blocks)), .fact 100012 (.at 12 (.rep [0] a0.Wait)), .fact 100013 (.at 13 (.rep [] a0.Dead)), .fact 100015 (.at 15 (.nilv)), .fact 100016 (.at 16 (.nilv)), .fact 100017 (.at 17 (.rep [] (false : Bool))), .fact 100019 (.at 19 (.ow [24] [22, 23] 28 (s2 : List (List UInt8)))), .fact 100020 (.at 20 (.nilv)), .fact 100021 (.at 21 (.rep [] a0.Dead)), .fact 100010 (.obj 10 [(false, 1), (false, 1), (false, 1)]), .fact 100014 (.obj 14 [(false, 1), (false, 1), (false, 1)]), .fact 100018 (.obj 18 [(false, 1), (false, 1), (false, 1)])] _ _
  refine CWalk.seq ?_
  refine CWalk.region ?_
  refine wo (Spec.lssI (Has.s rfl) (Has.s rfl)) ?_
  refine Walk.nil ?_
  refine Leaf.thenN ?_
  refine CWalk.seq ?_
  refine CWalk.cond rfl (fun hb => ?_) (fun hb => ?_)
  ·have hm := cond_t hb hm
   refine CWalk.skip ?_
   refine Leaf.thenN ?_
   refine CWalk.seq ?_
   refine CWalk.block ?_
   refine CWalk.seq ?_
   refine CWalk.region ?_
   obtain ⟨x4, hx4, hm⟩ := bind_some hm
   refine wo (Spec.indexAddr hx4 sl46 (Has.s rfl) (Has.s rfl)) ?_
   refine wo (Spec.load ty28 (Has.s rfl)) ?_
   refine wo (Spec.assign (Has.s rfl)) ?_
   refine Walk.nil ?_
   refine Leaf.thenN ?_
   obtain ⟨x5, hx5, hm⟩ := bind_some hm
   obtain ⟨x6, hx6, hm⟩ := bind_some hm
   refine CWalk.drawM [[], [0], [], [2], [2, 3], [0, 1, 2, 3, 4], [0, 1, 2, 3, 4, 5], [0, 1, 2, 3, 4, 5, 6]] [[.fact 18 (.pto 18 0)], [.fact 19 (.ow [24] [22, 23] 28 (s2 : List (List UInt8)))], [.fact 20 (.rep [0] (x4 : List UInt8))], [.fact 21 (.ow [22] [] 5 (x5 : List UInt8))], [.fact 22 (.rep [23, 22] ([x5] : List (List UInt8)))], [.fact 23 (.ow [24] [22, 23] 28 (x6 : List (List UInt8))), .kill 24], [.fact 24 (.pto 18 0)], [.fact 100019 (.at 19 (.ow [24] [22, 23] 28 (x6 : List (List UInt8)))), .fact 100018 (.obj 18 [(false, 1), (false, 1), (false, 1)]), .kill 18, .killId 19]] mixed (by kernel_rfl) (ao (so (Spec.fieldAddrO fd49_0 (Has.cv (Has.s rfl) (Cv.isvP rfl)))) (ao (so (Spec.loadF (i := 0) ty46 rfl (Has.s rfl) rfl (HasG.s rfl))) (ao (so (Spec.move (Has.s rfl))) (ao (so (Spec.callE [0] 22 rfl en70 (slices_Clone_byte_byte_c x4 hx5) (HasAll.cons (Has.m (Has.s rfl) rfl) HasAll.nil))) (ao (so (Spec.lit (xs := [.tmp 21]) (T := [22]) 23 rfl ow46 rfl rfl rfl rfl (HasEach.cons (Has.m (Has.cv (Has.s rfl) (Cv.trans Cv.owSl (Cv.slRep (T' := [22]) rfl rfl))) rfl) HasEach.nil))) (ao (StepG.stE (Step.appendOw (T := [24]) (te' := [22, 23]) hx6 rfl rfl rfl ow46 (Has.s rfl) (Has.s rfl) (ElKeeps.tags rfl rfl) (ElKeeps.tags rfl rfl))) (ao (so (Spec.fieldAddrO fd49_0 (Has.cv (Has.s rfl) (Cv.isvP rfl)))) (ao (StepG.stE (Step.storeF (i := 0) (f := Fact.ow [24] [22, 23] 28 (x6 : List (List UInt8))) rfl ty46 rfl (Has.s rfl) rfl (Has.cv (Has.s rfl) (Cv.trans Cv.owSl (Cv.slRep (T' := [22, 23, 24]) rfl rfl))) (Has.s rfl) rfl)) AllM.nil)))))))) ?_
   refine Leaf.blockN ?_
   refine Leaf.thenN ?_
   refine CWalk.region ?_
   refine wo (Spec.addI (Has.s rfl) Has.int) ?_
   refine mv ?_
   refine Walk.nil ?_
   exact Leaf.next hm (sn (sn (sn (su (st (st (sm (sm (sf (sg (sg (sf (Sub.cons (Has.at (HasG.cv (HasG.s rfl) (Cv.owM (T := [24]) (te := [22, 23]) rfl rfl))) (sg (sf (sn (sn (sn Sub.nil))))))))))))))))))
  ·have hm := cond_f hb hm
   refine CWalk.exit ?_
   refine Leaf.thenE ?_
   exact Leaf.brk hm (fun h => nomatch h) rfl (sn (sn (sn (sm (sm (sf (sg (sg (sf (Sub.cons (Has.at (HasG.cv (HasG.s rfl) (Cv.owM (T := [24]) (te := [22, 23]) rfl rfl))) (sg (sf (sn (sn (sn Sub.nil)))))))))))))))
 ·intro _
  refine Leaf.blockE ?_
  refine Leaf.thenN ?_
  refine CWalk.seq ?_
  refine CWalk.seq ?_
  refine CWalk.region ?_
  refine wo (Spec.fieldAddrO fd49_1 (Has.cv (Has.s rfl) (Cv.isvP rfl))) ?_
  refine wo (Spec.loadF (i := 1) ty47 rfl (Has.s rfl) rfl (HasG.s rfl)) ?_
  refine wo (Spec.len (Has.s rfl) Try.underlying47) ?_
  refine wo (Spec.move Has.int) ?_
  refine Walk.nil ?_
  refine Leaf.thenN ?_
  refine CWalk.block ?_
  obtain ⟨b14, hb14, hm⟩ := bind_some hm
  refine CWalk.loop (fun s : Int × (List Write) => [.fact 2 (.isv 14), .fact 3 (.isv 18), .fact 27 (.rep [0] a0.Wait), .fact 28 (.rep [] (((a0.Wait).length : Int) : Int)), .fact 29 (.rep [] s.1), .fact 100015 (.at 15 (.nilv)), .fact 100016 (.at 16 (.nilv)), .fact 100017 (.at 17 (.rep [] (false : Bool))), .fact 100019 (.at 19 (.ow [24] [22, 23] 28 (b7 : List (List UInt8)))), .fact 100020 (.at 20 (.ow [30] [28, 29] 52 (s.2 : List Write))), .fact 100021 (.at 21 (.rep [] a0.Dead)), .fact 100014 (.obj 14 [(false, 1), (false, 1), (false, 1)]), .fact 100018 (.obj 18 [(false, 1), (false, 1), (false, 1)])]) (fun b : (List Write) => (Exit.exit 2, [.fact 2 (.isv 14), .fact 3 (.isv 18), .fact 100015 (.at 15 (.nilv)), .fact 100016 (.at 16 (.nilv)), .fact 100017 (.at 17 (.rep [] (false : Bool))), .fact 100019 (.at 19 (.ow [24] [22, 23] 28 (b7 : List (List UInt8)))), .fact 100020 (.at 20 (.ow [30] [28, 29] 52 (b : List Write))), .fact 100021 (.at 21 (.rep [] a0.Dead)), .fact 100014 (.obj 14 [(false, 1), (false, 1), (false, 1)]), .fact 100018 (.obj 18 [(false, 1), (false, 1), (false, 1)])])) hb14 (sn (sn (su (st (st (sg (sg (sf (Sub.cons (Has.at (HasG.cv (HasG.s rfl) (Cv.owM (T := [24]) (te := [22, 23]) rfl rfl))) (Sub.cons (Has.at (HasG.cv (HasG.s rfl) (Cv.trans Cv.nilOw (Cv.owM (T := []) (te := []) rfl rfl)))) (sf (sn (sn Sub.nil))))))))))))) ?_ ?_
  ·rintro ⟨s8, s9⟩ c10 hm
   replace hm : disk_Twin_L2 a0 s8 s9 = some c10 := hm
   unfold disk_Twin_L2 at hm
   show CWalk _ [.fact 2 (.isv 14), .fact 3 (.isv 18), .fact 27 (.rep [0] a0.Wait), .fact 28 (.rep [] (((a0.Wait).length : Int) : Int)), .fact 29 (.rep [] (s8 : Int)), .fact 100015 (.at 15 (.nilv)), .fact 100016 (.at 16 (.nilv)), .fact 100017 (.at 17 (.rep [] (false : Bool))), .fact 100019 (.at 19 (.ow [24] [22, 23] 28 (b7 : List (List UInt8)))), .fact 100020 (.at 20 (.ow [30] [28, 29] 52 (s9 : List Write))), .fact 100021 (.at 21 (.rep [] a0.Dead)), .fact 100014 (.obj 14 [(false, 1), (false, 1), (false, 1)]), .fact 100018 (.obj 18 [(false, 1), (false, 1), (false, 1)])] _ _
   refine CWalk.seq ?_
   refine CWalk.region ?_
   refine wo (Spec.lssI (Has.s rfl) (Has.s rfl)) ?_
   refine Walk.nil ?_
   refine Leaf.thenN ?_
   refine CWalk.seq ?_
   refine CWalk.cond rfl (fun hb => ?_) (fun hb => ?_)
   ·have hm := cond_t hb hm
    refine CWalk.skip ?_
    refine Leaf.thenN ?_
    refine CWalk.seq ?_
    refine CWalk.block ?_
    refine CWalk.seq ?_
    refine CWalk.region ?_
    obtain ⟨x11, hx11, hm⟩ := bind_some hm
    refine wo (Spec.indexAddr hx11 sl47 (Has.s rfl) (Has.s rfl)) ?_
    refine wo (Spec.load ty52 (Has.s rfl)) ?_
    refine ws (Step.allocObj (ls := [(false, 1, Fact.rep [] ((0 : Int) : Int)), (false, 1, Fact.nilv)]) 25 rfl rfl rfl rfl zl52) ?_
    refine ws (Step.storeObj (ls := [(false, 1, Fact.rep [] x11.At), (false, 1, Fact.rep [0] x11.Data)]) rfl ty52 rfl rfl (Has.s rfl) rfl (HasL.flds (Has.cv (Has.s rfl) (Cv.trans (Cv.opens (chWrite x11)) (Cv.flds (CvL.cons Cv.fl (CvL.cons Cv.refl CvL.nil)))))) rfl) ?_
    refine Walk.nil ?_
    refine Leaf.thenN ?_
    obtain ⟨x12, hx12, hm⟩ := bind_some hm
    obtain ⟨x13, hx13, hm⟩ := bind_some hm
    refine CWalk.drawM [[], [0], [], [2], [], [4], [4, 5], [2, 3, 4, 5, 6], [2, 3, 4, 5, 6, 7], [0, 1, 2, 3, 4, 5, 6, 7, 8], [0, 1, 2, 3, 4, 5, 6, 7, 8, 9], [0, 1, 2, 3, 4, 5, 6, 7, 8, 9, 10]] [[.fact 33 (.pto 18 1)], [.fact 34 (.ow [30] [28, 29] 52 (s9 : List Write))], [.fact 35 (.pto 25 0)], [.fact 36 (.rep [] x11.At)], [.fact 37 (.pto 25 1)], [.fact 38 (.rep [0] x11.Data)], [.fact 39 (.ow [28] [] 5 (x12 : List UInt8))], [.fact 40 (.flds [(false, 1, Fact.rep [] x11.At), (false, 1, Fact.ow [28] [] 5 (x12 : List UInt8))])], [.fact 41 (.rep [29, 28] ([(Write.mk x11.At x12)] : List Write))], [.fact 42 (.ow [30] [28, 29] 52 (x13 : List Write)), .kill 30], [.fact 43 (.pto 18 1)], [.fact 100020 (.at 20 (.ow [30] [28, 29] 52 (x13 : List Write))), .fact 100018 (.obj 18 [(false, 1), (false, 1), (false, 1)]), .kill 18, .killId 20]] mixed (by kernel_rfl) (ao (so (Spec.fieldAddrO fd49_1 (Has.cv (Has.s rfl) (Cv.isvP rfl)))) (ao (so (Spec.loadF (i := 1) ty47 rfl (Has.s rfl) rfl (HasG.s rfl))) (ao (so (Spec.fieldAddrO fd52_0 (Has.cv (Has.s rfl) (Cv.isvP rfl)))) (ao (so (Spec.loadF (i := 0) ty3 rfl (Has.s rfl) rfl (HasG.s rfl))) (ao (so (Spec.fieldAddrO fd52_1 (Has.cv (Has.s rfl) (Cv.isvP rfl)))) (ao (so (Spec.loadF (i := 1) ty28 rfl (Has.s rfl) rfl (HasG.s rfl))) (ao (so (Spec.callE [0] 28 rfl en70 (slices_Clone_byte_byte_c x11.Data hx12) (HasAll.cons (Has.m (Has.s rfl) rfl) HasAll.nil))) (ao (so (Spec.build (us := [(0, .tmp 36), (1, .tmp 39)]) (ls' := [(false, 1, Fact.rep [] x11.At), (false, 1, Fact.ow [28] [] 5 (x12 : List UInt8))]) bd52 rfl (BP.cons rfl rfl (Has.s rfl) (Has.s rfl) (BP.cons rfl rfl (Has.cv (Has.s rfl) (Cv.trans Cv.owSl (Cv.slRep (T' := [28]) rfl rfl))) (Has.s rfl) BP.nil)))) (ao (so (Spec.lit (xs := [.tmp 40]) (T := [28]) 29 rfl ow47 rfl rfl rfl rfl (HasEach.cons (Has.m (Has.cv (Has.s rfl) (Cv.trans (Cv.flds (CvL.cons Cv.fl (CvL.cons (Cv.trans (Cv.trans Cv.owSl (Cv.slRep (T' := [28]) rfl rfl)) (Cv.m rfl)) CvL.nil))) (Cv.close (T := [28]) (chWrite (Write.mk x11.At x12))))) rfl) HasEach.nil))) (ao (StepG.stE (Step.appendOw (T := [30]) (te' := [28, 29]) hx13 rfl rfl rfl ow47 (Has.s rfl) (Has.s rfl) (ElKeeps.tags rfl rfl) (ElKeeps.tags rfl rfl))) (ao (so (Spec.fieldAddrO fd49_1 (Has.cv (Has.s rfl) (Cv.isvP rfl)))) (ao (StepG.stE (Step.storeF (i := 1) (f := Fact.ow [30] [28, 29] 52 (x13 : List Write)) rfl ty47 rfl (Has.s rfl) rfl (Has.cv (Has.s rfl) (Cv.trans Cv.owSl (Cv.slRep (T' := [28, 29, 30]) rfl rfl))) (Has.s rfl) rfl)) AllM.nil)))))))))))) ?_
    refine Leaf.blockN ?_
    refine Leaf.thenN ?_
    refine CWalk.region ?_
    refine wo (Spec.addI (Has.s rfl) Has.int) ?_
    refine mv ?_
    refine Walk.nil ?_
    exact Leaf.next hm (sn (sn (su (st (st (sg (sg (sf (Sub.cons (Has.at (HasG.cv (HasG.s rfl) (Cv.owM (T := [24]) (te := [22, 23]) rfl rfl))) (Sub.cons (Has.at (HasG.cv (HasG.s rfl) (Cv.owM (T := [30]) (te := [28, 29]) rfl rfl))) (sf (sn (sn Sub.nil)))))))))))))
   ·have hm := cond_f hb hm
    refine CWalk.exit ?_
    refine Leaf.thenE ?_
    exact Leaf.brk hm (fun h => nomatch h) rfl (sn (sn (sg (sg (sf (Sub.cons (Has.at (HasG.cv (HasG.s rfl) (Cv.owM (T := [24]) (te := [22, 23]) rfl rfl))) (Sub.cons (Has.at (HasG.cv (HasG.s rfl) (Cv.owM (T := [30]) (te := [28, 29]) rfl rfl))) (sf (sn (sn Sub.nil))))))))))
  ·intro _
   refine Leaf.blockE ?_
   refine Leaf.thenN ?_
   refine CWalk.seq ?_
   refine CWalk.region ?_
   refine wo (Spec.loadObj (ls := [(false, 1, Fact.ow [24] [22, 23] 28 (b7 : List (List UInt8))), (false, 1, Fact.ow [30] [28, 29] 52 (b14 : List Write)), (false, 1, Fact.rep [] a0.Dead)]) ty49 rfl rfl (Has.s rfl) rfl (HasGs.cons (HasG.s rfl) (HasGs.cons (HasG.s rfl) (HasGs.cons (HasG.s rfl) HasGs.nil)))) ?_
   refine ws (Step.storeObj (ls := [(false, 1, Fact.ow [24] [22, 23] 28 (b7 : List (List UInt8))), (false, 1, Fact.ow [30] [28, 29] 52 (b14 : List Write)), (false, 1, Fact.rep [] a0.Dead)]) rfl ty49 rfl rfl (Has.s rfl) rfl (HasL.flds (Has.s rfl)) rfl) ?_
   refine Walk.nil ?_
   refine Leaf.thenN ?_
   refine CWalk.ret ?_
   obtain rfl := Option.some.inj hm
   exact Leaf.retC1 rfl (HasR.cv (HasR.obj (ls := [(false, 1, Fact.ow [24] [22, 23] 28 (b7 : List (List UInt8))), (false, 1, Fact.ow [30] [28, 29] 52 (b14 : List Write)), (false, 1, Fact.rep [] a0.Dead)]) ty49 rfl rfl (Has.s rfl) rfl (HasGs.cons (HasG.s rfl) (HasGs.cons (HasG.s rfl) (HasGs.cons (HasG.s rfl) HasGs.nil)))) (Cv.flds (CvL.cons (Cv.owM (T := [24]) (te := [22, 23]) rfl rfl) (CvL.cons (Cv.owM (T := [30]) (te := [28, 29]) rfl rfl) (CvL.cons Cv.fl CvL.nil)))))

/-- freeboard/disk.block -/
def disk_block (a0 : List UInt8) : Option ((List UInt8)) :=
  (bif (((a0).length : Int) == (0 : Int)) then Option.bind (makeL (0 : UInt8) (128 : Int)) (fun x1 => some x1) else Option.bind (slices_Clone_byte_byte a0) (fun x2 => some x2))
set_option maxRecDepth 100000 in
set_option maxHeartbeats 2000000 in
theorem disk_block_c (a0 : List UInt8) {r : (List UInt8)} (hm : disk_block a0 = some r) : Ctr Try.prog 43 [.rep 0 a0] (.own 0 none 5 r) [] := by
 refine ctr_of_walk [[10, 11]] 9 Try.func43 rfl rfl rfl rfl (fun w0 om => ?_)
 unfold disk_block at hm
 refine CWalk.sub (G' := [.fact 0 (.rep [0] (a0 : List UInt8))]) (sn Sub.nil) ?_
 refine CWalk.seq ?_
 refine CWalk.region ?_
 refine wo (Spec.assign Has.nilv) ?_
 refine Walk.nil ?_
 refine Leaf.thenN ?_
 refine CWalk.seq ?_
 refine CWalk.seq ?_
 refine CWalk.region ?_
 refine mv ?_
 refine wo (Spec.len (Has.s rfl) Try.underlying28) ?_
 refine wo (Spec.eqlI (Has.s rfl) Has.int) ?_
 refine Walk.nil ?_
 refine Leaf.thenN ?_
 refine CWalk.cond rfl (fun hb => ?_) (fun hb => ?_)
 ·have hm := cond_t hb hm
  refine CWalk.seq ?_
  refine CWalk.region ?_
  obtain ⟨x1, hx1, hm⟩ := bind_some hm
  refine ws (Step.makeOwn 10 hx1 rfl rfl ow28 zt5 Has.int) ?_
  refine wo (Spec.assign (Has.s rfl)) ?_
  refine Walk.nil ?_
  refine Leaf.thenN ?_
  refine CWalk.ret ?_
  refine Leaf.thenR ?_
  obtain rfl := Option.some.inj hm
  exact Leaf.retC1 rfl (HasR.cv (HasR.tmp (Has.s rfl)) (Cv.trans (Cv.isvOw rfl) (Cv.owF (T := [10]) (te := []) rfl)))
 ·have hm := cond_f hb hm
  refine CWalk.skip ?_
  refine Leaf.thenN ?_
  refine CWalk.seq ?_
  refine CWalk.region ?_
  refine mv ?_
  obtain ⟨x2, hx2, hm⟩ := bind_some hm
  refine wo (f := Fact.ow [11] [] 5 (x2 : List UInt8)) (Spec.callE [0] 11 rfl en70 (slices_Clone_byte_byte_c a0 hx2) (HasAll.cons (Has.m (Has.s rfl) rfl) HasAll.nil)) ?_
  refine wo (Spec.assign (Has.s rfl)) ?_
  refine Walk.nil ?_
  refine Leaf.thenN ?_
  refine CWalk.ret ?_
  obtain rfl := Option.some.inj hm
  exact Leaf.retC1 rfl (HasR.cv (HasR.tmp (Has.s rfl)) (Cv.owF (T := [11]) (te := []) rfl))

/-- freeboard/disk.Fua$1 -/
def disk_Fua_1 (a0 : Write) (a1 : Int) : Option (Bool) :=
  some (a0.At == a1)
set_option maxRecDepth 100000 in
set_option maxHeartbeats 2000000 in
theorem disk_Fua_1_c (a0 : Write) (a1 : Int) {r : Bool} (hm : disk_Fua_1 a0 a1 = some r) : Ctr Try.prog 64 [.rep 0 a0, .ptr 0 a1] (.fl r) [] := by
 refine ctr_of_walk [[]] 8 Try.func64 rfl rfl rfl rfl (fun w0 om => ?_)
 unfold disk_Fua_1 at hm
 refine CWalk.sub (G' := [.fact 0 (.rep [0] (a0 : Write)), .fact 1 (.ptr [0] (a1 : Int))]) (sn (sn Sub.nil)) ?_
 refine CWalk.seq ?_
 refine CWalk.region ?_
 refine ws (Step.boxObj (ls := [(false, 1, Fact.rep [] a0.At), (false, 1, Fact.rep [0] a0.Data)]) 10 rfl rfl rfl rfl (HasL.flds (Has.cv (Has.s rfl) (Cv.trans (Cv.opens (chWrite a0)) (Cv.flds (CvL.cons Cv.fl (CvL.cons Cv.refl CvL.nil))))))) ?_
 refine wo (Spec.assign Has.bool) ?_
 refine Walk.nil ?_
 refine Leaf.thenN ?_
 refine CWalk.seq ?_
 refine CWalk.region ?_
 refine wo (Spec.fieldAddrO fd52_0 (Has.cv (Has.s rfl) (Cv.isvP rfl))) ?_
 refine wo (Spec.loadF (i := 0) ty3 rfl (Has.s rfl) rfl (HasG.s rfl)) ?_
 refine wo ((Spec.load ty3 (Has.s rfl)).flat (T' := [])) ?_
 refine wo (Spec.eqlI (Has.s rfl) (Has.s rfl)) ?_
 refine wo (Spec.assign (Has.s rfl)) ?_
 refine Walk.nil ?_
 refine Leaf.thenN ?_
 refine CWalk.ret ?_
 obtain rfl := Option.some.inj hm
 exact Leaf.retC1 rfl (HasR.cv (HasR.tmp (Has.s rfl)) Cv.fl)

def disk_Fua_J1 (x2 : Disk) (x3 : (List UInt8)) (x4 : Nat) (j5 : List Write) : Option (Disk × Int) :=
  some ((Disk.mk ((x2.Blocks).set x4 x3) j5 x2.Dead), (0 : Int))
def disk_Fua_J3 (s9 : Int) (j11 : List Write) (j12 : Int) : Option (Ctl ((List Write) × Int × Int) ((List Write) × Int)) :=
  some (Ctl.next (j11, j12, (wI (s9 + (1 : Int)))))
def disk_Fua_J4 (a1 : Int) (s7 : List Write) (s8 : Int) (s9 : Int) (x13 : Write) : Option (Ctl ((List Write) × Int × Int) ((List Write) × Int)) :=
  (bif (!(x13.At == a1)) then Option.bind (bnd (s7).length s8) (fun x14 => (disk_Fua_J3 s9 ((s7).set x14 x13) (wI (s8 + (1 : Int))))) else (disk_Fua_J3 s9 s7 s8))
def disk_Fua_L2 (a1 : Int) (s7 : List Write) (s8 : Int) (s9 : Int) : Option (Ctl ((List Write) × Int × Int) ((List Write) × Int)) :=
  (bif (decide (s9 < ((s7).length : Int))) then Option.bind (idx s7 s9) (fun x13 => (disk_Fua_J4 a1 s7 s8 s9 x13)) else some (Ctl.brk (s7, s8)))
/-- freeboard/disk.Fua -/
def disk_Fua (a0 : Disk) (a1 : Int) (a2 : List UInt8) : Option (Disk × Int) :=
  Option.bind (disk_write a0 a1 a2) (fun x1 => (bif (x1 != (0 : Int)) then some ((Disk.mk ([] : List (List UInt8)) ([] : List Write) false), x1) else Option.bind (disk_Twin a0) (fun x2 => Option.bind (disk_block a2) (fun x3 => Option.bind (bnd (x2.Blocks).length a1) (fun x4 => Option.bind (slices_IndexFunc_api_Write_api_Write x2.Wait (fun y => disk_Fua_1 y a1)) (fun x6 => (bif (x6 == (-1 : Int)) then (disk_Fua_J1 x2 x3 x4 x2.Wait) else Option.bind (loopM (fun s : (List Write) × Int × Int => disk_Fua_L2 a1 s.1 s.2.1 s.2.2) FUEL (x2.Wait, x6, (wI (x6 + (1 : Int))))) (fun b15 => Option.bind (slc b15.1 b15.2 (b15.1).length) (fun x16 => Option.bind (slc ((b15.1).take (Int.toNat b15.2) ++ List.replicate ((b15.1).length - (Int.toNat b15.2)) (Write.mk (0 : Int) ([] : List UInt8))) 0 b15.2) (fun x17 => (disk_Fua_J1 x2 x3 x4 x17)))))))))))
set_option maxRecDepth 100000 in
set_option maxHeartbeats 2000000 in
theorem disk_Fua_c (a0 : Disk) (a1 : Int) (a2 : List UInt8) {r : Disk × Int} (hm : disk_Fua a0 a1 a2 = some r) : Ctr Try.prog 36 [.rep 0 a0, .rep 0 a1, .rep 0 a2] (.tup2 (.flds [(false, 1, (.own 0 (some 1) 28 r.1.Blocks)), (false, 1, (.own 2 (some 3) 52 r.1.Wait)), (false, 1, (.fl r.1.Dead))]) (.fl r.2)) [] := by
 refine ctr_of_walk [[25], [22, 26], [23, 35], [24]] 31 Try.func36 rfl rfl rfl rfl (fun w0 om => ?_)
 unfold disk_Fua at hm
 refine CWalk.sub (G' := [.fact 0 (.rep [0] (a0 : Disk)), .fact 1 (.rep [] (a1 : Int)), .fact 2 (.rep [0] (a2 : List UInt8))]) (sn (Sub.cons (Has.fl (Has.s rfl)) (sn Sub.nil))) ?_
 refine CWalk.seq ?_
 refine CWalk.region ?_
 refine ws (Step.boxObj (ls := [(false, 1, Fact.rep [0] a0.Blocks), (false, 1, Fact.rep [0] a0.Wait), (false, 1, Fact.rep [] a0.Dead)]) 10 rfl rfl rfl rfl (HasL.flds (Has.cv (Has.s rfl) (Cv.trans (Cv.opens (chDisk a0)) (Cv.flds (CvL.cons Cv.refl (CvL.cons Cv.refl (CvL.cons Cv.fl CvL.nil)))))))) ?_
 refine ws (Step.boxObj (ls := [(false, 1, Fact.rep [] (a1 : Int))]) 14 rfl rfl rfl rfl (HasL.one (Has.s rfl) rfl (Has.s rfl))) ?_
 refine ws (Step.allocObj (ls := [(false, 1, Fact.nilv), (false, 1, Fact.nilv), (false, 1, Fact.rep [] (false : Bool))]) 16 rfl rfl rfl rfl zl49) ?_
 refine wo (Spec.assign Has.int) ?_
 refine Walk.nil ?_
 refine Leaf.thenN ?_
 refine CWalk.seq ?_
 refine CWalk.seq ?_
 refine CWalk.region ?_
 refine wo (Spec.loadObj (ls := [(false, 1, Fact.rep [0] a0.Blocks), (false, 1, Fact.rep [0] a0.Wait), (false, 1, Fact.rep [] a0.Dead)]) ty49 rfl rfl (Has.s rfl) rfl (HasGs.cons (HasG.s rfl) (HasGs.cons (HasG.s rfl) (HasGs.cons (HasG.s rfl) HasGs.nil)))) ?_
 refine wo (Spec.loadF (i := 0) ty3 rfl (Has.cv (Has.s rfl) (Cv.isvP rfl)) rfl (HasG.s rfl)) ?_
 refine mv ?_
 obtain ⟨x1, hx1, hm⟩ := bind_some hm
 refine wo (f := Fact.rep [] (x1 : Int)) (Spec.callE [0] 20 rfl en61 (disk_write_c a0 a1 a2 hx1) (HasAll.cons (Has.m (Has.cv (Has.s rfl) (Cv.trans (Cv.flds (CvL.cons (Cv.m rfl) (CvL.cons (Cv.m rfl) (CvL.cons Cv.fl CvL.nil)))) (Cv.close (T := [0]) (chDisk a0)))) rfl) (HasAll.cons (Has.fl (Has.s rfl)) (HasAll.cons (Has.m (Has.s rfl) rfl) HasAll.nil)))) ?_
 refine wo (Spec.assign (Has.s rfl)) ?_
 refine Walk.nil ?_
 refine Leaf.thenN ?_
 refine CWalk.seq ?_
 refine CWalk.region ?_
 refine mv ?_
 refine wo (Spec.neqI (Has.s rfl) Has.int) ?_
 refine Walk.nil ?_
 refine Leaf.thenN ?_
 refine CWalk.cond rfl (fun hb => ?_) (fun hb => ?_)
 ·have hm := cond_t hb hm
  refine CWalk.seq ?_
  refine CWalk.region ?_
  refine wo (Spec.build (us := []) (ls' := [(false, 1, Fact.nilv), (false, 1, Fact.nilv), (false, 1, Fact.rep [] (false : Bool))]) bd49 rfl BP.nil) ?_
  refine mv ?_
  refine ws (Step.storeObj (ls := [(false, 1, Fact.nilv), (false, 1, Fact.nilv), (false, 1, Fact.rep [] (false : Bool))]) rfl ty49 rfl rfl (Has.s rfl) rfl (HasL.flds (Has.s rfl)) rfl) ?_
  refine wo (Spec.assign (Has.s rfl)) ?_
  refine Walk.nil ?_
  refine Leaf.thenN ?_
  refine CWalk.ret ?_
  refine Leaf.thenR ?_
  obtain rfl := Option.some.inj hm
  exact Leaf.retC2 rfl (HasR.cv (HasR.obj (ls := [(false, 1, Fact.nilv), (false, 1, Fact.nilv), (false, 1, Fact.rep [] (false : Bool))]) ty49 rfl rfl (Has.s rfl) rfl (HasGs.cons (HasG.s rfl) (HasGs.cons (HasG.s rfl) (HasGs.cons (HasG.s rfl) HasGs.nil)))) (Cv.flds (CvL.cons (Cv.trans Cv.nilOw (Cv.owM (T := []) (te := []) rfl rfl)) (CvL.cons (Cv.trans Cv.nilOw (Cv.owM (T := []) (te := []) rfl rfl)) (CvL.cons Cv.fl CvL.nil))))) (HasR.cv (HasR.tmp (Has.s rfl)) Cv.fl)
 ·have hm := cond_f hb hm
  refine CWalk.skip ?_
  refine Leaf.thenN ?_
  refine CWalk.seq ?_
  refine CWalk.region ?_
  refine wo (Spec.loadObj (ls := [(false, 1, Fact.rep [0] a0.Blocks), (false, 1, Fact.rep [0] a0.Wait), (false, 1, Fact.rep [] a0.Dead)]) ty49 rfl rfl (Has.s rfl) rfl (HasGs.cons (HasG.s rfl) (HasGs.cons (HasG.s rfl) (HasGs.cons (HasG.s rfl) HasGs.nil)))) ?_
  obtain ⟨x2, hx2, hm⟩ := bind_some hm
  refine wo (f := Fact.flds [(false, 1, Fact.ow [21] [22] 28 (x2.Blocks : List (List UInt8))), (false, 1, Fact.ow [23] [24] 52 (x2.Wait : List Write)), (false, 1, Fact.rep [] x2.Dead)]) (Spec.callE [0] 21 rfl en62 (disk_Twin_c a0 hx2) (HasAll.cons (Has.m (Has.cv (Has.s rfl) (Cv.trans (Cv.flds (CvL.cons (Cv.m rfl) (CvL.cons (Cv.m rfl) (CvL.cons Cv.fl CvL.nil)))) (Cv.close (T := [0]) (chDisk a0)))) rfl) HasAll.nil)) ?_
  refine ws (Step.storeObj (ls := [(false, 1, Fact.ow [21] [22] 28 (x2.Blocks : List (List UInt8))), (false, 1, Fact.ow [23] [24] 52 (x2.Wait : List Write)), (false, 1, Fact.rep [] x2.Dead)]) rfl ty49 rfl rfl (Has.s rfl) rfl (HasL.flds (Has.s rfl)) rfl) ?_
  refine Walk.nil ?_
  refine Leaf.thenN ?_
  refine CWalk.seq ?_
  refine CWalk.ad (Ad.owF (i := 11) 25 rfl rfl rfl (ElT.tags rfl) rfl (Cv.owM (T := [21]) (te := [22]) (T' := [21]) (te' := [22]) rfl rfl)) ?_
  obtain ⟨x3, hx3, hm⟩ := bind_some hm
  obtain ⟨x4, hx4, hm⟩ := bind_some hm
  refine CWalk.drawM [[], [0], [], [], [3], [0, 1, 2, 3, 4], [0, 1, 2, 3, 4, 5]] [[.fact 19 (.pto 10 0)], [.fact 20 (.isv 25)], [.fact 21 (.rep [] (a1 : Int))], [.fact 22 (.rep [0] (a2 : List UInt8))], [.fact 23 (.ow [26] [] 5 (x3 : List UInt8))], [.fact 24 (.pto 25 (x4 * Rp.n (List UInt8)))], [.fact 100025 (.own 25 [22, 26] 28 ((x2.Blocks).set x4 x3 : List (List UInt8))), .kill 25]] mixed (by kernel_rfl) (ao (so (Spec.fieldAddrO fd49_0 (Has.cv (Has.s rfl) (Cv.isvP rfl)))) (ao (so (Spec.loadF (i := 0) ty46 rfl (Has.s rfl) rfl (HasG.s rfl))) (ao (so (Spec.loadF (i := 0) ty3 rfl (Has.cv (Has.s rfl) (Cv.isvP rfl)) rfl (HasG.s rfl))) (ao (so (Spec.move (Has.s rfl))) (ao (so (Spec.callE [0] 26 rfl en43 (disk_block_c a2 hx3) (HasAll.cons (Has.m (Has.s rfl) rfl) HasAll.nil))) (ao (so (Spec.idxOwn hx4 ow46 (Has.s rfl) rfl (Has.s rfl))) (ao (StepG.stE (Step.storeOwn (te' := [22, 26]) rfl (bnd_lt hx4 rfl) ty28 (Has.s rfl) rfl (Has.cv (Has.s rfl) (Cv.trans Cv.owSl (Cv.slRep (T' := [26]) rfl rfl))) (ElKeep.tags rfl rfl) (ElKeep.tags rfl rfl))) AllM.nil))))))) ?_
  refine Leaf.thenN ?_
  refine CWalk.seq ?_
  refine CWalk.region ?_
  refine wo (Spec.fieldAddrO fd49_1 (Has.cv (Has.s rfl) (Cv.isvP rfl))) ?_
  refine wo (Spec.loadF (i := 1) ty47 rfl (Has.s rfl) rfl (HasG.s rfl)) ?_
  refine wo (Spec.makeFunc (xs := []) (ys := [.tmp 4]) rfl rfl HasF.nil (HasF.cons (Has.s rfl) HasF.nil) (fun _ _ _ => rfl)) ?_
  refine Walk.inline (S := (List Write)) (fun p : (List Write) => [.fact 3 (.isv 10), .fact 6 (.isv 16), .fact 28 (.ow [23, 35] [24] 52 (p : List Write)), .fact 100011 (.at 11 (.isv 25)), .fact 100013 (.at 13 (.rep [] x2.Dead)), .fact 100017 (.at 17 (.nilv)), .fact 100018 (.at 18 (.nilv)), .fact 100019 (.at 19 (.rep [] (false : Bool))), .fact 100010 (.obj 10 [(false, 1), (false, 1), (false, 1)]), .fact 100016 (.obj 16 [(false, 1), (false, 1), (false, 1)]), .fact 100025 (.own 25 [22, 26] 28 ((x2.Blocks).set x4 x3 : List (List UInt8)))]) (fun p : (List Write) => disk_Fua_J1 x2 x3 x4 p = some r) (fun u1 => [.fact 100011 (.at 11 (.isv 25)), .fact 100012 (.at 12 (.ow [23] [24] 52 (x2.Wait : List Write))), .fact 100013 (.at 13 (.rep [] x2.Dead)), .fact 100015 (.at 15 (.rep [] (a1 : Int))), .fact 100017 (.at 17 (.nilv)), .fact 100018 (.at 18 (.nilv)), .fact 100019 (.at 19 (.rep [] (false : Bool))), .fact 902003 (.cst (u1 3) (Fact.isv 10)), .fact 902006 (.cst (u1 6) (Fact.isv 16)), .fact 100014 (.obj 14 [(false, 1)]), .fact 100016 (.obj 16 [(false, 1), (false, 1), (false, 1)]), .fact 100010 (.obj 10 [(false, 1), (false, 1), (false, 1)]), .fact 100025 (.own 25 [22, 26] 28 ((x2.Blocks).set x4 x3 : List (List UInt8)))]) (FA := [Fact.ow [23] [24] 52 (x2.Wait : List Write), Fact.fnv 64 [] [Fact.isv 14]]) rfl Try.func63 rfl rfl rfl (CallOk.fn en63 (HasF.cons (Has.s rfl) (HasF.cons (Has.s rfl) HasF.nil))) (fun u1 => (ck (ck (ck (ck (ck (ck (ck (cs 902000 3 (cs 902000 6 (ck (ck (ck (ck Carry.nil)))))))))))))) (fun u1 => ?_) ?_
  ·refine CWalk.seq ?_
   refine CWalk.region ?_
   refine wo (Spec.assign Has.nilv) ?_
   refine Walk.nil ?_
   refine Leaf.thenN ?_
   refine CWalk.seq ?_
   refine CWalk.region ?_
   refine mv ?_
   refine mv ?_
   obtain ⟨x6, hx6, hm⟩ := bind_some hm
   refine wo (f := Fact.rep [] (x6 : Int)) (Spec.callE [14, 23, 24] 27 rfl en75 (slices_IndexFunc_api_Write_api_Write_c x2.Wait (fun y => disk_Fua_1 y a1) hx6) (HasAll.cons (Has.m (Has.cv (Has.s rfl) (Cv.trans Cv.owSl (Cv.slRep (T' := [23, 24]) rfl rfl))) rfl) (HasAll.cons (Has.cv (Has.s rfl) (Cv.fn (pu := []) (pc := [.ptr 0 a1]) (shc := []) en64 CvF.nil (CvF.cons (Cv.trans (Cv.objPtr1 (f := Fact.rep [] (a1 : Int)) rfl rfl (HasG.s rfl) (Cv.fl (T' := []))) (Cv.ptrM rfl)) CvF.nil) (fun y r h => disk_Fua_1_c y a1 h))) HasAll.nil))) ?_
   refine wo (Spec.assign (Has.s rfl)) ?_
   refine Walk.nil ?_
   refine Leaf.thenN ?_
   refine CWalk.seq ?_
   refine CWalk.seq ?_
   refine CWalk.region ?_
   refine mv ?_
   refine wo (Spec.eqlI (Has.s rfl) Has.int) ?_
   refine Walk.nil ?_
   refine Leaf.thenN ?_
   refine CWalk.cond rfl (fun hb => ?_) (fun hb => ?_)
   ·have hm := cond_t hb hm
    refine CWalk.seq ?_
    refine CWalk.region ?_
    refine mv ?_
    refine wo (Spec.assign (Has.s rfl)) ?_
    refine Walk.nil ?_
    refine Leaf.thenN ?_
    refine CWalk.ret ?_
    refine Leaf.thenR ?_
    exact Leaf.in1 x2.Wait hm rfl rfl (HasR.cv (HasR.tmp (Has.s rfl)) (Cv.owM (T := [23]) (te := [24]) rfl rfl)) (ls 902003 (ls 902006 (Low.res (lg (lf (lg (lg (lf (lo (lo (Low.keepR (fun _ _ _ _ h => h) (Has.ownM (Has.s rfl) rfl) Low.nil)))))))))))
   ·have hm := cond_f hb hm
    refine CWalk.skip ?_
    refine Leaf.thenN ?_
    refine CWalk.seq ?_
    refine CWalk.seq ?_
    refine CWalk.region ?_
    refine mv ?_
    refine wo (Spec.addI (Has.s rfl) Has.int) ?_
    refine wo (Spec.assign (Has.s rfl)) ?_
    refine Walk.nil ?_
    refine Leaf.thenN ?_
    refine CWalk.block ?_
    obtain ⟨b15, hb15, hm⟩ := bind_some hm
    refine CWalk.loop (fun s : (List Write) × Int × Int => [.fact 0 (.ow [23, 34] [24] 52 (s.1 : List Write)), .fact 1 (.fnv 64 [] [Fact.isv 14]), .fact 5 (.rep [] s.2.1), .fact 6 (.rep [] s.2.2), .fact 902003 (.cst (u1 3) (Fact.isv 10)), .fact 902006 (.cst (u1 6) (Fact.isv 16)), .fact 100015 (.at 15 (.rep [] (a1 : Int))), .fact 100011 (.at 11 (.isv 25)), .fact 100013 (.at 13 (.rep [] x2.Dead)), .fact 100017 (.at 17 (.nilv)), .fact 100018 (.at 18 (.nilv)), .fact 100019 (.at 19 (.rep [] (false : Bool))), .fact 100014 (.obj 14 [(false, 1)]), .fact 100010 (.obj 10 [(false, 1), (false, 1), (false, 1)]), .fact 100016 (.obj 16 [(false, 1), (false, 1), (false, 1)]), .fact 100025 (.own 25 [22, 26] 28 ((x2.Blocks).set x4 x3 : List (List UInt8)))]) (fun b : (List Write) × Int => (Exit.exit 0, [.fact 0 (.ow [23, 34] [24] 52 (b.1 : List Write)), .fact 5 (.rep [] b.2), .fact 902003 (.cst (u1 3) (Fact.isv 10)), .fact 902006 (.cst (u1 6) (Fact.isv 16)), .fact 100011 (.at 11 (.isv 25)), .fact 100013 (.at 13 (.rep [] x2.Dead)), .fact 100017 (.at 17 (.nilv)), .fact 100018 (.at 18 (.nilv)), .fact 100019 (.at 19 (.rep [] (false : Bool))), .fact 100010 (.obj 10 [(false, 1), (false, 1), (false, 1)]), .fact 100016 (.obj 16 [(false, 1), (false, 1), (false, 1)]), .fact 100025 (.own 25 [22, 26] 28 ((x2.Blocks).set x4 x3 : List (List UInt8)))])) hb15 (Sub.cons (Has.cv (Has.s rfl) (Cv.owM (T := [23]) (te := [24]) rfl rfl)) (sn (st (st (sc (sc (sf (sg (sf (sg (sg (sf (sn (sn (sn (Sub.cons (Has.ownM (Has.s rfl) rfl) Sub.nil)))))))))))))))) ?_ ?_
    ·rintro ⟨s7, s8, s9⟩ c10 hm
     replace hm : disk_Fua_L2 a1 s7 s8 s9 = some c10 := hm
     unfold disk_Fua_L2 at hm
     show CWalk _ [.fact 0 (.ow [23, 34] [24] 52 (s7 : List Write)), .fact 1 (.fnv 64 [] [Fact.isv 14]), .fact 5 (.rep [] (s8 : Int)), .fact 6 (.rep [] (s9 : Int)), .fact 902003 (.cst (u1 3) (Fact.isv 10)), .fact 902006 (.cst (u1 6) (Fact.isv 16)), .fact 100015 (.at 15 (.rep [] (a1 : Int))), .fact 100011 (.at 11 (.isv 25)), .fact 100013 (.at 13 (.rep [] x2.Dead)), .fact 100017 (.at 17 (.nilv)), .fact 100018 (.at 18 (.nilv)), .fact 100019 (.at 19 (.rep [] (false : Bool))), .fact 100014 (.obj 14 [(false, 1)]), .fact 100010 (.obj 10 [(false, 1), (false, 1), (false, 1)]), .fact 100016 (.obj 16 [(false, 1), (false, 1), (false, 1)]), .fact 100025 (.own 25 [22, 26] 28 ((x2.Blocks).set x4 x3 : List (List UInt8)))] _ _
     refine CWalk.seq ?_
     refine CWalk.seq ?_
     refine CWalk.region ?_
     refine mv ?_
     refine mv ?_
     refine wo (Spec.len (Has.cv (Has.s rfl) (Cv.trans Cv.owSl (Cv.slRep (T' := [23, 24, 34]) rfl rfl))) Try.underlying47) ?_
     refine wo (Spec.lssI (Has.s rfl) (Has.s rfl)) ?_
     refine Walk.nil ?_
     refine Leaf.thenN ?_
     refine CWalk.cond rfl (fun hb => ?_) (fun hb => ?_)
     ·have hm := cond_t hb hm
      refine CWalk.skip ?_
      refine Leaf.thenN ?_
      refine CWalk.seqJ (fun p : (List Write) × Int => [.fact 0 (.ow [23, 34] [24] 52 (p.1 : List Write)), .fact 1 (.fnv 64 [] [Fact.isv 14]), .fact 5 (.rep [] p.2), .fact 6 (.rep [] (s9 : Int)), .fact 902003 (.cst (u1 3) (Fact.isv 10)), .fact 902006 (.cst (u1 6) (Fact.isv 16)), .fact 100015 (.at 15 (.rep [] (a1 : Int))), .fact 100011 (.at 11 (.isv 25)), .fact 100013 (.at 13 (.rep [] x2.Dead)), .fact 100017 (.at 17 (.nilv)), .fact 100018 (.at 18 (.nilv)), .fact 100019 (.at 19 (.rep [] (false : Bool))), .fact 100014 (.obj 14 [(false, 1)]), .fact 100010 (.obj 10 [(false, 1), (false, 1), (false, 1)]), .fact 100016 (.obj 16 [(false, 1), (false, 1), (false, 1)]), .fact 100025 (.own 25 [22, 26] 28 ((x2.Blocks).set x4 x3 : List (List UInt8)))]) (fun p : (List Write) × Int => disk_Fua_J3 s9 p.1 p.2 = some c10) ?_ ?_
      ·rintro ⟨j11, j12⟩ hm
       replace hm : disk_Fua_J3 s9 j11 j12 = some c10 := hm
       unfold disk_Fua_J3 at hm
       show CWalk _ [.fact 0 (.ow [23, 34] [24] 52 (j11 : List Write)), .fact 1 (.fnv 64 [] [Fact.isv 14]), .fact 5 (.rep [] (j12 : Int)), .fact 6 (.rep [] (s9 : Int)), .fact 902003 (.cst (u1 3) (Fact.isv 10)), .fact 902006 (.cst (u1 6) (Fact.isv 16)), .fact 100015 (.at 15 (.rep [] (a1 : Int))), .fact 100011 (.at 11 (.isv 25)), .fact 100013 (.at 13 (.rep [] x2.Dead)), .fact 100017 (.at 17 (.nilv)), .fact 100018 (.at 18 (.nilv)), .fact 100019 (.at 19 (.rep [] (false : Bool))), .fact 100014 (.obj 14 [(false, 1)]), .fact 100010 (.obj 10 [(false, 1), (false, 1), (false, 1)]), .fact 100016 (.obj 16 [(false, 1), (false, 1), (false, 1)]), .fact 100025 (.own 25 [22, 26] 28 ((x2.Blocks).set x4 x3 : List (List UInt8)))] _ _
       refine CWalk.region ?_
       refine mv ?_
       refine wo (Spec.addI (Has.s rfl) Has.int) ?_
       refine wo (Spec.assign (Has.s rfl)) ?_
       refine Walk.nil ?_
       exact Leaf.next hm (Sub.cons (Has.cv (Has.s rfl) (Cv.owM (T := [23, 34]) (te := [24]) rfl rfl)) (sn (st (st (sc (sc (sf (sg (sf (sg (sg (sf (sn (sn (sn (Sub.cons (Has.ownM (Has.s rfl) rfl) Sub.nil))))))))))))))))
      ·refine CWalk.block ?_
       refine CWalk.seq ?_
       refine CWalk.region ?_
       refine mv ?_
       refine mv ?_
       obtain ⟨x13, hx13, hm⟩ := bind_some hm
       refine wo (Spec.indexSl hx13 sl47 (Has.cv (Has.s rfl) Cv.owSl) (Has.s rfl)) ?_
       refine wo (Spec.loadS ty52 (Has.s rfl)) ?_
       refine ws (Step.allocObj (ls := [(false, 1, Fact.rep [] ((0 : Int) : Int)), (false, 1, Fact.nilv)]) 28 rfl rfl rfl rfl zl52) ?_
       refine ws (Step.storeObj (ls := [(false, 1, Fact.rep [] x13.At), (false, 1, Fact.rep [24] x13.Data)]) rfl ty52 rfl rfl (Has.s rfl) rfl (HasL.flds (Has.cv (Has.s rfl) (Cv.trans (Cv.opens (chWrite x13)) (Cv.flds (CvL.cons Cv.fl (CvL.cons Cv.refl CvL.nil)))))) rfl) ?_
       refine Walk.nil ?_
       refine Leaf.thenN ?_
       refine CWalk.seq ?_
       refine CWalk.region ?_
       refine mv ?_
       refine wo (Spec.loadObj (ls := [(false, 1, Fact.rep [] x13.At), (false, 1, Fact.rep [24] x13.Data)]) ty52 rfl rfl (Has.s rfl) rfl (HasGs.cons (HasG.s rfl) (HasGs.cons (HasG.s rfl) HasGs.nil))) ?_
       refine Walk.inline (S := Unit) (fun p : Unit => [.fact 0 (.ow [23, 34] [24] 52 (s7 : List Write)), .fact 1 (.fnv 64 [] [Fact.isv 14]), .fact 5 (.rep [] (s8 : Int)), .fact 6 (.rep [] (s9 : Int)), .fact 7 (.isv 28), .fact 28 (.rep [] ((x13.At == a1) : Bool)), .fact 902003 (.cst (u1 3) (Fact.isv 10)), .fact 902006 (.cst (u1 6) (Fact.isv 16)), .fact 100015 (.at 15 (.rep [] (a1 : Int))), .fact 100029 (.at 29 (.rep [] x13.At)), .fact 100030 (.at 30 (.rep [24] x13.Data)), .fact 100011 (.at 11 (.isv 25)), .fact 100013 (.at 13 (.rep [] x2.Dead)), .fact 100017 (.at 17 (.nilv)), .fact 100018 (.at 18 (.nilv)), .fact 100019 (.at 19 (.rep [] (false : Bool))), .fact 100014 (.obj 14 [(false, 1)]), .fact 100028 (.obj 28 [(false, 1), (false, 1)]), .fact 100010 (.obj 10 [(false, 1), (false, 1), (false, 1)]), .fact 100016 (.obj 16 [(false, 1), (false, 1), (false, 1)]), .fact 100025 (.own 25 [22, 26] 28 ((x2.Blocks).set x4 x3 : List (List UInt8)))]) (fun p : Unit => disk_Fua_J4 a1 s7 s8 s9 x13 = some c10) (fun u2 => [.fact 100011 (.at 11 (.isv 25)), .fact 100013 (.at 13 (.rep [] x2.Dead)), .fact 100015 (.at 15 (.rep [] (a1 : Int))), .fact 100017 (.at 17 (.nilv)), .fact 100018 (.at 18 (.nilv)), .fact 100019 (.at 19 (.rep [] (false : Bool))), .fact 100029 (.at 29 (.rep [] x13.At)), .fact 100030 (.at 30 (.rep [24] x13.Data)), .fact 902003 (.cst (u1 3) (Fact.isv 10)), .fact 902006 (.cst (u1 6) (Fact.isv 16)), .fact 904000 (.cst (u2 0) (Fact.ow [23, 34] [24] 52 (s7 : List Write))), .fact 904001 (.cst (u2 1) (Fact.fnv 64 [] [Fact.isv 14])), .fact 904005 (.cst (u2 5) (Fact.rep [] (s8 : Int))), .fact 904006 (.cst (u2 6) (Fact.rep [] (s9 : Int))), .fact 904007 (.cst (u2 7) (Fact.isv 28)), .fact 100014 (.obj 14 [(false, 1)]), .fact 100010 (.obj 10 [(false, 1), (false, 1), (false, 1)]), .fact 100016 (.obj 16 [(false, 1), (false, 1), (false, 1)]), .fact 100025 (.own 25 [22, 26] 28 ((x2.Blocks).set x4 x3 : List (List UInt8))), .fact 100028 (.obj 28 [(false, 1), (false, 1)])]) (FA := [Fact.flds [(false, 1, Fact.rep [] x13.At), (false, 1, Fact.rep [24] x13.Data)], Fact.isv 14]) rfl Try.func64 rfl rfl rfl (CallOk.valE en64 (Has.s rfl) (HasF.cons (Has.s rfl) HasF.nil)) (fun u2 => (ck (ck (ck (ck (ck (ck (ck (ck (ck (ck (cs 904000 0 (cs 904000 1 (cs 904000 5 (cs 904000 6 (cs 904000 7 (ck (ck (ck (ck (ck Carry.nil))))))))))))))))))))) (fun u2 => ?_) ?_
       ·refine CWalk.seq ?_
        refine CWalk.region ?_
        refine ws (Step.boxObj (ls := [(false, 1, Fact.rep [] x13.At), (false, 1, Fact.rep [24] x13.Data)]) 31 rfl rfl rfl rfl (HasL.flds (Has.s rfl))) ?_
        refine wo (Spec.assign Has.bool) ?_
        refine Walk.nil ?_
        refine Leaf.thenN ?_
        refine CWalk.seq ?_
        refine CWalk.region ?_
        refine wo (Spec.fieldAddrO fd52_0 (Has.cv (Has.s rfl) (Cv.isvP rfl))) ?_
        refine wo (Spec.loadF (i := 0) ty3 rfl (Has.s rfl) rfl (HasG.s rfl)) ?_
        refine wo (Spec.loadF (i := 0) ty3 rfl (Has.cv (Has.s rfl) (Cv.isvP rfl)) rfl (HasG.s rfl)) ?_
        refine wo (Spec.eqlI (Has.s rfl) (Has.s rfl)) ?_
        refine wo (Spec.assign (Has.s rfl)) ?_
        refine Walk.nil ?_
        refine Leaf.thenN ?_
        refine CWalk.ret ?_
        exact Leaf.in1 () hm rfl rfl (HasR.cv (HasR.tmp (Has.s rfl)) Cv.fl) (Low.slot rfl (HasC.cv (HasC.s (s := 904000) rfl) (Cv.owM (T := [23, 34]) (te := [24]) rfl rfl)) (ls 904001 (Low.slot rfl (HasC.cv (HasC.s (s := 904005) rfl) Cv.fl) (Low.slot rfl (HasC.cv (HasC.s (s := 904006) rfl) Cv.fl) (ls 904007 (Low.res (lc (lc (lf (lf (lm (lg (lf (lg (lg (lf (lo (lo (lo (lo (Low.keepR (fun _ _ _ _ h => h) (Has.ownM (Has.s rfl) rfl) Low.nil)))))))))))))))))))))
       ·rintro _ hm
        replace hm : disk_Fua_J4 a1 s7 s8 s9 x13 = some c10 := hm
        unfold disk_Fua_J4 at hm
        show Walk _ _ _ [.fact 0 (.ow [23, 34] [24] 52 (s7 : List Write)), .fact 1 (.fnv 64 [] [Fact.isv 14]), .fact 5 (.rep [] (s8 : Int)), .fact 6 (.rep [] (s9 : Int)), .fact 7 (.isv 28), .fact 28 (.rep [] ((x13.At == a1) : Bool)), .fact 902003 (.cst (u1 3) (Fact.isv 10)), .fact 902006 (.cst (u1 6) (Fact.isv 16)), .fact 100015 (.at 15 (.rep [] (a1 : Int))), .fact 100029 (.at 29 (.rep [] x13.At)), .fact 100030 (.at 30 (.rep [24] x13.Data)), .fact 100011 (.at 11 (.isv 25)), .fact 100013 (.at 13 (.rep [] x2.Dead)), .fact 100017 (.at 17 (.nilv)), .fact 100018 (.at 18 (.nilv)), .fact 100019 (.at 19 (.rep [] (false : Bool))), .fact 100014 (.obj 14 [(false, 1)]), .fact 100028 (.obj 28 [(false, 1), (false, 1)]), .fact 100010 (.obj 10 [(false, 1), (false, 1), (false, 1)]), .fact 100016 (.obj 16 [(false, 1), (false, 1), (false, 1)]), .fact 100025 (.own 25 [22, 26] 28 ((x2.Blocks).set x4 x3 : List (List UInt8)))] _
        refine wo (Spec.not (Has.s rfl)) ?_
        refine Walk.nil ?_
        refine Leaf.thenN ?_
        refine CWalk.cond rfl (fun hb => ?_) (fun hb => ?_)
        ·have hm := cond_t hb hm
         refine CWalk.seq ?_
         refine CWalk.ad (Ad.ow (s := 0) 34 rfl rfl (ElT.tags rfl) rfl (Cv.owM (T := [23, 34]) (te := [24]) (T' := [23, 34]) (te' := [24]) rfl rfl)) ?_
         refine CWalk.region ?_
         refine mv ?_
         refine mv ?_
         refine wo (Spec.loadObj (ls := [(false, 1, Fact.rep [] x13.At), (false, 1, Fact.rep [24] x13.Data)]) ty52 rfl rfl (Has.s rfl) rfl (HasGs.cons (HasG.s rfl) (HasGs.cons (HasG.s rfl) HasGs.nil))) ?_
         obtain ⟨x14, hx14, hm⟩ := bind_some hm
         refine wo (Spec.idxOwn hx14 ow47 (Has.s rfl) rfl (Has.s rfl)) ?_
         refine ws (Step.storeOwn (te' := [24]) rfl (bnd_lt hx14 rfl) ty52 (Has.s rfl) rfl (Has.cv (Has.s rfl) (Cv.trans (Cv.flds (CvL.cons Cv.fl (CvL.cons (Cv.m rfl) CvL.nil))) (Cv.close (T := [24]) (chWrite x13)))) (ElKeep.tags rfl rfl) (ElKeep.tags rfl rfl)) ?_
         refine Walk.nil ?_
         refine Leaf.thenN ?_
         refine CWalk.region ?_
         refine mv ?_
         refine wo (Spec.addI (Has.s rfl) Has.int) ?_
         refine wo (Spec.assign (Has.s rfl)) ?_
         refine Walk.nil ?_
         refine Leaf.blockN ?_
         exact Leaf.join ((s7).set x14 x13, (wI (s8 + (1 : Int)))) hm (Sub.cons (Has.cv (Has.s rfl) (Cv.trans (Cv.isvOw rfl) (Cv.owM (T := [34]) (te := [24]) rfl rfl))) (sn (st (st (sc (sc (sf (sg (sf (sg (sg (sf (sn (sn (sn (Sub.cons (Has.ownM (Has.s rfl) rfl) Sub.nil))))))))))))))))
        ·have hm := cond_f hb hm
         refine CWalk.skip ?_
         refine Leaf.blockN ?_
         exact Leaf.join (s7, s8) hm (Sub.cons (Has.cv (Has.s rfl) (Cv.owM (T := [23, 34]) (te := [24]) rfl rfl)) (sn (st (st (sc (sc (sf (sg (sf (sg (sg (sf (sn (sn (sn (Sub.cons (Has.ownM (Has.s rfl) rfl) Sub.nil))))))))))))))))
     ·have hm := cond_f hb hm
      refine CWalk.exit ?_
      refine Leaf.thenE ?_
      exact Leaf.brk hm (fun h => nomatch h) rfl (Sub.cons (Has.cv (Has.s rfl) (Cv.owM (T := [23, 34]) (te := [24]) rfl rfl)) (st (sc (sc (sg (sf (sg (sg (sf (sn (sn (Sub.cons (Has.ownM (Has.s rfl) rfl) Sub.nil))))))))))))
    ·intro _
     refine Leaf.blockE ?_
     refine Leaf.thenN ?_
     refine CWalk.seq ?_
     refine CWalk.ad (Ad.ow (s := 0) 35 rfl rfl (ElT.tags rfl) rfl (Cv.owM (T := [23, 34]) (te := [24]) (T' := [23, 34]) (te' := [24]) rfl rfl)) ?_
     refine CWalk.region ?_
     refine mv ?_
     refine mv ?_
     obtain ⟨x16, hx16, hm⟩ := bind_some hm
     refine wo (Spec.slcWin hx16 ow47 (Has.s rfl) rfl (Has.s rfl)) ?_
     refine ws (Step.clearWin (te' := [24]) ow47 zt52 rfl (Has.s rfl) rfl (ElKeep.tags rfl rfl)) ?_
     refine Walk.nil ?_
     refine Leaf.thenN ?_
     refine CWalk.seq ?_
     refine CWalk.region ?_
     refine mv ?_
     refine mv ?_
     obtain ⟨x17, hx17, hm⟩ := bind_some hm
     refine wo (Spec.slcHiOw hx17 ow47 (Has.cv (Has.s rfl) (Cv.isvOw rfl)) (Has.s rfl)) ?_
     refine wo (Spec.assign (Has.s rfl)) ?_
     refine Walk.nil ?_
     refine Leaf.thenN ?_
     refine CWalk.ret ?_
     exact Leaf.in1 x17 hm rfl rfl (HasR.cv (HasR.tmp (Has.s rfl)) (Cv.owM (T := [35]) (te := [24]) rfl rfl)) (ls 902003 (ls 902006 (Low.res (lg (lf (lg (lg (lf (lo (lo (Low.keepR (fun _ _ _ _ h => h) (Has.ownM (Has.s rfl) rfl) Low.nil)))))))))))
  ·rintro j5 hm
   replace hm : disk_Fua_J1 x2 x3 x4 j5 = some r := hm
   unfold disk_Fua_J1 at hm
   show Walk _ _ _ [.fact 3 (.isv 10), .fact 6 (.isv 16), .fact 28 (.ow [23, 35] [24] 52 (j5 : List Write)), .fact 100011 (.at 11 (.isv 25)), .fact 100013 (.at 13 (.rep [] x2.Dead)), .fact 100017 (.at 17 (.nilv)), .fact 100018 (.at 18 (.nilv)), .fact 100019 (.at 19 (.rep [] (false : Bool))), .fact 100010 (.obj 10 [(false, 1), (false, 1), (false, 1)]), .fact 100016 (.obj 16 [(false, 1), (false, 1), (false, 1)]), .fact 100025 (.own 25 [22, 26] 28 ((x2.Blocks).set x4 x3 : List (List UInt8)))] _
   refine wo (Spec.fieldAddrO fd49_1 (Has.cv (Has.s rfl) (Cv.isvP rfl))) ?_
   refine ws (Step.storeF (i := 1) (f := Fact.ow [23, 35] [24] 52 (j5 : List Write)) rfl ty47 rfl (Has.s rfl) rfl (Has.cv (Has.s rfl) (Cv.trans Cv.owSl (Cv.slRep (T' := [23, 24, 35]) rfl rfl))) (Has.s rfl) rfl) ?_
   refine Walk.nil ?_
   refine Leaf.thenN ?_
   refine CWalk.seq ?_
   refine CWalk.region ?_
   refine wo (Spec.loadObj (ls := [(false, 1, Fact.isv 25), (false, 1, Fact.ow [23, 35] [24] 52 (j5 : List Write)), (false, 1, Fact.rep [] x2.Dead)]) ty49 rfl rfl (Has.s rfl) rfl (HasGs.cons (HasG.s rfl) (HasGs.cons (HasG.s rfl) (HasGs.cons (HasG.s rfl) HasGs.nil)))) ?_
   refine ws (Step.storeObj (ls := [(false, 1, Fact.isv 25), (false, 1, Fact.ow [23, 35] [24] 52 (j5 : List Write)), (false, 1, Fact.rep [] x2.Dead)]) rfl ty49 rfl rfl (Has.s rfl) rfl (HasL.flds (Has.s rfl)) rfl) ?_
   refine wo (Spec.assign Has.int) ?_
   refine Walk.nil ?_
   refine Leaf.thenN ?_
   refine CWalk.ret ?_
   obtain rfl := Option.some.inj hm
   exact Leaf.retC2 rfl (HasR.cv (HasR.obj (ls := [(false, 1, Fact.isv 25), (false, 1, Fact.ow [23, 35] [24] 52 (j5 : List Write)), (false, 1, Fact.rep [] x2.Dead)]) ty49 rfl rfl (Has.s rfl) rfl (HasGs.cons (HasG.s rfl) (HasGs.cons (HasG.s rfl) (HasGs.cons (HasG.s rfl) HasGs.nil)))) (Cv.flds (CvL.cons (Cv.trans (Cv.isvOw rfl) (Cv.owM (T := [25]) (te := [22, 26]) rfl rfl)) (CvL.cons (Cv.owM (T := [23, 35]) (te := [24]) rfl rfl) (CvL.cons Cv.fl CvL.nil))))) (HasR.cv (HasR.tmp (Has.s rfl)) Cv.fl)

def law20_some_J2 (s1 : List Disk) (s2 : Int) (j8 : List (List UInt8)) (j9 : List Write) (j10 : Bool) : Option (Ctl ((List Disk) × Int) ((List Disk))) :=
  Option.bind (app s1 ([(Disk.mk j8 j9 j10)])) (fun x11 => some (Ctl.next (x11, (wI (s2 + (1 : Int))))))
def law20_some_L1 (s1 : List Disk) (s2 : Int) : Option (Ctl ((List Disk) × Int) ((List Disk))) :=
  (bif (decide (s2 < (3 : Int))) then Option.bind (disk_New (2 : Int)) (fun x4 => Option.bind (idx ([(5 : UInt8), (3 : UInt8), (6 : UInt8)]) s2) (fun x5 => Option.bind (law20_full x5) (fun x6 => Option.bind (disk_Fua x4.1 (1 : Int) x6) (fun x7 => (bif (x7.2 == (0 : Int)) then (law20_some_J2 s1 s2 x7.1.Blocks x7.1.Wait x7.1.Dead) else (law20_some_J2 s1 s2 x4.1.Blocks x4.1.Wait x4.1.Dead)))))) else some (Ctl.brk s1))
/-- freeboard/freeboardlaw20.some -/
def law20_some : Option ((List Disk)) :=
  Option.bind (loopM (fun s : (List Disk) × Int => law20_some_L1 s.1 s.2) FUEL (([] : List Disk), (0 : Int))) (fun b12 => Option.bind (disk_New (13 : Int)) (fun x13 => Option.bind (app b12 ([x13.1])) (fun x14 => some x14)))
set_option maxRecDepth 100000 in
set_option maxHeartbeats 2000000 in
theorem law20_some_c {r : (List Disk)} (hm : law20_some = some r) : Ctr Try.prog 16 [] (.own 0 (some 1) 49 r) [] := by
 refine ctr_of_walk [[26], [10, 17, 18, 19, 20, 25, 27, 32]] 42 Try.func16 rfl rfl rfl rfl (fun w0 om => ?_)
 unfold law20_some at hm
 refine CWalk.sub (G' := []) (Sub.nil) ?_
 refine CWalk.seq ?_
 refine CWalk.region ?_
 refine wo (Spec.assign Has.nilv) ?_
 refine Walk.nil ?_
 refine Leaf.thenN ?_
 refine CWalk.seq ?_
 refine CWalk.region ?_
 refine wo (Spec.assign Has.nilv) ?_
 refine Walk.nil ?_
 refine Leaf.thenN ?_
 refine CWalk.seq ?_
 refine CWalk.seq ?_
 refine CWalk.region ?_
 refine wo (Spec.assign Has.int) ?_
 refine Walk.nil ?_
 refine Leaf.thenN ?_
 refine CWalk.block ?_
 obtain ⟨b12, hb12, hm⟩ := bind_some hm
 refine CWalk.loop (fun s : (List Disk) × Int => [.fact 1 (.ow [26] [10, 17, 18, 19, 20, 25] 49 (s.1 : List Disk)), .fact 2 (.rep [] s.2)]) (fun b : (List Disk) => (Exit.exit 0, [.fact 1 (.ow [26] [10, 17, 18, 19, 20, 25] 49 (b : List Disk))])) hb12 (Sub.cons (Has.cv (Has.s rfl) (Cv.trans Cv.nilOw (Cv.owM (T := []) (te := []) rfl rfl))) (st Sub.nil)) ?_ ?_
 ·rintro ⟨s1, s2⟩ c3 hm
  replace hm : law20_some_L1 s1 s2 = some c3 := hm
  unfold law20_some_L1 at hm
  show CWalk _ [.fact 1 (.ow [26] [10, 17, 18, 19, 20, 25] 49 (s1 : List Disk)), .fact 2 (.rep [] (s2 : Int))] _ _
  refine CWalk.seq ?_
  refine CWalk.seq ?_
  refine CWalk.region ?_
  refine mv ?_
  refine wo (Spec.lssI (Has.s rfl) Has.int) ?_
  refine Walk.nil ?_
  refine Leaf.thenN ?_
  refine CWalk.cond rfl (fun hb => ?_) (fun hb => ?_)
  ·have hm := cond_t hb hm
   refine CWalk.skip ?_
   refine Leaf.thenN ?_
   refine CWalk.seq ?_
   refine CWalk.block ?_
   refine CWalk.seq ?_
   refine CWalk.region ?_
   obtain ⟨x4, hx4, hm⟩ := bind_some hm
   refine wo (f := Fact.tup2 (Fact.flds [(false, 1, Fact.ow [10] [] 28 (x4.1.Blocks : List (List UInt8))), (false, 1, Fact.ow [10] [] 52 (x4.1.Wait : List Write)), (false, 1, Fact.rep [] x4.1.Dead)]) (Fact.rep [] x4.2)) (Spec.callE [] 10 rfl en35 (disk_New_c (2 : Int) hx4) (HasAll.cons (Has.fl Has.int) HasAll.nil)) ?_
   refine mv ?_
   refine wo (Spec.ext0 (Has.s rfl)) ?_
   refine wo (Spec.ext1 (Has.s rfl)) ?_
   refine ws (Step.allocObj (ls := [(false, 1, Fact.nilv), (false, 1, Fact.nilv), (false, 1, Fact.rep [] (false : Bool))]) 11 rfl rfl rfl rfl zl49) ?_
   refine ws (Step.storeObj (ls := [(false, 1, Fact.ow [10] [] 28 (x4.1.Blocks : List (List UInt8))), (false, 1, Fact.ow [10] [] 52 (x4.1.Wait : List Write)), (false, 1, Fact.rep [] x4.1.Dead)]) rfl ty49 rfl rfl (Has.s rfl) rfl (HasL.flds (Has.s rfl)) rfl) ?_
   refine wo (Spec.assign (Has.s rfl)) ?_
   refine Walk.nil ?_
   refine Leaf.thenN ?_
   refine CWalk.seq ?_
   obtain ⟨x5, hx5, hm⟩ := bind_some hm
   obtain ⟨x6, hx6, hm⟩ := bind_some hm
   obtain ⟨x7, hx7, hm⟩ := bind_some hm
   refine CWalk.drawM [[], [], [], [1, 2], [1, 2, 3], [1, 2, 3, 4], [0, 1, 2, 3, 4, 5], [0, 1, 2, 3, 4, 5, 6], [0, 1, 2, 3, 4, 5, 6, 7], [0, 1, 2, 3, 4, 5, 6, 7], [], [0, 1, 2, 3, 4, 5, 6, 7, 8, 10], [0, 1, 2, 3, 4, 5, 6, 7, 8, 9, 10, 11]] [[.fact 18 (.flds [(false, 1, Fact.ow [10] [] 28 (x4.1.Blocks : List (List UInt8))), (false, 1, Fact.ow [10] [] 52 (x4.1.Wait : List Write)), (false, 1, Fact.rep [] x4.1.Dead)])], [.fact 19 (.rep [15] ([(5 : UInt8), (3 : UInt8), (6 : UInt8)] : List UInt8))], [.fact 20 (.rep [] (s2 : Int))], [.fact 21 (.ptr [15] (x5 : UInt8))], [.fact 22 (.rep [] (x5 : UInt8))], [.fact 23 (.ow [16] [] 5 (x6 : List UInt8))], [.fact 24 (.tup2 (Fact.flds [(false, 1, Fact.ow [17] [18] 28 (x7.1.Blocks : List (List UInt8))), (false, 1, Fact.ow [19] [20] 52 (x7.1.Wait : List Write)), (false, 1, Fact.rep [] x7.1.Dead)]) (Fact.rep [] x7.2))], [.fact 17 (.tup2 (Fact.flds [(false, 1, Fact.ow [17] [18] 28 (x7.1.Blocks : List (List UInt8))), (false, 1, Fact.ow [19] [20] 52 (x7.1.Wait : List Write)), (false, 1, Fact.rep [] x7.1.Dead)]) (Fact.rep [] x7.2))], [.fact 25 (.flds [(false, 1, Fact.ow [17] [18] 28 (x7.1.Blocks : List (List UInt8))), (false, 1, Fact.ow [19] [20] 52 (x7.1.Wait : List Write)), (false, 1, Fact.rep [] x7.1.Dead)])], [.fact 26 (.rep [] x7.2)], [.fact 5 (.isv 21), .fact 100021 (.obj 21 [(false, 1), (false, 1), (false, 1)]), .fact 100022 (.at 22 (.nilv)), .fact 100023 (.at 23 (.nilv)), .fact 100024 (.at 24 (.rep [] (false : Bool))), .killId 21, .killId 22, .killId 23, .killId 24], [.fact 100021 (.obj 21 [(false, 1), (false, 1), (false, 1)]), .fact 100022 (.at 22 (.ow [17] [18] 28 (x7.1.Blocks : List (List UInt8)))), .fact 100023 (.at 23 (.ow [19] [20] 52 (x7.1.Wait : List Write))), .fact 100024 (.at 24 (.rep [] x7.1.Dead)), .kill 21, .killId 22, .killId 23, .killId 24], [.fact 6 (.rep [] x7.2)]] mixed (by kernel_rfl) (ao (so (Spec.loadObj (ls := [(false, 1, Fact.ow [10] [] 28 (x4.1.Blocks : List (List UInt8))), (false, 1, Fact.ow [10] [] 52 (x4.1.Wait : List Write)), (false, 1, Fact.rep [] x4.1.Dead)]) ty49 rfl rfl (Has.s rfl) rfl (HasGs.cons (HasG.s rfl) (HasGs.cons (HasG.s rfl) (HasGs.cons (HasG.s rfl) HasGs.nil))))) (ao (so (Spec.lit (xs := [.const (.int .u8 5), .const (.int .u8 3), .const (.int .u8 6)]) (T := []) 15 rfl ow28 rfl rfl rfl rfl (HasEach.cons (Has.fl (Has.u8 5 rfl)) (HasEach.cons (Has.fl (Has.u8 3 rfl)) (HasEach.cons (Has.fl (Has.u8 6 rfl)) HasEach.nil))))) (ao (so (Spec.move (Has.s rfl))) (ao (so (Spec.indexAddr hx5 sl28 (Has.s rfl) (Has.s rfl))) (ao (so ((Spec.load ty5 (Has.s rfl)).flat (T' := []))) (ao (so (Spec.callE [] 16 rfl en37 (law20_full_c x5 hx6) (HasAll.cons (Has.fl (Has.s rfl)) HasAll.nil))) (ao (so (Spec.callE [10, 16] 17 rfl en36 (disk_Fua_c x4.1 (1 : Int) x6 hx7) (HasAll.cons (Has.m (Has.cv (Has.s rfl) (Cv.trans (Cv.flds (CvL.cons (Cv.trans (Cv.trans Cv.owSl (Cv.slRep (T' := [10]) rfl rfl)) (Cv.m rfl)) (CvL.cons (Cv.trans (Cv.trans Cv.owSl (Cv.slRep (T' := [10]) rfl rfl)) (Cv.m rfl)) (CvL.cons Cv.fl CvL.nil)))) (Cv.close (T := [10]) (chDisk x4.1)))) rfl) (HasAll.cons (Has.fl Has.int) (HasAll.cons (Has.m (Has.cv (Has.s rfl) (Cv.trans Cv.owSl (Cv.slRep (T' := [16]) rfl rfl))) rfl) HasAll.nil))))) (ao (so (Spec.move (Has.s rfl))) (ao (so (Spec.ext0 (Has.s rfl))) (ao (so (Spec.ext1 (Has.s rfl))) (ao (StepG.stE (Step.allocObj (ls := [(false, 1, Fact.nilv), (false, 1, Fact.nilv), (false, 1, Fact.rep [] (false : Bool))]) 21 rfl rfl rfl rfl zl49)) (ao (StepG.stE (Step.storeObj (ls := [(false, 1, Fact.ow [17] [18] 28 (x7.1.Blocks : List (List UInt8))), (false, 1, Fact.ow [19] [20] 52 (x7.1.Wait : List Write)), (false, 1, Fact.rep [] x7.1.Dead)]) rfl ty49 rfl rfl (Has.s rfl) rfl (HasL.flds (Has.s rfl)) rfl)) (ao (so (Spec.assign (Has.s rfl))) AllM.nil))))))))))))) ?_
   refine Leaf.thenN ?_
   refine CWalk.seqJ (fun p : (List (List UInt8)) × (List Write) × Bool => [.fact 1 (.ow [26] [10, 17, 18, 19, 20, 25] 49 (s1 : List Disk)), .fact 2 (.rep [] (s2 : Int)), .fact 3 (.isv 11), .fact 100012 (.at 12 (.ow [10, 17] [18] 28 (p.1 : List (List UInt8)))), .fact 100013 (.at 13 (.ow [10, 19] [20] 52 (p.2.1 : List Write))), .fact 100014 (.at 14 (.rep [] p.2.2)), .fact 100011 (.obj 11 [(false, 1), (false, 1), (false, 1)])]) (fun p : (List (List UInt8)) × (List Write) × Bool => law20_some_J2 s1 s2 p.1 p.2.1 p.2.2 = some c3) ?_ ?_
   ·rintro ⟨j8, j9, j10⟩ hm
    replace hm : law20_some_J2 s1 s2 j8 j9 j10 = some c3 := hm
    unfold law20_some_J2 at hm
    show CWalk _ [.fact 1 (.ow [26] [10, 17, 18, 19, 20, 25] 49 (s1 : List Disk)), .fact 2 (.rep [] (s2 : Int)), .fact 3 (.isv 11), .fact 100012 (.at 12 (.ow [10, 17] [18] 28 (j8 : List (List UInt8)))), .fact 100013 (.at 13 (.ow [10, 19] [20] 52 (j9 : List Write))), .fact 100014 (.at 14 (.rep [] (j10 : Bool))), .fact 100011 (.obj 11 [(false, 1), (false, 1), (false, 1)])] _ _
    refine CWalk.region ?_
    refine mv ?_
    refine wo (Spec.loadObj (ls := [(false, 1, Fact.ow [10, 17] [18] 28 (j8 : List (List UInt8))), (false, 1, Fact.ow [10, 19] [20] 52 (j9 : List Write)), (false, 1, Fact.rep [] (j10 : Bool))]) ty49 rfl rfl (Has.s rfl) rfl (HasGs.cons (HasG.s rfl) (HasGs.cons (HasG.s rfl) (HasGs.cons (HasG.s rfl) HasGs.nil)))) ?_
    refine wo (Spec.lit (xs := [.tmp 31]) (T := [10, 17, 18, 19, 20]) 25 rfl ow25 rfl rfl rfl rfl (HasEach.cons (Has.m (Has.cv (Has.s rfl) (Cv.trans (Cv.flds (CvL.cons (Cv.trans (Cv.trans Cv.owSl (Cv.slRep (T' := [10, 17, 18]) rfl rfl)) (Cv.m rfl)) (CvL.cons (Cv.trans (Cv.trans Cv.owSl (Cv.slRep (T' := [10, 19, 20]) rfl rfl)) (Cv.m rfl)) (CvL.cons Cv.fl CvL.nil)))) (Cv.close (T := [10, 17, 18, 19, 20]) (chDisk (Disk.mk j8 j9 j10))))) rfl) HasEach.nil)) ?_
    obtain ⟨x11, hx11, hm⟩ := bind_some hm
    refine ws (Step.appendOw (T := [26]) (te' := [10, 17, 18, 19, 20, 25]) hx11 rfl rfl rfl ow25 (Has.s rfl) (Has.s rfl) (ElKeeps.tags rfl rfl) (ElKeeps.tags rfl rfl)) ?_
    refine wo (Spec.assign (Has.s rfl)) ?_
    refine Walk.nil ?_
    refine Leaf.blockN ?_
    refine Leaf.thenN ?_
    refine CWalk.region ?_
    refine mv ?_
    refine wo (Spec.addI (Has.s rfl) Has.int) ?_
    refine wo (Spec.assign (Has.s rfl)) ?_
    refine Walk.nil ?_
    exact Leaf.next hm (Sub.cons (Has.cv (Has.s rfl) (Cv.owM (T := [26]) (te := [10, 17, 18, 19, 20, 25]) rfl rfl)) (st Sub.nil))
   ·refine CWalk.seq ?_
    refine CWalk.region ?_
    refine mv ?_
    refine wo (Spec.eqlI (Has.s rfl) Has.int) ?_
    refine Walk.nil ?_
    refine Leaf.thenN ?_
    refine CWalk.cond rfl (fun hb => ?_) (fun hb => ?_)
    ·have hm := cond_t hb hm
     refine CWalk.region ?_
     refine wo (Spec.loadObj (ls := [(false, 1, Fact.ow [17] [18] 28 (x7.1.Blocks : List (List UInt8))), (false, 1, Fact.ow [19] [20] 52 (x7.1.Wait : List Write)), (false, 1, Fact.rep [] x7.1.Dead)]) ty49 rfl rfl (Has.s rfl) rfl (HasGs.cons (HasG.s rfl) (HasGs.cons (HasG.s rfl) (HasGs.cons (HasG.s rfl) HasGs.nil)))) ?_
     refine ws (Step.storeObj (ls := [(false, 1, Fact.ow [17] [18] 28 (x7.1.Blocks : List (List UInt8))), (false, 1, Fact.ow [19] [20] 52 (x7.1.Wait : List Write)), (false, 1, Fact.rep [] x7.1.Dead)]) rfl ty49 rfl rfl (Has.s rfl) rfl (HasL.flds (Has.s rfl)) rfl) ?_
     refine Walk.nil ?_
     exact Leaf.join (x7.1.Blocks, x7.1.Wait, x7.1.Dead) hm (Sub.cons (Has.cv (Has.s rfl) (Cv.owM (T := [26]) (te := [10, 17, 18, 19, 20, 25]) rfl rfl)) (st (sn (Sub.cons (Has.at (HasG.cv (HasG.s rfl) (Cv.owM (T := [17]) (te := [18]) rfl rfl))) (Sub.cons (Has.at (HasG.cv (HasG.s rfl) (Cv.owM (T := [19]) (te := [20]) rfl rfl))) (sf (sn Sub.nil)))))))
    ·have hm := cond_f hb hm
     refine CWalk.skip ?_
     exact Leaf.join (x4.1.Blocks, x4.1.Wait, x4.1.Dead) hm (Sub.cons (Has.cv (Has.s rfl) (Cv.owM (T := [26]) (te := [10, 17, 18, 19, 20, 25]) rfl rfl)) (st (sn (Sub.cons (Has.at (HasG.cv (HasG.s rfl) (Cv.owM (T := [10]) (te := []) rfl rfl))) (Sub.cons (Has.at (HasG.cv (HasG.s rfl) (Cv.owM (T := [10]) (te := []) rfl rfl))) (sf (sn Sub.nil)))))))
  ·have hm := cond_f hb hm
   refine CWalk.exit ?_
   refine Leaf.thenE ?_
   exact Leaf.brk hm (fun h => nomatch h) rfl (Sub.cons (Has.cv (Has.s rfl) (Cv.owM (T := [26]) (te := [10, 17, 18, 19, 20, 25]) rfl rfl)) Sub.nil)
 ·intro _
  refine Leaf.blockE ?_
  refine Leaf.thenN ?_
  refine CWalk.seq ?_
  refine CWalk.region ?_
  obtain ⟨x13, hx13, hm⟩ := bind_some hm
  refine wo (f := Fact.tup2 (Fact.flds [(false, 1, Fact.ow [27] [] 28 (x13.1.Blocks : List (List UInt8))), (false, 1, Fact.ow [27] [] 52 (x13.1.Wait : List Write)), (false, 1, Fact.rep [] x13.1.Dead)]) (Fact.rep [] x13.2)) (Spec.callE [] 27 rfl en35 (disk_New_c (13 : Int) hx13) (HasAll.cons (Has.fl Has.int) HasAll.nil)) ?_
  refine mv ?_
  refine wo (Spec.ext0 (Has.s rfl)) ?_
  refine wo (Spec.ext1 (Has.s rfl)) ?_
  refine ws (Step.allocObj (ls := [(false, 1, Fact.nilv), (false, 1, Fact.nilv), (false, 1, Fact.rep [] (false : Bool))]) 28 rfl rfl rfl rfl zl49) ?_
  refine ws (Step.storeObj (ls := [(false, 1, Fact.ow [27] [] 28 (x13.1.Blocks : List (List UInt8))), (false, 1, Fact.ow [27] [] 52 (x13.1.Wait : List Write)), (false, 1, Fact.rep [] x13.1.Dead)]) rfl ty49 rfl rfl (Has.s rfl) rfl (HasL.flds (Has.s rfl)) rfl) ?_
  refine wo (Spec.assign (Has.s rfl)) ?_
  refine Walk.nil ?_
  refine Leaf.thenN ?_
  refine CWalk.seq ?_
  refine CWalk.region ?_
  refine mv ?_
  refine wo (Spec.loadObj (ls := [(false, 1, Fact.ow [27] [] 28 (x13.1.Blocks : List (List UInt8))), (false, 1, Fact.ow [27] [] 52 (x13.1.Wait : List Write)), (false, 1, Fact.rep [] x13.1.Dead)]) ty49 rfl rfl (Has.s rfl) rfl (HasGs.cons (HasG.s rfl) (HasGs.cons (HasG.s rfl) (HasGs.cons (HasG.s rfl) HasGs.nil)))) ?_
  refine wo (Spec.lit (xs := [.tmp 39]) (T := [27]) 32 rfl ow25 rfl rfl rfl rfl (HasEach.cons (Has.m (Has.cv (Has.s rfl) (Cv.trans (Cv.flds (CvL.cons (Cv.trans (Cv.trans Cv.owSl (Cv.slRep (T' := [27]) rfl rfl)) (Cv.m rfl)) (CvL.cons (Cv.trans (Cv.trans Cv.owSl (Cv.slRep (T' := [27]) rfl rfl)) (Cv.m rfl)) (CvL.cons Cv.fl CvL.nil)))) (Cv.close (T := [27]) (chDisk x13.1)))) rfl) HasEach.nil)) ?_
  obtain ⟨x14, hx14, hm⟩ := bind_some hm
  refine ws (Step.appendOw (T := [26]) (te' := [10, 17, 18, 19, 20, 25, 27, 32]) hx14 rfl rfl rfl ow25 (Has.s rfl) (Has.s rfl) (ElKeeps.tags rfl rfl) (ElKeeps.tags rfl rfl)) ?_
  refine wo (Spec.assign (Has.s rfl)) ?_
  refine Walk.nil ?_
  refine Leaf.thenN ?_
  refine CWalk.ret ?_
  obtain rfl := Option.some.inj hm
  exact Leaf.retC1 rfl (HasR.cv (HasR.tmp (Has.s rfl)) (Cv.owM (T := [26]) (te := [10, 17, 18, 19, 20, 25, 27, 32]) rfl rfl))

/-- freeboard/freeboardlaw20.three -/
def law20_three : Option (Config) :=
  some (Config.mk (0 : UInt32) (3 : Int) (1 : Int) (1 : Int) (12 : Int) (2 : Int))
set_option maxRecDepth 100000 in
set_option maxHeartbeats 2000000 in
theorem law20_three_c {r : Config} (hm : law20_three = some r) : Ctr Try.prog 14 [] (.fl r) [] := by
 refine ctr_of_walk [[]] 2 Try.func14 rfl rfl rfl rfl (fun w0 om => ?_)
 unfold law20_three at hm
 refine CWalk.sub (G' := []) (Sub.nil) ?_
 refine CWalk.seq ?_
 refine CWalk.region ?_
 refine ws (Step.allocObj (ls := [(false, 1, Fact.rep [] ((0 : UInt32) : UInt32)), (false, 1, Fact.rep [] ((0 : Int) : Int)), (false, 1, Fact.rep [] ((0 : Int) : Int)), (false, 1, Fact.rep [] ((0 : Int) : Int)), (false, 1, Fact.rep [] ((0 : Int) : Int)), (false, 1, Fact.rep [] ((0 : Int) : Int))]) 10 rfl rfl rfl rfl zl24) ?_
 refine Walk.nil ?_
 refine Leaf.thenN ?_
 refine CWalk.seq ?_
 refine CWalk.region ?_
 refine wo (Spec.build (us := [(1, .const (.int .i64 3)), (2, .const (.int .i64 1)), (3, .const (.int .i64 1)), (4, .const (.int .i64 12)), (5, .const (.int .i64 2))]) (ls' := [(false, 1, Fact.rep [] ((0 : UInt32) : UInt32)), (false, 1, Fact.rep [] ((3 : Int) : Int)), (false, 1, Fact.rep [] ((1 : Int) : Int)), (false, 1, Fact.rep [] ((1 : Int) : Int)), (false, 1, Fact.rep [] ((12 : Int) : Int)), (false, 1, Fact.rep [] ((2 : Int) : Int))]) bd24 rfl (BP.cons rfl rfl Has.int Has.int (BP.cons rfl rfl Has.int Has.int (BP.cons rfl rfl Has.int Has.int (BP.cons rfl rfl Has.int Has.int (BP.cons rfl rfl Has.int Has.int BP.nil)))))) ?_
 refine ws (Step.storeObj (ls := [(false, 1, Fact.rep [] ((0 : UInt32) : UInt32)), (false, 1, Fact.rep [] ((3 : Int) : Int)), (false, 1, Fact.rep [] ((1 : Int) : Int)), (false, 1, Fact.rep [] ((1 : Int) : Int)), (false, 1, Fact.rep [] ((12 : Int) : Int)), (false, 1, Fact.rep [] ((2 : Int) : Int))]) rfl ty24 rfl rfl (Has.s rfl) rfl (HasL.flds (Has.s rfl)) rfl) ?_
 refine Walk.nil ?_
 refine Leaf.thenN ?_
 refine CWalk.ret ?_
 obtain rfl := Option.some.inj hm
 exact Leaf.retC1 rfl (HasR.cv (HasR.obj (ls := [(false, 1, Fact.rep [] ((0 : UInt32) : UInt32)), (false, 1, Fact.rep [] ((3 : Int) : Int)), (false, 1, Fact.rep [] ((1 : Int) : Int)), (false, 1, Fact.rep [] ((1 : Int) : Int)), (false, 1, Fact.rep [] ((12 : Int) : Int)), (false, 1, Fact.rep [] ((2 : Int) : Int))]) ty24 rfl rfl (Has.s rfl) rfl (HasGs.cons (HasG.s rfl) (HasGs.cons (HasG.s rfl) (HasGs.cons (HasG.s rfl) (HasGs.cons (HasG.s rfl) (HasGs.cons (HasG.s rfl) (HasGs.cons (HasG.s rfl) HasGs.nil))))))) (Cv.trans (Cv.trans (Cv.flds (CvL.cons Cv.fl (CvL.cons Cv.fl (CvL.cons Cv.fl (CvL.cons Cv.fl (CvL.cons Cv.fl (CvL.cons Cv.fl CvL.nil))))))) (Cv.close (T := []) (chConfig (Config.mk (0 : UInt32) (3 : Int) (1 : Int) (1 : Int) (12 : Int) (2 : Int))))) Cv.fl))

def shape_bounds_L1 (a0 : List Arr3_Int) (s1 : Int) : Option (Ctl (Int) ((Unit) ⊕ (Unit))) :=
  (bif (decide (s1 < ((a0).length : Int))) then Option.bind (idx a0 s1) (fun x3 => (bif ((decide (x3.e0 < x3.e1)) || (decide (x3.e0 > x3.e2))) then some (Ctl.brk (Sum.inr ())) else some (Ctl.next (wI (s1 + (1 : Int)))))) else some (Ctl.brk (Sum.inl ())))
/-- freeboard/shape.bounds -/
def shape_bounds (a0 : List Arr3_Int) : Option (Bool) :=
  Option.bind (loopM (fun s : Int => shape_bounds_L1 a0 s) FUEL (0 : Int)) (fun b4 => Sum.elim (fun b5 => some true) (fun b6 => some false) b4)
set_option maxRecDepth 100000 in
set_option maxHeartbeats 2000000 in
theorem shape_bounds_c (a0 : List Arr3_Int) {r : Bool} (hm : shape_bounds a0 = some r) : Ctr Try.prog 78 [.rep 0 a0] (.fl r) [] := by
 refine ctr_of_walk [[]] 24 Try.func78 rfl rfl rfl rfl (fun w0 om => ?_)
 unfold shape_bounds at hm
 refine CWalk.sub (G' := [.fact 0 (.rep [0] (a0 : List Arr3_Int))]) (sn Sub.nil) ?_
 refine CWalk.seq ?_
 refine CWalk.region ?_
 refine wo (Spec.assign Has.bool) ?_
 refine Walk.nil ?_
 refine Leaf.thenN ?_
 refine CWalk.seq ?_
 refine CWalk.seq ?_
 refine CWalk.region ?_
 refine mv ?_
 refine wo (Spec.len (Has.s rfl) Try.underlying107) ?_
 refine wo (Spec.move Has.int) ?_
 refine Walk.nil ?_
 refine Leaf.thenN ?_
 refine CWalk.block ?_
 obtain ⟨b4, hb4, hm⟩ := bind_some hm
 refine CWalk.loop (fun s : Int => [.fact 5 (.rep [0] (a0 : List Arr3_Int)), .fact 6 (.rep [] (((a0).length : Int) : Int)), .fact 7 (.rep [] (s : Int))]) (fun b : (Unit) ⊕ (Unit) => Sum.elim (fun b => (Exit.exit 0, [])) (fun b => (Exit.ret, [.fact 2 (.rep [] (false : Bool))])) b) hb4 (su (st (st Sub.nil))) ?_ ?_
 ·rintro s1 c2 hm
  replace hm : shape_bounds_L1 a0 s1 = some c2 := hm
  unfold shape_bounds_L1 at hm
  show CWalk _ [.fact 5 (.rep [0] (a0 : List Arr3_Int)), .fact 6 (.rep [] (((a0).length : Int) : Int)), .fact 7 (.rep [] (s1 : Int))] _ _
  refine CWalk.seq ?_
  refine CWalk.region ?_
  refine wo (Spec.lssI (Has.s rfl) (Has.s rfl)) ?_
  refine Walk.nil ?_
  refine Leaf.thenN ?_
  refine CWalk.seq ?_
  refine CWalk.cond rfl (fun hb => ?_) (fun hb => ?_)
  ·have hm := cond_t hb hm
   refine CWalk.skip ?_
   refine Leaf.thenN ?_
   refine CWalk.seq ?_
   refine CWalk.block ?_
   refine CWalk.seq ?_
   refine CWalk.region ?_
   obtain ⟨x3, hx3, hm⟩ := bind_some hm
   refine wo (Spec.indexAddr hx3 sl107 (Has.s rfl) (Has.s rfl)) ?_
   refine wo ((Spec.load ty106 (Has.s rfl)).flat (T' := [])) ?_
   refine ws (Step.allocObj (ls := [(false, 1, Fact.rep [] ((0 : Int) : Int)), (false, 1, Fact.rep [] ((0 : Int) : Int)), (false, 1, Fact.rep [] ((0 : Int) : Int))]) 10 rfl rfl rfl rfl zl106) ?_
   refine ws (Step.storeObj (ls := [(false, 1, Fact.rep [] x3.e0), (false, 1, Fact.rep [] x3.e1), (false, 1, Fact.rep [] x3.e2)]) rfl ty106 rfl rfl (Has.s rfl) rfl (HasL.flds (Has.cv (Has.s rfl) (Cv.trans (Cv.opens (chArr3_Int x3)) (Cv.flds (CvL.cons Cv.fl (CvL.cons Cv.fl (CvL.cons Cv.fl CvL.nil))))))) rfl) ?_
   refine Walk.nil ?_
   refine Leaf.thenN ?_
   refine CWalk.seq ?_
   refine CWalk.region ?_
   refine wo (Spec.idxC (i := 0) sm106 rfl (Has.cv (Has.s rfl) (Cv.isvP rfl))) ?_
   refine wo (Spec.loadF (i := 0) ty3 rfl (Has.s rfl) rfl (HasG.s rfl)) ?_
   refine wo (Spec.idxC (i := 1) sm106 rfl (Has.cv (Has.s rfl) (Cv.isvP rfl))) ?_
   refine wo (Spec.loadF (i := 1) ty3 rfl (Has.s rfl) rfl (HasG.s rfl)) ?_
   refine wo (Spec.lssI (Has.s rfl) (Has.s rfl)) ?_
   refine mv ?_
   refine wg rfl rfl (fun hb => Spec.idxC (i := 0) sm106 rfl (Has.cv (Has.s rfl) (Cv.isvP rfl))) ?_
   refine wg rfl rfl (fun hb => Spec.loadF (i := 0) ty3 rfl (Has.u rfl hb) rfl (HasG.s rfl)) ?_
   refine wg rfl rfl (fun hb => Spec.idxC (i := 2) sm106 rfl (Has.cv (Has.s rfl) (Cv.isvP rfl))) ?_
   refine wg rfl rfl (fun hb => Spec.loadF (i := 2) ty3 rfl (Has.u rfl hb) rfl (HasG.s rfl)) ?_
   refine wg rfl rfl (fun hb => Spec.gtrI (Has.u rfl hb) (Has.u rfl hb)) ?_
   refine wo (Spec.or (Has.s rfl) (fun h => Has.u rfl h)) ?_
   refine Walk.nil ?_
   refine Leaf.thenN ?_
   refine CWalk.cond rfl (fun hb => ?_) (fun hb => ?_)
   ·have hm := cond_t hb hm
    refine CWalk.seq ?_
    refine CWalk.region ?_
    refine wo (Spec.assign Has.bool) ?_
    refine Walk.nil ?_
    refine Leaf.thenN ?_
    refine CWalk.ret ?_
    refine Leaf.blockR ?_
    refine Leaf.thenR ?_
    exact Leaf.brk hm (fun h => nomatch h) rfl (st Sub.nil)
   ·have hm := cond_f hb hm
    refine CWalk.skip ?_
    refine Leaf.blockN ?_
    refine Leaf.thenN ?_
    refine CWalk.region ?_
    refine wo (Spec.addI (Has.s rfl) Has.int) ?_
    refine mv ?_
    refine Walk.nil ?_
    exact Leaf.next hm (su (st (st Sub.nil)))
  ·have hm := cond_f hb hm
   refine CWalk.exit ?_
   refine Leaf.thenE ?_
   exact Leaf.brk hm (fun h => nomatch h) rfl (Sub.nil)
 ·intro _
  rcases b4 with b5 | b6
  ·have hm := selim_l hm
   refine Leaf.blockE ?_
   refine Leaf.thenN ?_
   refine CWalk.seq ?_
   refine CWalk.region ?_
   refine wo (Spec.assign Has.bool) ?_
   refine Walk.nil ?_
   refine Leaf.thenN ?_
   refine CWalk.ret ?_
   obtain rfl := Option.some.inj hm
   exact Leaf.retC1 rfl (HasR.cv (HasR.tmp (Has.s rfl)) Cv.fl)
  ·have hm := selim_r hm
   refine Leaf.blockR ?_
   refine Leaf.thenR ?_
   obtain rfl := Option.some.inj hm
   exact Leaf.retC1 rfl (HasR.cv (HasR.tmp (Has.s rfl)) Cv.fl)

/-- freeboard/shape.Check -/
def shape_Check (a0 : Config) : Option (Int) :=
  Option.bind (shape_bounds ([(Arr3_Int.mk a0.Members (3 : Int) (16 : Int)), (Arr3_Int.mk a0.Chunk (1 : Int) (8 : Int)), (Arr3_Int.mk a0.Rows (1 : Int) (8 : Int)), (Arr3_Int.mk a0.Heads (2 : Int) (8 : Int))])) (fun x1 => Option.bind (gO (!(!x1)) (shape_bounds ([(Arr3_Int.mk a0.Log (wI ((wI (a0.Members + (1 : Int))) * (wI (a0.Heads + (1 : Int))))) (255 : Int))]))) (fun x2 => (bif ((!x1) || (!x2)) then some (8 : Int) else some (0 : Int))))
set_option maxRecDepth 100000 in
set_option maxHeartbeats 2000000 in
theorem shape_Check_c (a0 : Config) {r : Int} (hm : shape_Check a0 = some r) : Ctr Try.prog 73 [.rep 0 a0] (.fl r) [] := by
 refine ctr_of_walk [[]] 35 Try.func73 rfl rfl rfl rfl (fun w0 om => ?_)
 unfold shape_Check at hm
 refine CWalk.sub (G' := [.fact 0 (.rep [] (a0 : Config))]) (Sub.cons (Has.fl (Has.s rfl)) Sub.nil) ?_
 refine CWalk.seq ?_
 refine CWalk.region ?_
 refine ws (Step.boxObj (ls := [(false, 1, Fact.rep [] a0.Id), (false, 1, Fact.rep [] a0.Members), (false, 1, Fact.rep [] a0.Chunk), (false, 1, Fact.rep [] a0.Rows), (false, 1, Fact.rep [] a0.Log), (false, 1, Fact.rep [] a0.Heads)]) 10 rfl rfl rfl rfl (HasL.flds (Has.cv (Has.s rfl) (Cv.trans (Cv.opens (chConfig a0)) (Cv.flds (CvL.cons Cv.fl (CvL.cons Cv.fl (CvL.cons Cv.fl (CvL.cons Cv.fl (CvL.cons Cv.fl (CvL.cons Cv.fl CvL.nil))))))))))) ?_
 refine wo (Spec.assign Has.int) ?_
 refine Walk.nil ?_
 refine Leaf.thenN ?_
 refine CWalk.seq ?_
 refine CWalk.region ?_
 refine wo (Spec.fieldAddrO fd24_1 (Has.cv (Has.s rfl) (Cv.isvP rfl))) ?_
 refine wo (Spec.loadF (i := 1) ty3 rfl (Has.s rfl) rfl (HasG.s rfl)) ?_
 refine wo (Spec.buildA (us := [(0, .tmp 5), (1, .const (.int .i64 3)), (2, .const (.int .i64 16))]) (ls' := [(false, 1, Fact.rep [] a0.Members), (false, 1, Fact.rep [] ((3 : Int) : Int)), (false, 1, Fact.rep [] ((16 : Int) : Int))]) bd106 rfl (BP.cons rfl rfl (Has.s rfl) (Has.s rfl) (BP.cons rfl rfl Has.int Has.int (BP.cons rfl rfl Has.int Has.int BP.nil)))) ?_
 refine wo (Spec.fieldAddrO fd24_2 (Has.cv (Has.s rfl) (Cv.isvP rfl))) ?_
 refine wo (Spec.loadF (i := 2) ty3 rfl (Has.s rfl) rfl (HasG.s rfl)) ?_
 refine wo (Spec.buildA (us := [(0, .tmp 8), (1, .const (.int .i64 1)), (2, .const (.int .i64 8))]) (ls' := [(false, 1, Fact.rep [] a0.Chunk), (false, 1, Fact.rep [] ((1 : Int) : Int)), (false, 1, Fact.rep [] ((8 : Int) : Int))]) bd106 rfl (BP.cons rfl rfl (Has.s rfl) (Has.s rfl) (BP.cons rfl rfl Has.int Has.int (BP.cons rfl rfl Has.int Has.int BP.nil)))) ?_
 refine wo (Spec.fieldAddrO fd24_3 (Has.cv (Has.s rfl) (Cv.isvP rfl))) ?_
 refine wo (Spec.loadF (i := 3) ty3 rfl (Has.s rfl) rfl (HasG.s rfl)) ?_
 refine wo (Spec.buildA (us := [(0, .tmp 11), (1, .const (.int .i64 1)), (2, .const (.int .i64 8))]) (ls' := [(false, 1, Fact.rep [] a0.Rows), (false, 1, Fact.rep [] ((1 : Int) : Int)), (false, 1, Fact.rep [] ((8 : Int) : Int))]) bd106 rfl (BP.cons rfl rfl (Has.s rfl) (Has.s rfl) (BP.cons rfl rfl Has.int Has.int (BP.cons rfl rfl Has.int Has.int BP.nil)))) ?_
 refine wo (Spec.fieldAddrO fd24_5 (Has.cv (Has.s rfl) (Cv.isvP rfl))) ?_
 refine wo (Spec.loadF (i := 5) ty3 rfl (Has.s rfl) rfl (HasG.s rfl)) ?_
 refine wo (Spec.buildA (us := [(0, .tmp 14), (1, .const (.int .i64 2)), (2, .const (.int .i64 8))]) (ls' := [(false, 1, Fact.rep [] a0.Heads), (false, 1, Fact.rep [] ((2 : Int) : Int)), (false, 1, Fact.rep [] ((8 : Int) : Int))]) bd106 rfl (BP.cons rfl rfl (Has.s rfl) (Has.s rfl) (BP.cons rfl rfl Has.int Has.int (BP.cons rfl rfl Has.int Has.int BP.nil)))) ?_
 refine wo (Spec.lit (xs := [.tmp 6, .tmp 9, .tmp 12, .tmp 15]) (T := []) 17 rfl ow107 rfl rfl rfl rfl (HasEach.cons (Has.fl (Has.cv (Has.s rfl) (Cv.trans (Cv.flds (CvL.cons Cv.fl (CvL.cons Cv.fl (CvL.cons Cv.fl CvL.nil)))) (Cv.close (T := []) (chArr3_Int (Arr3_Int.mk a0.Members (3 : Int) (16 : Int))))))) (HasEach.cons (Has.fl (Has.cv (Has.s rfl) (Cv.trans (Cv.flds (CvL.cons Cv.fl (CvL.cons Cv.fl (CvL.cons Cv.fl CvL.nil)))) (Cv.close (T := []) (chArr3_Int (Arr3_Int.mk a0.Chunk (1 : Int) (8 : Int))))))) (HasEach.cons (Has.fl (Has.cv (Has.s rfl) (Cv.trans (Cv.flds (CvL.cons Cv.fl (CvL.cons Cv.fl (CvL.cons Cv.fl CvL.nil)))) (Cv.close (T := []) (chArr3_Int (Arr3_Int.mk a0.Rows (1 : Int) (8 : Int))))))) (HasEach.cons (Has.fl (Has.cv (Has.s rfl) (Cv.trans (Cv.flds (CvL.cons Cv.fl (CvL.cons Cv.fl (CvL.cons Cv.fl CvL.nil)))) (Cv.close (T := []) (chArr3_Int (Arr3_Int.mk a0.Heads (2 : Int) (8 : Int))))))) HasEach.nil))))) ?_
 obtain ⟨x1, hx1, hm⟩ := bind_some hm
 refine wo (f := Fact.rep [] (x1 : Bool)) (Spec.callE [17] 18 rfl en78 (shape_bounds_c ([(Arr3_Int.mk a0.Members (3 : Int) (16 : Int)), (Arr3_Int.mk a0.Chunk (1 : Int) (8 : Int)), (Arr3_Int.mk a0.Rows (1 : Int) (8 : Int)), (Arr3_Int.mk a0.Heads (2 : Int) (8 : Int))]) hx1) (HasAll.cons (Has.m (Has.s rfl) rfl) HasAll.nil)) ?_
 refine wo (Spec.assign (Has.s rfl)) ?_
 refine Walk.nil ?_
 refine Leaf.thenN ?_
 refine CWalk.seq ?_
 refine CWalk.seq ?_
 refine CWalk.region ?_
 refine mv ?_
 refine wo (Spec.not (Has.s rfl)) ?_
 refine mv ?_
 refine wg rfl rfl (fun hb => Spec.fieldAddrO fd24_4 (Has.cv (Has.s rfl) (Cv.isvP rfl))) ?_
 refine wg rfl rfl (fun hb => Spec.loadF (i := 4) ty3 rfl (Has.u rfl hb) rfl (HasG.s rfl)) ?_
 refine wg rfl rfl (fun hb => Spec.fieldAddrO fd24_1 (Has.cv (Has.s rfl) (Cv.isvP rfl))) ?_
 refine wg rfl rfl (fun hb => Spec.loadF (i := 1) ty3 rfl (Has.u rfl hb) rfl (HasG.s rfl)) ?_
 refine wg rfl rfl (fun hb => Spec.addI (Has.u rfl hb) Has.int) ?_
 refine wg rfl rfl (fun hb => Spec.fieldAddrO fd24_5 (Has.cv (Has.s rfl) (Cv.isvP rfl))) ?_
 refine wg rfl rfl (fun hb => Spec.loadF (i := 5) ty3 rfl (Has.u rfl hb) rfl (HasG.s rfl)) ?_
 refine wg rfl rfl (fun hb => Spec.addI (Has.u rfl hb) Has.int) ?_
 refine wg rfl rfl (fun hb => Spec.mulI (Has.u rfl hb) (Has.u rfl hb)) ?_
 refine wg rfl rfl (fun hb => Spec.buildA (us := [(0, .tmp 22), (1, .tmp 29), (2, .const (.int .i64 255))]) (ls' := [(false, 1, Fact.rep [] a0.Log), (false, 1, Fact.rep [] ((wI ((wI (a0.Members + (1 : Int))) * (wI (a0.Heads + (1 : Int))))) : Int)), (false, 1, Fact.rep [] ((255 : Int) : Int))]) bd106 rfl (BP.cons rfl rfl (Has.u rfl hb) (Has.u rfl hb) (BP.cons rfl rfl (Has.u rfl hb) (Has.u rfl hb) (BP.cons rfl rfl Has.int Has.int BP.nil)))) ?_
 refine wg rfl rfl (fun hb => Spec.lit (xs := [.tmp 30]) (T := []) 19 rfl ow107 rfl rfl rfl rfl (HasEach.cons (Has.fl (Has.cv (Has.u rfl hb) (Cv.trans (Cv.flds (CvL.cons Cv.fl (CvL.cons Cv.fl (CvL.cons Cv.fl CvL.nil)))) (Cv.close (T := []) (chArr3_Int (Arr3_Int.mk a0.Log (wI ((wI (a0.Members + (1 : Int))) * (wI (a0.Heads + (1 : Int))))) (255 : Int))))))) HasEach.nil)) ?_
 obtain ⟨x2, hx2, hm⟩ := bind_some hm
 refine wg (f := Fact.rep [] (x2 : Bool)) rfl rfl (fun hb => Spec.callE [19] 20 rfl en78 (shape_bounds_c ([(Arr3_Int.mk a0.Log (wI ((wI (a0.Members + (1 : Int))) * (wI (a0.Heads + (1 : Int))))) (255 : Int))]) (gO_t hx2 (not_t hb))) (HasAll.cons (Has.m (Has.u rfl hb) rfl) HasAll.nil)) ?_
 refine wg rfl rfl (fun hb => Spec.not (Has.u rfl hb)) ?_
 refine wo (Spec.or (Has.s rfl) (fun h => Has.u rfl h)) ?_
 refine Walk.nil ?_
 refine Leaf.thenN ?_
 refine CWalk.cond rfl (fun hb => ?_) (fun hb => ?_)
 ·have hm := cond_t hb hm
  refine CWalk.seq ?_
  refine CWalk.region ?_
  refine wo (Spec.assign Has.int) ?_
  refine Walk.nil ?_
  refine Leaf.thenN ?_
  refine CWalk.ret ?_
  refine Leaf.thenR ?_
  obtain rfl := Option.some.inj hm
  exact Leaf.retC1 rfl (HasR.cv (HasR.tmp (Has.s rfl)) Cv.fl)
 ·have hm := cond_f hb hm
  refine CWalk.skip ?_
  refine Leaf.thenN ?_
  refine CWalk.seq ?_
  refine CWalk.region ?_
  refine wo (Spec.assign Has.int) ?_
  refine Walk.nil ?_
  refine Leaf.thenN ?_
  refine CWalk.ret ?_
  obtain rfl := Option.some.inj hm
  exact Leaf.retC1 rfl (HasR.cv (HasR.tmp (Has.s rfl)) Cv.fl)

/-- freeboard/shape.told -/
def shape_told (a0 : Config) (a1 : Int) : Option (Int × Int) :=
  Option.bind (shape_Check a0) (fun x1 => (bif (x1 != (0 : Int)) then some ((0 : Int), x1) else some (a1, (0 : Int))))
set_option maxRecDepth 100000 in
set_option maxHeartbeats 2000000 in
theorem shape_told_c (a0 : Config) (a1 : Int) {r : Int × Int} (hm : shape_told a0 a1 = some r) : Ctr Try.prog 49 [.rep 0 a0, .rep 0 a1] (.tup2 (.fl r.1) (.fl r.2)) [] := by
 refine ctr_of_walk [[]] 13 Try.func49 rfl rfl rfl rfl (fun w0 om => ?_)
 unfold shape_told at hm
 refine CWalk.sub (G' := [.fact 0 (.rep [] (a0 : Config)), .fact 1 (.rep [] (a1 : Int))]) (Sub.cons (Has.fl (Has.s rfl)) (Sub.cons (Has.fl (Has.s rfl)) Sub.nil)) ?_
 refine CWalk.seq ?_
 refine CWalk.region ?_
 refine ws (Step.boxObj (ls := [(false, 1, Fact.rep [] a0.Id), (false, 1, Fact.rep [] a0.Members), (false, 1, Fact.rep [] a0.Chunk), (false, 1, Fact.rep [] a0.Rows), (false, 1, Fact.rep [] a0.Log), (false, 1, Fact.rep [] a0.Heads)]) 10 rfl rfl rfl rfl (HasL.flds (Has.cv (Has.s rfl) (Cv.trans (Cv.opens (chConfig a0)) (Cv.flds (CvL.cons Cv.fl (CvL.cons Cv.fl (CvL.cons Cv.fl (CvL.cons Cv.fl (CvL.cons Cv.fl (CvL.cons Cv.fl CvL.nil))))))))))) ?_
 refine wo (Spec.assign Has.int) ?_
 refine wo (Spec.assign Has.int) ?_
 refine Walk.nil ?_
 refine Leaf.thenN ?_
 refine CWalk.seq ?_
 refine CWalk.seq ?_
 refine CWalk.region ?_
 refine wo (Spec.loadObj (ls := [(false, 1, Fact.rep [] a0.Id), (false, 1, Fact.rep [] a0.Members), (false, 1, Fact.rep [] a0.Chunk), (false, 1, Fact.rep [] a0.Rows), (false, 1, Fact.rep [] a0.Log), (false, 1, Fact.rep [] a0.Heads)]) ty24 rfl rfl (Has.s rfl) rfl (HasGs.cons (HasG.s rfl) (HasGs.cons (HasG.s rfl) (HasGs.cons (HasG.s rfl) (HasGs.cons (HasG.s rfl) (HasGs.cons (HasG.s rfl) (HasGs.cons (HasG.s rfl) HasGs.nil))))))) ?_
 obtain ⟨x1, hx1, hm⟩ := bind_some hm
 refine wo (f := Fact.rep [] (x1 : Int)) (Spec.callE [] 17 rfl en73 (shape_Check_c a0 hx1) (HasAll.cons (Has.fl (Has.cv (Has.s rfl) (Cv.trans (Cv.flds (CvL.cons Cv.fl (CvL.cons Cv.fl (CvL.cons Cv.fl (CvL.cons Cv.fl (CvL.cons Cv.fl (CvL.cons Cv.fl CvL.nil))))))) (Cv.close (T := []) (chConfig a0))))) HasAll.nil)) ?_
 refine wo (Spec.assign (Has.s rfl)) ?_
 refine Walk.nil ?_
 refine Leaf.thenN ?_
 refine CWalk.seq ?_
 refine CWalk.region ?_
 refine mv ?_
 refine wo (Spec.neqI (Has.s rfl) Has.int) ?_
 refine Walk.nil ?_
 refine Leaf.thenN ?_
 refine CWalk.cond rfl (fun hb => ?_) (fun hb => ?_)
 ·have hm := cond_t hb hm
  refine CWalk.seq ?_
  refine CWalk.region ?_
  refine mv ?_
  refine wo (Spec.assign Has.int) ?_
  refine wo (Spec.assign (Has.s rfl)) ?_
  refine Walk.nil ?_
  refine Leaf.thenN ?_
  refine CWalk.ret ?_
  refine Leaf.thenR ?_
  obtain rfl := Option.some.inj hm
  exact Leaf.retC2 rfl (HasR.cv (HasR.tmp (Has.s rfl)) Cv.fl) (HasR.cv (HasR.tmp (Has.s rfl)) Cv.fl)
 ·have hm := cond_f hb hm
  refine CWalk.skip ?_
  refine Leaf.thenN ?_
  refine CWalk.seq ?_
  refine CWalk.region ?_
  refine mv ?_
  refine wo (Spec.assign (Has.s rfl)) ?_
  refine wo (Spec.assign Has.int) ?_
  refine Walk.nil ?_
  refine Leaf.thenN ?_
  refine CWalk.ret ?_
  obtain rfl := Option.some.inj hm
  exact Leaf.retC2 rfl (HasR.cv (HasR.tmp (Has.s rfl)) Cv.fl) (HasR.cv (HasR.tmp (Has.s rfl)) Cv.fl)

/-- freeboard/shape.Member -/
def shape_Member (a0 : Config) : Option (Int × Int) :=
  Option.bind (shape_told a0 (wI ((wI (a0.Chunk * a0.Rows)) + (1 : Int)))) (fun x1 => some (x1.1, x1.2))
set_option maxRecDepth 100000 in
set_option maxHeartbeats 2000000 in
theorem shape_Member_c (a0 : Config) {r : Int × Int} (hm : shape_Member a0 = some r) : Ctr Try.prog 28 [.rep 0 a0] (.tup2 (.fl r.1) (.fl r.2)) [] := by
 refine ctr_of_walk [[]] 14 Try.func28 rfl rfl rfl rfl (fun w0 om => ?_)
 unfold shape_Member at hm
 refine CWalk.sub (G' := [.fact 0 (.rep [] (a0 : Config))]) (Sub.cons (Has.fl (Has.s rfl)) Sub.nil) ?_
 refine CWalk.seq ?_
 refine CWalk.region ?_
 refine ws (Step.boxObj (ls := [(false, 1, Fact.rep [] a0.Id), (false, 1, Fact.rep [] a0.Members), (false, 1, Fact.rep [] a0.Chunk), (false, 1, Fact.rep [] a0.Rows), (false, 1, Fact.rep [] a0.Log), (false, 1, Fact.rep [] a0.Heads)]) 10 rfl rfl rfl rfl (HasL.flds (Has.cv (Has.s rfl) (Cv.trans (Cv.opens (chConfig a0)) (Cv.flds (CvL.cons Cv.fl (CvL.cons Cv.fl (CvL.cons Cv.fl (CvL.cons Cv.fl (CvL.cons Cv.fl (CvL.cons Cv.fl CvL.nil))))))))))) ?_
 refine wo (Spec.assign Has.int) ?_
 refine wo (Spec.assign Has.int) ?_
 refine Walk.nil ?_
 refine Leaf.thenN ?_
 refine CWalk.seq ?_
 refine CWalk.region ?_
 refine wo (Spec.loadObj (ls := [(false, 1, Fact.rep [] a0.Id), (false, 1, Fact.rep [] a0.Members), (false, 1, Fact.rep [] a0.Chunk), (false, 1, Fact.rep [] a0.Rows), (false, 1, Fact.rep [] a0.Log), (false, 1, Fact.rep [] a0.Heads)]) ty24 rfl rfl (Has.s rfl) rfl (HasGs.cons (HasG.s rfl) (HasGs.cons (HasG.s rfl) (HasGs.cons (HasG.s rfl) (HasGs.cons (HasG.s rfl) (HasGs.cons (HasG.s rfl) (HasGs.cons (HasG.s rfl) HasGs.nil))))))) ?_
 refine wo (Spec.fieldAddrO fd24_2 (Has.cv (Has.s rfl) (Cv.isvP rfl))) ?_
 refine wo (Spec.loadF (i := 2) ty3 rfl (Has.s rfl) rfl (HasG.s rfl)) ?_
 refine wo (Spec.fieldAddrO fd24_3 (Has.cv (Has.s rfl) (Cv.isvP rfl))) ?_
 refine wo (Spec.loadF (i := 3) ty3 rfl (Has.s rfl) rfl (HasG.s rfl)) ?_
 refine wo (Spec.mulI (Has.s rfl) (Has.s rfl)) ?_
 refine wo (Spec.addI (Has.s rfl) Has.int) ?_
 obtain ⟨x1, hx1, hm⟩ := bind_some hm
 refine wo (f := Fact.tup2 (Fact.rep [] x1.1) (Fact.rep [] x1.2)) (Spec.callE [] 17 rfl en49 (shape_told_c a0 (wI ((wI (a0.Chunk * a0.Rows)) + (1 : Int))) hx1) (HasAll.cons (Has.fl (Has.cv (Has.s rfl) (Cv.trans (Cv.flds (CvL.cons Cv.fl (CvL.cons Cv.fl (CvL.cons Cv.fl (CvL.cons Cv.fl (CvL.cons Cv.fl (CvL.cons Cv.fl CvL.nil))))))) (Cv.close (T := []) (chConfig a0))))) (HasAll.cons (Has.fl (Has.s rfl)) HasAll.nil))) ?_
 refine wo (Spec.ext0 (Has.s rfl)) ?_
 refine wo (Spec.ext1 (Has.s rfl)) ?_
 refine wo (Spec.assign (Has.s rfl)) ?_
 refine wo (Spec.assign (Has.s rfl)) ?_
 refine Walk.nil ?_
 refine Leaf.thenN ?_
 refine CWalk.ret ?_
 obtain rfl := Option.some.inj hm
 exact Leaf.retC2 rfl (HasR.cv (HasR.tmp (Has.s rfl)) Cv.fl) (HasR.cv (HasR.tmp (Has.s rfl)) Cv.fl)

/-- freeboard/shape.Journal -/
def shape_Journal (a0 : Config) : Option (Int × Int) :=
  Option.bind (shape_told a0 (wI (a0.Log + (1 : Int)))) (fun x1 => some (x1.1, x1.2))
set_option maxRecDepth 100000 in
set_option maxHeartbeats 2000000 in
theorem shape_Journal_c (a0 : Config) {r : Int × Int} (hm : shape_Journal a0 = some r) : Ctr Try.prog 29 [.rep 0 a0] (.tup2 (.fl r.1) (.fl r.2)) [] := by
 refine ctr_of_walk [[]] 11 Try.func29 rfl rfl rfl rfl (fun w0 om => ?_)
 unfold shape_Journal at hm
 refine CWalk.sub (G' := [.fact 0 (.rep [] (a0 : Config))]) (Sub.cons (Has.fl (Has.s rfl)) Sub.nil) ?_
 refine CWalk.seq ?_
 refine CWalk.region ?_
 refine ws (Step.boxObj (ls := [(false, 1, Fact.rep [] a0.Id), (false, 1, Fact.rep [] a0.Members), (false, 1, Fact.rep [] a0.Chunk), (false, 1, Fact.rep [] a0.Rows), (false, 1, Fact.rep [] a0.Log), (false, 1, Fact.rep [] a0.Heads)]) 10 rfl rfl rfl rfl (HasL.flds (Has.cv (Has.s rfl) (Cv.trans (Cv.opens (chConfig a0)) (Cv.flds (CvL.cons Cv.fl (CvL.cons Cv.fl (CvL.cons Cv.fl (CvL.cons Cv.fl (CvL.cons Cv.fl (CvL.cons Cv.fl CvL.nil))))))))))) ?_
 refine wo (Spec.assign Has.int) ?_
 refine wo (Spec.assign Has.int) ?_
 refine Walk.nil ?_
 refine Leaf.thenN ?_
 refine CWalk.seq ?_
 refine CWalk.region ?_
 refine wo (Spec.loadObj (ls := [(false, 1, Fact.rep [] a0.Id), (false, 1, Fact.rep [] a0.Members), (false, 1, Fact.rep [] a0.Chunk), (false, 1, Fact.rep [] a0.Rows), (false, 1, Fact.rep [] a0.Log), (false, 1, Fact.rep [] a0.Heads)]) ty24 rfl rfl (Has.s rfl) rfl (HasGs.cons (HasG.s rfl) (HasGs.cons (HasG.s rfl) (HasGs.cons (HasG.s rfl) (HasGs.cons (HasG.s rfl) (HasGs.cons (HasG.s rfl) (HasGs.cons (HasG.s rfl) HasGs.nil))))))) ?_
 refine wo (Spec.fieldAddrO fd24_4 (Has.cv (Has.s rfl) (Cv.isvP rfl))) ?_
 refine wo (Spec.loadF (i := 4) ty3 rfl (Has.s rfl) rfl (HasG.s rfl)) ?_
 refine wo (Spec.addI (Has.s rfl) Has.int) ?_
 obtain ⟨x1, hx1, hm⟩ := bind_some hm
 refine wo (f := Fact.tup2 (Fact.rep [] x1.1) (Fact.rep [] x1.2)) (Spec.callE [] 17 rfl en49 (shape_told_c a0 (wI (a0.Log + (1 : Int))) hx1) (HasAll.cons (Has.fl (Has.cv (Has.s rfl) (Cv.trans (Cv.flds (CvL.cons Cv.fl (CvL.cons Cv.fl (CvL.cons Cv.fl (CvL.cons Cv.fl (CvL.cons Cv.fl (CvL.cons Cv.fl CvL.nil))))))) (Cv.close (T := []) (chConfig a0))))) (HasAll.cons (Has.fl (Has.s rfl)) HasAll.nil))) ?_
 refine wo (Spec.ext0 (Has.s rfl)) ?_
 refine wo (Spec.ext1 (Has.s rfl)) ?_
 refine wo (Spec.assign (Has.s rfl)) ?_
 refine wo (Spec.assign (Has.s rfl)) ?_
 refine Walk.nil ?_
 refine Leaf.thenN ?_
 refine CWalk.ret ?_
 obtain rfl := Option.some.inj hm
 exact Leaf.retC2 rfl (HasR.cv (HasR.tmp (Has.s rfl)) Cv.fl) (HasR.cv (HasR.tmp (Has.s rfl)) Cv.fl)

def fetch_Check_J2 (s2 : Int) (x4 : Disk) (j5 : Int) : Option (Ctl (Int) ((Unit) ⊕ (Unit))) :=
  Option.bind (gO (!(((x4.Blocks).length : Int) != j5)) (disk_Check x4)) (fun x6 => (bif ((((x4.Blocks).length : Int) != j5) || (x6 != (0 : Int))) then some (Ctl.brk (Sum.inr ())) else some (Ctl.next (wI (s2 + (1 : Int))))))
def fetch_Check_L1 (a0 : Config) (a1 : List Disk) (x1 : Int × Int) (s2 : Int) : Option (Ctl (Int) ((Unit) ⊕ (Unit))) :=
  (bif (decide (s2 < ((a1).length : Int))) then Option.bind (idx a1 s2) (fun x4 => (bif (s2 == a0.Members) then Option.bind (shape_Journal a0) (fun x7 => (fetch_Check_J2 s2 x4 x7.1)) else (fetch_Check_J2 s2 x4 x1.1))) else some (Ctl.brk (Sum.inl ())))
/-- freeboard/fetch.Check -/
def fetch_Check (a0 : Config) (a1 : List Disk) : Option (Int) :=
  Option.bind (shape_Member a0) (fun x1 => (bif ((x1.2 != (0 : Int)) || (((a1).length : Int) != (wI (a0.Members + (1 : Int))))) then some (8 : Int) else Option.bind (loopM (fun s : Int => fetch_Check_L1 a0 a1 x1 s) FUEL (0 : Int)) (fun b8 => Sum.elim (fun b9 => some (0 : Int)) (fun b10 => some (8 : Int)) b8)))
set_option maxRecDepth 100000 in
set_option maxHeartbeats 2000000 in
theorem fetch_Check_c (a0 : Config) (a1 : List Disk) {r : Int} (hm : fetch_Check a0 a1 = some r) : Ctr Try.prog 11 [.rep 0 a0, .rep 0 a1] (.fl r) [] := by
 refine ctr_of_walk [[]] 53 Try.func11 rfl rfl rfl rfl (fun w0 om => ?_)
 unfold fetch_Check at hm
 refine CWalk.sub (G' := [.fact 0 (.rep [] (a0 : Config)), .fact 1 (.rep [0] (a1 : List Disk))]) (Sub.cons (Has.fl (Has.s rfl)) (sn Sub.nil)) ?_
 refine CWalk.seq ?_
 refine CWalk.region ?_
 refine ws (Step.boxObj (ls := [(false, 1, Fact.rep [] a0.Id), (false, 1, Fact.rep [] a0.Members), (false, 1, Fact.rep [] a0.Chunk), (false, 1, Fact.rep [] a0.Rows), (false, 1, Fact.rep [] a0.Log), (false, 1, Fact.rep [] a0.Heads)]) 10 rfl rfl rfl rfl (HasL.flds (Has.cv (Has.s rfl) (Cv.trans (Cv.opens (chConfig a0)) (Cv.flds (CvL.cons Cv.fl (CvL.cons Cv.fl (CvL.cons Cv.fl (CvL.cons Cv.fl (CvL.cons Cv.fl (CvL.cons Cv.fl CvL.nil))))))))))) ?_
 refine wo (Spec.assign Has.int) ?_
 refine Walk.nil ?_
 refine Leaf.thenN ?_
 refine CWalk.seq ?_
 refine CWalk.region ?_
 refine wo (Spec.loadObj (ls := [(false, 1, Fact.rep [] a0.Id), (false, 1, Fact.rep [] a0.Members), (false, 1, Fact.rep [] a0.Chunk), (false, 1, Fact.rep [] a0.Rows), (false, 1, Fact.rep [] a0.Log), (false, 1, Fact.rep [] a0.Heads)]) ty24 rfl rfl (Has.s rfl) rfl (HasGs.cons (HasG.s rfl) (HasGs.cons (HasG.s rfl) (HasGs.cons (HasG.s rfl) (HasGs.cons (HasG.s rfl) (HasGs.cons (HasG.s rfl) (HasGs.cons (HasG.s rfl) HasGs.nil))))))) ?_
 obtain ⟨x1, hx1, hm⟩ := bind_some hm
 refine wo (f := Fact.tup2 (Fact.rep [] x1.1) (Fact.rep [] x1.2)) (Spec.callE [] 17 rfl en28 (shape_Member_c a0 hx1) (HasAll.cons (Has.fl (Has.cv (Has.s rfl) (Cv.trans (Cv.flds (CvL.cons Cv.fl (CvL.cons Cv.fl (CvL.cons Cv.fl (CvL.cons Cv.fl (CvL.cons Cv.fl (CvL.cons Cv.fl CvL.nil))))))) (Cv.close (T := []) (chConfig a0))))) HasAll.nil)) ?_
 refine mv ?_
 refine wo (Spec.ext0 (Has.s rfl)) ?_
 refine wo (Spec.ext1 (Has.s rfl)) ?_
 refine wo (Spec.assign (Has.s rfl)) ?_
 refine wo (Spec.assign (Has.s rfl)) ?_
 refine Walk.nil ?_
 refine Leaf.thenN ?_
 refine CWalk.seq ?_
 refine CWalk.seq ?_
 refine CWalk.region ?_
 refine mv ?_
 refine wo (Spec.neqI (Has.s rfl) Has.int) ?_
 refine mv ?_
 refine wg rfl rfl (fun hb => Spec.move (Has.s rfl)) ?_
 refine wg rfl rfl (fun hb => Spec.len (Has.u rfl hb) Try.underlying25) ?_
 refine wg rfl rfl (fun hb => Spec.fieldAddrO fd24_1 (Has.cv (Has.s rfl) (Cv.isvP rfl))) ?_
 refine wg rfl rfl (fun hb => Spec.loadF (i := 1) ty3 rfl (Has.u rfl hb) rfl (HasG.s rfl)) ?_
 refine wg rfl rfl (fun hb => Spec.addI (Has.u rfl hb) Has.int) ?_
 refine wg rfl rfl (fun hb => Spec.neqI (Has.u rfl hb) (Has.u rfl hb)) ?_
 refine wo (Spec.or (Has.s rfl) (fun h => Has.u rfl h)) ?_
 refine Walk.nil ?_
 refine Leaf.thenN ?_
 refine CWalk.cond rfl (fun hb => ?_) (fun hb => ?_)
 ·have hm := cond_t hb hm
  refine CWalk.seq ?_
  refine CWalk.region ?_
  refine wo (Spec.assign Has.int) ?_
  refine Walk.nil ?_
  refine Leaf.thenN ?_
  refine CWalk.ret ?_
  refine Leaf.thenR ?_
  obtain rfl := Option.some.inj hm
  exact Leaf.retC1 rfl (HasR.cv (HasR.tmp (Has.s rfl)) Cv.fl)
 ·have hm := cond_f hb hm
  refine CWalk.skip ?_
  refine Leaf.thenN ?_
  refine CWalk.seq ?_
  refine CWalk.seq ?_
  refine CWalk.region ?_
  refine mv ?_
  refine wo (Spec.len (Has.s rfl) Try.underlying25) ?_
  refine wo (Spec.move Has.int) ?_
  refine Walk.nil ?_
  refine Leaf.thenN ?_
  refine CWalk.block ?_
  obtain ⟨b8, hb8, hm⟩ := bind_some hm
  refine CWalk.loop (fun s : Int => [.fact 2 (.isv 10), .fact 5 (.rep [] x1.1), .fact 25 (.rep [0] (a1 : List Disk)), .fact 26 (.rep [] (((a1).length : Int) : Int)), .fact 27 (.rep [] (s : Int)), .fact 100011 (.at 11 (.rep [] a0.Id)), .fact 100012 (.at 12 (.rep [] a0.Members)), .fact 100013 (.at 13 (.rep [] a0.Chunk)), .fact 100014 (.at 14 (.rep [] a0.Rows)), .fact 100015 (.at 15 (.rep [] a0.Log)), .fact 100016 (.at 16 (.rep [] a0.Heads)), .fact 100010 (.obj 10 [(false, 1), (false, 1), (false, 1), (false, 1), (false, 1), (false, 1)])]) (fun b : (Unit) ⊕ (Unit) => Sum.elim (fun b => (Exit.exit 0, [])) (fun b => (Exit.ret, [.fact 4 (.rep [] ((8 : Int) : Int))])) b) hb8 (sn (st (su (st (st (sf (sf (sf (sf (sf (sf (sn Sub.nil)))))))))))) ?_ ?_
  ·rintro s2 c3 hm
   replace hm : fetch_Check_L1 a0 a1 x1 s2 = some c3 := hm
   unfold fetch_Check_L1 at hm
   show CWalk _ [.fact 2 (.isv 10), .fact 5 (.rep [] x1.1), .fact 25 (.rep [0] (a1 : List Disk)), .fact 26 (.rep [] (((a1).length : Int) : Int)), .fact 27 (.rep [] (s2 : Int)), .fact 100011 (.at 11 (.rep [] a0.Id)), .fact 100012 (.at 12 (.rep [] a0.Members)), .fact 100013 (.at 13 (.rep [] a0.Chunk)), .fact 100014 (.at 14 (.rep [] a0.Rows)), .fact 100015 (.at 15 (.rep [] a0.Log)), .fact 100016 (.at 16 (.rep [] a0.Heads)), .fact 100010 (.obj 10 [(false, 1), (false, 1), (false, 1), (false, 1), (false, 1), (false, 1)])] _ _
   refine CWalk.seq ?_
   refine CWalk.region ?_
   refine wo (Spec.lssI (Has.s rfl) (Has.s rfl)) ?_
   refine Walk.nil ?_
   refine Leaf.thenN ?_
   refine CWalk.seq ?_
   refine CWalk.cond rfl (fun hb => ?_) (fun hb => ?_)
   ·have hm := cond_t hb hm
    refine CWalk.skip ?_
    refine Leaf.thenN ?_
    refine CWalk.seq ?_
    refine CWalk.block ?_
    refine CWalk.seq ?_
    refine CWalk.region ?_
    refine mv ?_
    obtain ⟨x4, hx4, hm⟩ := bind_some hm
    refine wo (Spec.indexAddr hx4 sl25 (Has.s rfl) (Has.s rfl)) ?_
    refine wo (Spec.load ty49 (Has.s rfl)) ?_
    refine ws (Step.allocObj (ls := [(false, 1, Fact.nilv), (false, 1, Fact.nilv), (false, 1, Fact.rep [] (false : Bool))]) 18 rfl rfl rfl rfl zl49) ?_
    refine wo (Spec.assign (Has.s rfl)) ?_
    refine ws (Step.storeObj (ls := [(false, 1, Fact.rep [0] x4.Blocks), (false, 1, Fact.rep [0] x4.Wait), (false, 1, Fact.rep [] x4.Dead)]) rfl ty49 rfl rfl (Has.s rfl) rfl (HasL.flds (Has.cv (Has.s rfl) (Cv.trans (Cv.opens (chDisk x4)) (Cv.flds (CvL.cons Cv.refl (CvL.cons Cv.refl (CvL.cons Cv.fl CvL.nil))))))) rfl) ?_
    refine Walk.nil ?_
    refine Leaf.thenN ?_
    refine CWalk.seq ?_
    refine CWalk.region ?_
    refine mv ?_
    refine wo (Spec.assign (Has.s rfl)) ?_
    refine Walk.nil ?_
    refine Leaf.thenN ?_
    refine CWalk.seqJ (fun p : Int => [.fact 2 (.isv 10), .fact 5 (.rep [] x1.1), .fact 8 (.isv 18), .fact 9 (.rep [] (p : Int)), .fact 25 (.rep [0] (a1 : List Disk)), .fact 26 (.rep [] (((a1).length : Int) : Int)), .fact 27 (.rep [] (s2 : Int)), .fact 100011 (.at 11 (.rep [] a0.Id)), .fact 100012 (.at 12 (.rep [] a0.Members)), .fact 100013 (.at 13 (.rep [] a0.Chunk)), .fact 100014 (.at 14 (.rep [] a0.Rows)), .fact 100015 (.at 15 (.rep [] a0.Log)), .fact 100016 (.at 16 (.rep [] a0.Heads)), .fact 100019 (.at 19 (.rep [0] x4.Blocks)), .fact 100020 (.at 20 (.rep [0] x4.Wait)), .fact 100021 (.at 21 (.rep [] x4.Dead)), .fact 100010 (.obj 10 [(false, 1), (false, 1), (false, 1), (false, 1), (false, 1), (false, 1)]), .fact 100018 (.obj 18 [(false, 1), (false, 1), (false, 1)])]) (fun p : Int => fetch_Check_J2 s2 x4 p = some c3) ?_ ?_
    ·rintro j5 hm
     replace hm : fetch_Check_J2 s2 x4 j5 = some c3 := hm
     unfold fetch_Check_J2 at hm
     show CWalk _ [.fact 2 (.isv 10), .fact 5 (.rep [] x1.1), .fact 8 (.isv 18), .fact 9 (.rep [] (j5 : Int)), .fact 25 (.rep [0] (a1 : List Disk)), .fact 26 (.rep [] (((a1).length : Int) : Int)), .fact 27 (.rep [] (s2 : Int)), .fact 100011 (.at 11 (.rep [] a0.Id)), .fact 100012 (.at 12 (.rep [] a0.Members)), .fact 100013 (.at 13 (.rep [] a0.Chunk)), .fact 100014 (.at 14 (.rep [] a0.Rows)), .fact 100015 (.at 15 (.rep [] a0.Log)), .fact 100016 (.at 16 (.rep [] a0.Heads)), .fact 100019 (.at 19 (.rep [0] x4.Blocks)), .fact 100020 (.at 20 (.rep [0] x4.Wait)), .fact 100021 (.at 21 (.rep [] x4.Dead)), .fact 100010 (.obj 10 [(false, 1), (false, 1), (false, 1), (false, 1), (false, 1), (false, 1)]), .fact 100018 (.obj 18 [(false, 1), (false, 1), (false, 1)])] _ _
     refine CWalk.seq ?_
     refine CWalk.region ?_
     refine wo (Spec.fieldAddrO fd49_0 (Has.cv (Has.s rfl) (Cv.isvP rfl))) ?_
     refine wo (Spec.loadF (i := 0) ty46 rfl (Has.s rfl) rfl (HasG.s rfl)) ?_
     refine wo (Spec.len (Has.s rfl) Try.underlying46) ?_
     refine mv ?_
     refine wo (Spec.neqI (Has.s rfl) (Has.s rfl)) ?_
     refine mv ?_
     refine wg rfl rfl (fun hb => Spec.loadObj (ls := [(false, 1, Fact.rep [0] x4.Blocks), (false, 1, Fact.rep [0] x4.Wait), (false, 1, Fact.rep [] x4.Dead)]) ty49 rfl rfl (Has.s rfl) rfl (HasGs.cons (HasG.s rfl) (HasGs.cons (HasG.s rfl) (HasGs.cons (HasG.s rfl) HasGs.nil)))) ?_
     obtain ⟨x6, hx6, hm⟩ := bind_some hm
     refine wg (f := Fact.rep [] (x6 : Int)) rfl rfl (fun hb => Spec.callE [0] 23 rfl en30 (disk_Check_c x4 (gO_t hx6 (not_t hb))) (HasAll.cons (Has.m (Has.cv (Has.u rfl hb) (Cv.trans (Cv.flds (CvL.cons (Cv.m rfl) (CvL.cons (Cv.m rfl) (CvL.cons Cv.fl CvL.nil)))) (Cv.close (T := [0]) (chDisk x4)))) rfl) HasAll.nil)) ?_
     refine wg rfl rfl (fun hb => Spec.neqI (Has.u rfl hb) Has.int) ?_
     refine wo (Spec.or (Has.s rfl) (fun h => Has.u rfl h)) ?_
     refine Walk.nil ?_
     refine Leaf.thenN ?_
     refine CWalk.cond rfl (fun hb => ?_) (fun hb => ?_)
     ·have hm := cond_t hb hm
      refine CWalk.seq ?_
      refine CWalk.region ?_
      refine wo (Spec.assign Has.int) ?_
      refine Walk.nil ?_
      refine Leaf.thenN ?_
      refine CWalk.ret ?_
      refine Leaf.blockR ?_
      refine Leaf.thenR ?_
      exact Leaf.brk hm (fun h => nomatch h) rfl (st Sub.nil)
     ·have hm := cond_f hb hm
      refine CWalk.skip ?_
      refine Leaf.blockN ?_
      refine Leaf.thenN ?_
      refine CWalk.region ?_
      refine wo (Spec.addI (Has.s rfl) Has.int) ?_
      refine mv ?_
      refine Walk.nil ?_
      exact Leaf.next hm (sn (st (su (st (st (sf (sf (sf (sf (sf (sf (sn Sub.nil))))))))))))
    ·refine CWalk.seq ?_
     refine CWalk.region ?_
     refine mv ?_
     refine wo (Spec.fieldAddrO fd24_1 (Has.cv (Has.s rfl) (Cv.isvP rfl))) ?_
     refine wo (Spec.loadF (i := 1) ty3 rfl (Has.s rfl) rfl (HasG.s rfl)) ?_
     refine wo (Spec.eqlI (Has.s rfl) (Has.s rfl)) ?_
     refine Walk.nil ?_
     refine Leaf.thenN ?_
     refine CWalk.cond rfl (fun hb => ?_) (fun hb => ?_)
     ·have hm := cond_t hb hm
      refine CWalk.region ?_
      refine wo (Spec.loadObj (ls := [(false, 1, Fact.rep [] a0.Id), (false, 1, Fact.rep [] a0.Members), (false, 1, Fact.rep [] a0.Chunk), (false, 1, Fact.rep [] a0.Rows), (false, 1, Fact.rep [] a0.Log), (false, 1, Fact.rep [] a0.Heads)]) ty24 rfl rfl (Has.s rfl) rfl (HasGs.cons (HasG.s rfl) (HasGs.cons (HasG.s rfl) (HasGs.cons (HasG.s rfl) (HasGs.cons (HasG.s rfl) (HasGs.cons (HasG.s rfl) (HasGs.cons (HasG.s rfl) HasGs.nil))))))) ?_
      obtain ⟨x7, hx7, hm⟩ := bind_some hm
      refine wo (f := Fact.tup2 (Fact.rep [] x7.1) (Fact.rep [] x7.2)) (Spec.callE [] 22 rfl en29 (shape_Journal_c a0 hx7) (HasAll.cons (Has.fl (Has.cv (Has.s rfl) (Cv.trans (Cv.flds (CvL.cons Cv.fl (CvL.cons Cv.fl (CvL.cons Cv.fl (CvL.cons Cv.fl (CvL.cons Cv.fl (CvL.cons Cv.fl CvL.nil))))))) (Cv.close (T := []) (chConfig a0))))) HasAll.nil)) ?_
      refine mv ?_
      refine wo (Spec.ext0 (Has.s rfl)) ?_
      refine wo (Spec.ext1 (Has.s rfl)) ?_
      refine wo (Spec.assign (Has.s rfl)) ?_
      refine Walk.nil ?_
      exact Leaf.join x7.1 hm (sn (st (sn (st (su (st (st (sf (sf (sf (sf (sf (sf (sm (sm (sf (sn (sn Sub.nil))))))))))))))))))
     ·have hm := cond_f hb hm
      refine CWalk.skip ?_
      exact Leaf.join x1.1 hm (sn (st (sn (st (su (st (st (sf (sf (sf (sf (sf (sf (sm (sm (sf (sn (sn Sub.nil))))))))))))))))))
   ·have hm := cond_f hb hm
    refine CWalk.exit ?_
    refine Leaf.thenE ?_
    exact Leaf.brk hm (fun h => nomatch h) rfl (Sub.nil)
  ·intro _
   rcases b8 with b9 | b10
   ·have hm := selim_l hm
    refine Leaf.blockE ?_
    refine Leaf.thenN ?_
    refine CWalk.seq ?_
    refine CWalk.region ?_
    refine wo (Spec.assign Has.int) ?_
    refine Walk.nil ?_
    refine Leaf.thenN ?_
    refine CWalk.ret ?_
    obtain rfl := Option.some.inj hm
    exact Leaf.retC1 rfl (HasR.cv (HasR.tmp (Has.s rfl)) Cv.fl)
   ·have hm := selim_r hm
    refine Leaf.blockR ?_
    refine Leaf.thenR ?_
    obtain rfl := Option.some.inj hm
    exact Leaf.retC1 rfl (HasR.cv (HasR.tmp (Has.s rfl)) Cv.fl)

/-- freeboard/shape.Stripes -/
def shape_Stripes (a0 : Config) : Option (Int × Int) :=
  Option.bind (shape_told a0 (wI (a0.Chunk * a0.Rows))) (fun x1 => some (x1.1, x1.2))
set_option maxRecDepth 100000 in
set_option maxHeartbeats 2000000 in
theorem shape_Stripes_c (a0 : Config) {r : Int × Int} (hm : shape_Stripes a0 = some r) : Ctr Try.prog 65 [.rep 0 a0] (.tup2 (.fl r.1) (.fl r.2)) [] := by
 refine ctr_of_walk [[]] 13 Try.func65 rfl rfl rfl rfl (fun w0 om => ?_)
 unfold shape_Stripes at hm
 refine CWalk.sub (G' := [.fact 0 (.rep [] (a0 : Config))]) (Sub.cons (Has.fl (Has.s rfl)) Sub.nil) ?_
 refine CWalk.seq ?_
 refine CWalk.region ?_
 refine ws (Step.boxObj (ls := [(false, 1, Fact.rep [] a0.Id), (false, 1, Fact.rep [] a0.Members), (false, 1, Fact.rep [] a0.Chunk), (false, 1, Fact.rep [] a0.Rows), (false, 1, Fact.rep [] a0.Log), (false, 1, Fact.rep [] a0.Heads)]) 10 rfl rfl rfl rfl (HasL.flds (Has.cv (Has.s rfl) (Cv.trans (Cv.opens (chConfig a0)) (Cv.flds (CvL.cons Cv.fl (CvL.cons Cv.fl (CvL.cons Cv.fl (CvL.cons Cv.fl (CvL.cons Cv.fl (CvL.cons Cv.fl CvL.nil))))))))))) ?_
 refine wo (Spec.assign Has.int) ?_
 refine wo (Spec.assign Has.int) ?_
 refine Walk.nil ?_
 refine Leaf.thenN ?_
 refine CWalk.seq ?_
 refine CWalk.region ?_
 refine wo (Spec.loadObj (ls := [(false, 1, Fact.rep [] a0.Id), (false, 1, Fact.rep [] a0.Members), (false, 1, Fact.rep [] a0.Chunk), (false, 1, Fact.rep [] a0.Rows), (false, 1, Fact.rep [] a0.Log), (false, 1, Fact.rep [] a0.Heads)]) ty24 rfl rfl (Has.s rfl) rfl (HasGs.cons (HasG.s rfl) (HasGs.cons (HasG.s rfl) (HasGs.cons (HasG.s rfl) (HasGs.cons (HasG.s rfl) (HasGs.cons (HasG.s rfl) (HasGs.cons (HasG.s rfl) HasGs.nil))))))) ?_
 refine wo (Spec.fieldAddrO fd24_2 (Has.cv (Has.s rfl) (Cv.isvP rfl))) ?_
 refine wo (Spec.loadF (i := 2) ty3 rfl (Has.s rfl) rfl (HasG.s rfl)) ?_
 refine wo (Spec.fieldAddrO fd24_3 (Has.cv (Has.s rfl) (Cv.isvP rfl))) ?_
 refine wo (Spec.loadF (i := 3) ty3 rfl (Has.s rfl) rfl (HasG.s rfl)) ?_
 refine wo (Spec.mulI (Has.s rfl) (Has.s rfl)) ?_
 obtain ⟨x1, hx1, hm⟩ := bind_some hm
 refine wo (f := Fact.tup2 (Fact.rep [] x1.1) (Fact.rep [] x1.2)) (Spec.callE [] 17 rfl en49 (shape_told_c a0 (wI (a0.Chunk * a0.Rows)) hx1) (HasAll.cons (Has.fl (Has.cv (Has.s rfl) (Cv.trans (Cv.flds (CvL.cons Cv.fl (CvL.cons Cv.fl (CvL.cons Cv.fl (CvL.cons Cv.fl (CvL.cons Cv.fl (CvL.cons Cv.fl CvL.nil))))))) (Cv.close (T := []) (chConfig a0))))) (HasAll.cons (Has.fl (Has.s rfl)) HasAll.nil))) ?_
 refine wo (Spec.ext0 (Has.s rfl)) ?_
 refine wo (Spec.ext1 (Has.s rfl)) ?_
 refine wo (Spec.assign (Has.s rfl)) ?_
 refine wo (Spec.assign (Has.s rfl)) ?_
 refine Walk.nil ?_
 refine Leaf.thenN ?_
 refine CWalk.ret ?_
 obtain rfl := Option.some.inj hm
 exact Leaf.retC2 rfl (HasR.cv (HasR.tmp (Has.s rfl)) Cv.fl) (HasR.cv (HasR.tmp (Has.s rfl)) Cv.fl)

/-- freeboard/turn.divide -/
def turn_divide (a0 : Int) (a1 : Int) : Option (Int × Int) :=
  Option.bind (quoI a0 a1) (fun x1 => Option.bind (remI a0 a1) (fun x2 => some (x1, x2)))
set_option maxRecDepth 100000 in
set_option maxHeartbeats 2000000 in
theorem turn_divide_c (a0 : Int) (a1 : Int) {r : Int × Int} (hm : turn_divide a0 a1 = some r) : Ctr Try.prog 66 [.rep 0 a0, .rep 0 a1] (.tup2 (.fl r.1) (.fl r.2)) [] := by
 refine ctr_of_walk [[]] 12 Try.func66 rfl rfl rfl rfl (fun w0 om => ?_)
 unfold turn_divide at hm
 refine CWalk.sub (G' := [.fact 0 (.rep [] (a0 : Int)), .fact 1 (.rep [] (a1 : Int))]) (Sub.cons (Has.fl (Has.s rfl)) (Sub.cons (Has.fl (Has.s rfl)) Sub.nil)) ?_
 refine CWalk.seq ?_
 refine CWalk.region ?_
 refine wo (Spec.assign Has.int) ?_
 refine wo (Spec.assign Has.int) ?_
 refine Walk.nil ?_
 refine Leaf.thenN ?_
 refine CWalk.seq ?_
 obtain ⟨x1, hx1, hm⟩ := bind_some hm
 obtain ⟨x2, hx2, hm⟩ := bind_some hm
 refine CWalk.drawM [[], [], [0, 1], [], [], [3, 4], [0, 1, 2], [0, 1, 2, 3, 4, 5, 6]] [[.fact 6 (.rep [] (a0 : Int))], [.fact 7 (.rep [] (a1 : Int))], [.fact 8 (.rep [] (x1 : Int))], [.fact 9 (.rep [] (a0 : Int))], [.fact 10 (.rep [] (a1 : Int))], [.fact 11 (.rep [] (x2 : Int))], [.fact 4 (.rep [] (x1 : Int))], [.fact 5 (.rep [] (x2 : Int))]] mixed (by kernel_rfl) (ao (so (Spec.move (Has.s rfl))) (ao (so (Spec.move (Has.s rfl))) (ao (so (Spec.quoI hx1 (Has.s rfl) (Has.s rfl))) (ao (so (Spec.move (Has.s rfl))) (ao (so (Spec.move (Has.s rfl))) (ao (so (Spec.remI hx2 (Has.s rfl) (Has.s rfl))) (ao (so (Spec.assign (Has.s rfl))) (ao (so (Spec.assign (Has.s rfl))) AllM.nil)))))))) ?_
 refine Leaf.thenN ?_
 refine CWalk.ret ?_
 obtain rfl := Option.some.inj hm
 exact Leaf.retC2 rfl (HasR.cv (HasR.tmp (Has.s rfl)) Cv.fl) (HasR.cv (HasR.tmp (Has.s rfl)) Cv.fl)

def turn_at_J1 (a0 : Config) (a1 : Int) (j2 : Bool) : Option (Row74 × Int) :=
  (bif j2 then some ((Row74.mk (Config.mk (0 : UInt32) (0 : Int) (0 : Int) (0 : Int) (0 : Int) (0 : Int)) (0 : Int)), (2 : Int)) else Option.bind (turn_divide a1 a0.Chunk) (fun x3 => some ((Row74.mk a0 x3.1), (0 : Int))))
/-- freeboard/turn.at -/
def turn_at (a0 : Config) (a1 : Int) (a2 : Int) (a3 : Int) : Option (Row74 × Int) :=
  Option.bind (shape_Stripes a0) (fun x1 => (bif (x1.2 != (0 : Int)) then some ((Row74.mk (Config.mk (0 : UInt32) (0 : Int) (0 : Int) (0 : Int) (0 : Int) (0 : Int)) (0 : Int)), x1.2) else (bif (decide (a1 < (0 : Int))) then (turn_at_J1 a0 a1 (decide (a1 < (0 : Int)))) else (bif (decide (a1 ≥ x1.1)) then (turn_at_J1 a0 a1 (decide (a1 ≥ x1.1))) else (bif (decide (a2 < (0 : Int))) then (turn_at_J1 a0 a1 (decide (a2 < (0 : Int)))) else (turn_at_J1 a0 a1 (decide (a2 ≥ a3))))))))
set_option maxRecDepth 100000 in
set_option maxHeartbeats 2000000 in
theorem turn_at_c (a0 : Config) (a1 : Int) (a2 : Int) (a3 : Int) {r : Row74 × Int} (hm : turn_at a0 a1 a2 a3 = some r) : Ctr Try.prog 39 [.rep 0 a0, .rep 0 a1, .rep 0 a2, .rep 0 a3] (.tup2 (.fl r.1) (.fl r.2)) [] := by
 refine ctr_of_walk [[]] 46 Try.func39 rfl rfl rfl rfl (fun w0 om => ?_)
 unfold turn_at at hm
 refine CWalk.sub (G' := [.fact 0 (.rep [] (a0 : Config)), .fact 1 (.rep [] (a1 : Int)), .fact 2 (.rep [] (a2 : Int)), .fact 3 (.rep [] (a3 : Int))]) (Sub.cons (Has.fl (Has.s rfl)) (Sub.cons (Has.fl (Has.s rfl)) (Sub.cons (Has.fl (Has.s rfl)) (Sub.cons (Has.fl (Has.s rfl)) Sub.nil)))) ?_
 refine CWalk.seq ?_
 refine CWalk.region ?_
 refine ws (Step.boxObj (ls := [(false, 1, Fact.rep [] a0.Id), (false, 1, Fact.rep [] a0.Members), (false, 1, Fact.rep [] a0.Chunk), (false, 1, Fact.rep [] a0.Rows), (false, 1, Fact.rep [] a0.Log), (false, 1, Fact.rep [] a0.Heads)]) 10 rfl rfl rfl rfl (HasL.flds (Has.cv (Has.s rfl) (Cv.trans (Cv.opens (chConfig a0)) (Cv.flds (CvL.cons Cv.fl (CvL.cons Cv.fl (CvL.cons Cv.fl (CvL.cons Cv.fl (CvL.cons Cv.fl (CvL.cons Cv.fl CvL.nil))))))))))) ?_
 refine ws (Step.allocObj (ls := [(false, 1, Fact.rep [] ((0 : UInt32) : UInt32)), (false, 1, Fact.rep [] ((0 : Int) : Int)), (false, 1, Fact.rep [] ((0 : Int) : Int)), (false, 1, Fact.rep [] ((0 : Int) : Int)), (false, 1, Fact.rep [] ((0 : Int) : Int)), (false, 1, Fact.rep [] ((0 : Int) : Int)), (false, 1, Fact.rep [] ((0 : Int) : Int))]) 17 rfl rfl rfl rfl zl74) ?_
 refine wo (Spec.assign Has.int) ?_
 refine Walk.nil ?_
 refine Leaf.thenN ?_
 refine CWalk.seq ?_
 refine CWalk.region ?_
 refine wo (Spec.loadObj (ls := [(false, 1, Fact.rep [] a0.Id), (false, 1, Fact.rep [] a0.Members), (false, 1, Fact.rep [] a0.Chunk), (false, 1, Fact.rep [] a0.Rows), (false, 1, Fact.rep [] a0.Log), (false, 1, Fact.rep [] a0.Heads)]) ty24 rfl rfl (Has.s rfl) rfl (HasGs.cons (HasG.s rfl) (HasGs.cons (HasG.s rfl) (HasGs.cons (HasG.s rfl) (HasGs.cons (HasG.s rfl) (HasGs.cons (HasG.s rfl) (HasGs.cons (HasG.s rfl) HasGs.nil))))))) ?_
 obtain ⟨x1, hx1, hm⟩ := bind_some hm
 refine wo (f := Fact.tup2 (Fact.rep [] x1.1) (Fact.rep [] x1.2)) (Spec.callE [] 25 rfl en65 (shape_Stripes_c a0 hx1) (HasAll.cons (Has.fl (Has.cv (Has.s rfl) (Cv.trans (Cv.flds (CvL.cons Cv.fl (CvL.cons Cv.fl (CvL.cons Cv.fl (CvL.cons Cv.fl (CvL.cons Cv.fl (CvL.cons Cv.fl CvL.nil))))))) (Cv.close (T := []) (chConfig a0))))) HasAll.nil)) ?_
 refine mv ?_
 refine wo (Spec.ext0 (Has.s rfl)) ?_
 refine wo (Spec.ext1 (Has.s rfl)) ?_
 refine wo (Spec.assign (Has.s rfl)) ?_
 refine wo (Spec.assign (Has.s rfl)) ?_
 refine Walk.nil ?_
 refine Leaf.thenN ?_
 refine CWalk.seq ?_
 refine CWalk.block ?_
 refine CWalk.seq ?_
 refine CWalk.region ?_
 refine mv ?_
 refine wo (Spec.neqI (Has.s rfl) Has.int) ?_
 refine wo (Spec.assign (Has.s rfl)) ?_
 refine Walk.nil ?_
 refine Leaf.thenN ?_
 refine CWalk.cond rfl (fun hb => ?_) (fun hb => ?_)
 ·have hm := cond_t hb hm
  refine CWalk.seq ?_
  refine CWalk.region ?_
  refine wo (Spec.build (us := []) (ls' := [(true, 6, Fact.flds [(false, 1, Fact.rep [] ((0 : UInt32) : UInt32)), (false, 1, Fact.rep [] ((0 : Int) : Int)), (false, 1, Fact.rep [] ((0 : Int) : Int)), (false, 1, Fact.rep [] ((0 : Int) : Int)), (false, 1, Fact.rep [] ((0 : Int) : Int)), (false, 1, Fact.rep [] ((0 : Int) : Int))]), (false, 1, Fact.rep [] ((0 : Int) : Int))]) bd74 rfl BP.nil) ?_
  refine mv ?_
  refine ws (Step.storeObj (ls := [(false, 1, Fact.rep [] ((0 : UInt32) : UInt32)), (false, 1, Fact.rep [] ((0 : Int) : Int)), (false, 1, Fact.rep [] ((0 : Int) : Int)), (false, 1, Fact.rep [] ((0 : Int) : Int)), (false, 1, Fact.rep [] ((0 : Int) : Int)), (false, 1, Fact.rep [] ((0 : Int) : Int)), (false, 1, Fact.rep [] ((0 : Int) : Int))]) rfl ty74 rfl rfl (Has.s rfl) rfl (HasL.flds (Has.cv (Has.s rfl) (Cv.flat (FlatR.sub (FlatR.cons (FlatR.cons (FlatR.cons (FlatR.cons (FlatR.cons (FlatR.cons FlatR.nil)))))) rfl (FlatR.cons FlatR.nil))))) rfl) ?_
  refine wo (Spec.assign (Has.s rfl)) ?_
  refine Walk.nil ?_
  refine Leaf.thenN ?_
  refine CWalk.ret ?_
  refine Leaf.blockR ?_
  refine Leaf.thenR ?_
  obtain rfl := Option.some.inj hm
  exact Leaf.retC2 rfl (HasR.cv (HasR.cv (HasR.obj (ls := [(false, 1, Fact.rep [] ((0 : UInt32) : UInt32)), (false, 1, Fact.rep [] ((0 : Int) : Int)), (false, 1, Fact.rep [] ((0 : Int) : Int)), (false, 1, Fact.rep [] ((0 : Int) : Int)), (false, 1, Fact.rep [] ((0 : Int) : Int)), (false, 1, Fact.rep [] ((0 : Int) : Int)), (false, 1, Fact.rep [] ((0 : Int) : Int))]) ty74 rfl rfl (Has.s rfl) rfl (HasGs.cons (HasG.s rfl) (HasGs.cons (HasG.s rfl) (HasGs.cons (HasG.s rfl) (HasGs.cons (HasG.s rfl) (HasGs.cons (HasG.s rfl) (HasGs.cons (HasG.s rfl) (HasGs.cons (HasG.s rfl) HasGs.nil)))))))) (Cv.unflat (FlatR.sub (FlatR.cons (FlatR.cons (FlatR.cons (FlatR.cons (FlatR.cons (FlatR.cons FlatR.nil)))))) rfl (FlatR.cons FlatR.nil)))) (Cv.trans (Cv.trans (Cv.flds (CvL.cons (Cv.trans (Cv.trans (Cv.flds (CvL.cons Cv.fl (CvL.cons Cv.fl (CvL.cons Cv.fl (CvL.cons Cv.fl (CvL.cons Cv.fl (CvL.cons Cv.fl CvL.nil))))))) (Cv.close (T := []) (chConfig (Config.mk (0 : UInt32) (0 : Int) (0 : Int) (0 : Int) (0 : Int) (0 : Int))))) Cv.fl) (CvL.cons Cv.fl CvL.nil))) (Cv.close (T := []) (chRow74 (Row74.mk (Config.mk (0 : UInt32) (0 : Int) (0 : Int) (0 : Int) (0 : Int) (0 : Int)) (0 : Int))))) Cv.fl)) (HasR.cv (HasR.tmp (Has.s rfl)) Cv.fl)
 ·have hm := cond_f hb hm
  refine CWalk.seqJ (fun p : Bool => [.fact 1 (.rep [] (a1 : Int)), .fact 4 (.isv 10), .fact 8 (.isv 17), .fact 24 (.rep [] (p : Bool)), .fact 100011 (.at 11 (.rep [] a0.Id)), .fact 100012 (.at 12 (.rep [] a0.Members)), .fact 100013 (.at 13 (.rep [] a0.Chunk)), .fact 100014 (.at 14 (.rep [] a0.Rows)), .fact 100015 (.at 15 (.rep [] a0.Log)), .fact 100016 (.at 16 (.rep [] a0.Heads)), .fact 100018 (.at 18 (.rep [] ((0 : UInt32) : UInt32))), .fact 100019 (.at 19 (.rep [] ((0 : Int) : Int))), .fact 100020 (.at 20 (.rep [] ((0 : Int) : Int))), .fact 100021 (.at 21 (.rep [] ((0 : Int) : Int))), .fact 100022 (.at 22 (.rep [] ((0 : Int) : Int))), .fact 100023 (.at 23 (.rep [] ((0 : Int) : Int))), .fact 100024 (.at 24 (.rep [] ((0 : Int) : Int))), .fact 100010 (.obj 10 [(false, 1), (false, 1), (false, 1), (false, 1), (false, 1), (false, 1)]), .fact 100017 (.obj 17 [(false, 1), (false, 1), (false, 1), (false, 1), (false, 1), (false, 1), (false, 1)])]) (fun p : Bool => turn_at_J1 a0 a1 p = some r) ?_ ?_
  ·rintro j2 hm
   replace hm : turn_at_J1 a0 a1 j2 = some r := hm
   unfold turn_at_J1 at hm
   show CWalk _ [.fact 1 (.rep [] (a1 : Int)), .fact 4 (.isv 10), .fact 8 (.isv 17), .fact 24 (.rep [] (j2 : Bool)), .fact 100011 (.at 11 (.rep [] a0.Id)), .fact 100012 (.at 12 (.rep [] a0.Members)), .fact 100013 (.at 13 (.rep [] a0.Chunk)), .fact 100014 (.at 14 (.rep [] a0.Rows)), .fact 100015 (.at 15 (.rep [] a0.Log)), .fact 100016 (.at 16 (.rep [] a0.Heads)), .fact 100018 (.at 18 (.rep [] ((0 : UInt32) : UInt32))), .fact 100019 (.at 19 (.rep [] ((0 : Int) : Int))), .fact 100020 (.at 20 (.rep [] ((0 : Int) : Int))), .fact 100021 (.at 21 (.rep [] ((0 : Int) : Int))), .fact 100022 (.at 22 (.rep [] ((0 : Int) : Int))), .fact 100023 (.at 23 (.rep [] ((0 : Int) : Int))), .fact 100024 (.at 24 (.rep [] ((0 : Int) : Int))), .fact 100010 (.obj 10 [(false, 1), (false, 1), (false, 1), (false, 1), (false, 1), (false, 1)]), .fact 100017 (.obj 17 [(false, 1), (false, 1), (false, 1), (false, 1), (false, 1), (false, 1), (false, 1)])] _ _
   refine CWalk.cond rfl (fun hb => ?_) (fun hb => ?_)
   ·have hm := cond_t hb hm
    refine CWalk.seq ?_
    refine CWalk.region ?_
    refine wo (Spec.build (us := []) (ls' := [(true, 6, Fact.flds [(false, 1, Fact.rep [] ((0 : UInt32) : UInt32)), (false, 1, Fact.rep [] ((0 : Int) : Int)), (false, 1, Fact.rep [] ((0 : Int) : Int)), (false, 1, Fact.rep [] ((0 : Int) : Int)), (false, 1, Fact.rep [] ((0 : Int) : Int)), (false, 1, Fact.rep [] ((0 : Int) : Int))]), (false, 1, Fact.rep [] ((0 : Int) : Int))]) bd74 rfl BP.nil) ?_
    refine ws (Step.storeObj (ls := [(false, 1, Fact.rep [] ((0 : UInt32) : UInt32)), (false, 1, Fact.rep [] ((0 : Int) : Int)), (false, 1, Fact.rep [] ((0 : Int) : Int)), (false, 1, Fact.rep [] ((0 : Int) : Int)), (false, 1, Fact.rep [] ((0 : Int) : Int)), (false, 1, Fact.rep [] ((0 : Int) : Int)), (false, 1, Fact.rep [] ((0 : Int) : Int))]) rfl ty74 rfl rfl (Has.s rfl) rfl (HasL.flds (Has.cv (Has.s rfl) (Cv.flat (FlatR.sub (FlatR.cons (FlatR.cons (FlatR.cons (FlatR.cons (FlatR.cons (FlatR.cons FlatR.nil)))))) rfl (FlatR.cons FlatR.nil))))) rfl) ?_
    refine wo (Spec.assign Has.int) ?_
    refine Walk.nil ?_
    refine Leaf.thenN ?_
    refine CWalk.ret ?_
    refine Leaf.blockR ?_
    refine Leaf.thenR ?_
    obtain rfl := Option.some.inj hm
    exact Leaf.retC2 rfl (HasR.cv (HasR.cv (HasR.obj (ls := [(false, 1, Fact.rep [] ((0 : UInt32) : UInt32)), (false, 1, Fact.rep [] ((0 : Int) : Int)), (false, 1, Fact.rep [] ((0 : Int) : Int)), (false, 1, Fact.rep [] ((0 : Int) : Int)), (false, 1, Fact.rep [] ((0 : Int) : Int)), (false, 1, Fact.rep [] ((0 : Int) : Int)), (false, 1, Fact.rep [] ((0 : Int) : Int))]) ty74 rfl rfl (Has.s rfl) rfl (HasGs.cons (HasG.s rfl) (HasGs.cons (HasG.s rfl) (HasGs.cons (HasG.s rfl) (HasGs.cons (HasG.s rfl) (HasGs.cons (HasG.s rfl) (HasGs.cons (HasG.s rfl) (HasGs.cons (HasG.s rfl) HasGs.nil)))))))) (Cv.unflat (FlatR.sub (FlatR.cons (FlatR.cons (FlatR.cons (FlatR.cons (FlatR.cons (FlatR.cons FlatR.nil)))))) rfl (FlatR.cons FlatR.nil)))) (Cv.trans (Cv.trans (Cv.flds (CvL.cons (Cv.trans (Cv.trans (Cv.flds (CvL.cons Cv.fl (CvL.cons Cv.fl (CvL.cons Cv.fl (CvL.cons Cv.fl (CvL.cons Cv.fl (CvL.cons Cv.fl CvL.nil))))))) (Cv.close (T := []) (chConfig (Config.mk (0 : UInt32) (0 : Int) (0 : Int) (0 : Int) (0 : Int) (0 : Int))))) Cv.fl) (CvL.cons Cv.fl CvL.nil))) (Cv.close (T := []) (chRow74 (Row74.mk (Config.mk (0 : UInt32) (0 : Int) (0 : Int) (0 : Int) (0 : Int) (0 : Int)) (0 : Int))))) Cv.fl)) (HasR.cv (HasR.tmp (Has.s rfl)) Cv.fl)
   ·have hm := cond_f hb hm
    refine CWalk.skip ?_
    refine Leaf.blockN ?_
    refine Leaf.thenN ?_
    refine CWalk.seq ?_
    refine CWalk.region ?_
    refine mv ?_
    refine wo (Spec.fieldAddrO fd24_2 (Has.cv (Has.s rfl) (Cv.isvP rfl))) ?_
    refine wo (Spec.loadF (i := 2) ty3 rfl (Has.s rfl) rfl (HasG.s rfl)) ?_
    obtain ⟨x3, hx3, hm⟩ := bind_some hm
    refine wo (f := Fact.tup2 (Fact.rep [] x3.1) (Fact.rep [] x3.2)) (Spec.callE [] 26 rfl en66 (turn_divide_c a1 a0.Chunk hx3) (HasAll.cons (Has.fl (Has.s rfl)) (HasAll.cons (Has.fl (Has.s rfl)) HasAll.nil))) ?_
    refine mv ?_
    refine wo (Spec.ext0 (Has.s rfl)) ?_
    refine wo (Spec.ext1 (Has.s rfl)) ?_
    refine wo (Spec.assign (Has.s rfl)) ?_
    refine wo (Spec.assign (Has.s rfl)) ?_
    refine Walk.nil ?_
    refine Leaf.thenN ?_
    refine CWalk.seq ?_
    refine CWalk.region ?_
    refine wo (Spec.loadObj (ls := [(false, 1, Fact.rep [] a0.Id), (false, 1, Fact.rep [] a0.Members), (false, 1, Fact.rep [] a0.Chunk), (false, 1, Fact.rep [] a0.Rows), (false, 1, Fact.rep [] a0.Log), (false, 1, Fact.rep [] a0.Heads)]) ty24 rfl rfl (Has.s rfl) rfl (HasGs.cons (HasG.s rfl) (HasGs.cons (HasG.s rfl) (HasGs.cons (HasG.s rfl) (HasGs.cons (HasG.s rfl) (HasGs.cons (HasG.s rfl) (HasGs.cons (HasG.s rfl) HasGs.nil))))))) ?_
    refine mv ?_
    refine wo (Spec.build (us := [(0, .tmp 43), (1, .tmp 44)]) (ls' := [(true, 6, Fact.flds [(false, 1, Fact.rep [] a0.Id), (false, 1, Fact.rep [] a0.Members), (false, 1, Fact.rep [] a0.Chunk), (false, 1, Fact.rep [] a0.Rows), (false, 1, Fact.rep [] a0.Log), (false, 1, Fact.rep [] a0.Heads)]), (false, 1, Fact.rep [] x3.1)]) bd74 rfl (BP.cons rfl rfl (Has.cv (Has.s rfl) (Cv.trans (Cv.flds (CvL.cons Cv.fl (CvL.cons Cv.fl (CvL.cons Cv.fl (CvL.cons Cv.fl (CvL.cons Cv.fl (CvL.cons Cv.fl CvL.nil))))))) (Cv.close (T := []) (chConfig a0)))) (Has.s rfl) (BP.cons rfl rfl (Has.s rfl) (Has.s rfl) BP.nil))) ?_
    refine ws (Step.storeObj (ls := [(false, 1, Fact.rep [] a0.Id), (false, 1, Fact.rep [] a0.Members), (false, 1, Fact.rep [] a0.Chunk), (false, 1, Fact.rep [] a0.Rows), (false, 1, Fact.rep [] a0.Log), (false, 1, Fact.rep [] a0.Heads), (false, 1, Fact.rep [] x3.1)]) rfl ty74 rfl rfl (Has.s rfl) rfl (HasL.flds (Has.cv (Has.s rfl) (Cv.flat (FlatR.sub (FlatR.cons (FlatR.cons (FlatR.cons (FlatR.cons (FlatR.cons (FlatR.cons FlatR.nil)))))) rfl (FlatR.cons FlatR.nil))))) rfl) ?_
    refine wo (Spec.assign Has.int) ?_
    refine Walk.nil ?_
    refine Leaf.thenN ?_
    refine CWalk.ret ?_
    obtain rfl := Option.some.inj hm
    exact Leaf.retC2 rfl (HasR.cv (HasR.cv (HasR.obj (ls := [(false, 1, Fact.rep [] a0.Id), (false, 1, Fact.rep [] a0.Members), (false, 1, Fact.rep [] a0.Chunk), (false, 1, Fact.rep [] a0.Rows), (false, 1, Fact.rep [] a0.Log), (false, 1, Fact.rep [] a0.Heads), (false, 1, Fact.rep [] x3.1)]) ty74 rfl rfl (Has.s rfl) rfl (HasGs.cons (HasG.s rfl) (HasGs.cons (HasG.s rfl) (HasGs.cons (HasG.s rfl) (HasGs.cons (HasG.s rfl) (HasGs.cons (HasG.s rfl) (HasGs.cons (HasG.s rfl) (HasGs.cons (HasG.s rfl) HasGs.nil)))))))) (Cv.unflat (FlatR.sub (FlatR.cons (FlatR.cons (FlatR.cons (FlatR.cons (FlatR.cons (FlatR.cons FlatR.nil)))))) rfl (FlatR.cons FlatR.nil)))) (Cv.trans (Cv.trans (Cv.flds (CvL.cons (Cv.trans (Cv.trans (Cv.flds (CvL.cons Cv.fl (CvL.cons Cv.fl (CvL.cons Cv.fl (CvL.cons Cv.fl (CvL.cons Cv.fl (CvL.cons Cv.fl CvL.nil))))))) (Cv.close (T := []) (chConfig a0))) Cv.fl) (CvL.cons Cv.fl CvL.nil))) (Cv.close (T := []) (chRow74 (Row74.mk a0 x3.1)))) Cv.fl)) (HasR.cv (HasR.tmp (Has.s rfl)) Cv.fl)
  ·refine CWalk.seq ?_
   refine CWalk.region ?_
   refine mv ?_
   refine wo (Spec.lssI (Has.s rfl) Has.int) ?_
   refine wo (Spec.assign (Has.s rfl)) ?_
   refine Walk.nil ?_
   refine Leaf.thenN ?_
   refine CWalk.cond rfl (fun hb => ?_) (fun hb => ?_)
   ·have hm := cond_t hb hm
    refine CWalk.skip ?_
    exact Leaf.join (decide (a1 < (0 : Int))) hm (st (sn (sn (st (sf (sf (sf (sf (sf (sf (sf (sf (sf (sf (sf (sf (sf (sn (sn Sub.nil)))))))))))))))))))
   ·have hm := cond_f hb hm
    refine CWalk.seq ?_
    refine CWalk.region ?_
    refine mv ?_
    refine mv ?_
    refine wo (Spec.geqI (Has.s rfl) (Has.s rfl)) ?_
    refine wo (Spec.assign (Has.s rfl)) ?_
    refine Walk.nil ?_
    refine Leaf.thenN ?_
    refine CWalk.cond rfl (fun hb => ?_) (fun hb => ?_)
    ·have hm := cond_t hb hm
     refine CWalk.skip ?_
     exact Leaf.join (decide (a1 ≥ x1.1)) hm (st (sn (sn (st (sf (sf (sf (sf (sf (sf (sf (sf (sf (sf (sf (sf (sf (sn (sn Sub.nil)))))))))))))))))))
    ·have hm := cond_f hb hm
     refine CWalk.seq ?_
     refine CWalk.region ?_
     refine mv ?_
     refine wo (Spec.lssI (Has.s rfl) Has.int) ?_
     refine wo (Spec.assign (Has.s rfl)) ?_
     refine Walk.nil ?_
     refine Leaf.thenN ?_
     refine CWalk.cond rfl (fun hb => ?_) (fun hb => ?_)
     ·have hm := cond_t hb hm
      refine CWalk.skip ?_
      exact Leaf.join (decide (a2 < (0 : Int))) hm (st (sn (sn (st (sf (sf (sf (sf (sf (sf (sf (sf (sf (sf (sf (sf (sf (sn (sn Sub.nil)))))))))))))))))))
     ·have hm := cond_f hb hm
      refine CWalk.region ?_
      refine mv ?_
      refine mv ?_
      refine wo (Spec.geqI (Has.s rfl) (Has.s rfl)) ?_
      refine wo (Spec.assign (Has.s rfl)) ?_
      refine Walk.nil ?_
      exact Leaf.join (decide (a2 ≥ a3)) hm (st (sn (sn (st (sf (sf (sf (sf (sf (sf (sf (sf (sf (sf (sf (sf (sf (sn (sn Sub.nil)))))))))))))))))))

/-- (freeboard/turn.row).parity -/
def turn_row_parity (a0 : Row74) : Option (Int) :=
  Option.bind (turn_divide a0.n a0.Config.Members) (fun x1 => some (wI ((wI (a0.Config.Members - (1 : Int))) - x1.2)))
set_option maxRecDepth 100000 in
set_option maxHeartbeats 2000000 in
theorem turn_row_parity_c (a0 : Row74) {r : Int} (hm : turn_row_parity a0 = some r) : Ctr Try.prog 67 [.rep 0 a0] (.fl r) [] := by
 refine ctr_of_walk [[]] 20 Try.func67 rfl rfl rfl rfl (fun w0 om => ?_)
 unfold turn_row_parity at hm
 refine CWalk.sub (G' := [.fact 0 (.rep [] (a0 : Row74))]) (Sub.cons (Has.fl (Has.s rfl)) Sub.nil) ?_
 refine CWalk.seq ?_
 refine CWalk.region ?_
 refine ws (Step.boxObj (ls := [(false, 1, Fact.rep [] a0.Config.Id), (false, 1, Fact.rep [] a0.Config.Members), (false, 1, Fact.rep [] a0.Config.Chunk), (false, 1, Fact.rep [] a0.Config.Rows), (false, 1, Fact.rep [] a0.Config.Log), (false, 1, Fact.rep [] a0.Config.Heads), (false, 1, Fact.rep [] a0.n)]) 10 rfl rfl rfl rfl (HasL.flds (Has.cv (Has.s rfl) (Cv.trans (Cv.trans (Cv.trans (Cv.opens (chRow74 a0)) (Cv.flds (CvL.cons Cv.fl (CvL.cons Cv.fl CvL.nil)))) (Cv.flds (ls := [(true, 6, Fact.rep [] a0.Config), (false, 1, Fact.rep [] a0.n)]) (ms := [(true, 6, Fact.flds [(false, 1, Fact.rep [] a0.Config.Id), (false, 1, Fact.rep [] a0.Config.Members), (false, 1, Fact.rep [] a0.Config.Chunk), (false, 1, Fact.rep [] a0.Config.Rows), (false, 1, Fact.rep [] a0.Config.Log), (false, 1, Fact.rep [] a0.Config.Heads)]), (false, 1, Fact.rep [] a0.n)]) (CvL.cons (Cv.trans (Cv.opens (chConfig a0.Config)) (Cv.flds (CvL.cons Cv.fl (CvL.cons Cv.fl (CvL.cons Cv.fl (CvL.cons Cv.fl (CvL.cons Cv.fl (CvL.cons Cv.fl CvL.nil)))))))) (CvL.cons Cv.refl CvL.nil)))) (Cv.flat (FlatR.sub (FlatR.cons (FlatR.cons (FlatR.cons (FlatR.cons (FlatR.cons (FlatR.cons FlatR.nil)))))) rfl (FlatR.cons FlatR.nil))))))) ?_
 refine wo (Spec.assign Has.int) ?_
 refine Walk.nil ?_
 refine Leaf.thenN ?_
 refine CWalk.seq ?_
 refine CWalk.region ?_
 refine wo (Spec.fieldAddrO fd74_1 (Has.cv (Has.s rfl) (Cv.isvP rfl))) ?_
 refine wo (Spec.loadF (i := 6) ty3 rfl (Has.s rfl) rfl (HasG.s rfl)) ?_
 refine wo (Spec.fieldAddrO fd74_0 (Has.cv (Has.s rfl) (Cv.isvP rfl))) ?_
 refine wo (Spec.fieldAddrO fd24_1 (Has.s rfl)) ?_
 refine wo (Spec.loadF (i := 1) ty3 rfl (Has.s rfl) rfl (HasG.s rfl)) ?_
 obtain ⟨x1, hx1, hm⟩ := bind_some hm
 refine wo (f := Fact.tup2 (Fact.rep [] x1.1) (Fact.rep [] x1.2)) (Spec.callE [] 18 rfl en66 (turn_divide_c a0.n a0.Config.Members hx1) (HasAll.cons (Has.fl (Has.s rfl)) (HasAll.cons (Has.fl (Has.s rfl)) HasAll.nil))) ?_
 refine mv ?_
 refine wo (Spec.ext0 (Has.s rfl)) ?_
 refine wo (Spec.ext1 (Has.s rfl)) ?_
 refine wo (Spec.assign (Has.s rfl)) ?_
 refine wo (Spec.assign (Has.s rfl)) ?_
 refine Walk.nil ?_
 refine Leaf.thenN ?_
 refine CWalk.seq ?_
 refine CWalk.region ?_
 refine wo (Spec.fieldAddrO fd74_0 (Has.cv (Has.s rfl) (Cv.isvP rfl))) ?_
 refine wo (Spec.fieldAddrO fd24_1 (Has.s rfl)) ?_
 refine wo (Spec.loadF (i := 1) ty3 rfl (Has.s rfl) rfl (HasG.s rfl)) ?_
 refine wo (Spec.subI (Has.s rfl) Has.int) ?_
 refine mv ?_
 refine wo (Spec.subI (Has.s rfl) (Has.s rfl)) ?_
 refine wo (Spec.assign (Has.s rfl)) ?_
 refine Walk.nil ?_
 refine Leaf.thenN ?_
 refine CWalk.ret ?_
 obtain rfl := Option.some.inj hm
 exact Leaf.retC1 rfl (HasR.cv (HasR.tmp (Has.s rfl)) Cv.fl)

/-- (freeboard/turn.row).member -/
def turn_row_member (a0 : Row74) (a1 : Int) : Option (Int) :=
  Option.bind (turn_row_parity a0) (fun x1 => Option.bind (turn_divide (wI ((wI (x1 + (1 : Int))) + a1)) a0.Config.Members) (fun x2 => some x2.2))
set_option maxRecDepth 100000 in
set_option maxHeartbeats 2000000 in
theorem turn_row_member_c (a0 : Row74) (a1 : Int) {r : Int} (hm : turn_row_member a0 a1 = some r) : Ctr Try.prog 40 [.rep 0 a0, .rep 0 a1] (.fl r) [] := by
 refine ctr_of_walk [[]] 20 Try.func40 rfl rfl rfl rfl (fun w0 om => ?_)
 unfold turn_row_member at hm
 refine CWalk.sub (G' := [.fact 0 (.rep [] (a0 : Row74)), .fact 1 (.rep [] (a1 : Int))]) (Sub.cons (Has.fl (Has.s rfl)) (Sub.cons (Has.fl (Has.s rfl)) Sub.nil)) ?_
 refine CWalk.seq ?_
 refine CWalk.region ?_
 refine ws (Step.boxObj (ls := [(false, 1, Fact.rep [] a0.Config.Id), (false, 1, Fact.rep [] a0.Config.Members), (false, 1, Fact.rep [] a0.Config.Chunk), (false, 1, Fact.rep [] a0.Config.Rows), (false, 1, Fact.rep [] a0.Config.Log), (false, 1, Fact.rep [] a0.Config.Heads), (false, 1, Fact.rep [] a0.n)]) 10 rfl rfl rfl rfl (HasL.flds (Has.cv (Has.s rfl) (Cv.trans (Cv.trans (Cv.trans (Cv.opens (chRow74 a0)) (Cv.flds (CvL.cons Cv.fl (CvL.cons Cv.fl CvL.nil)))) (Cv.flds (ls := [(true, 6, Fact.rep [] a0.Config), (false, 1, Fact.rep [] a0.n)]) (ms := [(true, 6, Fact.flds [(false, 1, Fact.rep [] a0.Config.Id), (false, 1, Fact.rep [] a0.Config.Members), (false, 1, Fact.rep [] a0.Config.Chunk), (false, 1, Fact.rep [] a0.Config.Rows), (false, 1, Fact.rep [] a0.Config.Log), (false, 1, Fact.rep [] a0.Config.Heads)]), (false, 1, Fact.rep [] a0.n)]) (CvL.cons (Cv.trans (Cv.opens (chConfig a0.Config)) (Cv.flds (CvL.cons Cv.fl (CvL.cons Cv.fl (CvL.cons Cv.fl (CvL.cons Cv.fl (CvL.cons Cv.fl (CvL.cons Cv.fl CvL.nil)))))))) (CvL.cons Cv.refl CvL.nil)))) (Cv.flat (FlatR.sub (FlatR.cons (FlatR.cons (FlatR.cons (FlatR.cons (FlatR.cons (FlatR.cons FlatR.nil)))))) rfl (FlatR.cons FlatR.nil))))))) ?_
 refine wo (Spec.assign Has.int) ?_
 refine Walk.nil ?_
 refine Leaf.thenN ?_
 refine CWalk.seq ?_
 obtain ⟨x1, hx1, hm⟩ := bind_some hm
 obtain ⟨x2, hx2, hm⟩ := bind_some hm
 refine CWalk.drawM [[], [0], [0, 1], [], [0, 1, 2, 3], [], [5], [5, 6], [0, 1, 2, 3, 4, 5, 6, 7], [0, 1, 2, 3, 4, 5, 6, 7, 8], [0, 1, 2, 3, 4, 5, 6, 7, 8, 9], [0, 1, 2, 3, 4, 5, 6, 7, 8, 9], [0, 1, 2, 3, 4, 5, 6, 7, 8, 9, 10], [0, 1, 2, 3, 4, 5, 6, 7, 8, 9, 10, 11, 12]] [[.fact 8 (.flds [(true, 6, Fact.flds [(false, 1, Fact.rep [] a0.Config.Id), (false, 1, Fact.rep [] a0.Config.Members), (false, 1, Fact.rep [] a0.Config.Chunk), (false, 1, Fact.rep [] a0.Config.Rows), (false, 1, Fact.rep [] a0.Config.Log), (false, 1, Fact.rep [] a0.Config.Heads)]), (false, 1, Fact.rep [] a0.n)])], [.fact 9 (.rep [] (x1 : Int))], [.fact 10 (.rep [] ((wI (x1 + (1 : Int))) : Int))], [.fact 11 (.rep [] (a1 : Int))], [.fact 12 (.rep [] ((wI ((wI (x1 + (1 : Int))) + a1)) : Int))], [.fact 13 (.pto 10 0)], [.fact 14 (.pto 10 1)], [.fact 15 (.rep [] a0.Config.Members)], [.fact 16 (.tup2 (Fact.rep [] x2.1) (Fact.rep [] x2.2))], [.fact 7 (.tup2 (Fact.rep [] x2.1) (Fact.rep [] x2.2))], [.fact 17 (.rep [] x2.1)], [.fact 18 (.rep [] x2.2)], [.fact 5 (.rep [] x2.1)], [.fact 6 (.rep [] x2.2)]] mixed (by kernel_rfl) (ao (so (Spec.unflat (FlatR.sub (FlatR.cons (FlatR.cons (FlatR.cons (FlatR.cons (FlatR.cons (FlatR.cons FlatR.nil)))))) rfl (FlatR.cons FlatR.nil)) (Spec.loadObj (ls := [(false, 1, Fact.rep [] a0.Config.Id), (false, 1, Fact.rep [] a0.Config.Members), (false, 1, Fact.rep [] a0.Config.Chunk), (false, 1, Fact.rep [] a0.Config.Rows), (false, 1, Fact.rep [] a0.Config.Log), (false, 1, Fact.rep [] a0.Config.Heads), (false, 1, Fact.rep [] a0.n)]) ty74 rfl rfl (Has.s rfl) rfl (HasGs.cons (HasG.s rfl) (HasGs.cons (HasG.s rfl) (HasGs.cons (HasG.s rfl) (HasGs.cons (HasG.s rfl) (HasGs.cons (HasG.s rfl) (HasGs.cons (HasG.s rfl) (HasGs.cons (HasG.s rfl) HasGs.nil)))))))))) (ao (so (Spec.callE [] 18 rfl en67 (turn_row_parity_c a0 hx1) (HasAll.cons (Has.fl (Has.cv (Has.s rfl) (Cv.trans (Cv.flds (CvL.cons (Cv.trans (Cv.trans (Cv.flds (CvL.cons Cv.fl (CvL.cons Cv.fl (CvL.cons Cv.fl (CvL.cons Cv.fl (CvL.cons Cv.fl (CvL.cons Cv.fl CvL.nil))))))) (Cv.close (T := []) (chConfig a0.Config))) Cv.fl) (CvL.cons Cv.fl CvL.nil))) (Cv.close (T := []) (chRow74 a0))))) HasAll.nil))) (ao (so (Spec.addI (Has.s rfl) Has.int)) (ao (so (Spec.move (Has.s rfl))) (ao (so (Spec.addI (Has.s rfl) (Has.s rfl))) (ao (so (Spec.fieldAddrO fd74_0 (Has.cv (Has.s rfl) (Cv.isvP rfl)))) (ao (so (Spec.fieldAddrO fd24_1 (Has.s rfl))) (ao (so (Spec.loadF (i := 1) ty3 rfl (Has.s rfl) rfl (HasG.s rfl))) (ao (so (Spec.callE [] 19 rfl en66 (turn_divide_c (wI ((wI (x1 + (1 : Int))) + a1)) a0.Config.Members hx2) (HasAll.cons (Has.fl (Has.s rfl)) (HasAll.cons (Has.fl (Has.s rfl)) HasAll.nil)))) (ao (so (Spec.move (Has.s rfl))) (ao (so (Spec.ext0 (Has.s rfl))) (ao (so (Spec.ext1 (Has.s rfl))) (ao (so (Spec.assign (Has.s rfl))) (ao (so (Spec.assign (Has.s rfl))) AllM.nil)))))))))))))) ?_
 refine Leaf.thenN ?_
 refine CWalk.seq ?_
 refine CWalk.region ?_
 refine mv ?_
 refine wo (Spec.assign (Has.s rfl)) ?_
 refine Walk.nil ?_
 refine Leaf.thenN ?_
 refine CWalk.ret ?_
 obtain rfl := Option.some.inj hm
 exact Leaf.retC1 rfl (HasR.cv (HasR.tmp (Has.s rfl)) Cv.fl)

/-- freeboard/turn.Member -/
def turn_Member (a0 : Config) (a1 : Int) (a2 : Int) : Option (Int × Int) :=
  Option.bind (turn_at a0 a1 a2 a0.Members) (fun x1 => (bif (x1.2 != (0 : Int)) then some ((0 : Int), x1.2) else Option.bind (turn_row_member x1.1 a2) (fun x2 => some (x2, (0 : Int)))))
set_option maxRecDepth 100000 in
set_option maxHeartbeats 2000000 in
theorem turn_Member_c (a0 : Config) (a1 : Int) (a2 : Int) {r : Int × Int} (hm : turn_Member a0 a1 a2 = some r) : Ctr Try.prog 19 [.rep 0 a0, .rep 0 a1, .rep 0 a2] (.tup2 (.fl r.1) (.fl r.2)) [] := by
 refine ctr_of_walk [[]] 25 Try.func19 rfl rfl rfl rfl (fun w0 om => ?_)
 unfold turn_Member at hm
 refine CWalk.sub (G' := [.fact 0 (.rep [] (a0 : Config)), .fact 1 (.rep [] (a1 : Int)), .fact 2 (.rep [] (a2 : Int))]) (Sub.cons (Has.fl (Has.s rfl)) (Sub.cons (Has.fl (Has.s rfl)) (Sub.cons (Has.fl (Has.s rfl)) Sub.nil))) ?_
 refine CWalk.seq ?_
 refine CWalk.region ?_
 refine ws (Step.boxObj (ls := [(false, 1, Fact.rep [] a0.Id), (false, 1, Fact.rep [] a0.Members), (false, 1, Fact.rep [] a0.Chunk), (false, 1, Fact.rep [] a0.Rows), (false, 1, Fact.rep [] a0.Log), (false, 1, Fact.rep [] a0.Heads)]) 10 rfl rfl rfl rfl (HasL.flds (Has.cv (Has.s rfl) (Cv.trans (Cv.opens (chConfig a0)) (Cv.flds (CvL.cons Cv.fl (CvL.cons Cv.fl (CvL.cons Cv.fl (CvL.cons Cv.fl (CvL.cons Cv.fl (CvL.cons Cv.fl CvL.nil))))))))))) ?_
 refine wo (Spec.assign Has.int) ?_
 refine wo (Spec.assign Has.int) ?_
 refine Walk.nil ?_
 refine Leaf.thenN ?_
 refine CWalk.seq ?_
 refine CWalk.region ?_
 refine wo (Spec.loadObj (ls := [(false, 1, Fact.rep [] a0.Id), (false, 1, Fact.rep [] a0.Members), (false, 1, Fact.rep [] a0.Chunk), (false, 1, Fact.rep [] a0.Rows), (false, 1, Fact.rep [] a0.Log), (false, 1, Fact.rep [] a0.Heads)]) ty24 rfl rfl (Has.s rfl) rfl (HasGs.cons (HasG.s rfl) (HasGs.cons (HasG.s rfl) (HasGs.cons (HasG.s rfl) (HasGs.cons (HasG.s rfl) (HasGs.cons (HasG.s rfl) (HasGs.cons (HasG.s rfl) HasGs.nil))))))) ?_
 refine mv ?_
 refine mv ?_
 refine wo (Spec.fieldAddrO fd24_1 (Has.cv (Has.s rfl) (Cv.isvP rfl))) ?_
 refine wo (Spec.loadF (i := 1) ty3 rfl (Has.s rfl) rfl (HasG.s rfl)) ?_
 obtain ⟨x1, hx1, hm⟩ := bind_some hm
 refine wo (f := Fact.tup2 (Fact.rep [] x1.1) (Fact.rep [] x1.2)) (Spec.callE [] 17 rfl en39 (turn_at_c a0 a1 a2 a0.Members hx1) (HasAll.cons (Has.fl (Has.cv (Has.s rfl) (Cv.trans (Cv.flds (CvL.cons Cv.fl (CvL.cons Cv.fl (CvL.cons Cv.fl (CvL.cons Cv.fl (CvL.cons Cv.fl (CvL.cons Cv.fl CvL.nil))))))) (Cv.close (T := []) (chConfig a0))))) (HasAll.cons (Has.fl (Has.s rfl)) (HasAll.cons (Has.fl (Has.s rfl)) (HasAll.cons (Has.fl (Has.s rfl)) HasAll.nil))))) ?_
 refine mv ?_
 refine wo (Spec.ext0 (Has.s rfl)) ?_
 refine wo (Spec.ext1 (Has.s rfl)) ?_
 refine ws (Step.allocObj (ls := [(false, 1, Fact.rep [] ((0 : UInt32) : UInt32)), (false, 1, Fact.rep [] ((0 : Int) : Int)), (false, 1, Fact.rep [] ((0 : Int) : Int)), (false, 1, Fact.rep [] ((0 : Int) : Int)), (false, 1, Fact.rep [] ((0 : Int) : Int)), (false, 1, Fact.rep [] ((0 : Int) : Int)), (false, 1, Fact.rep [] ((0 : Int) : Int))]) 18 rfl rfl rfl rfl zl74) ?_
 refine ws (Step.storeObj (ls := [(false, 1, Fact.rep [] x1.1.Config.Id), (false, 1, Fact.rep [] x1.1.Config.Members), (false, 1, Fact.rep [] x1.1.Config.Chunk), (false, 1, Fact.rep [] x1.1.Config.Rows), (false, 1, Fact.rep [] x1.1.Config.Log), (false, 1, Fact.rep [] x1.1.Config.Heads), (false, 1, Fact.rep [] x1.1.n)]) rfl ty74 rfl rfl (Has.s rfl) rfl (HasL.flds (Has.cv (Has.s rfl) (Cv.trans (Cv.trans (Cv.trans (Cv.opens (chRow74 x1.1)) (Cv.flds (CvL.cons Cv.fl (CvL.cons Cv.fl CvL.nil)))) (Cv.flds (ls := [(true, 6, Fact.rep [] x1.1.Config), (false, 1, Fact.rep [] x1.1.n)]) (ms := [(true, 6, Fact.flds [(false, 1, Fact.rep [] x1.1.Config.Id), (false, 1, Fact.rep [] x1.1.Config.Members), (false, 1, Fact.rep [] x1.1.Config.Chunk), (false, 1, Fact.rep [] x1.1.Config.Rows), (false, 1, Fact.rep [] x1.1.Config.Log), (false, 1, Fact.rep [] x1.1.Config.Heads)]), (false, 1, Fact.rep [] x1.1.n)]) (CvL.cons (Cv.trans (Cv.opens (chConfig x1.1.Config)) (Cv.flds (CvL.cons Cv.fl (CvL.cons Cv.fl (CvL.cons Cv.fl (CvL.cons Cv.fl (CvL.cons Cv.fl (CvL.cons Cv.fl CvL.nil)))))))) (CvL.cons Cv.refl CvL.nil)))) (Cv.flat (FlatR.sub (FlatR.cons (FlatR.cons (FlatR.cons (FlatR.cons (FlatR.cons (FlatR.cons FlatR.nil)))))) rfl (FlatR.cons FlatR.nil)))))) rfl) ?_
 refine wo (Spec.assign (Has.s rfl)) ?_
 refine Walk.nil ?_
 refine Leaf.thenN ?_
 refine CWalk.seq ?_
 refine CWalk.seq ?_
 refine CWalk.region ?_
 refine mv ?_
 refine wo (Spec.neqI (Has.s rfl) Has.int) ?_
 refine Walk.nil ?_
 refine Leaf.thenN ?_
 refine CWalk.cond rfl (fun hb => ?_) (fun hb => ?_)
 ·have hm := cond_t hb hm
  refine CWalk.seq ?_
  refine CWalk.region ?_
  refine mv ?_
  refine wo (Spec.assign Has.int) ?_
  refine wo (Spec.assign (Has.s rfl)) ?_
  refine Walk.nil ?_
  refine Leaf.thenN ?_
  refine CWalk.ret ?_
  refine Leaf.thenR ?_
  obtain rfl := Option.some.inj hm
  exact Leaf.retC2 rfl (HasR.cv (HasR.tmp (Has.s rfl)) Cv.fl) (HasR.cv (HasR.tmp (Has.s rfl)) Cv.fl)
 ·have hm := cond_f hb hm
  refine CWalk.skip ?_
  refine Leaf.thenN ?_
  refine CWalk.seq ?_
  refine CWalk.region ?_
  refine wo (Spec.unflat (FlatR.sub (FlatR.cons (FlatR.cons (FlatR.cons (FlatR.cons (FlatR.cons (FlatR.cons FlatR.nil)))))) rfl (FlatR.cons FlatR.nil)) (Spec.loadObj (ls := [(false, 1, Fact.rep [] x1.1.Config.Id), (false, 1, Fact.rep [] x1.1.Config.Members), (false, 1, Fact.rep [] x1.1.Config.Chunk), (false, 1, Fact.rep [] x1.1.Config.Rows), (false, 1, Fact.rep [] x1.1.Config.Log), (false, 1, Fact.rep [] x1.1.Config.Heads), (false, 1, Fact.rep [] x1.1.n)]) ty74 rfl rfl (Has.s rfl) rfl (HasGs.cons (HasG.s rfl) (HasGs.cons (HasG.s rfl) (HasGs.cons (HasG.s rfl) (HasGs.cons (HasG.s rfl) (HasGs.cons (HasG.s rfl) (HasGs.cons (HasG.s rfl) (HasGs.cons (HasG.s rfl) HasGs.nil))))))))) ?_
  refine mv ?_
  obtain ⟨x2, hx2, hm⟩ := bind_some hm
  refine wo (f := Fact.rep [] (x2 : Int)) (Spec.callE [] 26 rfl en40 (turn_row_member_c x1.1 a2 hx2) (HasAll.cons (Has.fl (Has.cv (Has.s rfl) (Cv.trans (Cv.flds (CvL.cons (Cv.trans (Cv.trans (Cv.flds (CvL.cons Cv.fl (CvL.cons Cv.fl (CvL.cons Cv.fl (CvL.cons Cv.fl (CvL.cons Cv.fl (CvL.cons Cv.fl CvL.nil))))))) (Cv.close (T := []) (chConfig x1.1.Config))) Cv.fl) (CvL.cons Cv.fl CvL.nil))) (Cv.close (T := []) (chRow74 x1.1))))) (HasAll.cons (Has.fl (Has.s rfl)) HasAll.nil))) ?_
  refine wo (Spec.assign (Has.s rfl)) ?_
  refine wo (Spec.assign Has.int) ?_
  refine Walk.nil ?_
  refine Leaf.thenN ?_
  refine CWalk.ret ?_
  obtain rfl := Option.some.inj hm
  exact Leaf.retC2 rfl (HasR.cv (HasR.tmp (Has.s rfl)) Cv.fl) (HasR.cv (HasR.tmp (Has.s rfl)) Cv.fl)

/-- freeboard/disk.Lasting -/
def disk_Lasting (a0 : Disk) (a1 : Int) : Option ((List UInt8) × Int) :=
  Option.bind (disk_place a0 a1) (fun x1 => (bif (x1 != (0 : Int)) then some (([] : List UInt8), x1) else (bif a0.Dead then some (([] : List UInt8), (40 : Int)) else Option.bind (idx a0.Blocks a1) (fun x2 => Option.bind (disk_block x2) (fun x3 => some (x3, (0 : Int)))))))
set_option maxRecDepth 100000 in
set_option maxHeartbeats 2000000 in
theorem disk_Lasting_c (a0 : Disk) (a1 : Int) {r : (List UInt8) × Int} (hm : disk_Lasting a0 a1 = some r) : Ctr Try.prog 41 [.rep 0 a0, .rep 0 a1] (.tup2 (.own 0 none 5 r.1) (.fl r.2)) [] := by
 refine ctr_of_walk [[15]] 21 Try.func41 rfl rfl rfl rfl (fun w0 om => ?_)
 unfold disk_Lasting at hm
 refine CWalk.sub (G' := [.fact 0 (.rep [0] (a0 : Disk)), .fact 1 (.rep [] (a1 : Int))]) (sn (Sub.cons (Has.fl (Has.s rfl)) Sub.nil)) ?_
 refine CWalk.seq ?_
 refine CWalk.region ?_
 refine ws (Step.boxObj (ls := [(false, 1, Fact.rep [0] a0.Blocks), (false, 1, Fact.rep [0] a0.Wait), (false, 1, Fact.rep [] a0.Dead)]) 10 rfl rfl rfl rfl (HasL.flds (Has.cv (Has.s rfl) (Cv.trans (Cv.opens (chDisk a0)) (Cv.flds (CvL.cons Cv.refl (CvL.cons Cv.refl (CvL.cons Cv.fl CvL.nil)))))))) ?_
 refine wo (Spec.assign Has.nilv) ?_
 refine wo (Spec.assign Has.int) ?_
 refine Walk.nil ?_
 refine Leaf.thenN ?_
 refine CWalk.seq ?_
 refine CWalk.seq ?_
 refine CWalk.region ?_
 refine wo (Spec.loadObj (ls := [(false, 1, Fact.rep [0] a0.Blocks), (false, 1, Fact.rep [0] a0.Wait), (false, 1, Fact.rep [] a0.Dead)]) ty49 rfl rfl (Has.s rfl) rfl (HasGs.cons (HasG.s rfl) (HasGs.cons (HasG.s rfl) (HasGs.cons (HasG.s rfl) HasGs.nil)))) ?_
 refine mv ?_
 obtain ⟨x1, hx1, hm⟩ := bind_some hm
 refine wo (f := Fact.rep [] (x1 : Int)) (Spec.callE [0] 14 rfl en68 (disk_place_c a0 a1 hx1) (HasAll.cons (Has.m (Has.cv (Has.s rfl) (Cv.trans (Cv.flds (CvL.cons (Cv.m rfl) (CvL.cons (Cv.m rfl) (CvL.cons Cv.fl CvL.nil)))) (Cv.close (T := [0]) (chDisk a0)))) rfl) (HasAll.cons (Has.fl (Has.s rfl)) HasAll.nil))) ?_
 refine wo (Spec.assign (Has.s rfl)) ?_
 refine Walk.nil ?_
 refine Leaf.thenN ?_
 refine CWalk.seq ?_
 refine CWalk.region ?_
 refine mv ?_
 refine wo (Spec.neqI (Has.s rfl) Has.int) ?_
 refine Walk.nil ?_
 refine Leaf.thenN ?_
 refine CWalk.cond rfl (fun hb => ?_) (fun hb => ?_)
 ·have hm := cond_t hb hm
  refine CWalk.seq ?_
  refine CWalk.region ?_
  refine mv ?_
  refine wo (Spec.assign Has.nilv) ?_
  refine wo (Spec.assign (Has.s rfl)) ?_
  refine Walk.nil ?_
  refine Leaf.thenN ?_
  refine CWalk.ret ?_
  refine Leaf.thenR ?_
  obtain rfl := Option.some.inj hm
  exact Leaf.retC2 rfl (HasR.cv (HasR.tmp (Has.s rfl)) (Cv.trans Cv.nilOw (Cv.owF (T := []) (te := []) rfl))) (HasR.cv (HasR.tmp (Has.s rfl)) Cv.fl)
 ·have hm := cond_f hb hm
  refine CWalk.skip ?_
  refine Leaf.thenN ?_
  refine CWalk.seq ?_
  refine CWalk.seq ?_
  refine CWalk.region ?_
  refine wo (Spec.fieldAddrO fd49_2 (Has.cv (Has.s rfl) (Cv.isvP rfl))) ?_
  refine wo (Spec.loadF (i := 2) ty4 rfl (Has.s rfl) rfl (HasG.s rfl)) ?_
  refine Walk.nil ?_
  refine Leaf.thenN ?_
  refine CWalk.cond rfl (fun hb => ?_) (fun hb => ?_)
  ·have hm := cond_t hb hm
   refine CWalk.seq ?_
   refine CWalk.region ?_
   refine wo (Spec.assign Has.nilv) ?_
   refine wo (Spec.assign Has.int) ?_
   refine Walk.nil ?_
   refine Leaf.thenN ?_
   refine CWalk.ret ?_
   refine Leaf.thenR ?_
   obtain rfl := Option.some.inj hm
   exact Leaf.retC2 rfl (HasR.cv (HasR.tmp (Has.s rfl)) (Cv.trans Cv.nilOw (Cv.owF (T := []) (te := []) rfl))) (HasR.cv (HasR.tmp (Has.s rfl)) Cv.fl)
  ·have hm := cond_f hb hm
   refine CWalk.skip ?_
   refine Leaf.thenN ?_
   refine CWalk.seq ?_
   refine CWalk.region ?_
   refine wo (Spec.fieldAddrO fd49_0 (Has.cv (Has.s rfl) (Cv.isvP rfl))) ?_
   refine wo (Spec.loadF (i := 0) ty46 rfl (Has.s rfl) rfl (HasG.s rfl)) ?_
   refine mv ?_
   obtain ⟨x2, hx2, hm⟩ := bind_some hm
   refine wo (Spec.indexAddr hx2 sl46 (Has.s rfl) (Has.s rfl)) ?_
   refine wo (Spec.load ty28 (Has.s rfl)) ?_
   obtain ⟨x3, hx3, hm⟩ := bind_some hm
   refine wo (f := Fact.ow [15] [] 5 (x3 : List UInt8)) (Spec.callE [0] 15 rfl en43 (disk_block_c x2 hx3) (HasAll.cons (Has.m (Has.s rfl) rfl) HasAll.nil)) ?_
   refine wo (Spec.assign (Has.s rfl)) ?_
   refine wo (Spec.assign Has.int) ?_
   refine Walk.nil ?_
   refine Leaf.thenN ?_
   refine CWalk.ret ?_
   obtain rfl := Option.some.inj hm
   exact Leaf.retC2 rfl (HasR.cv (HasR.tmp (Has.s rfl)) (Cv.owF (T := [15]) (te := []) rfl)) (HasR.cv (HasR.tmp (Has.s rfl)) Cv.fl)

def disk_Read_L2 (a0 : Disk) (a1 : Int) (s2 : Int) : Option (Ctl (Int) ((Unit) ⊕ ((List UInt8)))) :=
  (bif (decide (s2 ≥ (0 : Int))) then Option.bind (idx a0.Wait s2) (fun x4 => (bif (x4.At == a1) then Option.bind (disk_block x4.Data) (fun x5 => some (Ctl.brk (Sum.inr x5))) else some (Ctl.next (wI (s2 - (1 : Int)))))) else some (Ctl.brk (Sum.inl ())))
def disk_Read_J1 (a0 : Disk) (a1 : Int) (x1 : (List UInt8) × Int) : Option ((List UInt8) × Int) :=
  Option.bind (loopM (fun s : Int => disk_Read_L2 a0 a1 s) FUEL (wI (((a0.Wait).length : Int) - (1 : Int)))) (fun b6 => Sum.elim (fun b7 => some (x1.1, (0 : Int))) (fun b8 => some (b8, (0 : Int))) b6)
/-- freeboard/disk.Read -/
def disk_Read (a0 : Disk) (a1 : Int) : Option ((List UInt8) × Int) :=
  Option.bind (disk_Lasting a0 a1) (fun x1 => (bif (x1.2 != (0 : Int)) then some (([] : List UInt8), x1.2) else (disk_Read_J1 a0 a1 x1)))
set_option maxRecDepth 100000 in
set_option maxHeartbeats 2000000 in
theorem disk_Read_c (a0 : Disk) (a1 : Int) {r : (List UInt8) × Int} (hm : disk_Read a0 a1 = some r) : Ctr Try.prog 20 [.rep 0 a0, .rep 0 a1] (.tup2 (.own 0 none 5 r.1) (.fl r.2)) [] := by
 refine ctr_of_walkM [[20, 28]] 32 Try.func20 rfl rfl rfl rfl (fun w0 om => ?_)
 unfold disk_Read at hm
 refine CWalk.sub (G' := [.fact 0 (.rep [0] (a0 : Disk)), .fact 1 (.rep [] (a1 : Int))]) (sn (Sub.cons (Has.fl (Has.s rfl)) Sub.nil)) ?_
 refine CWalk.seq ?_
 refine CWalk.region ?_
 refine ws (Step.boxObj (ls := [(false, 1, Fact.rep [0] a0.Blocks), (false, 1, Fact.rep [0] a0.Wait), (false, 1, Fact.rep [] a0.Dead)]) 10 rfl rfl rfl rfl (HasL.flds (Has.cv (Has.s rfl) (Cv.trans (Cv.opens (chDisk a0)) (Cv.flds (CvL.cons Cv.refl (CvL.cons Cv.refl (CvL.cons Cv.fl CvL.nil)))))))) ?_
 refine ws (Step.boxObj (ls := [(false, 1, Fact.rep [] (a1 : Int))]) 14 rfl rfl rfl rfl (HasL.one (Has.s rfl) rfl (Has.s rfl))) ?_
 refine ws (Step.allocObj (ls := [(false, 1, Fact.nilv)]) 16 rfl rfl rfl rfl zl28) ?_
 refine ws (Step.allocObj (ls := [(false, 1, Fact.rep [] ((0 : Int) : Int))]) 18 rfl rfl rfl rfl zl29) ?_
 refine Walk.nil ?_
 refine Leaf.thenN ?_
 refine CWalk.seq ?_
 refine CWalk.region ?_
 refine wo (Spec.loadObj (ls := [(false, 1, Fact.rep [0] a0.Blocks), (false, 1, Fact.rep [0] a0.Wait), (false, 1, Fact.rep [] a0.Dead)]) ty49 rfl rfl (Has.s rfl) rfl (HasGs.cons (HasG.s rfl) (HasGs.cons (HasG.s rfl) (HasGs.cons (HasG.s rfl) HasGs.nil)))) ?_
 refine wo (Spec.loadF (i := 0) ty3 rfl (Has.cv (Has.s rfl) (Cv.isvP rfl)) rfl (HasG.s rfl)) ?_
 obtain ⟨x1, hx1, hm⟩ := bind_some hm
 refine wo (f := Fact.tup2 (Fact.ow [20] [] 5 (x1.1 : List UInt8)) (Fact.rep [] x1.2)) (Spec.callE [0] 20 rfl en41 (disk_Lasting_c a0 a1 hx1) (HasAll.cons (Has.m (Has.cv (Has.s rfl) (Cv.trans (Cv.flds (CvL.cons (Cv.m rfl) (CvL.cons (Cv.m rfl) (CvL.cons Cv.fl CvL.nil)))) (Cv.close (T := [0]) (chDisk a0)))) rfl) (HasAll.cons (Has.fl (Has.s rfl)) HasAll.nil))) ?_
 refine mv ?_
 refine wo (Spec.ext0 (Has.s rfl)) ?_
 refine wo (Spec.ext1 (Has.s rfl)) ?_
 refine wo (Spec.assign (Has.s rfl)) ?_
 refine wo (Spec.assign (Has.s rfl)) ?_
 refine Walk.nil ?_
 refine Leaf.thenN ?_
 refine CWalk.seq ?_
 refine CWalk.seq ?_
 refine CWalk.region ?_
 refine mv ?_
 refine wo (Spec.neqI (Has.s rfl) Has.int) ?_
 refine Walk.nil ?_
 refine Leaf.thenN ?_
 refine CWalk.cond rfl (fun hb => ?_) (fun hb => ?_)
 ·have hm := cond_t hb hm
  refine CWalk.seq ?_
  refine CWalk.region ?_
  refine mv ?_
  refine ws (Step.storeF (i := 0) (f := Fact.nilv) rfl ty28 rfl (Has.cv (Has.s rfl) (Cv.isvP rfl)) rfl (Has.cv Has.nilv (Cv.nil (T := []))) Has.nilv rfl) ?_
  refine ws (Step.storeF (i := 0) (f := Fact.rep [] x1.2) rfl ty29 rfl (Has.cv (Has.s rfl) (Cv.isvP rfl)) rfl (Has.s rfl) (Has.s rfl) rfl) ?_
  refine Walk.nil ?_
  refine Leaf.thenN ?_
  refine CWalk.ret ?_
  refine Leaf.thenR ?_
  obtain rfl := Option.some.inj hm
  exact Leaf.retM (Leaf.retC2 rfl (HasR.cv (HasR.cell1 ty28 rfl (Has.s rfl) rfl (HasG.s rfl)) (Cv.trans Cv.nilOw (Cv.owF (T := []) (te := []) rfl))) (HasR.cv (HasR.cell1 ty29 rfl (Has.s rfl) rfl (HasG.s rfl)) Cv.fl))
 ·have hm := cond_f hb hm
  refine CWalk.skip ?_
  refine Leaf.thenN ?_
  refine CWalk.seq ?_
  refine CWalk.seq ?_
  refine CWalk.region ?_
  refine wo (Spec.fieldAddrO fd49_1 (Has.cv (Has.s rfl) (Cv.isvP rfl))) ?_
  refine wo (Spec.loadF (i := 1) ty47 rfl (Has.s rfl) rfl (HasG.s rfl)) ?_
  refine Walk.inline (S := Unit) (fun p : Unit => [.fact 3 (.isv 14), .fact 4 (.isv 16), .fact 5 (.isv 18), .fact 6 (.ow [20] [] 5 (x1.1 : List UInt8)), .fact 21 (.fnv 69 [] [Fact.isv 21]), .fact 100015 (.at 15 (.rep [] (a1 : Int))), .fact 100017 (.at 17 (.nilv)), .fact 100019 (.at 19 (.rep [] ((0 : Int) : Int))), .fact 100022 (.at 22 (.rep [0] a0.Wait)), .fact 100014 (.obj 14 [(false, 1)]), .fact 100016 (.obj 16 [(false, 1)]), .fact 100018 (.obj 18 [(false, 1)]), .fact 100021 (.obj 21 [(false, 1)])]) (fun p : Unit => disk_Read_J1 a0 a1 x1 = some r) (fun u1 => [.fact 100015 (.at 15 (.rep [] (a1 : Int))), .fact 100017 (.at 17 (.nilv)), .fact 100019 (.at 19 (.rep [] ((0 : Int) : Int))), .fact 902003 (.cst (u1 3) (Fact.isv 14)), .fact 902004 (.cst (u1 4) (Fact.isv 16)), .fact 902005 (.cst (u1 5) (Fact.isv 18)), .fact 902006 (.cst (u1 6) (Fact.ow [20] [] 5 (x1.1 : List UInt8))), .fact 100014 (.obj 14 [(false, 1)]), .fact 100016 (.obj 16 [(false, 1)]), .fact 100018 (.obj 18 [(false, 1)])]) (FA := [Fact.rep [0] a0.Wait]) rfl Try.func42 rfl rfl rfl (CallOk.fn en42 (HasF.cons (Has.s rfl) HasF.nil)) (fun u1 => (ck (ck (ck (cs 902000 3 (cs 902000 4 (cs 902000 5 (cs 902000 6 (ck (ck (ck Carry.nil))))))))))) (fun u1 => ?_) ?_
  ·refine CWalk.seq ?_
   refine CWalk.region ?_
   refine ws (Step.boxObj (ls := [(false, 1, Fact.rep [0] a0.Wait)]) 21 rfl rfl rfl rfl (HasL.one (Has.s rfl) rfl (Has.s rfl))) ?_
   refine wo (Spec.assign Has.top) ?_
   refine Walk.nil ?_
   refine Leaf.thenN ?_
   refine CWalk.seq ?_
   refine CWalk.region ?_
   refine wo (Spec.makeFunc (xs := []) (ys := [.tmp 1]) rfl rfl HasF.nil (HasF.cons (Has.s rfl) HasF.nil) (fun _ _ _ => rfl)) ?_
   refine wo (Spec.assign (Has.s rfl)) ?_
   refine Walk.nil ?_
   refine Leaf.thenN ?_
   refine CWalk.ret ?_
   exact Leaf.in1 () hm rfl rfl (HasR.tmp (Has.s rfl)) (ls 902003 (ls 902004 (ls 902005 (Low.slot rfl (HasC.cv (HasC.s (s := 902006) rfl) (Cv.owF (T := [20]) (te := []) rfl)) (Low.res (lf (lg (lf (lm (lo (lo (lo (lo Low.nil)))))))))))))
  ·rintro _ hm
   replace hm : disk_Read_J1 a0 a1 x1 = some r := hm
   unfold disk_Read_J1 at hm
   show Walk _ _ _ [.fact 3 (.isv 14), .fact 4 (.isv 16), .fact 5 (.isv 18), .fact 6 (.ow [20] [] 5 (x1.1 : List UInt8)), .fact 21 (.fnv 69 [] [Fact.isv 21]), .fact 100015 (.at 15 (.rep [] (a1 : Int))), .fact 100017 (.at 17 (.nilv)), .fact 100019 (.at 19 (.rep [] ((0 : Int) : Int))), .fact 100022 (.at 22 (.rep [0] a0.Wait)), .fact 100014 (.obj 14 [(false, 1)]), .fact 100016 (.obj 16 [(false, 1)]), .fact 100018 (.obj 18 [(false, 1)]), .fact 100021 (.obj 21 [(false, 1)])] _
   refine Walk.nil ?_
   refine Leaf.thenN ?_
   refine CWalk.block ?_
   refine CWalk.rangeFunc (cs := [Fact.isv 21]) 23 (fun u1 => [.fact 902003 (.cst (u1 3) (Fact.isv 14)), .fact 902004 (.cst (u1 4) (Fact.isv 16)), .fact 902005 (.cst (u1 5) (Fact.isv 18)), .fact 902006 (.cst (u1 6) (Fact.ow [20] [] 5 (x1.1 : List UInt8))), .fact 902021 (.cst (u1 21) (Fact.fnv 69 [] [Fact.isv 21])), .fact 100015 (.at 15 (.rep [] (a1 : Int))), .fact 100017 (.at 17 (.nilv)), .fact 100019 (.at 19 (.rep [] ((0 : Int) : Int))), .fact 100022 (.at 22 (.rep [0] a0.Wait)), .fact 100014 (.obj 14 [(false, 1)]), .fact 100016 (.obj 16 [(false, 1)]), .fact 100018 (.obj 18 [(false, 1)]), .fact 100021 (.obj 21 [(false, 1)])]) rfl rfl rfl rfl Try.func69 rfl rfl en69 rfl (fun u1 => (cs 902000 3 (cs 902000 4 (cs 902000 5 (cs 902000 6 (cs 902000 21 (ck (ck (ck (ck (ck (ck (ck (ck Carry.nil)))))))))))))) (fun u1 rr1 hrr1 => ?_)
   refine CWalk.seq ?_
   refine CWalk.region ?_
   refine wo (Spec.loadF (i := 0) ty47 rfl (Has.cv (Has.s rfl) (Cv.isvP rfl)) rfl (HasG.s rfl)) ?_
   refine wo (Spec.len (Has.s rfl) Try.underlying47) ?_
   refine wo (Spec.subI (Has.s rfl) Has.int) ?_
   refine wo (Spec.assign (Has.s rfl)) ?_
   refine Walk.nil ?_
   refine Leaf.thenN ?_
   refine CWalk.block ?_
   obtain ⟨b6, hb6, hm⟩ := bind_some hm
   refine CWalk.loop (fun s : Int => [.fact 0 (.yv rr1.l), .fact 1 (.isv 21), .fact 3 (.rep [] (s : Int)), .fact 902003 (.cst (u1 3) (Fact.isv 14)), .fact 902004 (.cst (u1 4) (Fact.isv 16)), .fact 902005 (.cst (u1 5) (Fact.isv 18)), .fact 902006 (.cst (u1 6) (Fact.ow [20] [] 5 (x1.1 : List UInt8))), .fact 902021 (.cst (u1 21) (Fact.fnv 69 [] [Fact.isv 21])), .fact 100022 (.at 22 (.rep [0] a0.Wait)), .fact 100015 (.at 15 (.rep [] (a1 : Int))), .fact 100017 (.at 17 (.nilv)), .fact 100019 (.at 19 (.rep [] ((0 : Int) : Int))), .fact 100021 (.obj 21 [(false, 1)]), .fact 100014 (.obj 14 [(false, 1)]), .fact 100016 (.obj 16 [(false, 1)]), .fact 100018 (.obj 18 [(false, 1)]), .fact 100023 (.rc 23 rr1 .ready none), .fact 100024 (.dm 24 rr1.D)]) (fun b : (Unit) ⊕ ((List UInt8)) => Sum.elim (fun b => (Exit.exit 0, [.fact 902003 (.cst (u1 3) (Fact.isv 14)), .fact 902004 (.cst (u1 4) (Fact.isv 16)), .fact 902005 (.cst (u1 5) (Fact.isv 18)), .fact 902006 (.cst (u1 6) (Fact.ow [20] [] 5 (x1.1 : List UInt8))), .fact 902021 (.cst (u1 21) (Fact.fnv 69 [] [Fact.isv 21])), .fact 100015 (.at 15 (.rep [] (a1 : Int))), .fact 100017 (.at 17 (.nilv)), .fact 100019 (.at 19 (.rep [] ((0 : Int) : Int))), .fact 100022 (.at 22 (.rep [0] a0.Wait)), .fact 100014 (.obj 14 [(false, 1)]), .fact 100016 (.obj 16 [(false, 1)]), .fact 100018 (.obj 18 [(false, 1)]), .fact 100021 (.obj 21 [(false, 1)]), .fact 100023 (.rc 23 rr1 .ready none), .fact 100024 (.dm 24 rr1.D)])) (fun b => (Exit.ret, [.fact 902003 (.cst (u1 3) (Fact.isv 14)), .fact 902004 (.cst (u1 4) (Fact.isv 16)), .fact 902005 (.cst (u1 5) (Fact.isv 18)), .fact 902006 (.cst (u1 6) (Fact.ow [20] [] 5 (x1.1 : List UInt8))), .fact 902021 (.cst (u1 21) (Fact.fnv 69 [] [Fact.isv 21])), .fact 100015 (.at 15 (.rep [] (a1 : Int))), .fact 100017 (.at 17 (.ow [28] [] 5 (b : List UInt8))), .fact 100019 (.at 19 (.rep [] ((0 : Int) : Int))), .fact 100022 (.at 22 (.rep [0] a0.Wait)), .fact 100014 (.obj 14 [(false, 1)]), .fact 100016 (.obj 16 [(false, 1)]), .fact 100018 (.obj 18 [(false, 1)]), .fact 100021 (.obj 21 [(false, 1)]), .fact 100023 (.rc 23 rr1 (.done) (some .ret)), .fact 100024 (.dm 24 rr1.D)])) b) hb6 (sn (sn (st (sc (sc (sc (Sub.cons (Has.cst (HasC.cv (HasC.s (s := 902006) rfl) (Cv.owF (T := [20]) (te := []) rfl))) (sc (sm (sf (sg (sf (sn (sn (sn (sn (sn (sn Sub.nil)))))))))))))))))) ?_ ?_
   ·rintro s2 c3 hm
    replace hm : disk_Read_L2 a0 a1 s2 = some c3 := hm
    unfold disk_Read_L2 at hm
    show CWalk _ [.fact 0 (.yv rr1.l), .fact 1 (.isv 21), .fact 3 (.rep [] (s2 : Int)), .fact 902003 (.cst (u1 3) (Fact.isv 14)), .fact 902004 (.cst (u1 4) (Fact.isv 16)), .fact 902005 (.cst (u1 5) (Fact.isv 18)), .fact 902006 (.cst (u1 6) (Fact.ow [20] [] 5 (x1.1 : List UInt8))), .fact 902021 (.cst (u1 21) (Fact.fnv 69 [] [Fact.isv 21])), .fact 100022 (.at 22 (.rep [0] a0.Wait)), .fact 100015 (.at 15 (.rep [] (a1 : Int))), .fact 100017 (.at 17 (.nilv)), .fact 100019 (.at 19 (.rep [] ((0 : Int) : Int))), .fact 100021 (.obj 21 [(false, 1)]), .fact 100014 (.obj 14 [(false, 1)]), .fact 100016 (.obj 16 [(false, 1)]), .fact 100018 (.obj 18 [(false, 1)]), .fact 100023 (.rc 23 rr1 .ready none), .fact 100024 (.dm 24 rr1.D)] _ _
    refine CWalk.seq ?_
    refine CWalk.seq ?_
    refine CWalk.region ?_
    refine mv ?_
    refine wo (Spec.geqI (Has.s rfl) Has.int) ?_
    refine Walk.nil ?_
    refine Leaf.thenN ?_
    refine CWalk.cond rfl (fun hb => ?_) (fun hb => ?_)
    ·have hm := cond_t hb hm
     refine CWalk.skip ?_
     refine Leaf.thenN ?_
     refine CWalk.seq ?_
     refine CWalk.block ?_
     refine CWalk.seq ?_
     refine CWalk.region ?_
     refine mv ?_
     refine mv ?_
     refine wo (Spec.loadF (i := 0) ty47 rfl (Has.cv (Has.s rfl) (Cv.isvP rfl)) rfl (HasG.s rfl)) ?_
     refine mv ?_
     obtain ⟨x4, hx4, hm⟩ := bind_some hm
     refine wo (Spec.indexAddr hx4 sl47 (Has.s rfl) (Has.s rfl)) ?_
     refine wo (Spec.load ty52 (Has.s rfl)) ?_
     refine Walk.yieldH (t := 23) (fs := [Fact.rep [] (s2 : Int), Fact.rep [0] (x4 : Write)]) (fun u2 => [.fact 904000 (.cst (u2 0) (Fact.yv rr1.l)), .fact 904001 (.cst (u2 1) (Fact.isv 21)), .fact 904003 (.cst (u2 3) (Fact.rep [] (s2 : Int))), .fact 100015 (.at 15 (.rep [] (a1 : Int))), .fact 100017 (.at 17 (.nilv)), .fact 100019 (.at 19 (.rep [] ((0 : Int) : Int))), .fact 100022 (.at 22 (.rep [0] a0.Wait)), .fact 902003 (.cst (u1 3) (Fact.isv 14)), .fact 902004 (.cst (u1 4) (Fact.isv 16)), .fact 902005 (.cst (u1 5) (Fact.isv 18)), .fact 902006 (.cst (u1 6) (Fact.ow [20] [] 5 (x1.1 : List UInt8))), .fact 902021 (.cst (u1 21) (Fact.fnv 69 [] [Fact.isv 21])), .fact 3 (.isv 14), .fact 4 (.isv 16), .fact 5 (.isv 18), .fact 6 (.ow [20] [] 5 (x1.1 : List UInt8)), .fact 21 (.fnv 69 [] [Fact.isv 21]), .fact 100014 (.obj 14 [(false, 1)]), .fact 100016 (.obj 16 [(false, 1)]), .fact 100018 (.obj 18 [(false, 1)]), .fact 100021 (.obj 21 [(false, 1)]), .fact 100023 (.rc 23 rr1 .ready none), .fact 100024 (.dm 24 rr1.D)]) hrr1 rfl rfl (Has.s rfl) rfl rfl (HasF.cons (Has.s rfl) (HasF.cons (Has.s rfl) HasF.nil)) rfl rfl (fun u2 => (Carry2.slot 904000 0 (Carry2.slot 904000 1 (Carry2.slot 904000 3 (Carry2.keep (Carry2.keep (Carry2.keep (Carry2.keep (Carry2.keep (Carry2.keep (Carry2.keep (Carry2.keep (Carry2.keep (Carry2.low 902003 3 (Carry2.low 902004 4 (Carry2.low 902005 5 (Carry2.low 902006 6 (Carry2.low 902021 21 (Carry2.keep (Carry2.keep (Carry2.keep (Carry2.keep (Carry2.keep (Carry2.keep Carry2.nil)))))))))))))))))))))))) (fun u2 => ?_)
     refine CWalk.region ?_
     refine ws (Step.allocObj (ls := [(false, 1, Fact.rep [] ((0 : Int) : Int)), (false, 1, Fact.nilv)]) 25 rfl rfl rfl rfl zl52) ?_
     refine ws (Step.storeObj (ls := [(false, 1, Fact.rep [] x4.At), (false, 1, Fact.rep [0] x4.Data)]) rfl ty52 rfl rfl (Has.s rfl) rfl (HasL.flds (Has.cv (Has.s rfl) (Cv.trans (Cv.opens (chWrite x4)) (Cv.flds (CvL.cons Cv.fl (CvL.cons Cv.refl CvL.nil)))))) rfl) ?_
     refine Walk.nil ?_
     refine Leaf.begin (t := 23) rfl rfl ?_
     refine CWalk.block ?_
     refine CWalk.seq ?_
     refine CWalk.region ?_
     refine wo (Spec.fieldAddrO fd52_0 (Has.cv (Has.s rfl) (Cv.isvP rfl))) ?_
     refine wo (Spec.loadF (i := 0) ty3 rfl (Has.s rfl) rfl (HasG.s rfl)) ?_
     refine wo (Spec.loadF (i := 0) ty3 rfl (Has.cv (Has.s rfl) (Cv.isvP rfl)) rfl (HasG.s rfl)) ?_
     refine wo (Spec.eqlI (Has.s rfl) (Has.s rfl)) ?_
     refine Walk.nil ?_
     refine Leaf.thenN ?_
     refine CWalk.cond rfl (fun hb => ?_) (fun hb => ?_)
     ·have hm := cond_t hb hm
      refine CWalk.seq ?_
      refine CWalk.region ?_
      refine wo (Spec.fieldAddrO fd52_1 (Has.cv (Has.s rfl) (Cv.isvP rfl))) ?_
      refine wo (Spec.loadF (i := 1) ty28 rfl (Has.s rfl) rfl (HasG.s rfl)) ?_
      obtain ⟨x5, hx5, hm⟩ := bind_some hm
      refine wo (f := Fact.ow [28] [] 5 (x5 : List UInt8)) (Spec.callE [0] 28 rfl en43 (disk_block_c x4.Data hx5) (HasAll.cons (Has.m (Has.s rfl) rfl) HasAll.nil)) ?_
      refine ws (Step.storeF (i := 0) (f := Fact.ow [28] [] 5 (x5 : List UInt8)) rfl ty28 rfl (Has.cv (Has.s rfl) (Cv.isvP rfl)) rfl (Has.cv (Has.s rfl) (Cv.trans Cv.owSl (Cv.slRep (T' := [28]) rfl rfl))) (Has.s rfl) rfl) ?_
      refine ws (Step.storeF (i := 0) (f := Fact.rep [] ((0 : Int) : Int)) rfl ty29 rfl (Has.cv (Has.s rfl) (Cv.isvP rfl)) rfl Has.int Has.int rfl) ?_
      refine Walk.nil ?_
      refine Leaf.thenN ?_
      refine CWalk.ret ?_
      refine Leaf.blockR ?_
      refine Leaf.rdR (t := 23) (J := [.fact 17 (.rep [] (false : Bool)), .fact 100015 (.at 15 (.rep [] (a1 : Int))), .fact 100017 (.at 17 (.ow [28] [] 5 (x5 : List UInt8))), .fact 100019 (.at 19 (.rep [] ((0 : Int) : Int))), .fact 100022 (.at 22 (.rep [0] a0.Wait)), .fact 100026 (.at 26 (.rep [] x4.At)), .fact 100027 (.at 27 (.rep [0] x4.Data)), .fact 902003 (.cst (u1 3) (Fact.isv 14)), .fact 902004 (.cst (u1 4) (Fact.isv 16)), .fact 902005 (.cst (u1 5) (Fact.isv 18)), .fact 902006 (.cst (u1 6) (Fact.ow [20] [] 5 (x1.1 : List UInt8))), .fact 902021 (.cst (u1 21) (Fact.fnv 69 [] [Fact.isv 21])), .fact 0 (.yv rr1.l), .fact 1 (.isv 21), .fact 3 (.rep [] (s2 : Int)), .fact 100014 (.obj 14 [(false, 1)]), .fact 100016 (.obj 16 [(false, 1)]), .fact 100018 (.obj 18 [(false, 1)]), .fact 100021 (.obj 21 [(false, 1)]), .fact 100024 (.dm 24 rr1.D), .fact 100025 (.obj 25 [(false, 1), (false, 1)])]) rfl rfl rfl (Low.res (lg (lg (lg (lg (lg (lg (lc (lc (lc (lc (lc (ls 904000 (ls 904001 (ls 904003 (lo (lo (lo (lo (lk (lo Low.nil))))))))))))))))))))) ?_
      refine wo (Spec.not (Has.s rfl)) ?_
      refine Walk.nil ?_
      refine Leaf.thenN ?_
      refine CWalk.cond rfl (fun hb => ?_) (fun hb => ?_)
      ·skip
       refine CWalk.ret ?_
       refine Leaf.blockR ?_
       refine Leaf.thenR ?_
       exact Leaf.brk hm (fun h => nomatch h) rfl (sc (sc (sc (Sub.cons (Has.cst (HasC.cv (HasC.s (s := 902006) rfl) (Cv.owF (T := [20]) (te := []) rfl))) (sc (sf (Sub.cons (Has.at (HasG.cv (HasG.s rfl) (Cv.owF (T := [28]) (te := []) rfl))) (sf (sm (sn (sn (sn (sn (sn (sn Sub.nil)))))))))))))))
      ·exact absurd hb (by decide)
     ·have hm := cond_f hb hm
      refine CWalk.skip ?_
      refine Leaf.blockN ?_
      refine Leaf.rdN (t := 23) (J := [.fact 17 (.rep [] (true : Bool)), .fact 100015 (.at 15 (.rep [] (a1 : Int))), .fact 100017 (.at 17 (.nilv)), .fact 100019 (.at 19 (.rep [] ((0 : Int) : Int))), .fact 100022 (.at 22 (.rep [0] a0.Wait)), .fact 100026 (.at 26 (.rep [] x4.At)), .fact 100027 (.at 27 (.rep [0] x4.Data)), .fact 902003 (.cst (u1 3) (Fact.isv 14)), .fact 902004 (.cst (u1 4) (Fact.isv 16)), .fact 902005 (.cst (u1 5) (Fact.isv 18)), .fact 902006 (.cst (u1 6) (Fact.ow [20] [] 5 (x1.1 : List UInt8))), .fact 902021 (.cst (u1 21) (Fact.fnv 69 [] [Fact.isv 21])), .fact 0 (.yv rr1.l), .fact 1 (.isv 21), .fact 3 (.rep [] (s2 : Int)), .fact 100014 (.obj 14 [(false, 1)]), .fact 100016 (.obj 16 [(false, 1)]), .fact 100018 (.obj 18 [(false, 1)]), .fact 100021 (.obj 21 [(false, 1)]), .fact 100024 (.dm 24 rr1.D), .fact 100025 (.obj 25 [(false, 1), (false, 1)])]) rfl rfl rfl (Low.res (lg (lg (lg (lg (lg (lg (lc (lc (lc (lc (lc (ls 904000 (ls 904001 (ls 904003 (lo (lo (lo (lo (lk (lo Low.nil))))))))))))))))))))) ?_
      refine wo (Spec.not (Has.s rfl)) ?_
      refine Walk.nil ?_
      refine Leaf.thenN ?_
      refine CWalk.cond rfl (fun hb => ?_) (fun hb => ?_)
      ·exact absurd hb (by decide)
      ·skip
       refine CWalk.skip ?_
       refine Leaf.blockN ?_
       refine Leaf.thenN ?_
       refine CWalk.region ?_
       refine mv ?_
       refine wo (Spec.subI (Has.s rfl) Has.int) ?_
       refine wo (Spec.assign (Has.s rfl)) ?_
       refine Walk.nil ?_
       exact Leaf.next hm (sn (sn (st (sc (sc (sc (Sub.cons (Has.cst (HasC.cv (HasC.s (s := 902006) rfl) (Cv.owF (T := [20]) (te := []) rfl))) (sc (sm (sf (sg (sf (sn (sn (sn (sn (sn (sn Sub.nil))))))))))))))))))
    ·have hm := cond_f hb hm
     refine CWalk.exit ?_
     refine Leaf.thenE ?_
     exact Leaf.brk hm (fun h => nomatch h) rfl (sc (sc (sc (Sub.cons (Has.cst (HasC.cv (HasC.s (s := 902006) rfl) (Cv.owF (T := [20]) (te := []) rfl))) (sc (sf (sg (sf (sm (sn (sn (sn (sn (sn (sn Sub.nil)))))))))))))))
   ·intro _
    rcases b6 with b7 | b8
    ·have hm := selim_l hm
     refine Leaf.blockE ?_
     refine Leaf.rfe ?_
     refine Leaf.rfN (t := 23) (st := .ready) (J := [.fact 100015 (.at 15 (.rep [] (a1 : Int))), .fact 100017 (.at 17 (.nilv)), .fact 100019 (.at 19 (.rep [] ((0 : Int) : Int))), .fact 100022 (.at 22 (.rep [0] a0.Wait)), .fact 3 (.isv 14), .fact 4 (.isv 16), .fact 5 (.isv 18), .fact 6 (.ow [20] [] 5 (x1.1 : List UInt8)), .fact 21 (.fnv 69 [] [Fact.isv 21]), .fact 100014 (.obj 14 [(false, 1)]), .fact 100016 (.obj 16 [(false, 1)]), .fact 100018 (.obj 18 [(false, 1)]), .fact 100021 (.obj 21 [(false, 1)]), .fact 100024 (.dm 24 rr1.D)]) rfl rfl rfl (fun h => nomatch h) (lg (lg (lg (lg (ls 902003 (ls 902004 (ls 902005 (ls 902006 (ls 902021 (lo (lo (lo (lo (lk Low.nil)))))))))))))) ?_
     refine Leaf.blockN ?_
     refine Leaf.thenN ?_
     refine CWalk.seq ?_
     refine CWalk.region ?_
     refine mv ?_
     refine ws (Step.storeF (i := 0) (f := Fact.ow [20] [] 5 (x1.1 : List UInt8)) rfl ty28 rfl (Has.cv (Has.s rfl) (Cv.isvP rfl)) rfl (Has.cv (Has.s rfl) (Cv.trans Cv.owSl (Cv.slRep (T' := [20]) rfl rfl))) (Has.s rfl) rfl) ?_
     refine ws (Step.storeF (i := 0) (f := Fact.rep [] ((0 : Int) : Int)) rfl ty29 rfl (Has.cv (Has.s rfl) (Cv.isvP rfl)) rfl Has.int Has.int rfl) ?_
     refine Walk.nil ?_
     refine Leaf.thenN ?_
     refine CWalk.ret ?_
     obtain rfl := Option.some.inj hm
     exact Leaf.unmark (t := 24) rfl rfl (Leaf.retC2 rfl (HasR.cv (HasR.cell1 ty28 rfl (Has.s rfl) rfl (HasG.s rfl)) (Cv.owF (T := [20]) (te := []) rfl)) (HasR.cv (HasR.cell1 ty29 rfl (Has.s rfl) rfl (HasG.s rfl)) Cv.fl))
    ·have hm := selim_r hm
     refine Leaf.blockR ?_
     refine Leaf.rfJ (t := 23) (st := (.done)) (J := [.fact 100015 (.at 15 (.rep [] (a1 : Int))), .fact 100017 (.at 17 (.ow [28] [] 5 (b8 : List UInt8))), .fact 100019 (.at 19 (.rep [] ((0 : Int) : Int))), .fact 100022 (.at 22 (.rep [0] a0.Wait)), .fact 3 (.isv 14), .fact 4 (.isv 16), .fact 5 (.isv 18), .fact 6 (.ow [20] [] 5 (x1.1 : List UInt8)), .fact 21 (.fnv 69 [] [Fact.isv 21]), .fact 100014 (.obj 14 [(false, 1)]), .fact 100016 (.obj 16 [(false, 1)]), .fact 100018 (.obj 18 [(false, 1)]), .fact 100021 (.obj 21 [(false, 1)]), .fact 100024 (.dm 24 rr1.D)]) rfl rfl rfl (fun h => nomatch h) (lg (lg (lg (lg (ls 902003 (ls 902004 (ls 902005 (ls 902006 (ls 902021 (lo (lo (lo (lo (lk Low.nil)))))))))))))) ?_
     refine CWalk.ret ?_
     refine Leaf.blockR ?_
     refine Leaf.thenR ?_
     obtain rfl := Option.some.inj hm
     exact Leaf.unmark (t := 24) rfl rfl (Leaf.retC2 rfl (HasR.cv (HasR.cell1 ty28 rfl (Has.s rfl) rfl (HasG.s rfl)) (Cv.owF (T := [28]) (te := []) rfl)) (HasR.cv (HasR.cell1 ty29 rfl (Has.s rfl) rfl (HasG.s rfl)) Cv.fl))

def fold_Fold_J2 (s1 : Int) (j4 : List UInt8) : Option (Ctl (Int × (List UInt8)) (Int × (List UInt8))) :=
  some (Ctl.next ((wI (s1 + (1 : Int))), j4))
def fold_Fold_L3 (x5 : List UInt8) (s6 : Int) (s7 : List UInt8) : Option (Ctl (Int × (List UInt8)) ((List UInt8))) :=
  (bif (decide (s6 < ((x5).length : Int))) then Option.bind (idx x5 s6) (fun x9 => Option.bind (bnd 128 s6) (fun x10 => Option.bind ((s7)[x10]?) (fun x11 => Option.bind (bnd 128 s6) (fun x12 => some (Ctl.next ((wI (s6 + (1 : Int))), (s7).set x12 (x11 ^^^ x9))))))) else some (Ctl.brk s7))
def fold_Fold_L1 (a0 : List (List UInt8)) (s1 : Int) (s2 : List UInt8) : Option (Ctl (Int × (List UInt8)) (Int × (List UInt8))) :=
  (bif (decide (s1 < ((a0).length : Int))) then Option.bind (idx a0 s1) (fun x5 => (bif (((x5).length : Int) == (0 : Int)) then (fold_Fold_J2 s1 s2) else (bif (((x5).length : Int) == (128 : Int)) then Option.bind (loopM (fun s : Int × (List UInt8) => fold_Fold_L3 x5 s.1 s.2) FUEL ((0 : Int), s2)) (fun b13 => (fold_Fold_J2 s1 b13)) else some (Ctl.brk ((3 : Int), s2))))) else some (Ctl.brk ((0 : Int), s2)))
/-- freeboard/fold.Fold -/
def fold_Fold (a0 : List (List UInt8)) : Option ((List UInt8) × Int) :=
  (bif (decide (((a0).length : Int) > (16 : Int))) then some (([] : List UInt8), (4 : Int)) else Option.bind (loopM (fun s : Int × (List UInt8) => fold_Fold_L1 a0 s.1 s.2) FUEL ((0 : Int), List.replicate 128 (0 : UInt8))) (fun b14 => (bif (b14.1 != (0 : Int)) then some (([] : List UInt8), b14.1) else some (b14.2, (0 : Int)))))
set_option maxRecDepth 100000 in
set_option maxHeartbeats 2000000 in
theorem fold_Fold_c (a0 : List (List UInt8)) {r : (List UInt8) × Int} (hm : fold_Fold a0 = some r) : Ctr Try.prog 25 [.rep 0 a0] (.tup2 (.sl 0 none r.1) (.fl r.2)) [] := by
 refine ctr_of_walk [[10]] 44 Try.func25 rfl rfl rfl rfl (fun w0 om => ?_)
 unfold fold_Fold at hm
 refine CWalk.sub (G' := [.fact 0 (.rep [0] (a0 : List (List UInt8)))]) (sn Sub.nil) ?_
 refine CWalk.seq ?_
 refine CWalk.region ?_
 refine wo (Spec.assign Has.nilv) ?_
 refine wo (Spec.assign Has.int) ?_
 refine Walk.nil ?_
 refine Leaf.thenN ?_
 refine CWalk.scope ?_
 refine CWalk.seq ?_
 refine CWalk.seq ?_
 refine CWalk.region ?_
 refine mv ?_
 refine wo (Spec.len (Has.s rfl) Try.underlying46) ?_
 refine wo (Spec.gtrI (Has.s rfl) Has.int) ?_
 refine Walk.nil ?_
 refine Leaf.thenN ?_
 refine CWalk.cond rfl (fun hb => ?_) (fun hb => ?_)
 ·have hm := cond_t hb hm
  refine CWalk.seq ?_
  refine CWalk.region ?_
  refine wo (Spec.assign Has.nilv) ?_
  refine wo (Spec.assign Has.int) ?_
  refine Walk.nil ?_
  refine Leaf.thenN ?_
  refine CWalk.ret ?_
  refine Leaf.thenR ?_
  refine Leaf.scR ?_
  obtain rfl := Option.some.inj hm
  exact Leaf.retC2 rfl (HasR.cv (HasR.tmp (Has.s rfl)) (Cv.trans Cv.nilSl (Cv.slF (T := []) (te := []) rfl))) (HasR.cv (HasR.tmp (Has.s rfl)) Cv.fl)
 ·have hm := cond_f hb hm
  refine CWalk.skip ?_
  refine Leaf.thenN ?_
  refine CWalk.seq ?_
  refine CWalk.region ?_
  refine ws (Step.allocArr 10 rfl rfl ar83) ?_
  refine Walk.nil ?_
  refine Leaf.thenN ?_
  refine CWalk.seq ?_
  refine CWalk.region ?_
  refine wo (Spec.assign Has.int) ?_
  refine Walk.nil ?_
  refine Leaf.thenN ?_
  refine CWalk.seq ?_
  refine CWalk.label ?_
  refine Leaf.thenN ?_
  refine CWalk.seq ?_
  refine CWalk.seq ?_
  refine CWalk.region ?_
  refine mv ?_
  refine wo (Spec.len (Has.s rfl) Try.underlying46) ?_
  refine wo (Spec.move Has.int) ?_
  refine Walk.nil ?_
  refine Leaf.thenN ?_
  refine CWalk.block ?_
  obtain ⟨b14, hb14, hm⟩ := bind_some hm
  refine CWalk.loop (fun s : Int × (List UInt8) => [.fact 4 (.isv 10), .fact 5 (.rep [] ((0 : Int) : Int)), .fact 13 (.rep [0] (a0 : List (List UInt8))), .fact 14 (.rep [] (((a0).length : Int) : Int)), .fact 15 (.rep [] s.1), .fact 100010 (.arr 10 [] 128 (s.2 : List UInt8))]) (fun b : Int × (List UInt8) => (Exit.exit 0, [.fact 4 (.isv 10), .fact 5 (.rep [] b.1), .fact 100010 (.arr 10 [] 128 (b.2 : List UInt8))])) hb14 (sn (st (su (st (st (Sub.cons (Has.arrM (Has.s rfl) rfl) Sub.nil)))))) ?_ ?_
  ·rintro ⟨s1, s2⟩ c3 hm
   replace hm : fold_Fold_L1 a0 s1 s2 = some c3 := hm
   unfold fold_Fold_L1 at hm
   show CWalk _ [.fact 4 (.isv 10), .fact 5 (.rep [] ((0 : Int) : Int)), .fact 13 (.rep [0] (a0 : List (List UInt8))), .fact 14 (.rep [] (((a0).length : Int) : Int)), .fact 15 (.rep [] (s1 : Int)), .fact 100010 (.arr 10 [] 128 (s2 : List UInt8))] _ _
   refine CWalk.seq ?_
   refine CWalk.region ?_
   refine wo (Spec.lssI (Has.s rfl) (Has.s rfl)) ?_
   refine Walk.nil ?_
   refine Leaf.thenN ?_
   refine CWalk.seq ?_
   refine CWalk.cond rfl (fun hb => ?_) (fun hb => ?_)
   ·have hm := cond_t hb hm
    refine CWalk.skip ?_
    refine Leaf.thenN ?_
    refine CWalk.seqJ (fun p : (List UInt8) => [.fact 4 (.isv 10), .fact 5 (.rep [] ((0 : Int) : Int)), .fact 13 (.rep [0] (a0 : List (List UInt8))), .fact 14 (.rep [] (((a0).length : Int) : Int)), .fact 15 (.rep [] (s1 : Int)), .fact 100010 (.arr 10 [] 128 (p : List UInt8))]) (fun p : (List UInt8) => fold_Fold_J2 s1 p = some c3) ?_ ?_
    ·rintro j4 hm
     replace hm : fold_Fold_J2 s1 j4 = some c3 := hm
     unfold fold_Fold_J2 at hm
     show CWalk _ [.fact 4 (.isv 10), .fact 5 (.rep [] ((0 : Int) : Int)), .fact 13 (.rep [0] (a0 : List (List UInt8))), .fact 14 (.rep [] (((a0).length : Int) : Int)), .fact 15 (.rep [] (s1 : Int)), .fact 100010 (.arr 10 [] 128 (j4 : List UInt8))] _ _
     refine CWalk.region ?_
     refine wo (Spec.addI (Has.s rfl) Has.int) ?_
     refine mv ?_
     refine Walk.nil ?_
     exact Leaf.next hm (sn (st (su (st (st (Sub.cons (Has.arrM (Has.s rfl) rfl) Sub.nil))))))
    ·refine CWalk.block ?_
     refine CWalk.seq ?_
     refine CWalk.region ?_
     obtain ⟨x5, hx5, hm⟩ := bind_some hm
     refine wo (Spec.indexAddr hx5 sl46 (Has.s rfl) (Has.s rfl)) ?_
     refine wo (Spec.load ty28 (Has.s rfl)) ?_
     refine wo (Spec.assign (Has.s rfl)) ?_
     refine Walk.nil ?_
     refine Leaf.thenN ?_
     refine CWalk.seq ?_
     refine CWalk.region ?_
     refine mv ?_
     refine wo (Spec.len (Has.s rfl) Try.underlying28) ?_
     refine Walk.nil ?_
     refine Leaf.thenN ?_
     refine CWalk.block ?_
     refine CWalk.seq ?_
     refine CWalk.region ?_
     refine wo (Spec.eqlI (Has.s rfl) Has.int) ?_
     refine wo (Spec.assign (Has.s rfl)) ?_
     refine Walk.nil ?_
     refine Leaf.thenN ?_
     refine CWalk.cond rfl (fun hb => ?_) (fun hb => ?_)
     ·have hm := cond_t hb hm
      refine CWalk.exit ?_
      refine Leaf.blockO rfl ?_
      refine Leaf.blockE ?_
      exact Leaf.join s2 hm (sn (st (su (st (st (Sub.cons (Has.arrM (Has.s rfl) rfl) Sub.nil))))))
     ·have hm := cond_f hb hm
      refine CWalk.seq ?_
      refine CWalk.region ?_
      refine wo (Spec.eqlI (Has.s rfl) Has.int) ?_
      refine wo (Spec.assign (Has.s rfl)) ?_
      refine Walk.nil ?_
      refine Leaf.thenN ?_
      refine CWalk.cond rfl (fun hb => ?_) (fun hb => ?_)
      ·have hm := cond_t hb hm
       refine CWalk.seq ?_
       refine CWalk.region ?_
       refine mv ?_
       refine wo (Spec.len (Has.s rfl) Try.underlying28) ?_
       refine wo (Spec.move Has.int) ?_
       refine Walk.nil ?_
       refine Leaf.thenN ?_
       refine CWalk.block ?_
       obtain ⟨b13, hb13, hm⟩ := bind_some hm
       refine CWalk.loop (fun s : Int × (List UInt8) => [.fact 4 (.isv 10), .fact 5 (.rep [] ((0 : Int) : Int)), .fact 13 (.rep [0] (a0 : List (List UInt8))), .fact 14 (.rep [] (((a0).length : Int) : Int)), .fact 15 (.rep [] (s1 : Int)), .fact 25 (.rep [0] (x5 : List UInt8)), .fact 26 (.rep [] (((x5).length : Int) : Int)), .fact 27 (.rep [] s.1), .fact 100010 (.arr 10 [] 128 (s.2 : List UInt8))]) (fun b : (List UInt8) => (Exit.exit 3, [.fact 4 (.isv 10), .fact 5 (.rep [] ((0 : Int) : Int)), .fact 13 (.rep [0] (a0 : List (List UInt8))), .fact 14 (.rep [] (((a0).length : Int) : Int)), .fact 15 (.rep [] (s1 : Int)), .fact 100010 (.arr 10 [] 128 (b : List UInt8))])) hb13 (sn (st (su (st (st (su (st (st (Sub.cons (Has.arrM (Has.s rfl) rfl) Sub.nil))))))))) ?_ ?_
       ·rintro ⟨s6, s7⟩ c8 hm
        replace hm : fold_Fold_L3 x5 s6 s7 = some c8 := hm
        unfold fold_Fold_L3 at hm
        show CWalk _ [.fact 4 (.isv 10), .fact 5 (.rep [] ((0 : Int) : Int)), .fact 13 (.rep [0] (a0 : List (List UInt8))), .fact 14 (.rep [] (((a0).length : Int) : Int)), .fact 15 (.rep [] (s1 : Int)), .fact 25 (.rep [0] (x5 : List UInt8)), .fact 26 (.rep [] (((x5).length : Int) : Int)), .fact 27 (.rep [] (s6 : Int)), .fact 100010 (.arr 10 [] 128 (s7 : List UInt8))] _ _
        refine CWalk.seq ?_
        refine CWalk.region ?_
        refine wo (Spec.lssI (Has.s rfl) (Has.s rfl)) ?_
        refine Walk.nil ?_
        refine Leaf.thenN ?_
        refine CWalk.seq ?_
        refine CWalk.cond rfl (fun hb => ?_) (fun hb => ?_)
        ·have hm := cond_t hb hm
         refine CWalk.skip ?_
         refine Leaf.thenN ?_
         refine CWalk.seq ?_
         refine CWalk.block ?_
         refine CWalk.seq ?_
         refine CWalk.region ?_
         refine mv ?_
         obtain ⟨x9, hx9, hm⟩ := bind_some hm
         refine wo (Spec.indexAddr hx9 sl28 (Has.s rfl) (Has.s rfl)) ?_
         refine wo ((Spec.load ty5 (Has.s rfl)).flat (T' := [])) ?_
         refine wo (Spec.assign (Has.s rfl)) ?_
         refine wo (Spec.assign (Has.s rfl)) ?_
         refine Walk.nil ?_
         refine Leaf.thenN ?_
         refine CWalk.region ?_
         refine mv ?_
         obtain ⟨x10, hx10, hm⟩ := bind_some hm
         refine wo (Spec.idxArr hx10 ar83 (Has.s rfl) rfl (Has.s rfl)) ?_
         obtain ⟨x11, hx11, hm⟩ := bind_some hm
         refine wo ((Spec.loadArr hx11 ty5 (Has.s rfl) rfl).flat (T' := [])) ?_
         refine mv ?_
         refine wo (Spec.xorB (Has.s rfl) (Has.s rfl)) ?_
         obtain ⟨x12, hx12, hm⟩ := bind_some hm
         refine wo (Spec.idxArr hx12 ar83 (Has.s rfl) rfl (Has.s rfl)) ?_
         refine ws (Step.storeArr (te' := []) rfl (bnd_lt hx12 rfl) ty5 (Has.s rfl) rfl (Has.s rfl) ElKeep.flat ElKeep.flat) ?_
         refine Walk.nil ?_
         refine Leaf.blockN ?_
         refine Leaf.thenN ?_
         refine CWalk.region ?_
         refine wo (Spec.addI (Has.s rfl) Has.int) ?_
         refine mv ?_
         refine Walk.nil ?_
         exact Leaf.next hm (sn (st (su (st (st (su (st (st (Sub.cons (Has.arrM (Has.s rfl) rfl) Sub.nil)))))))))
        ·have hm := cond_f hb hm
         refine CWalk.exit ?_
         refine Leaf.thenE ?_
         exact Leaf.brk hm (fun h => nomatch h) rfl (sn (st (su (st (st (Sub.cons (Has.arrM (Has.s rfl) rfl) Sub.nil))))))
       ·intro _
        refine Leaf.blockE ?_
        refine Leaf.blockN ?_
        refine Leaf.blockN ?_
        exact Leaf.join b13 hm (sn (st (su (st (st (Sub.cons (Has.arrM (Has.s rfl) rfl) Sub.nil))))))
      ·have hm := cond_f hb hm
       refine CWalk.seq ?_
       refine CWalk.region ?_
       refine wo (Spec.assign Has.int) ?_
       refine Walk.nil ?_
       refine Leaf.thenN ?_
       refine CWalk.exit ?_
       refine Leaf.blockO rfl ?_
       refine Leaf.blockO rfl ?_
       refine Leaf.thenE ?_
       exact Leaf.brk hm (fun h => nomatch h) rfl (sn (st (Sub.cons (Has.arrM (Has.s rfl) rfl) Sub.nil)))
   ·have hm := cond_f hb hm
    refine CWalk.exit ?_
    refine Leaf.thenE ?_
    exact Leaf.brk hm (fun h => nomatch h) rfl (sn (st (Sub.cons (Has.arrM (Has.s rfl) rfl) Sub.nil)))
  ·intro _
   refine Leaf.blockE ?_
   refine Leaf.thenN ?_
   refine CWalk.seq ?_
   refine CWalk.seq ?_
   refine CWalk.region ?_
   refine mv ?_
   refine wo (Spec.neqI (Has.s rfl) Has.int) ?_
   refine Walk.nil ?_
   refine Leaf.thenN ?_
   refine CWalk.cond rfl (fun hb => ?_) (fun hb => ?_)
   ·have hm := cond_t hb hm
    refine CWalk.seq ?_
    refine CWalk.region ?_
    refine mv ?_
    refine wo (Spec.assign Has.nilv) ?_
    refine wo (Spec.assign (Has.s rfl)) ?_
    refine Walk.nil ?_
    refine Leaf.thenN ?_
    refine CWalk.ret ?_
    refine Leaf.thenR ?_
    refine Leaf.scR ?_
    obtain rfl := Option.some.inj hm
    exact Leaf.retC2 rfl (HasR.cv (HasR.tmp (Has.s rfl)) (Cv.trans Cv.nilSl (Cv.slF (T := []) (te := []) rfl))) (HasR.cv (HasR.tmp (Has.s rfl)) Cv.fl)
   ·have hm := cond_f hb hm
    refine CWalk.skip ?_
    refine Leaf.thenN ?_
    refine CWalk.seq ?_
    refine CWalk.region ?_
    refine wo (Spec.sliceArrS ar83 (Has.s rfl) rfl) ?_
    refine wo (Spec.assign (Has.s rfl)) ?_
    refine wo (Spec.assign Has.int) ?_
    refine Walk.nil ?_
    refine Leaf.thenN ?_
    refine CWalk.ret ?_
    refine Leaf.scR ?_
    obtain rfl := Option.some.inj hm
    exact Leaf.retC2 rfl (HasR.cv (HasR.tmp (Has.s rfl)) (Cv.slF (T := [10]) (te := []) rfl)) (HasR.cv (HasR.tmp (Has.s rfl)) Cv.fl)

end Go.Proofs.Ytfilegnndamngaa
