/- Printed by a program of ours: models of functions, and that calls do what they say. -/
import Derived.Test.YtjefieckineneaaProg
import Derived.Test.YtjefieckineneaaCore36
import Derived.KernelRfl
namespace Go.Proofs.Ytjefieckineneaa
open Go GL
set_option linter.unusedVariables false

structure Op72 where
  Kind : UInt8
  Slot : UInt8
  Byte : UInt8
  deriving Inhabited, DecidableEq
instance : Rp Op72 := Rp.via (inferInstance : Rp (UInt8 × UInt8 × UInt8)) (fun x => (x.Kind, x.Slot, x.Byte))
theorem chOp72 (x : Op72) : Ch x [⟨inferInstance, x.Kind⟩, ⟨inferInstance, x.Slot⟩, ⟨inferInstance, x.Byte⟩] := Ch.via (ChT.cons (ChT.cons (ChT.one _)))
instance : Lo Op72 := Lo.via (inferInstance : Rp (UInt8 × UInt8 × UInt8)) inferInstance (fun x : Op72 => (x.Kind, x.Slot, x.Byte))
theorem loOp72_0 (x : Op72) : LoAt x 0 x.Kind := fun F cs w h => (LoAt.fst : LoAt ((x.Kind, x.Slot, x.Byte)) 0 x.Kind) F cs w h
theorem loOp72_1 (x : Op72) : LoAt x 1 x.Slot := fun F cs w h => ((LoAt.snd LoAt.fst) : LoAt ((x.Kind, x.Slot, x.Byte)) 1 x.Slot) F cs w h
theorem loOp72_2 (x : Op72) : LoAt x 2 x.Byte := fun F cs w h => ((LoAt.snd (LoAt.snd LoAt.self)) : LoAt ((x.Kind, x.Slot, x.Byte)) 2 x.Byte) F cs w h
instance : Flat Op72 := ⟨fun F F' x cs w w' h => Flat.flat (α := UInt8 × UInt8 × UInt8) F F' ((x.Kind, x.Slot, x.Byte)) cs w w' h⟩

structure Config where
  Id : UInt32
  Members : Int
  Chunk : Int
  Rows : Int
  Log : Int
  Heads : Int
  deriving Inhabited, DecidableEq
instance : Rp Config := Rp.via (inferInstance : Rp (UInt32 × Int × Int × Int × Int × Int)) (fun x => (x.Id, x.Members, x.Chunk, x.Rows, x.Log, x.Heads))
theorem chConfig (x : Config) : Ch x [⟨inferInstance, x.Id⟩, ⟨inferInstance, x.Members⟩, ⟨inferInstance, x.Chunk⟩, ⟨inferInstance, x.Rows⟩, ⟨inferInstance, x.Log⟩, ⟨inferInstance, x.Heads⟩] := Ch.via (ChT.cons (ChT.cons (ChT.cons (ChT.cons (ChT.cons (ChT.one _))))))
instance : Lo Config := Lo.via (inferInstance : Rp (UInt32 × Int × Int × Int × Int × Int)) inferInstance (fun x : Config => (x.Id, x.Members, x.Chunk, x.Rows, x.Log, x.Heads))
theorem loConfig_0 (x : Config) : LoAt x 0 x.Id := fun F cs w h => (LoAt.fst : LoAt ((x.Id, x.Members, x.Chunk, x.Rows, x.Log, x.Heads)) 0 x.Id) F cs w h
theorem loConfig_1 (x : Config) : LoAt x 1 x.Members := fun F cs w h => ((LoAt.snd LoAt.fst) : LoAt ((x.Id, x.Members, x.Chunk, x.Rows, x.Log, x.Heads)) 1 x.Members) F cs w h
theorem loConfig_2 (x : Config) : LoAt x 2 x.Chunk := fun F cs w h => ((LoAt.snd (LoAt.snd LoAt.fst)) : LoAt ((x.Id, x.Members, x.Chunk, x.Rows, x.Log, x.Heads)) 2 x.Chunk) F cs w h
theorem loConfig_3 (x : Config) : LoAt x 3 x.Rows := fun F cs w h => ((LoAt.snd (LoAt.snd (LoAt.snd LoAt.fst))) : LoAt ((x.Id, x.Members, x.Chunk, x.Rows, x.Log, x.Heads)) 3 x.Rows) F cs w h
theorem loConfig_4 (x : Config) : LoAt x 4 x.Log := fun F cs w h => ((LoAt.snd (LoAt.snd (LoAt.snd (LoAt.snd LoAt.fst)))) : LoAt ((x.Id, x.Members, x.Chunk, x.Rows, x.Log, x.Heads)) 4 x.Log) F cs w h
theorem loConfig_5 (x : Config) : LoAt x 5 x.Heads := fun F cs w h => ((LoAt.snd (LoAt.snd (LoAt.snd (LoAt.snd (LoAt.snd LoAt.self))))) : LoAt ((x.Id, x.Members, x.Chunk, x.Rows, x.Log, x.Heads)) 5 x.Heads) F cs w h
instance : Flat Config := ⟨fun F F' x cs w w' h => Flat.flat (α := UInt32 × Int × Int × Int × Int × Int) F F' ((x.Id, x.Members, x.Chunk, x.Rows, x.Log, x.Heads)) cs w w' h⟩

structure Head where
  Stripe : Int
  Blocks : List (List UInt8)
  Dirty : List Bool
  Phase : UInt8
  Deals : Bool
  Seq : UInt32
  deriving Inhabited, DecidableEq
instance : Rp Head := Rp.via (inferInstance : Rp (Int × (List (List UInt8)) × (List Bool) × UInt8 × Bool × UInt32)) (fun x => (x.Stripe, x.Blocks, x.Dirty, x.Phase, x.Deals, x.Seq))
theorem chHead (x : Head) : Ch x [⟨inferInstance, x.Stripe⟩, ⟨inferInstance, x.Blocks⟩, ⟨inferInstance, x.Dirty⟩, ⟨inferInstance, x.Phase⟩, ⟨inferInstance, x.Deals⟩, ⟨inferInstance, x.Seq⟩] := Ch.via (ChT.cons (ChT.cons (ChT.cons (ChT.cons (ChT.cons (ChT.one _))))))
instance : Lo Head := Lo.via (inferInstance : Rp (Int × (List (List UInt8)) × (List Bool) × UInt8 × Bool × UInt32)) inferInstance (fun x : Head => (x.Stripe, x.Blocks, x.Dirty, x.Phase, x.Deals, x.Seq))
theorem loHead_0 (x : Head) : LoAt x 0 x.Stripe := fun F cs w h => (LoAt.fst : LoAt ((x.Stripe, x.Blocks, x.Dirty, x.Phase, x.Deals, x.Seq)) 0 x.Stripe) F cs w h
theorem loHead_1 (x : Head) : LoAt x 1 x.Blocks := fun F cs w h => ((LoAt.snd LoAt.fst) : LoAt ((x.Stripe, x.Blocks, x.Dirty, x.Phase, x.Deals, x.Seq)) 1 x.Blocks) F cs w h
theorem loHead_2 (x : Head) : LoAt x 2 x.Dirty := fun F cs w h => ((LoAt.snd (LoAt.snd LoAt.fst)) : LoAt ((x.Stripe, x.Blocks, x.Dirty, x.Phase, x.Deals, x.Seq)) 2 x.Dirty) F cs w h
theorem loHead_3 (x : Head) : LoAt x 3 x.Phase := fun F cs w h => ((LoAt.snd (LoAt.snd (LoAt.snd LoAt.fst))) : LoAt ((x.Stripe, x.Blocks, x.Dirty, x.Phase, x.Deals, x.Seq)) 3 x.Phase) F cs w h
theorem loHead_4 (x : Head) : LoAt x 4 x.Deals := fun F cs w h => ((LoAt.snd (LoAt.snd (LoAt.snd (LoAt.snd LoAt.fst)))) : LoAt ((x.Stripe, x.Blocks, x.Dirty, x.Phase, x.Deals, x.Seq)) 4 x.Deals) F cs w h
theorem loHead_5 (x : Head) : LoAt x 5 x.Seq := fun F cs w h => ((LoAt.snd (LoAt.snd (LoAt.snd (LoAt.snd (LoAt.snd LoAt.self))))) : LoAt ((x.Stripe, x.Blocks, x.Dirty, x.Phase, x.Deals, x.Seq)) 5 x.Seq) F cs w h

structure Arr3_Int where
  e0 : Int
  e1 : Int
  e2 : Int
  deriving Inhabited, DecidableEq
instance : Rp Arr3_Int := Rp.via (inferInstance : Rp (Int × Int × Int)) (fun x => (x.e0, x.e1, x.e2))
theorem chArr3_Int (x : Arr3_Int) : Ch x [⟨inferInstance, x.e0⟩, ⟨inferInstance, x.e1⟩, ⟨inferInstance, x.e2⟩] := Ch.via (ChT.cons (ChT.cons (ChT.one _)))
instance : Lo Arr3_Int := Lo.via (inferInstance : Rp (Int × Int × Int)) inferInstance (fun x : Arr3_Int => (x.e0, x.e1, x.e2))
theorem loArr3_Int_0 (x : Arr3_Int) : LoAt x 0 x.e0 := fun F cs w h => (LoAt.fst : LoAt ((x.e0, x.e1, x.e2)) 0 x.e0) F cs w h
theorem loArr3_Int_1 (x : Arr3_Int) : LoAt x 1 x.e1 := fun F cs w h => ((LoAt.snd LoAt.fst) : LoAt ((x.e0, x.e1, x.e2)) 1 x.e1) F cs w h
theorem loArr3_Int_2 (x : Arr3_Int) : LoAt x 2 x.e2 := fun F cs w h => ((LoAt.snd (LoAt.snd LoAt.self)) : LoAt ((x.e0, x.e1, x.e2)) 2 x.e2) F cs w h
instance : Flat Arr3_Int := ⟨fun F F' x cs w w' h => Flat.flat (α := Int × Int × Int) F F' ((x.e0, x.e1, x.e2)) cs w w' h⟩

structure Arr2_Bool where
  e0 : Bool
  e1 : Bool
  deriving Inhabited, DecidableEq
instance : Rp Arr2_Bool := Rp.via (inferInstance : Rp (Bool × Bool)) (fun x => (x.e0, x.e1))
theorem chArr2_Bool (x : Arr2_Bool) : Ch x [⟨inferInstance, x.e0⟩, ⟨inferInstance, x.e1⟩] := Ch.via (ChT.cons (ChT.one _))
instance : Lo Arr2_Bool := Lo.via (inferInstance : Rp (Bool × Bool)) inferInstance (fun x : Arr2_Bool => (x.e0, x.e1))
theorem loArr2_Bool_0 (x : Arr2_Bool) : LoAt x 0 x.e0 := fun F cs w h => (LoAt.fst : LoAt ((x.e0, x.e1)) 0 x.e0) F cs w h
theorem loArr2_Bool_1 (x : Arr2_Bool) : LoAt x 1 x.e1 := fun F cs w h => ((LoAt.snd LoAt.self) : LoAt ((x.e0, x.e1)) 1 x.e1) F cs w h
instance : Flat Arr2_Bool := ⟨fun F F' x cs w w' h => Flat.flat (α := Bool × Bool) F F' ((x.e0, x.e1)) cs w w' h⟩

structure Arr2_UInt8 where
  e0 : UInt8
  e1 : UInt8
  deriving Inhabited, DecidableEq
instance : Rp Arr2_UInt8 := Rp.via (inferInstance : Rp (UInt8 × UInt8)) (fun x => (x.e0, x.e1))
theorem chArr2_UInt8 (x : Arr2_UInt8) : Ch x [⟨inferInstance, x.e0⟩, ⟨inferInstance, x.e1⟩] := Ch.via (ChT.cons (ChT.one _))
instance : Lo Arr2_UInt8 := Lo.via (inferInstance : Rp (UInt8 × UInt8)) inferInstance (fun x : Arr2_UInt8 => (x.e0, x.e1))
theorem loArr2_UInt8_0 (x : Arr2_UInt8) : LoAt x 0 x.e0 := fun F cs w h => (LoAt.fst : LoAt ((x.e0, x.e1)) 0 x.e0) F cs w h
theorem loArr2_UInt8_1 (x : Arr2_UInt8) : LoAt x 1 x.e1 := fun F cs w h => ((LoAt.snd LoAt.self) : LoAt ((x.e0, x.e1)) 1 x.e1) F cs w h
instance : Flat Arr2_UInt8 := ⟨fun F F' x cs w w' h => Flat.flat (α := UInt8 × UInt8) F F' ((x.e0, x.e1)) cs w w' h⟩

theorem zl24 : ZeroLs Try.prog 24 [(false, 1, Fact.rep [] ((0 : UInt32) : UInt32)), (false, 1, Fact.rep [] ((0 : Int) : Int)), (false, 1, Fact.rep [] ((0 : Int) : Int)), (false, 1, Fact.rep [] ((0 : Int) : Int)), (false, 1, Fact.rep [] ((0 : Int) : Int)), (false, 1, Fact.rep [] ((0 : Int) : Int))] := ⟨⟨[.int .u32 0, .int .i64 0, .int .i64 0, .int .i64 0, .int .i64 0, .int .i64 0], by kernel_rfl, fun g w => FldRel.zr (fun _ _ => rfl) (FldRel.zr (fun _ _ => rfl) (FldRel.zr (fun _ _ => rfl) (FldRel.zr (fun _ _ => rfl) (FldRel.zr (fun _ _ => rfl) (FldRel.zr (fun _ _ => rfl) (rfl))))))⟩⟩
theorem bd24 : BuildTy Try.prog 24 [(0, 1), (1, 1), (2, 1), (3, 1), (4, 1), (5, 1)] [(false, 1, Fact.rep [] ((0 : UInt32) : UInt32)), (false, 1, Fact.rep [] ((0 : Int) : Int)), (false, 1, Fact.rep [] ((0 : Int) : Int)), (false, 1, Fact.rep [] ((0 : Int) : Int)), (false, 1, Fact.rep [] ((0 : Int) : Int)), (false, 1, Fact.rep [] ((0 : Int) : Int))] := ⟨⟨_, [.int .u32 0, .int .i64 0, .int .i64 0, .int .i64 0, .int .i64 0, .int .i64 0], by kernel_rfl, Try.underlying24, (fun g w => FldRel.zr (fun _ _ => rfl) (FldRel.zr (fun _ _ => rfl) (FldRel.zr (fun _ _ => rfl) (FldRel.zr (fun _ _ => rfl) (FldRel.zr (fun _ _ => rfl) (FldRel.zr (fun _ _ => rfl) (rfl))))))), by kernel_rfl⟩⟩
theorem ty24 : Ty Try.prog 24 (Config) := Ty.of (by kernel_rfl)
theorem en40 : enters Try.prog 40 = true := by kernel_rfl
theorem zl28 : ZeroLs Try.prog 28 [(false, 1, Fact.rep [] ((0 : Int) : Int)), (false, 1, Fact.nilv), (false, 1, Fact.nilv), (false, 1, Fact.rep [] ((0 : UInt8) : UInt8)), (false, 1, Fact.rep [] (false : Bool)), (false, 1, Fact.rep [] ((0 : UInt32) : UInt32))] := ⟨⟨[.int .i64 0, .slice none 0 0, .slice none 0 0, .int .u8 0, .bool false, .int .u32 0], by kernel_rfl, fun g w => FldRel.zr (fun _ _ => rfl) (FldRel.zn (FldRel.zn (FldRel.zr (fun _ _ => rfl) (FldRel.zr (fun _ _ => rfl) (FldRel.zr (fun _ _ => rfl) (rfl))))))⟩⟩
theorem fd24_2 : FieldTy Try.prog 24 2 2 1 := FieldTy.of Try.underlying24 (by kernel_rfl) rfl
theorem ty3 : Ty Try.prog 3 (Int) := Ty.of (by kernel_rfl)
theorem fd24_3 : FieldTy Try.prog 24 3 3 1 := FieldTy.of Try.underlying24 (by kernel_rfl) rfl
theorem fd24_1 : FieldTy Try.prog 24 1 1 1 := FieldTy.of Try.underlying24 (by kernel_rfl) rfl
theorem bd107 : BuildTyA Try.prog 107 [(0, 1), (1, 1), (2, 1)] [(false, 1, Fact.rep [] ((0 : Int) : Int)), (false, 1, Fact.rep [] ((0 : Int) : Int)), (false, 1, Fact.rep [] ((0 : Int) : Int))] := ⟨⟨_, _, 1, [.int .i64 0, .int .i64 0, .int .i64 0], by kernel_rfl, Try.underlying107, by kernel_rfl, (fun g w => FldRel.zr (fun _ _ => rfl) (FldRel.zr (fun _ _ => rfl) (FldRel.zr (fun _ _ => rfl) (rfl)))), rfl⟩⟩
theorem fd24_5 : FieldTy Try.prog 24 5 5 1 := FieldTy.of Try.underlying24 (by kernel_rfl) rfl
theorem ow108 : OwnTy Try.prog 108 107 (Arr3_Int) := OwnTy.of Try.underlying108 (by kernel_rfl) rfl (by kernel_rfl)
theorem sl108 : SlTy Try.prog 108 107 (Arr3_Int) := SlTy.of Try.underlying108 (by kernel_rfl) rfl
theorem ty107 : Ty Try.prog 107 (Arr3_Int) := Ty.of (by kernel_rfl)
theorem zl107 : ZeroLs Try.prog 107 [(false, 1, Fact.rep [] ((0 : Int) : Int)), (false, 1, Fact.rep [] ((0 : Int) : Int)), (false, 1, Fact.rep [] ((0 : Int) : Int))] := ⟨⟨[.int .i64 0, .int .i64 0, .int .i64 0], by kernel_rfl, fun g w => FldRel.zr (fun _ _ => rfl) (FldRel.zr (fun _ _ => rfl) (FldRel.zr (fun _ _ => rfl) (rfl)))⟩⟩
theorem sm107 : SmTy Try.prog 107 3 3 1 := ⟨Try.underlying107, by kernel_rfl⟩
theorem en82 : enters Try.prog 82 = true := by kernel_rfl
theorem fd24_4 : FieldTy Try.prog 24 4 4 1 := FieldTy.of Try.underlying24 (by kernel_rfl) rfl
theorem en80 : enters Try.prog 80 = true := by kernel_rfl
theorem en73 : enters Try.prog 73 = true := by kernel_rfl
theorem en52 : enters Try.prog 52 = true := by kernel_rfl
theorem bd28 : BuildTy Try.prog 28 [(0, 1), (1, 1), (2, 1), (3, 1), (4, 1), (5, 1)] [(false, 1, Fact.rep [] ((0 : Int) : Int)), (false, 1, Fact.nilv), (false, 1, Fact.nilv), (false, 1, Fact.rep [] ((0 : UInt8) : UInt8)), (false, 1, Fact.rep [] (false : Bool)), (false, 1, Fact.rep [] ((0 : UInt32) : UInt32))] := ⟨⟨_, [.int .i64 0, .slice none 0 0, .slice none 0 0, .int .u8 0, .bool false, .int .u32 0], by kernel_rfl, Try.underlying28, (fun g w => FldRel.zr (fun _ _ => rfl) (FldRel.zn (FldRel.zn (FldRel.zr (fun _ _ => rfl) (FldRel.zr (fun _ _ => rfl) (FldRel.zr (fun _ _ => rfl) (rfl))))))), by kernel_rfl⟩⟩
theorem ty28 : Ty Try.prog 28 (Head) := Ty.of (by kernel_rfl)
theorem ow25 : OwnTy Try.prog 25 31 (List UInt8) := OwnTy.of Try.underlying25 (by kernel_rfl) rfl (by kernel_rfl)
theorem zt31 : ZeroTy Try.prog 31 ([] : List UInt8) := ⟨.slice none 0 0, by kernel_rfl, fun _ => nil_rel⟩
theorem ow26 : OwnTy Try.prog 26 4 (Bool) := OwnTy.of Try.underlying26 (by kernel_rfl) rfl (by kernel_rfl)
theorem zt4 : ZeroTy Try.prog 4 false := ⟨.bool false, by kernel_rfl, fun _ => rfl⟩
theorem mixed : Try.prog.follows .mixedOrders = true := by kernel_rfl
theorem en21 : enters Try.prog 21 = true := by kernel_rfl
theorem ow31 : OwnTy Try.prog 31 5 (UInt8) := OwnTy.of Try.underlying31 (by kernel_rfl) rfl (by kernel_rfl)
theorem zt5 : ZeroTy Try.prog 5 (0 : UInt8) := ⟨.int .u8 0, by kernel_rfl, fun _ => rfl⟩
theorem ty5 : Ty Try.prog 5 (UInt8) := Ty.of (by kernel_rfl)
theorem en43 : enters Try.prog 43 = true := by kernel_rfl
theorem ty31 : Ty Try.prog 31 (List UInt8) := Ty.of (by kernel_rfl)
theorem en48 : enters Try.prog 48 = true := by kernel_rfl
theorem fd28_0 : FieldTy Try.prog 28 0 0 1 := FieldTy.of Try.underlying28 (by kernel_rfl) rfl
theorem fd28_1 : FieldTy Try.prog 28 1 1 1 := FieldTy.of Try.underlying28 (by kernel_rfl) rfl
theorem ty25 : Ty Try.prog 25 (List (List UInt8)) := Ty.of (by kernel_rfl)
theorem fd28_2 : FieldTy Try.prog 28 2 2 1 := FieldTy.of Try.underlying28 (by kernel_rfl) rfl
theorem ty26 : Ty Try.prog 26 (List Bool) := Ty.of (by kernel_rfl)
theorem fd28_3 : FieldTy Try.prog 28 3 3 1 := FieldTy.of Try.underlying28 (by kernel_rfl) rfl
theorem sl25 : SlTy Try.prog 25 31 (List UInt8) := SlTy.of Try.underlying25 (by kernel_rfl) rfl
theorem en76 : enters Try.prog 76 = true := by kernel_rfl
theorem en58 : enters Try.prog 58 = true := by kernel_rfl
theorem en57 : enters Try.prog 57 = true := by kernel_rfl
theorem sl26 : SlTy Try.prog 26 4 (Bool) := SlTy.of Try.underlying26 (by kernel_rfl) rfl
theorem ty4 : Ty Try.prog 4 (Bool) := Ty.of (by kernel_rfl)
theorem fd28_5 : FieldTy Try.prog 28 5 5 1 := FieldTy.of Try.underlying28 (by kernel_rfl) rfl
theorem ty22 : Ty Try.prog 22 (UInt32) := Ty.of (by kernel_rfl)
theorem fd28_4 : FieldTy Try.prog 28 4 4 1 := FieldTy.of Try.underlying28 (by kernel_rfl) rfl
theorem en24 : enters Try.prog 24 = true := by kernel_rfl
theorem en56 : enters Try.prog 56 = true := by kernel_rfl
theorem en44 : enters Try.prog 44 = true := by kernel_rfl
theorem en23 : enters Try.prog 23 = true := by kernel_rfl
theorem en49 : enters Try.prog 49 = true := by kernel_rfl
theorem en50 : enters Try.prog 50 = true := by kernel_rfl
theorem en17 : enters Try.prog 17 = true := by kernel_rfl
theorem en51 : enters Try.prog 51 = true := by kernel_rfl
theorem en19 : enters Try.prog 19 = true := by kernel_rfl
theorem en11 : enters Try.prog 11 = true := by kernel_rfl
theorem en72 : enters Try.prog 72 = true := by kernel_rfl
theorem en38 : enters Try.prog 38 = true := by kernel_rfl
theorem zl69 : ZeroLs Try.prog 69 [(false, 1, Fact.rep [] (false : Bool)), (false, 1, Fact.rep [] (false : Bool))] := ⟨⟨[.bool false, .bool false], by kernel_rfl, fun g w => FldRel.zr (fun _ _ => rfl) (FldRel.zr (fun _ _ => rfl) (rfl))⟩⟩
theorem zl70 : ZeroLs Try.prog 70 [(false, 1, Fact.rep [] ((0 : UInt8) : UInt8)), (false, 1, Fact.rep [] ((0 : UInt8) : UInt8))] := ⟨⟨[.int .u8 0, .int .u8 0], by kernel_rfl, fun g w => FldRel.zr (fun _ _ => rfl) (FldRel.zr (fun _ _ => rfl) (rfl))⟩⟩
theorem sl67 : SlTy Try.prog 67 72 (Op72) := SlTy.of Try.underlying67 (by kernel_rfl) rfl
theorem fd72_0 : FieldTy Try.prog 72 0 0 1 := FieldTy.of Try.underlying72 (by kernel_rfl) rfl
theorem fd72_1 : FieldTy Try.prog 72 1 1 1 := FieldTy.of Try.underlying72 (by kernel_rfl) rfl
theorem ty72 : Ty Try.prog 72 (Op72) := Ty.of (by kernel_rfl)
theorem fd72_2 : FieldTy Try.prog 72 2 2 1 := FieldTy.of Try.underlying72 (by kernel_rfl) rfl
theorem en63 : enters Try.prog 63 = true := by kernel_rfl
theorem en77 : enters Try.prog 77 = true := by kernel_rfl
theorem en78 : enters Try.prog 78 = true := by kernel_rfl
theorem en81 : enters Try.prog 81 = true := by kernel_rfl
theorem en79 : enters Try.prog 79 = true := by kernel_rfl
theorem ty96 : Ty Try.prog 96 (Int) := Ty.of (by kernel_rfl)
theorem en64 : enters Try.prog 64 = true := by kernel_rfl
theorem en28 : enters Try.prog 28 = true := by kernel_rfl
theorem en68 : enters Try.prog 68 = true := by kernel_rfl
theorem en30 : enters Try.prog 30 = true := by kernel_rfl
theorem en69 : enters Try.prog 69 = true := by kernel_rfl
theorem en32 : enters Try.prog 32 = true := by kernel_rfl
theorem en70 : enters Try.prog 70 = true := by kernel_rfl
theorem en34 : enters Try.prog 34 = true := by kernel_rfl
theorem en71 : enters Try.prog 71 = true := by kernel_rfl
theorem en36 : enters Try.prog 36 = true := by kernel_rfl
theorem en41 : enters Try.prog 41 = true := by kernel_rfl
theorem sm69 : SmTy Try.prog 69 4 2 1 := ⟨Try.underlying69, by kernel_rfl⟩
theorem sm70 : SmTy Try.prog 70 5 2 1 := ⟨Try.underlying70, by kernel_rfl⟩
theorem bd69 : BuildTyA Try.prog 69 [(0, 1), (1, 1)] [(false, 1, Fact.rep [] (false : Bool)), (false, 1, Fact.rep [] (false : Bool))] := ⟨⟨_, _, 1, [.bool false, .bool false], by kernel_rfl, Try.underlying69, by kernel_rfl, (fun g w => FldRel.zr (fun _ _ => rfl) (FldRel.zr (fun _ _ => rfl) (rfl))), rfl⟩⟩
theorem ty69 : Ty Try.prog 69 (Arr2_Bool) := Ty.of (by kernel_rfl)
theorem ty70 : Ty Try.prog 70 (Arr2_UInt8) := Ty.of (by kernel_rfl)
theorem en42 : enters Try.prog 42 = true := by kernel_rfl

/-- freeboard/freeboardlaw16.small -/
def law16_small : Option (Config) :=
  some (Config.mk (0 : UInt32) (3 : Int) (2 : Int) (3 : Int) (12 : Int) (2 : Int))
set_option maxRecDepth 100000 in
set_option maxHeartbeats 2000000 in
theorem law16_small_c {r : Config} (hm : law16_small = some r) : Ctr Try.prog 40 [] (.fl r) [] := by
 refine ctr_of_walk [[]] 2 Try.func40 rfl rfl rfl rfl (fun w0 om => ?_)
 unfold law16_small at hm
 refine CWalk.sub (G' := []) (Sub.nil) ?_
 refine CWalk.seq ?_
 refine CWalk.region ?_
 refine ws (Step.allocObj (ls := [(false, 1, Fact.rep [] ((0 : UInt32) : UInt32)), (false, 1, Fact.rep [] ((0 : Int) : Int)), (false, 1, Fact.rep [] ((0 : Int) : Int)), (false, 1, Fact.rep [] ((0 : Int) : Int)), (false, 1, Fact.rep [] ((0 : Int) : Int)), (false, 1, Fact.rep [] ((0 : Int) : Int))]) 10 rfl rfl rfl rfl zl24) ?_
 refine Walk.nil ?_
 refine Leaf.thenN ?_
 refine CWalk.seq ?_
 refine CWalk.region ?_
 refine wo (Spec.build (us := [(1, .const (.int .i64 3)), (2, .const (.int .i64 2)), (3, .const (.int .i64 3)), (4, .const (.int .i64 12)), (5, .const (.int .i64 2))]) (ls' := [(false, 1, Fact.rep [] ((0 : UInt32) : UInt32)), (false, 1, Fact.rep [] ((3 : Int) : Int)), (false, 1, Fact.rep [] ((2 : Int) : Int)), (false, 1, Fact.rep [] ((3 : Int) : Int)), (false, 1, Fact.rep [] ((12 : Int) : Int)), (false, 1, Fact.rep [] ((2 : Int) : Int))]) bd24 rfl (BP.cons rfl rfl Has.int Has.int (BP.cons rfl rfl Has.int Has.int (BP.cons rfl rfl Has.int Has.int (BP.cons rfl rfl Has.int Has.int (BP.cons rfl rfl Has.int Has.int BP.nil)))))) ?_
 refine ws (Step.storeObj (ls := [(false, 1, Fact.rep [] ((0 : UInt32) : UInt32)), (false, 1, Fact.rep [] ((3 : Int) : Int)), (false, 1, Fact.rep [] ((2 : Int) : Int)), (false, 1, Fact.rep [] ((3 : Int) : Int)), (false, 1, Fact.rep [] ((12 : Int) : Int)), (false, 1, Fact.rep [] ((2 : Int) : Int))]) rfl ty24 rfl rfl (Has.s rfl) rfl (HasL.flds (Has.s rfl)) rfl) ?_
 refine Walk.nil ?_
 refine Leaf.thenN ?_
 refine CWalk.ret ?_
 obtain rfl := Option.some.inj hm
 exact Leaf.retC1 rfl (HasR.cv (HasR.obj (ls := [(false, 1, Fact.rep [] ((0 : UInt32) : UInt32)), (false, 1, Fact.rep [] ((3 : Int) : Int)), (false, 1, Fact.rep [] ((2 : Int) : Int)), (false, 1, Fact.rep [] ((3 : Int) : Int)), (false, 1, Fact.rep [] ((12 : Int) : Int)), (false, 1, Fact.rep [] ((2 : Int) : Int))]) ty24 rfl rfl (Has.s rfl) rfl (HasGs.cons (HasG.s rfl) (HasGs.cons (HasG.s rfl) (HasGs.cons (HasG.s rfl) (HasGs.cons (HasG.s rfl) (HasGs.cons (HasG.s rfl) (HasGs.cons (HasG.s rfl) HasGs.nil))))))) (Cv.trans (Cv.trans (Cv.flds (CvL.cons Cv.fl (CvL.cons Cv.fl (CvL.cons Cv.fl (CvL.cons Cv.fl (CvL.cons Cv.fl (CvL.cons Cv.fl CvL.nil))))))) (Cv.close (T := []) (chConfig (Config.mk (0 : UInt32) (3 : Int) (2 : Int) (3 : Int) (12 : Int) (2 : Int))))) Cv.fl))

def shape_bounds_L1 (a0 : List Arr3_Int) (s1 : Int) : Option (Ctl (Int) ((Unit) ⊕ (Unit))) :=
  (bif (decide (s1 < ((a0).length : Int))) then Option.bind (idx a0 s1) (fun x3 => (bif ((decide (x3.e0 < x3.e1)) || (decide (x3.e0 > x3.e2))) then some (Ctl.brk (Sum.inr ())) else some (Ctl.next (wI (s1 + (1 : Int)))))) else some (Ctl.brk (Sum.inl ())))
/-- freeboard/shape.bounds -/
def shape_bounds (a0 : List Arr3_Int) : Option (Bool) :=
  Option.bind (loopM (fun s : Int => shape_bounds_L1 a0 s) FUEL (0 : Int)) (fun b4 => Sum.elim (fun b5 => some true) (fun b6 => some false) b4)
set_option maxRecDepth 100000 in
set_option maxHeartbeats 2000000 in
theorem shape_bounds_c (a0 : List Arr3_Int) {r : Bool} (hm : shape_bounds a0 = some r) : Ctr Try.prog 82 [.rep 0 a0] (.fl r) [] := by
 refine ctr_of_walk [[]] 24 Try.func82 rfl rfl rfl rfl (fun w0 om => ?_)
 unfold shape_bounds at hm
 refine CWalk.sub (G' := [.fact 0 (.rep [0] (a0 : List Arr3_Int))]) (sn Sub.nil) ?_
 refine CWalk.seq ?_
 refine CWalk.region ?_
 refine wo (Spec.assign Has.bool) ?_
 refine Walk.nil ?_
 refine Leaf.thenN ?_
 refine CWalk.seq ?_
 refine CWalk.seq ?_
 refine CWalk.region ?_
 refine mv ?_
 refine wo (Spec.len (Has.s rfl) Try.underlying108) ?_
 refine wo (Spec.move Has.int) ?_
 refine Walk.nil ?_
 refine Leaf.thenN ?_
 refine CWalk.block ?_
 obtain ⟨b4, hb4, hm⟩ := bind_some hm
 refine CWalk.loop (fun s : Int => [.fact 5 (.rep [0] (a0 : List Arr3_Int)), .fact 6 (.rep [] (((a0).length : Int) : Int)), .fact 7 (.rep [] (s : Int))]) (fun b : (Unit) ⊕ (Unit) => Sum.elim (fun b => (Exit.exit 0, [])) (fun b => (Exit.ret, [.fact 2 (.rep [] (false : Bool))])) b) hb4 (su (st (st Sub.nil))) ?_ ?_
 ·rintro s1 c2 hm
  replace hm : shape_bounds_L1 a0 s1 = some c2 := hm
  unfold shape_bounds_L1 at hm
  show CWalk _ [.fact 5 (.rep [0] (a0 : List Arr3_Int)), .fact 6 (.rep [] (((a0).length : Int) : Int)), .fact 7 (.rep [] (s1 : Int))] _ _
  refine CWalk.seq ?_
  refine CWalk.region ?_
  refine wo (Spec.lssI (Has.s rfl) (Has.s rfl)) ?_
  refine Walk.nil ?_
  refine Leaf.thenN ?_
  refine CWalk.seq ?_
  refine CWalk.cond rfl (fun hb => ?_) (fun hb => ?_)
  ·have hm := cond_t hb hm
   refine CWalk.skip ?_
   refine Leaf.thenN ?_
   refine CWalk.seq ?_
   refine CWalk.block ?_
   refine CWalk.seq ?_
   refine CWalk.region ?_
   obtain ⟨x3, hx3, hm⟩ := bind_some hm
   refine wo (Spec.indexAddr hx3 sl108 (Has.s rfl) (Has.s rfl)) ?_
   refine wo ((Spec.load ty107 (Has.s rfl)).flat (T' := [])) ?_
   refine ws (Step.allocObj (ls := [(false, 1, Fact.rep [] ((0 : Int) : Int)), (false, 1, Fact.rep [] ((0 : Int) : Int)), (false, 1, Fact.rep [] ((0 : Int) : Int))]) 10 rfl rfl rfl rfl zl107) ?_
   refine ws (Step.storeObj (ls := [(false, 1, Fact.rep [] x3.e0), (false, 1, Fact.rep [] x3.e1), (false, 1, Fact.rep [] x3.e2)]) rfl ty107 rfl rfl (Has.s rfl) rfl (HasL.flds (Has.cv (Has.s rfl) (Cv.trans (Cv.opens (chArr3_Int x3)) (Cv.flds (CvL.cons Cv.fl (CvL.cons Cv.fl (CvL.cons Cv.fl CvL.nil))))))) rfl) ?_
   refine Walk.nil ?_
   refine Leaf.thenN ?_
   refine CWalk.seq ?_
   refine CWalk.region ?_
   refine wo (Spec.idxC (i := 0) sm107 rfl (Has.cv (Has.s rfl) (Cv.isvP rfl))) ?_
   refine wo (Spec.loadF (i := 0) ty3 rfl (Has.s rfl) rfl (HasG.s rfl)) ?_
   refine wo (Spec.idxC (i := 1) sm107 rfl (Has.cv (Has.s rfl) (Cv.isvP rfl))) ?_
   refine wo (Spec.loadF (i := 1) ty3 rfl (Has.s rfl) rfl (HasG.s rfl)) ?_
   refine wo (Spec.lssI (Has.s rfl) (Has.s rfl)) ?_
   refine mv ?_
   refine wg rfl rfl (fun hb => Spec.idxC (i := 0) sm107 rfl (Has.cv (Has.s rfl) (Cv.isvP rfl))) ?_
   refine wg rfl rfl (fun hb => Spec.loadF (i := 0) ty3 rfl (Has.u rfl hb) rfl (HasG.s rfl)) ?_
   refine wg rfl rfl (fun hb => Spec.idxC (i := 2) sm107 rfl (Has.cv (Has.s rfl) (Cv.isvP rfl))) ?_
   refine wg rfl rfl (fun hb => Spec.loadF (i := 2) ty3 rfl (Has.u rfl hb) rfl (HasG.s rfl)) ?_
   refine wg rfl rfl (fun hb => Spec.gtrI (Has.u rfl hb) (Has.u rfl hb)) ?_
   refine wo (Spec.or (Has.s rfl) (fun h => Has.u rfl h)) ?_
   refine Walk.nil ?_
   refine Leaf.thenN ?_
   refine CWalk.cond rfl (fun hb => ?_) (fun hb => ?_)
   ·have hm := cond_t hb hm
    refine CWalk.seq ?_
    refine CWalk.region ?_
    refine wo (Spec.assign Has.bool) ?_
    refine Walk.nil ?_
    refine Leaf.thenN ?_
    refine CWalk.ret ?_
    refine Leaf.blockR ?_
    refine Leaf.thenR ?_
    exact Leaf.brk hm (fun h => nomatch h) rfl (st Sub.nil)
   ·have hm := cond_f hb hm
    refine CWalk.skip ?_
    refine Leaf.blockN ?_
    refine Leaf.thenN ?_
    refine CWalk.region ?_
    refine wo (Spec.addI (Has.s rfl) Has.int) ?_
    refine mv ?_
    refine Walk.nil ?_
    exact Leaf.next hm (su (st (st Sub.nil)))
  ·have hm := cond_f hb hm
   refine CWalk.exit ?_
   refine Leaf.thenE ?_
   exact Leaf.brk hm (fun h => nomatch h) rfl (Sub.nil)
 ·intro _
  rcases b4 with b5 | b6
  ·have hm := selim_l hm
   refine Leaf.blockE ?_
   refine Leaf.thenN ?_
   refine CWalk.seq ?_
   refine CWalk.region ?_
   refine wo (Spec.assign Has.bool) ?_
   refine Walk.nil ?_
   refine Leaf.thenN ?_
   refine CWalk.ret ?_
   obtain rfl := Option.some.inj hm
   exact Leaf.retC1 rfl (HasR.cv (HasR.tmp (Has.s rfl)) Cv.fl)
  ·have hm := selim_r hm
   refine Leaf.blockR ?_
   refine Leaf.thenR ?_
   obtain rfl := Option.some.inj hm
   exact Leaf.retC1 rfl (HasR.cv (HasR.tmp (Has.s rfl)) Cv.fl)

/-- freeboard/shape.Check -/
def shape_Check (a0 : Config) : Option (Int) :=
  Option.bind (shape_bounds ([(Arr3_Int.mk a0.Members (3 : Int) (16 : Int)), (Arr3_Int.mk a0.Chunk (1 : Int) (8 : Int)), (Arr3_Int.mk a0.Rows (1 : Int) (8 : Int)), (Arr3_Int.mk a0.Heads (2 : Int) (8 : Int))])) (fun x1 => Option.bind (gO (!(!x1)) (shape_bounds ([(Arr3_Int.mk a0.Log (wI ((wI (a0.Members + (1 : Int))) * (wI (a0.Heads + (1 : Int))))) (255 : Int))]))) (fun x2 => (bif ((!x1) || (!x2)) then some (8 : Int) else some (0 : Int))))
set_option maxRecDepth 100000 in
set_option maxHeartbeats 2000000 in
theorem shape_Check_c (a0 : Config) {r : Int} (hm : shape_Check a0 = some r) : Ctr Try.prog 80 [.rep 0 a0] (.fl r) [] := by
 refine ctr_of_walk [[]] 35 Try.func80 rfl rfl rfl rfl (fun w0 om => ?_)
 unfold shape_Check at hm
 refine CWalk.sub (G' := [.fact 0 (.rep [] (a0 : Config))]) (Sub.cons (Has.fl (Has.s rfl)) Sub.nil) ?_
 refine CWalk.seq ?_
 refine CWalk.region ?_
 refine ws (Step.boxObj (ls := [(false, 1, Fact.rep [] a0.Id), (false, 1, Fact.rep [] a0.Members), (false, 1, Fact.rep [] a0.Chunk), (false, 1, Fact.rep [] a0.Rows), (false, 1, Fact.rep [] a0.Log), (false, 1, Fact.rep [] a0.Heads)]) 10 rfl rfl rfl rfl (HasL.flds (Has.cv (Has.s rfl) (Cv.trans (Cv.opens (chConfig a0)) (Cv.flds (CvL.cons Cv.fl (CvL.cons Cv.fl (CvL.cons Cv.fl (CvL.cons Cv.fl (CvL.cons Cv.fl (CvL.cons Cv.fl CvL.nil))))))))))) ?_
 refine wo (Spec.assign Has.int) ?_
 refine Walk.nil ?_
 refine Leaf.thenN ?_
 refine CWalk.seq ?_
 refine CWalk.region ?_
 refine wo (Spec.fieldAddrO fd24_1 (Has.cv (Has.s rfl) (Cv.isvP rfl))) ?_
 refine wo (Spec.loadF (i := 1) ty3 rfl (Has.s rfl) rfl (HasG.s rfl)) ?_
 refine wo (Spec.buildA (us := [(0, .tmp 5), (1, .const (.int .i64 3)), (2, .const (.int .i64 16))]) (ls' := [(false, 1, Fact.rep [] a0.Members), (false, 1, Fact.rep [] ((3 : Int) : Int)), (false, 1, Fact.rep [] ((16 : Int) : Int))]) bd107 rfl (BP.cons rfl rfl (Has.s rfl) (Has.s rfl) (BP.cons rfl rfl Has.int Has.int (BP.cons rfl rfl Has.int Has.int BP.nil)))) ?_
 refine wo (Spec.fieldAddrO fd24_2 (Has.cv (Has.s rfl) (Cv.isvP rfl))) ?_
 refine wo (Spec.loadF (i := 2) ty3 rfl (Has.s rfl) rfl (HasG.s rfl)) ?_
 refine wo (Spec.buildA (us := [(0, .tmp 8), (1, .const (.int .i64 1)), (2, .const (.int .i64 8))]) (ls' := [(false, 1, Fact.rep [] a0.Chunk), (false, 1, Fact.rep [] ((1 : Int) : Int)), (false, 1, Fact.rep [] ((8 : Int) : Int))]) bd107 rfl (BP.cons rfl rfl (Has.s rfl) (Has.s rfl) (BP.cons rfl rfl Has.int Has.int (BP.cons rfl rfl Has.int Has.int BP.nil)))) ?_
 refine wo (Spec.fieldAddrO fd24_3 (Has.cv (Has.s rfl) (Cv.isvP rfl))) ?_
 refine wo (Spec.loadF (i := 3) ty3 rfl (Has.s rfl) rfl (HasG.s rfl)) ?_
 refine wo (Spec.buildA (us := [(0, .tmp 11), (1, .const (.int .i64 1)), (2, .const (.int .i64 8))]) (ls' := [(false, 1, Fact.rep [] a0.Rows), (false, 1, Fact.rep [] ((1 : Int) : Int)), (false, 1, Fact.rep [] ((8 : Int) : Int))]) bd107 rfl (BP.cons rfl rfl (Has.s rfl) (Has.s rfl) (BP.cons rfl rfl Has.int Has.int (BP.cons rfl rfl Has.int Has.int BP.nil)))) ?_
 refine wo (Spec.fieldAddrO fd24_5 (Has.cv (Has.s rfl) (Cv.isvP rfl))) ?_
 refine wo (Spec.loadF (i := 5) ty3 rfl (Has.s rfl) rfl (HasG.s rfl)) ?_
 refine wo (Spec.buildA (us := [(0, .tmp 14), (1, .const (.int .i64 2)), (2, .const (.int .i64 8))]) (ls' := [(false, 1, Fact.rep [] a0.Heads), (false, 1, Fact.rep [] ((2 : Int) : Int)), (false, 1, Fact.rep [] ((8 : Int) : Int))]) bd107 rfl (BP.cons rfl rfl (Has.s rfl) (Has.s rfl) (BP.cons rfl rfl Has.int Has.int (BP.cons rfl rfl Has.int Has.int BP.nil)))) ?_
 refine wo (Spec.lit (xs := [.tmp 6, .tmp 9, .tmp 12, .tmp 15]) (T := []) 17 rfl ow108 rfl rfl rfl rfl (HasEach.cons (Has.fl (Has.cv (Has.s rfl) (Cv.trans (Cv.flds (CvL.cons Cv.fl (CvL.cons Cv.fl (CvL.cons Cv.fl CvL.nil)))) (Cv.close (T := []) (chArr3_Int (Arr3_Int.mk a0.Members (3 : Int) (16 : Int))))))) (HasEach.cons (Has.fl (Has.cv (Has.s rfl) (Cv.trans (Cv.flds (CvL.cons Cv.fl (CvL.cons Cv.fl (CvL.cons Cv.fl CvL.nil)))) (Cv.close (T := []) (chArr3_Int (Arr3_Int.mk a0.Chunk (1 : Int) (8 : Int))))))) (HasEach.cons (Has.fl (Has.cv (Has.s rfl) (Cv.trans (Cv.flds (CvL.cons Cv.fl (CvL.cons Cv.fl (CvL.cons Cv.fl CvL.nil)))) (Cv.close (T := []) (chArr3_Int (Arr3_Int.mk a0.Rows (1 : Int) (8 : Int))))))) (HasEach.cons (Has.fl (Has.cv (Has.s rfl) (Cv.trans (Cv.flds (CvL.cons Cv.fl (CvL.cons Cv.fl (CvL.cons Cv.fl CvL.nil)))) (Cv.close (T := []) (chArr3_Int (Arr3_Int.mk a0.Heads (2 : Int) (8 : Int))))))) HasEach.nil))))) ?_
 obtain ⟨x1, hx1, hm⟩ := bind_some hm
 refine wo (f := Fact.rep [] (x1 : Bool)) (Spec.callE [17] 18 rfl en82 (shape_bounds_c ([(Arr3_Int.mk a0.Members (3 : Int) (16 : Int)), (Arr3_Int.mk a0.Chunk (1 : Int) (8 : Int)), (Arr3_Int.mk a0.Rows (1 : Int) (8 : Int)), (Arr3_Int.mk a0.Heads (2 : Int) (8 : Int))]) hx1) (HasAll.cons (Has.m (Has.s rfl) rfl) HasAll.nil)) ?_
 refine wo (Spec.assign (Has.s rfl)) ?_
 refine Walk.nil ?_
 refine Leaf.thenN ?_
 refine CWalk.seq ?_
 refine CWalk.seq ?_
 refine CWalk.region ?_
 refine mv ?_
 refine wo (Spec.not (Has.s rfl)) ?_
 refine mv ?_
 refine wg rfl rfl (fun hb => Spec.fieldAddrO fd24_4 (Has.cv (Has.s rfl) (Cv.isvP rfl))) ?_
 refine wg rfl rfl (fun hb => Spec.loadF (i := 4) ty3 rfl (Has.u rfl hb) rfl (HasG.s rfl)) ?_
 refine wg rfl rfl (fun hb => Spec.fieldAddrO fd24_1 (Has.cv (Has.s rfl) (Cv.isvP rfl))) ?_
 refine wg rfl rfl (fun hb => Spec.loadF (i := 1) ty3 rfl (Has.u rfl hb) rfl (HasG.s rfl)) ?_
 refine wg rfl rfl (fun hb => Spec.addI (Has.u rfl hb) Has.int) ?_
 refine wg rfl rfl (fun hb => Spec.fieldAddrO fd24_5 (Has.cv (Has.s rfl) (Cv.isvP rfl))) ?_
 refine wg rfl rfl (fun hb => Spec.loadF (i := 5) ty3 rfl (Has.u rfl hb) rfl (HasG.s rfl)) ?_
 refine wg rfl rfl (fun hb => Spec.addI (Has.u rfl hb) Has.int) ?_
 refine wg rfl rfl (fun hb => Spec.mulI (Has.u rfl hb) (Has.u rfl hb)) ?_
 refine wg rfl rfl (fun hb => Spec.buildA (us := [(0, .tmp 22), (1, .tmp 29), (2, .const (.int .i64 255))]) (ls' := [(false, 1, Fact.rep [] a0.Log), (false, 1, Fact.rep [] ((wI ((wI (a0.Members + (1 : Int))) * (wI (a0.Heads + (1 : Int))))) : Int)), (false, 1, Fact.rep [] ((255 : Int) : Int))]) bd107 rfl (BP.cons rfl rfl (Has.u rfl hb) (Has.u rfl hb) (BP.cons rfl rfl (Has.u rfl hb) (Has.u rfl hb) (BP.cons rfl rfl Has.int Has.int BP.nil)))) ?_
 refine wg rfl rfl (fun hb => Spec.lit (xs := [.tmp 30]) (T := []) 19 rfl ow108 rfl rfl rfl rfl (HasEach.cons (Has.fl (Has.cv (Has.u rfl hb) (Cv.trans (Cv.flds (CvL.cons Cv.fl (CvL.cons Cv.fl (CvL.cons Cv.fl CvL.nil)))) (Cv.close (T := []) (chArr3_Int (Arr3_Int.mk a0.Log (wI ((wI (a0.Members + (1 : Int))) * (wI (a0.Heads + (1 : Int))))) (255 : Int))))))) HasEach.nil)) ?_
 obtain ⟨x2, hx2, hm⟩ := bind_some hm
 refine wg (f := Fact.rep [] (x2 : Bool)) rfl rfl (fun hb => Spec.callE [19] 20 rfl en82 (shape_bounds_c ([(Arr3_Int.mk a0.Log (wI ((wI (a0.Members + (1 : Int))) * (wI (a0.Heads + (1 : Int))))) (255 : Int))]) (gO_t hx2 (not_t hb))) (HasAll.cons (Has.m (Has.u rfl hb) rfl) HasAll.nil)) ?_
 refine wg rfl rfl (fun hb => Spec.not (Has.u rfl hb)) ?_
 refine wo (Spec.or (Has.s rfl) (fun h => Has.u rfl h)) ?_
 refine Walk.nil ?_
 refine Leaf.thenN ?_
 refine CWalk.cond rfl (fun hb => ?_) (fun hb => ?_)
 ·have hm := cond_t hb hm
  refine CWalk.seq ?_
  refine CWalk.region ?_
  refine wo (Spec.assign Has.int) ?_
  refine Walk.nil ?_
  refine Leaf.thenN ?_
  refine CWalk.ret ?_
  refine Leaf.thenR ?_
  obtain rfl := Option.some.inj hm
  exact Leaf.retC1 rfl (HasR.cv (HasR.tmp (Has.s rfl)) Cv.fl)
 ·have hm := cond_f hb hm
  refine CWalk.skip ?_
  refine Leaf.thenN ?_
  refine CWalk.seq ?_
  refine CWalk.region ?_
  refine wo (Spec.assign Has.int) ?_
  refine Walk.nil ?_
  refine Leaf.thenN ?_
  refine CWalk.ret ?_
  obtain rfl := Option.some.inj hm
  exact Leaf.retC1 rfl (HasR.cv (HasR.tmp (Has.s rfl)) Cv.fl)

/-- freeboard/shape.told -/
def shape_told (a0 : Config) (a1 : Int) : Option (Int × Int) :=
  Option.bind (shape_Check a0) (fun x1 => (bif (x1 != (0 : Int)) then some ((0 : Int), x1) else some (a1, (0 : Int))))
set_option maxRecDepth 100000 in
set_option maxHeartbeats 2000000 in
theorem shape_told_c (a0 : Config) (a1 : Int) {r : Int × Int} (hm : shape_told a0 a1 = some r) : Ctr Try.prog 73 [.rep 0 a0, .rep 0 a1] (.tup2 (.fl r.1) (.fl r.2)) [] := by
 refine ctr_of_walk [[]] 13 Try.func73 rfl rfl rfl rfl (fun w0 om => ?_)
 unfold shape_told at hm
 refine CWalk.sub (G' := [.fact 0 (.rep [] (a0 : Config)), .fact 1 (.rep [] (a1 : Int))]) (Sub.cons (Has.fl (Has.s rfl)) (Sub.cons (Has.fl (Has.s rfl)) Sub.nil)) ?_
 refine CWalk.seq ?_
 refine CWalk.region ?_
 refine ws (Step.boxObj (ls := [(false, 1, Fact.rep [] a0.Id), (false, 1, Fact.rep [] a0.Members), (false, 1, Fact.rep [] a0.Chunk), (false, 1, Fact.rep [] a0.Rows), (false, 1, Fact.rep [] a0.Log), (false, 1, Fact.rep [] a0.Heads)]) 10 rfl rfl rfl rfl (HasL.flds (Has.cv (Has.s rfl) (Cv.trans (Cv.opens (chConfig a0)) (Cv.flds (CvL.cons Cv.fl (CvL.cons Cv.fl (CvL.cons Cv.fl (CvL.cons Cv.fl (CvL.cons Cv.fl (CvL.cons Cv.fl CvL.nil))))))))))) ?_
 refine wo (Spec.assign Has.int) ?_
 refine wo (Spec.assign Has.int) ?_
 refine Walk.nil ?_
 refine Leaf.thenN ?_
 refine CWalk.seq ?_
 refine CWalk.seq ?_
 refine CWalk.region ?_
 refine wo (Spec.loadObj (ls := [(false, 1, Fact.rep [] a0.Id), (false, 1, Fact.rep [] a0.Members), (false, 1, Fact.rep [] a0.Chunk), (false, 1, Fact.rep [] a0.Rows), (false, 1, Fact.rep [] a0.Log), (false, 1, Fact.rep [] a0.Heads)]) ty24 rfl rfl (Has.s rfl) rfl (HasGs.cons (HasG.s rfl) (HasGs.cons (HasG.s rfl) (HasGs.cons (HasG.s rfl) (HasGs.cons (HasG.s rfl) (HasGs.cons (HasG.s rfl) (HasGs.cons (HasG.s rfl) HasGs.nil))))))) ?_
 obtain ⟨x1, hx1, hm⟩ := bind_some hm
 refine wo (f := Fact.rep [] (x1 : Int)) (Spec.callE [] 17 rfl en80 (shape_Check_c a0 hx1) (HasAll.cons (Has.fl (Has.cv (Has.s rfl) (Cv.trans (Cv.flds (CvL.cons Cv.fl (CvL.cons Cv.fl (CvL.cons Cv.fl (CvL.cons Cv.fl (CvL.cons Cv.fl (CvL.cons Cv.fl CvL.nil))))))) (Cv.close (T := []) (chConfig a0))))) HasAll.nil)) ?_
 refine wo (Spec.assign (Has.s rfl)) ?_
 refine Walk.nil ?_
 refine Leaf.thenN ?_
 refine CWalk.seq ?_
 refine CWalk.region ?_
 refine mv ?_
 refine wo (Spec.neqI (Has.s rfl) Has.int) ?_
 refine Walk.nil ?_
 refine Leaf.thenN ?_
 refine CWalk.cond rfl (fun hb => ?_) (fun hb => ?_)
 ·have hm := cond_t hb hm
  refine CWalk.seq ?_
  refine CWalk.region ?_
  refine mv ?_
  refine wo (Spec.assign Has.int) ?_
  refine wo (Spec.assign (Has.s rfl)) ?_
  refine Walk.nil ?_
  refine Leaf.thenN ?_
  refine CWalk.ret ?_
  refine Leaf.thenR ?_
  obtain rfl := Option.some.inj hm
  exact Leaf.retC2 rfl (HasR.cv (HasR.tmp (Has.s rfl)) Cv.fl) (HasR.cv (HasR.tmp (Has.s rfl)) Cv.fl)
 ·have hm := cond_f hb hm
  refine CWalk.skip ?_
  refine Leaf.thenN ?_
  refine CWalk.seq ?_
  refine CWalk.region ?_
  refine mv ?_
  refine wo (Spec.assign (Has.s rfl)) ?_
  refine wo (Spec.assign Has.int) ?_
  refine Walk.nil ?_
  refine Leaf.thenN ?_
  refine CWalk.ret ?_
  obtain rfl := Option.some.inj hm
  exact Leaf.retC2 rfl (HasR.cv (HasR.tmp (Has.s rfl)) Cv.fl) (HasR.cv (HasR.tmp (Has.s rfl)) Cv.fl)

/-- freeboard/shape.Stripes -/
def shape_Stripes (a0 : Config) : Option (Int × Int) :=
  Option.bind (shape_told a0 (wI (a0.Chunk * a0.Rows))) (fun x1 => some (x1.1, x1.2))
set_option maxRecDepth 100000 in
set_option maxHeartbeats 2000000 in
theorem shape_Stripes_c (a0 : Config) {r : Int × Int} (hm : shape_Stripes a0 = some r) : Ctr Try.prog 52 [.rep 0 a0] (.tup2 (.fl r.1) (.fl r.2)) [] := by
 refine ctr_of_walk [[]] 13 Try.func52 rfl rfl rfl rfl (fun w0 om => ?_)
 unfold shape_Stripes at hm
 refine CWalk.sub (G' := [.fact 0 (.rep [] (a0 : Config))]) (Sub.cons (Has.fl (Has.s rfl)) Sub.nil) ?_
 refine CWalk.seq ?_
 refine CWalk.region ?_
 refine ws (Step.boxObj (ls := [(false, 1, Fact.rep [] a0.Id), (false, 1, Fact.rep [] a0.Members), (false, 1, Fact.rep [] a0.Chunk), (false, 1, Fact.rep [] a0.Rows), (false, 1, Fact.rep [] a0.Log), (false, 1, Fact.rep [] a0.Heads)]) 10 rfl rfl rfl rfl (HasL.flds (Has.cv (Has.s rfl) (Cv.trans (Cv.opens (chConfig a0)) (Cv.flds (CvL.cons Cv.fl (CvL.cons Cv.fl (CvL.cons Cv.fl (CvL.cons Cv.fl (CvL.cons Cv.fl (CvL.cons Cv.fl CvL.nil))))))))))) ?_
 refine wo (Spec.assign Has.int) ?_
 refine wo (Spec.assign Has.int) ?_
 refine Walk.nil ?_
 refine Leaf.thenN ?_
 refine CWalk.seq ?_
 refine CWalk.region ?_
 refine wo (Spec.loadObj (ls := [(false, 1, Fact.rep [] a0.Id), (false, 1, Fact.rep [] a0.Members), (false, 1, Fact.rep [] a0.Chunk), (false, 1, Fact.rep [] a0.Rows), (false, 1, Fact.rep [] a0.Log), (false, 1, Fact.rep [] a0.Heads)]) ty24 rfl rfl (Has.s rfl) rfl (HasGs.cons (HasG.s rfl) (HasGs.cons (HasG.s rfl) (HasGs.cons (HasG.s rfl) (HasGs.cons (HasG.s rfl) (HasGs.cons (HasG.s rfl) (HasGs.cons (HasG.s rfl) HasGs.nil))))))) ?_
 refine wo (Spec.fieldAddrO fd24_2 (Has.cv (Has.s rfl) (Cv.isvP rfl))) ?_
 refine wo (Spec.loadF (i := 2) ty3 rfl (Has.s rfl) rfl (HasG.s rfl)) ?_
 refine wo (Spec.fieldAddrO fd24_3 (Has.cv (Has.s rfl) (Cv.isvP rfl))) ?_
 refine wo (Spec.loadF (i := 3) ty3 rfl (Has.s rfl) rfl (HasG.s rfl)) ?_
 refine wo (Spec.mulI (Has.s rfl) (Has.s rfl)) ?_
 obtain ⟨x1, hx1, hm⟩ := bind_some hm
 refine wo (f := Fact.tup2 (Fact.rep [] x1.1) (Fact.rep [] x1.2)) (Spec.callE [] 17 rfl en73 (shape_told_c a0 (wI (a0.Chunk * a0.Rows)) hx1) (HasAll.cons (Has.fl (Has.cv (Has.s rfl) (Cv.trans (Cv.flds (CvL.cons Cv.fl (CvL.cons Cv.fl (CvL.cons Cv.fl (CvL.cons Cv.fl (CvL.cons Cv.fl (CvL.cons Cv.fl CvL.nil))))))) (Cv.close (T := []) (chConfig a0))))) (HasAll.cons (Has.fl (Has.s rfl)) HasAll.nil))) ?_
 refine wo (Spec.ext0 (Has.s rfl)) ?_
 refine wo (Spec.ext1 (Has.s rfl)) ?_
 refine wo (Spec.assign (Has.s rfl)) ?_
 refine wo (Spec.assign (Has.s rfl)) ?_
 refine Walk.nil ?_
 refine Leaf.thenN ?_
 refine CWalk.ret ?_
 obtain rfl := Option.some.inj hm
 exact Leaf.retC2 rfl (HasR.cv (HasR.tmp (Has.s rfl)) Cv.fl) (HasR.cv (HasR.tmp (Has.s rfl)) Cv.fl)

def head_New_J1 (a0 : Config) (a1 : Int) (j2 : Bool) : Option (Head × Int) :=
  (bif j2 then some ((Head.mk (0 : Int) ([] : List (List UInt8)) ([] : List Bool) (0 : UInt8) false (0 : UInt32)), (2 : Int)) else Option.bind (makeL ([] : List UInt8) a0.Members) (fun x3 => Option.bind (makeL false (wI (a0.Members - (1 : Int)))) (fun x4 => some ((Head.mk a1 x3 x4 (0 : UInt8) false (0 : UInt32)), (0 : Int)))))
/-- freeboard/head.New -/
def head_New (a0 : Config) (a1 : Int) : Option (Head × Int) :=
  Option.bind (shape_Stripes a0) (fun x1 => (bif (x1.2 != (0 : Int)) then some ((Head.mk (0 : Int) ([] : List (List UInt8)) ([] : List Bool) (0 : UInt8) false (0 : UInt32)), x1.2) else (bif (decide (a1 < (0 : Int))) then (head_New_J1 a0 a1 (decide (a1 < (0 : Int)))) else (head_New_J1 a0 a1 (decide (a1 ≥ x1.1))))))
set_option maxRecDepth 100000 in
set_option maxHeartbeats 2000000 in
theorem head_New_c (a0 : Config) (a1 : Int) {r : Head × Int} (hm : head_New a0 a1 = some r) : Ctr Try.prog 21 [.rep 0 a0, .rep 0 a1] (.tup2 (.flds [(false, 1, (.fl r.1.Stripe)), (false, 1, (.own 0 none 31 r.1.Blocks)), (false, 1, (.own 1 none 4 r.1.Dirty)), (false, 1, (.fl r.1.Phase)), (false, 1, (.fl r.1.Deals)), (false, 1, (.fl r.1.Seq))]) (.fl r.2)) [] := by
 refine ctr_of_walk [[25], [26]] 34 Try.func21 rfl rfl rfl rfl (fun w0 om => ?_)
 unfold head_New at hm
 refine CWalk.sub (G' := [.fact 0 (.rep [] (a0 : Config)), .fact 1 (.rep [] (a1 : Int))]) (Sub.cons (Has.fl (Has.s rfl)) (Sub.cons (Has.fl (Has.s rfl)) Sub.nil)) ?_
 refine CWalk.seq ?_
 refine CWalk.region ?_
 refine ws (Step.boxObj (ls := [(false, 1, Fact.rep [] a0.Id), (false, 1, Fact.rep [] a0.Members), (false, 1, Fact.rep [] a0.Chunk), (false, 1, Fact.rep [] a0.Rows), (false, 1, Fact.rep [] a0.Log), (false, 1, Fact.rep [] a0.Heads)]) 10 rfl rfl rfl rfl (HasL.flds (Has.cv (Has.s rfl) (Cv.trans (Cv.opens (chConfig a0)) (Cv.flds (CvL.cons Cv.fl (CvL.cons Cv.fl (CvL.cons Cv.fl (CvL.cons Cv.fl (CvL.cons Cv.fl (CvL.cons Cv.fl CvL.nil))))))))))) ?_
 refine ws (Step.allocObj (ls := [(false, 1, Fact.rep [] ((0 : Int) : Int)), (false, 1, Fact.nilv), (false, 1, Fact.nilv), (false, 1, Fact.rep [] ((0 : UInt8) : UInt8)), (false, 1, Fact.rep [] (false : Bool)), (false, 1, Fact.rep [] ((0 : UInt32) : UInt32))]) 17 rfl rfl rfl rfl zl28) ?_
 refine wo (Spec.assign Has.int) ?_
 refine Walk.nil ?_
 refine Leaf.thenN ?_
 refine CWalk.seq ?_
 refine CWalk.region ?_
 refine wo (Spec.loadObj (ls := [(false, 1, Fact.rep [] a0.Id), (false, 1, Fact.rep [] a0.Members), (false, 1, Fact.rep [] a0.Chunk), (false, 1, Fact.rep [] a0.Rows), (false, 1, Fact.rep [] a0.Log), (false, 1, Fact.rep [] a0.Heads)]) ty24 rfl rfl (Has.s rfl) rfl (HasGs.cons (HasG.s rfl) (HasGs.cons (HasG.s rfl) (HasGs.cons (HasG.s rfl) (HasGs.cons (HasG.s rfl) (HasGs.cons (HasG.s rfl) (HasGs.cons (HasG.s rfl) HasGs.nil))))))) ?_
 obtain ⟨x1, hx1, hm⟩ := bind_some hm
 refine wo (f := Fact.tup2 (Fact.rep [] x1.1) (Fact.rep [] x1.2)) (Spec.callE [] 24 rfl en52 (shape_Stripes_c a0 hx1) (HasAll.cons (Has.fl (Has.cv (Has.s rfl) (Cv.trans (Cv.flds (CvL.cons Cv.fl (CvL.cons Cv.fl (CvL.cons Cv.fl (CvL.cons Cv.fl (CvL.cons Cv.fl (CvL.cons Cv.fl CvL.nil))))))) (Cv.close (T := []) (chConfig a0))))) HasAll.nil)) ?_
 refine mv ?_
 refine wo (Spec.ext0 (Has.s rfl)) ?_
 refine wo (Spec.ext1 (Has.s rfl)) ?_
 refine wo (Spec.assign (Has.s rfl)) ?_
 refine wo (Spec.assign (Has.s rfl)) ?_
 refine Walk.nil ?_
 refine Leaf.thenN ?_
 refine CWalk.seq ?_
 refine CWalk.block ?_
 refine CWalk.seq ?_
 refine CWalk.region ?_
 refine mv ?_
 refine wo (Spec.neqI (Has.s rfl) Has.int) ?_
 refine wo (Spec.assign (Has.s rfl)) ?_
 refine Walk.nil ?_
 refine Leaf.thenN ?_
 refine CWalk.cond rfl (fun hb => ?_) (fun hb => ?_)
 ·have hm := cond_t hb hm
  refine CWalk.seq ?_
  refine CWalk.region ?_
  refine wo (Spec.build (us := []) (ls' := [(false, 1, Fact.rep [] ((0 : Int) : Int)), (false, 1, Fact.nilv), (false, 1, Fact.nilv), (false, 1, Fact.rep [] ((0 : UInt8) : UInt8)), (false, 1, Fact.rep [] (false : Bool)), (false, 1, Fact.rep [] ((0 : UInt32) : UInt32))]) bd28 rfl BP.nil) ?_
  refine mv ?_
  refine ws (Step.storeObj (ls := [(false, 1, Fact.rep [] ((0 : Int) : Int)), (false, 1, Fact.nilv), (false, 1, Fact.nilv), (false, 1, Fact.rep [] ((0 : UInt8) : UInt8)), (false, 1, Fact.rep [] (false : Bool)), (false, 1, Fact.rep [] ((0 : UInt32) : UInt32))]) rfl ty28 rfl rfl (Has.s rfl) rfl (HasL.flds (Has.s rfl)) rfl) ?_
  refine wo (Spec.assign (Has.s rfl)) ?_
  refine Walk.nil ?_
  refine Leaf.thenN ?_
  refine CWalk.ret ?_
  refine Leaf.blockR ?_
  refine Leaf.thenR ?_
  obtain rfl := Option.some.inj hm
  exact Leaf.retC2 rfl (HasR.cv (HasR.obj (ls := [(false, 1, Fact.rep [] ((0 : Int) : Int)), (false, 1, Fact.nilv), (false, 1, Fact.nilv), (false, 1, Fact.rep [] ((0 : UInt8) : UInt8)), (false, 1, Fact.rep [] (false : Bool)), (false, 1, Fact.rep [] ((0 : UInt32) : UInt32))]) ty28 rfl rfl (Has.s rfl) rfl (HasGs.cons (HasG.s rfl) (HasGs.cons (HasG.s rfl) (HasGs.cons (HasG.s rfl) (HasGs.cons (HasG.s rfl) (HasGs.cons (HasG.s rfl) (HasGs.cons (HasG.s rfl) HasGs.nil))))))) (Cv.flds (CvL.cons Cv.fl (CvL.cons (Cv.trans Cv.nilOw (Cv.owM (T := []) (te := []) rfl rfl)) (CvL.cons (Cv.trans Cv.nilOw (Cv.owF (T := []) (te := []) rfl)) (CvL.cons Cv.fl (CvL.cons Cv.fl (CvL.cons Cv.fl CvL.nil)))))))) (HasR.cv (HasR.tmp (Has.s rfl)) Cv.fl)
 ·have hm := cond_f hb hm
  refine CWalk.seqJ (fun p : Bool => [.fact 1 (.rep [] (a1 : Int)), .fact 2 (.isv 10), .fact 4 (.isv 17), .fact 18 (.rep [] (p : Bool)), .fact 100011 (.at 11 (.rep [] a0.Id)), .fact 100012 (.at 12 (.rep [] a0.Members)), .fact 100013 (.at 13 (.rep [] a0.Chunk)), .fact 100014 (.at 14 (.rep [] a0.Rows)), .fact 100015 (.at 15 (.rep [] a0.Log)), .fact 100016 (.at 16 (.rep [] a0.Heads)), .fact 100018 (.at 18 (.rep [] ((0 : Int) : Int))), .fact 100019 (.at 19 (.nilv)), .fact 100020 (.at 20 (.nilv)), .fact 100021 (.at 21 (.rep [] ((0 : UInt8) : UInt8))), .fact 100022 (.at 22 (.rep [] (false : Bool))), .fact 100023 (.at 23 (.rep [] ((0 : UInt32) : UInt32))), .fact 100010 (.obj 10 [(false, 1), (false, 1), (false, 1), (false, 1), (false, 1), (false, 1)]), .fact 100017 (.obj 17 [(false, 1), (false, 1), (false, 1), (false, 1), (false, 1), (false, 1)])]) (fun p : Bool => head_New_J1 a0 a1 p = some r) ?_ ?_
  ·rintro j2 hm
   replace hm : head_New_J1 a0 a1 j2 = some r := hm
   unfold head_New_J1 at hm
   show CWalk _ [.fact 1 (.rep [] (a1 : Int)), .fact 2 (.isv 10), .fact 4 (.isv 17), .fact 18 (.rep [] (j2 : Bool)), .fact 100011 (.at 11 (.rep [] a0.Id)), .fact 100012 (.at 12 (.rep [] a0.Members)), .fact 100013 (.at 13 (.rep [] a0.Chunk)), .fact 100014 (.at 14 (.rep [] a0.Rows)), .fact 100015 (.at 15 (.rep [] a0.Log)), .fact 100016 (.at 16 (.rep [] a0.Heads)), .fact 100018 (.at 18 (.rep [] ((0 : Int) : Int))), .fact 100019 (.at 19 (.nilv)), .fact 100020 (.at 20 (.nilv)), .fact 100021 (.at 21 (.rep [] ((0 : UInt8) : UInt8))), .fact 100022 (.at 22 (.rep [] (false : Bool))), .fact 100023 (.at 23 (.rep [] ((0 : UInt32) : UInt32))), .fact 100010 (.obj 10 [(false, 1), (false, 1), (false, 1), (false, 1), (false, 1), (false, 1)]), .fact 100017 (.obj 17 [(false, 1), (false, 1), (false, 1), (false, 1), (false, 1), (false, 1)])] _ _
   refine CWalk.cond rfl (fun hb => ?_) (fun hb => ?_)
   ·have hm := cond_t hb hm
    refine CWalk.seq ?_
    refine CWalk.region ?_
    refine wo (Spec.build (us := []) (ls' := [(false, 1, Fact.rep [] ((0 : Int) : Int)), (false, 1, Fact.nilv), (false, 1, Fact.nilv), (false, 1, Fact.rep [] ((0 : UInt8) : UInt8)), (false, 1, Fact.rep [] (false : Bool)), (false, 1, Fact.rep [] ((0 : UInt32) : UInt32))]) bd28 rfl BP.nil) ?_
    refine ws (Step.storeObj (ls := [(false, 1, Fact.rep [] ((0 : Int) : Int)), (false, 1, Fact.nilv), (false, 1, Fact.nilv), (false, 1, Fact.rep [] ((0 : UInt8) : UInt8)), (false, 1, Fact.rep [] (false : Bool)), (false, 1, Fact.rep [] ((0 : UInt32) : UInt32))]) rfl ty28 rfl rfl (Has.s rfl) rfl (HasL.flds (Has.s rfl)) rfl) ?_
    refine wo (Spec.assign Has.int) ?_
    refine Walk.nil ?_
    refine Leaf.thenN ?_
    refine CWalk.ret ?_
    refine Leaf.blockR ?_
    refine Leaf.thenR ?_
    obtain rfl := Option.some.inj hm
    exact Leaf.retC2 rfl (HasR.cv (HasR.obj (ls := [(false, 1, Fact.rep [] ((0 : Int) : Int)), (false, 1, Fact.nilv), (false, 1, Fact.nilv), (false, 1, Fact.rep [] ((0 : UInt8) : UInt8)), (false, 1, Fact.rep [] (false : Bool)), (false, 1, Fact.rep [] ((0 : UInt32) : UInt32))]) ty28 rfl rfl (Has.s rfl) rfl (HasGs.cons (HasG.s rfl) (HasGs.cons (HasG.s rfl) (HasGs.cons (HasG.s rfl) (HasGs.cons (HasG.s rfl) (HasGs.cons (HasG.s rfl) (HasGs.cons (HasG.s rfl) HasGs.nil))))))) (Cv.flds (CvL.cons Cv.fl (CvL.cons (Cv.trans Cv.nilOw (Cv.owM (T := []) (te := []) rfl rfl)) (CvL.cons (Cv.trans Cv.nilOw (Cv.owF (T := []) (te := []) rfl)) (CvL.cons Cv.fl (CvL.cons Cv.fl (CvL.cons Cv.fl CvL.nil)))))))) (HasR.cv (HasR.tmp (Has.s rfl)) Cv.fl)
   ·have hm := cond_f hb hm
    refine CWalk.skip ?_
    refine Leaf.blockN ?_
    refine Leaf.thenN ?_
    refine CWalk.seq ?_
    obtain ⟨x3, hx3, hm⟩ := bind_some hm
    obtain ⟨x4, hx4, hm⟩ := bind_some hm
    refine CWalk.drawM [[], [], [1], [1, 2], [], [4], [4, 5], [4, 5, 6], [0, 1, 2, 3, 4, 5, 6, 7], [0, 1, 2, 3, 4, 5, 6, 7, 8], [0, 1, 2, 3, 4, 5, 6, 7, 8, 9]] [[.fact 25 (.rep [] (a1 : Int))], [.fact 26 (.pto 10 1)], [.fact 27 (.rep [] a0.Members)], [.fact 28 (.isv 25), .fact 100025 (.own 25 [] 31 (x3 : List (List UInt8))), .killId 25], [.fact 29 (.pto 10 1)], [.fact 30 (.rep [] a0.Members)], [.fact 31 (.rep [] ((wI (a0.Members - (1 : Int))) : Int))], [.fact 32 (.isv 26), .fact 100026 (.own 26 [] 4 (x4 : List Bool)), .killId 26], [.fact 33 (.flds [(false, 1, Fact.rep [] (a1 : Int)), (false, 1, Fact.isv 25), (false, 1, Fact.isv 26), (false, 1, Fact.rep [] ((0 : UInt8) : UInt8)), (false, 1, Fact.rep [] (false : Bool)), (false, 1, Fact.rep [] ((0 : UInt32) : UInt32))])], [.fact 100017 (.obj 17 [(false, 1), (false, 1), (false, 1), (false, 1), (false, 1), (false, 1)]), .fact 100018 (.at 18 (.rep [] (a1 : Int))), .fact 100019 (.at 19 (.isv 25)), .fact 100020 (.at 20 (.isv 26)), .fact 100021 (.at 21 (.rep [] ((0 : UInt8) : UInt8))), .fact 100022 (.at 22 (.rep [] (false : Bool))), .fact 100023 (.at 23 (.rep [] ((0 : UInt32) : UInt32))), .kill 17, .killId 18, .killId 19, .killId 20, .killId 21, .killId 22, .killId 23], [.fact 5 (.rep [] ((0 : Int) : Int))]] mixed (by kernel_rfl) (ao (so (Spec.move (Has.s rfl))) (ao (so (Spec.fieldAddrO fd24_1 (Has.cv (Has.s rfl) (Cv.isvP rfl)))) (ao (so (Spec.loadF (i := 1) ty3 rfl (Has.s rfl) rfl (HasG.s rfl))) (ao (StepG.stE (Step.makeOwn 25 hx3 rfl rfl ow25 zt31 (Has.s rfl))) (ao (so (Spec.fieldAddrO fd24_1 (Has.cv (Has.s rfl) (Cv.isvP rfl)))) (ao (so (Spec.loadF (i := 1) ty3 rfl (Has.s rfl) rfl (HasG.s rfl))) (ao (so (Spec.subI (Has.s rfl) Has.int)) (ao (StepG.stE (Step.makeOwn 26 hx4 rfl rfl ow26 zt4 (Has.s rfl))) (ao (so (Spec.build (us := [(0, .tmp 25), (1, .tmp 28), (2, .tmp 32)]) (ls' := [(false, 1, Fact.rep [] (a1 : Int)), (false, 1, Fact.isv 25), (false, 1, Fact.isv 26), (false, 1, Fact.rep [] ((0 : UInt8) : UInt8)), (false, 1, Fact.rep [] (false : Bool)), (false, 1, Fact.rep [] ((0 : UInt32) : UInt32))]) bd28 rfl (BP.cons rfl rfl (Has.s rfl) (Has.s rfl) (BP.cons rfl rfl (Has.cv (Has.s rfl) (Cv.own rfl)) (Has.s rfl) (BP.cons rfl rfl (Has.cv (Has.s rfl) (Cv.own rfl)) (Has.s rfl) BP.nil))))) (ao (StepG.stE (Step.storeObj (ls := [(false, 1, Fact.rep [] (a1 : Int)), (false, 1, Fact.isv 25), (false, 1, Fact.isv 26), (false, 1, Fact.rep [] ((0 : UInt8) : UInt8)), (false, 1, Fact.rep [] (false : Bool)), (false, 1, Fact.rep [] ((0 : UInt32) : UInt32))]) rfl ty28 rfl rfl (Has.s rfl) rfl (HasL.flds (Has.s rfl)) rfl)) (ao (so (Spec.assign Has.int)) AllM.nil))))))))))) ?_
    refine Leaf.thenN ?_
    refine CWalk.ret ?_
    obtain rfl := Option.some.inj hm
    exact Leaf.retC2 rfl (HasR.cv (HasR.obj (ls := [(false, 1, Fact.rep [] (a1 : Int)), (false, 1, Fact.isv 25), (false, 1, Fact.isv 26), (false, 1, Fact.rep [] ((0 : UInt8) : UInt8)), (false, 1, Fact.rep [] (false : Bool)), (false, 1, Fact.rep [] ((0 : UInt32) : UInt32))]) ty28 rfl rfl (Has.s rfl) rfl (HasGs.cons (HasG.s rfl) (HasGs.cons (HasG.s rfl) (HasGs.cons (HasG.s rfl) (HasGs.cons (HasG.s rfl) (HasGs.cons (HasG.s rfl) (HasGs.cons (HasG.s rfl) HasGs.nil))))))) (Cv.flds (CvL.cons Cv.fl (CvL.cons (Cv.trans (Cv.isvOw rfl) (Cv.owM (T := [25]) (te := []) rfl rfl)) (CvL.cons (Cv.trans (Cv.isvOw rfl) (Cv.owF (T := [26]) (te := []) rfl)) (CvL.cons Cv.fl (CvL.cons Cv.fl (CvL.cons Cv.fl CvL.nil)))))))) (HasR.cv (HasR.tmp (Has.s rfl)) Cv.fl)
  ·refine CWalk.seq ?_
   refine CWalk.region ?_
   refine mv ?_
   refine wo (Spec.lssI (Has.s rfl) Has.int) ?_
   refine wo (Spec.assign (Has.s rfl)) ?_
   refine Walk.nil ?_
   refine Leaf.thenN ?_
   refine CWalk.cond rfl (fun hb => ?_) (fun hb => ?_)
   ·have hm := cond_t hb hm
    refine CWalk.skip ?_
    exact Leaf.join (decide (a1 < (0 : Int))) hm (st (sn (sn (st (sf (sf (sf (sf (sf (sf (sf (sg (sg (sf (sf (sf (sn (sn Sub.nil))))))))))))))))))
   ·have hm := cond_f hb hm
    refine CWalk.region ?_
    refine mv ?_
    refine mv ?_
    refine wo (Spec.geqI (Has.s rfl) (Has.s rfl)) ?_
    refine wo (Spec.assign (Has.s rfl)) ?_
    refine Walk.nil ?_
    exact Leaf.join (decide (a1 ≥ x1.1)) hm (st (sn (sn (st (sf (sf (sf (sf (sf (sf (sf (sg (sg (sf (sf (sf (sn (sn Sub.nil))))))))))))))))))

def law16_full_L1 (a0 : UInt8) (s2 : Int) (s3 : List UInt8) : Option (Ctl (Int × (List UInt8)) ((List UInt8))) :=
  (bif (decide (s2 < ((s3).length : Int))) then Option.bind (bnd (s3).length s2) (fun x5 => some (Ctl.next ((wI (s2 + (1 : Int))), (s3).set x5 a0))) else some (Ctl.brk s3))
/-- freeboard/freeboardlaw16.full -/
def law16_full (a0 : UInt8) : Option ((List UInt8)) :=
  Option.bind (makeL (0 : UInt8) (128 : Int)) (fun x1 => Option.bind (loopM (fun s : Int × (List UInt8) => law16_full_L1 a0 s.1 s.2) FUEL ((0 : Int), x1)) (fun b6 => some b6))
set_option maxRecDepth 100000 in
set_option maxHeartbeats 2000000 in
theorem law16_full_c (a0 : UInt8) {r : (List UInt8)} (hm : law16_full a0 = some r) : Ctr Try.prog 43 [.rep 0 a0] (.own 0 none 5 r) [] := by
 refine ctr_of_walk [[10]] 17 Try.func43 rfl rfl rfl rfl (fun w0 om => ?_)
 unfold law16_full at hm
 refine CWalk.sub (G' := [.fact 0 (.rep [] (a0 : UInt8))]) (Sub.cons (Has.fl (Has.s rfl)) Sub.nil) ?_
 refine CWalk.seq ?_
 refine CWalk.region ?_
 refine wo (Spec.assign Has.nilv) ?_
 refine Walk.nil ?_
 refine Leaf.thenN ?_
 refine CWalk.seq ?_
 refine CWalk.region ?_
 obtain ⟨x1, hx1, hm⟩ := bind_some hm
 refine ws (Step.makeOwn 10 hx1 rfl rfl ow31 zt5 Has.int) ?_
 refine wo (Spec.assign (Has.s rfl)) ?_
 refine Walk.nil ?_
 refine Leaf.thenN ?_
 refine CWalk.seq ?_
 refine CWalk.seq ?_
 refine CWalk.region ?_
 refine wo (Spec.assign Has.int) ?_
 refine Walk.nil ?_
 refine Leaf.thenN ?_
 refine CWalk.block ?_
 obtain ⟨b6, hb6, hm⟩ := bind_some hm
 refine CWalk.loop (fun s : Int × (List UInt8) => [.fact 0 (.rep [] (a0 : UInt8)), .fact 3 (.isv 10), .fact 4 (.rep [] s.1), .fact 100010 (.own 10 [] 5 (s.2 : List UInt8))]) (fun b : (List UInt8) => (Exit.exit 0, [.fact 3 (.isv 10), .fact 100010 (.own 10 [] 5 (b : List UInt8))])) hb6 (st (sn (st (Sub.cons (Has.ownM (Has.s rfl) rfl) Sub.nil)))) ?_ ?_
 ·rintro ⟨s2, s3⟩ c4 hm
  replace hm : law16_full_L1 a0 s2 s3 = some c4 := hm
  unfold law16_full_L1 at hm
  show CWalk _ [.fact 0 (.rep [] (a0 : UInt8)), .fact 3 (.isv 10), .fact 4 (.rep [] (s2 : Int)), .fact 100010 (.own 10 [] 5 (s3 : List UInt8))] _ _
  refine CWalk.seq ?_
  refine CWalk.seq ?_
  refine CWalk.region ?_
  refine mv ?_
  refine mv ?_
  refine wo (Spec.len (Has.cv (Has.s rfl) (Cv.own rfl)) Try.underlying31) ?_
  refine wo (Spec.lssI (Has.s rfl) (Has.s rfl)) ?_
  refine Walk.nil ?_
  refine Leaf.thenN ?_
  refine CWalk.cond rfl (fun hb => ?_) (fun hb => ?_)
  ·have hm := cond_t hb hm
   refine CWalk.skip ?_
   refine Leaf.thenN ?_
   refine CWalk.seq ?_
   refine CWalk.block ?_
   refine CWalk.region ?_
   refine mv ?_
   refine mv ?_
   refine mv ?_
   obtain ⟨x5, hx5, hm⟩ := bind_some hm
   refine wo (Spec.idxOwn hx5 ow31 (Has.s rfl) rfl (Has.s rfl)) ?_
   refine ws (Step.storeOwn (te' := []) rfl (bnd_lt hx5 rfl) ty5 (Has.s rfl) rfl (Has.s rfl) ElKeep.flat ElKeep.flat) ?_
   refine Walk.nil ?_
   refine Leaf.blockN ?_
   refine Leaf.thenN ?_
   refine CWalk.region ?_
   refine mv ?_
   refine wo (Spec.addI (Has.s rfl) Has.int) ?_
   refine wo (Spec.assign (Has.s rfl)) ?_
   refine Walk.nil ?_
   exact Leaf.next hm (st (sn (st (Sub.cons (Has.ownM (Has.s rfl) rfl) Sub.nil))))
  ·have hm := cond_f hb hm
   refine CWalk.exit ?_
   refine Leaf.thenE ?_
   exact Leaf.brk hm (fun h => nomatch h) rfl (sn (Sub.cons (Has.ownM (Has.s rfl) rfl) Sub.nil))
 ·intro _
  refine Leaf.blockE ?_
  refine Leaf.thenN ?_
  refine CWalk.seq ?_
  refine CWalk.region ?_
  refine mv ?_
  refine wo (Spec.assign (Has.s rfl)) ?_
  refine Walk.nil ?_
  refine Leaf.thenN ?_
  refine CWalk.ret ?_
  obtain rfl := Option.some.inj hm
  exact Leaf.retC1 rfl (HasR.cv (HasR.tmp (Has.s rfl)) (Cv.trans (Cv.isvOw rfl) (Cv.owF (T := [10]) (te := []) rfl)))

def slices_IndexFunc_byte_byte_L1 (a0 : List (List UInt8)) (a1 : (List UInt8) → Option Bool) (s1 : Int) : Option (Ctl (Int) ((Unit) ⊕ (Int))) :=
  (bif (decide (s1 < ((a0).length : Int))) then Option.bind (idx a0 s1) (fun x3 => Option.bind (a1 x3) (fun x4 => (bif x4 then some (Ctl.brk (Sum.inr s1)) else some (Ctl.next (wI (s1 + (1 : Int))))))) else some (Ctl.brk (Sum.inl ())))
/-- slices.IndexFunc[[][]byte,[]byte] -/
def slices_IndexFunc_byte_byte (a0 : List (List UInt8)) (a1 : (List UInt8) → Option Bool) : Option (Int) :=
  Option.bind (loopM (fun s : Int => slices_IndexFunc_byte_byte_L1 a0 a1 s) FUEL (0 : Int)) (fun b5 => Sum.elim (fun b6 => some (-1 : Int)) (fun b7 => some b7) b5)
set_option maxRecDepth 100000 in
set_option maxHeartbeats 2000000 in
theorem slices_IndexFunc_byte_byte_c (a0 : List (List UInt8)) (a1 : (List UInt8) → Option Bool) {r : Int} (hm : slices_IndexFunc_byte_byte a0 a1 = some r) : Ctr Try.prog 76 [.rep 0 a0, .fn Try.prog pre1 0 a1] (.fl r) [] := by
 refine ctr_of_walk [[]] 19 Try.func76 rfl rfl rfl rfl (fun w0 om => ?_)
 unfold slices_IndexFunc_byte_byte at hm
 refine CWalk.sub (G' := [.fact 0 (.rep [0] (a0 : List (List UInt8))), .fact 1 (.fn Try.prog pre1 [0] (a1))]) (sn (sn Sub.nil)) ?_
 refine CWalk.seq ?_
 refine CWalk.region ?_
 refine wo (Spec.assign Has.int) ?_
 refine Walk.nil ?_
 refine Leaf.thenN ?_
 refine CWalk.seq ?_
 refine CWalk.seq ?_
 refine CWalk.region ?_
 refine mv ?_
 refine wo (Spec.len (Has.s rfl) Try.underlying25) ?_
 refine wo (Spec.move Has.int) ?_
 refine Walk.nil ?_
 refine Leaf.thenN ?_
 refine CWalk.block ?_
 obtain ⟨b5, hb5, hm⟩ := bind_some hm
 refine CWalk.loop (fun s : Int => [.fact 0 (.rep [0] (a0 : List (List UInt8))), .fact 1 (.fn Try.prog pre1 [0] (a1)), .fact 7 (.rep [] (((a0).length : Int) : Int)), .fact 8 (.rep [] (s : Int))]) (fun b : (Unit) ⊕ (Int) => Sum.elim (fun b => (Exit.exit 0, [])) (fun b => (Exit.ret, [.fact 4 (.rep [] (b : Int))])) b) hb5 (su (sn (st (st Sub.nil)))) ?_ ?_
 ·rintro s1 c2 hm
  replace hm : slices_IndexFunc_byte_byte_L1 a0 a1 s1 = some c2 := hm
  unfold slices_IndexFunc_byte_byte_L1 at hm
  show CWalk _ [.fact 0 (.rep [0] (a0 : List (List UInt8))), .fact 1 (.fn Try.prog pre1 [0] (a1)), .fact 7 (.rep [] (((a0).length : Int) : Int)), .fact 8 (.rep [] (s1 : Int))] _ _
  refine CWalk.seq ?_
  refine CWalk.region ?_
  refine wo (Spec.lssI (Has.s rfl) (Has.s rfl)) ?_
  refine Walk.nil ?_
  refine Leaf.thenN ?_
  refine CWalk.seq ?_
  refine CWalk.cond rfl (fun hb => ?_) (fun hb => ?_)
  ·have hm := cond_t hb hm
   refine CWalk.skip ?_
   refine Leaf.thenN ?_
   refine CWalk.seq ?_
   refine CWalk.block ?_
   refine CWalk.seq ?_
   refine CWalk.region ?_
   refine mv ?_
   refine wo (Spec.assign (Has.s rfl)) ?_
   refine Walk.nil ?_
   refine Leaf.thenN ?_
   refine CWalk.seq ?_
   refine CWalk.region ?_
   refine mv ?_
   refine mv ?_
   refine mv ?_
   obtain ⟨x3, hx3, hm⟩ := bind_some hm
   refine wo (Spec.indexAddr hx3 sl25 (Has.s rfl) (Has.s rfl)) ?_
   refine wo (Spec.load ty31 (Has.s rfl)) ?_
   obtain ⟨x4, hx4, hm⟩ := bind_some hm
   refine wo (Spec.callFn (xs := [.tmp 15]) (x := x3) [0] 10 rfl hx4 (Has.s rfl) (HasAll.cons (Has.m (Has.s rfl) rfl) HasAll.nil)) ?_
   refine Walk.nil ?_
   refine Leaf.thenN ?_
   refine CWalk.cond rfl (fun hb => ?_) (fun hb => ?_)
   ·have hm := cond_t hb hm
    refine CWalk.seq ?_
    refine CWalk.region ?_
    refine mv ?_
    refine wo (Spec.assign (Has.s rfl)) ?_
    refine Walk.nil ?_
    refine Leaf.thenN ?_
    refine CWalk.ret ?_
    refine Leaf.blockR ?_
    refine Leaf.thenR ?_
    exact Leaf.brk hm (fun h => nomatch h) rfl (st Sub.nil)
   ·have hm := cond_f hb hm
    refine CWalk.skip ?_
    refine Leaf.blockN ?_
    refine Leaf.thenN ?_
    refine CWalk.region ?_
    refine wo (Spec.addI (Has.s rfl) Has.int) ?_
    refine mv ?_
    refine Walk.nil ?_
    exact Leaf.next hm (su (sn (st (st Sub.nil))))
  ·have hm := cond_f hb hm
   refine CWalk.exit ?_
   refine Leaf.thenE ?_
   exact Leaf.brk hm (fun h => nomatch h) rfl (Sub.nil)
 ·intro _
  rcases b5 with b6 | b7
  ·have hm := selim_l hm
   refine Leaf.blockE ?_
   refine Leaf.thenN ?_
   refine CWalk.seq ?_
   refine CWalk.region ?_
   refine wo (Spec.assign Has.int) ?_
   refine Walk.nil ?_
   refine Leaf.thenN ?_
   refine CWalk.ret ?_
   obtain rfl := Option.some.inj hm
   exact Leaf.retC1 rfl (HasR.cv (HasR.tmp (Has.s rfl)) Cv.fl)
  ·have hm := selim_r hm
   refine Leaf.blockR ?_
   refine Leaf.thenR ?_
   obtain rfl := Option.some.inj hm
   exact Leaf.retC1 rfl (HasR.cv (HasR.tmp (Has.s rfl)) Cv.fl)

/-- slices.ContainsFunc[[][]byte,[]byte] -/
def slices_ContainsFunc_byte_byte (a0 : List (List UInt8)) (a1 : (List UInt8) → Option Bool) : Option (Bool) :=
  Option.bind (slices_IndexFunc_byte_byte a0 a1) (fun x1 => some (decide (x1 ≥ (0 : Int))))
set_option maxRecDepth 100000 in
set_option maxHeartbeats 2000000 in
theorem slices_ContainsFunc_byte_byte_c (a0 : List (List UInt8)) (a1 : (List UInt8) → Option Bool) {r : Bool} (hm : slices_ContainsFunc_byte_byte a0 a1 = some r) : Ctr Try.prog 57 [.rep 0 a0, .fn Try.prog pre1 0 a1] (.fl r) [] := by
 refine ctr_of_walk [[]] 9 Try.func57 rfl rfl rfl rfl (fun w0 om => ?_)
 unfold slices_ContainsFunc_byte_byte at hm
 refine CWalk.sub (G' := [.fact 0 (.rep [0] (a0 : List (List UInt8))), .fact 1 (.fn Try.prog pre1 [0] (a1))]) (sn (sn Sub.nil)) ?_
 refine CWalk.seq ?_
 refine CWalk.region ?_
 refine wo (Spec.assign Has.bool) ?_
 refine Walk.nil ?_
 refine Leaf.thenN ?_
 refine CWalk.seq ?_
 refine CWalk.region ?_
 refine mv ?_
 refine mv ?_
 obtain ⟨x1, hx1, hm⟩ := bind_some hm
 refine wo (f := Fact.rep [] (x1 : Int)) (Spec.callE [0] 10 rfl en76 (slices_IndexFunc_byte_byte_c a0 a1 hx1) (HasAll.cons (Has.m (Has.s rfl) rfl) (HasAll.cons (Has.cv (Has.s rfl) (Cv.fnM rfl)) HasAll.nil))) ?_
 refine wo (Spec.geqI (Has.s rfl) Has.int) ?_
 refine wo (Spec.assign (Has.s rfl)) ?_
 refine Walk.nil ?_
 refine Leaf.thenN ?_
 refine CWalk.ret ?_
 obtain rfl := Option.some.inj hm
 exact Leaf.retC1 rfl (HasR.cv (HasR.tmp (Has.s rfl)) Cv.fl)

/-- freeboard/head.odd -/
def head_odd (a0 : List UInt8) : Option (Bool) :=
  some ((((a0).length : Int) != (0 : Int)) && (((a0).length : Int) != (128 : Int)))
set_option maxRecDepth 100000 in
set_option maxHeartbeats 2000000 in
theorem head_odd_c (a0 : List UInt8) {r : Bool} (hm : head_odd a0 = some r) : Ctr Try.prog 58 [.rep 0 a0] (.fl r) [] := by
 refine ctr_of_walk [[]] 11 Try.func58 rfl rfl rfl rfl (fun w0 om => ?_)
 unfold head_odd at hm
 refine CWalk.sub (G' := [.fact 0 (.rep [0] (a0 : List UInt8))]) (sn Sub.nil) ?_
 refine CWalk.seq ?_
 refine CWalk.region ?_
 refine wo (Spec.assign Has.bool) ?_
 refine Walk.nil ?_
 refine Leaf.thenN ?_
 refine CWalk.seq ?_
 refine CWalk.region ?_
 refine mv ?_
 refine wo (Spec.len (Has.s rfl) Try.underlying31) ?_
 refine wo (Spec.neqI (Has.s rfl) Has.int) ?_
 refine mv ?_
 refine wg rfl rfl (fun hb => Spec.move (Has.s rfl)) ?_
 refine wg rfl rfl (fun hb => Spec.len (Has.u rfl hb) Try.underlying31) ?_
 refine wg rfl rfl (fun hb => Spec.neqI (Has.u rfl hb) Has.int) ?_
 refine wo (Spec.and (Has.s rfl) (fun h => Has.u rfl h)) ?_
 refine wo (Spec.assign (Has.s rfl)) ?_
 refine Walk.nil ?_
 refine Leaf.thenN ?_
 refine CWalk.ret ?_
 obtain rfl := Option.some.inj hm
 exact Leaf.retC1 rfl (HasR.cv (HasR.tmp (Has.s rfl)) Cv.fl)

def head_Check_L1 (a1 : Head) (s3 : Bool) (s4 : Int) : Option (Ctl (Bool × Int) ((Bool) ⊕ (Unit))) :=
  (bif (decide (s4 < ((a1.Dirty).length : Int))) then Option.bind (idx a1.Dirty s4) (fun x6 => Option.bind (gO (x6) (idx a1.Blocks s4)) (fun x7 => (bif (x6 && (((x7).length : Int) == (0 : Int))) then some (Ctl.brk (Sum.inr ())) else some (Ctl.next ((s3 || x6), (wI (s4 + (1 : Int)))))))) else some (Ctl.brk (Sum.inl s3)))
/-- freeboard/head.Check -/
def head_Check (a0 : Config) (a1 : Head) : Option (Int) :=
  Option.bind (shape_Stripes a0) (fun x1 => Option.bind (gO (!((((((x1.2 != (0 : Int)) || (decide (a1.Stripe < (0 : Int)))) || (decide (a1.Stripe ≥ x1.1))) || (((a1.Blocks).length : Int) != a0.Members)) || (((a1.Dirty).length : Int) != (wI (a0.Members - (1 : Int))))) || (decide ((a1.Phase.toNat : Int) > ((4 : UInt8).toNat : Int))))) (slices_ContainsFunc_byte_byte a1.Blocks (fun y => head_odd y))) (fun x2 => (bif (((((((x1.2 != (0 : Int)) || (decide (a1.Stripe < (0 : Int)))) || (decide (a1.Stripe ≥ x1.1))) || (((a1.Blocks).length : Int) != a0.Members)) || (((a1.Dirty).length : Int) != (wI (a0.Members - (1 : Int))))) || (decide ((a1.Phase.toNat : Int) > ((4 : UInt8).toNat : Int)))) || x2) then some (8 : Int) else Option.bind (loopM (fun s : Bool × Int => head_Check_L1 a1 s.1 s.2) FUEL (false, (0 : Int))) (fun b8 => Sum.elim (fun b9 => Option.bind (idx a1.Blocks (wI (a0.Members - (1 : Int)))) (fun x10 => (bif (((((a1.Phase == (0 : UInt8)) == (decide (((x10).length : Int) > (0 : Int)))) || ((!(a1.Phase == (0 : UInt8))) && (!b9))) || ((decide ((a1.Phase.toNat : Int) ≤ ((1 : UInt8).toNat : Int))) && ((a1.Seq.toNat : Int) != ((0 : UInt32).toNat : Int)))) || (a1.Deals && ((!b9) || (decide ((a1.Phase.toNat : Int) > ((1 : UInt8).toNat : Int)))))) then some (8 : Int) else some (0 : Int)))) (fun b11 => some (8 : Int)) b8))))
set_option maxRecDepth 100000 in
set_option maxHeartbeats 2000000 in
theorem head_Check_c (a0 : Config) (a1 : Head) {r : Int} (hm : head_Check a0 a1 = some r) : Ctr Try.prog 24 [.rep 0 a0, .rep 0 a1] (.fl r) [] := by
 refine ctr_of_walk [[]] 126 Try.func24 rfl rfl rfl rfl (fun w0 om => ?_)
 unfold head_Check at hm
 refine CWalk.sub (G' := [.fact 0 (.rep [] (a0 : Config)), .fact 1 (.rep [0] (a1 : Head))]) (Sub.cons (Has.fl (Has.s rfl)) (sn Sub.nil)) ?_
 refine CWalk.seq ?_
 refine CWalk.region ?_
 refine ws (Step.boxObj (ls := [(false, 1, Fact.rep [] a0.Id), (false, 1, Fact.rep [] a0.Members), (false, 1, Fact.rep [] a0.Chunk), (false, 1, Fact.rep [] a0.Rows), (false, 1, Fact.rep [] a0.Log), (false, 1, Fact.rep [] a0.Heads)]) 10 rfl rfl rfl rfl (HasL.flds (Has.cv (Has.s rfl) (Cv.trans (Cv.opens (chConfig a0)) (Cv.flds (CvL.cons Cv.fl (CvL.cons Cv.fl (CvL.cons Cv.fl (CvL.cons Cv.fl (CvL.cons Cv.fl (CvL.cons Cv.fl CvL.nil))))))))))) ?_
 refine ws (Step.boxObj (ls := [(false, 1, Fact.rep [] a1.Stripe), (false, 1, Fact.rep [0] a1.Blocks), (false, 1, Fact.rep [0] a1.Dirty), (false, 1, Fact.rep [] a1.Phase), (false, 1, Fact.rep [] a1.Deals), (false, 1, Fact.rep [] a1.Seq)]) 17 rfl rfl rfl rfl (HasL.flds (Has.cv (Has.s rfl) (Cv.trans (Cv.opens (chHead a1)) (Cv.flds (CvL.cons Cv.fl (CvL.cons Cv.refl (CvL.cons Cv.refl (CvL.cons Cv.fl (CvL.cons Cv.fl (CvL.cons Cv.fl CvL.nil))))))))))) ?_
 refine wo (Spec.assign Has.int) ?_
 refine Walk.nil ?_
 refine Leaf.thenN ?_
 refine CWalk.seq ?_
 refine CWalk.region ?_
 refine wo (Spec.loadObj (ls := [(false, 1, Fact.rep [] a0.Id), (false, 1, Fact.rep [] a0.Members), (false, 1, Fact.rep [] a0.Chunk), (false, 1, Fact.rep [] a0.Rows), (false, 1, Fact.rep [] a0.Log), (false, 1, Fact.rep [] a0.Heads)]) ty24 rfl rfl (Has.s rfl) rfl (HasGs.cons (HasG.s rfl) (HasGs.cons (HasG.s rfl) (HasGs.cons (HasG.s rfl) (HasGs.cons (HasG.s rfl) (HasGs.cons (HasG.s rfl) (HasGs.cons (HasG.s rfl) HasGs.nil))))))) ?_
 obtain ⟨x1, hx1, hm⟩ := bind_some hm
 refine wo (f := Fact.tup2 (Fact.rep [] x1.1) (Fact.rep [] x1.2)) (Spec.callE [] 24 rfl en52 (shape_Stripes_c a0 hx1) (HasAll.cons (Has.fl (Has.cv (Has.s rfl) (Cv.trans (Cv.flds (CvL.cons Cv.fl (CvL.cons Cv.fl (CvL.cons Cv.fl (CvL.cons Cv.fl (CvL.cons Cv.fl (CvL.cons Cv.fl CvL.nil))))))) (Cv.close (T := []) (chConfig a0))))) HasAll.nil)) ?_
 refine mv ?_
 refine wo (Spec.ext0 (Has.s rfl)) ?_
 refine wo (Spec.ext1 (Has.s rfl)) ?_
 refine wo (Spec.assign (Has.s rfl)) ?_
 refine wo (Spec.assign (Has.s rfl)) ?_
 refine Walk.nil ?_
 refine Leaf.thenN ?_
 refine CWalk.seq ?_
 refine CWalk.seq ?_
 refine CWalk.region ?_
 refine mv ?_
 refine wo (Spec.neqI (Has.s rfl) Has.int) ?_
 refine mv ?_
 refine wg rfl rfl (fun hb => Spec.fieldAddrO fd28_0 (Has.cv (Has.s rfl) (Cv.isvP rfl))) ?_
 refine wg rfl rfl (fun hb => Spec.loadF (i := 0) ty3 rfl (Has.u rfl hb) rfl (HasG.s rfl)) ?_
 refine wg rfl rfl (fun hb => Spec.lssI (Has.u rfl hb) Has.int) ?_
 refine wo (Spec.or (Has.s rfl) (fun h => Has.u rfl h)) ?_
 refine mv ?_
 refine wg rfl rfl (fun hb => Spec.fieldAddrO fd28_0 (Has.cv (Has.s rfl) (Cv.isvP rfl))) ?_
 refine wg rfl rfl (fun hb => Spec.loadF (i := 0) ty3 rfl (Has.u rfl hb) rfl (HasG.s rfl)) ?_
 refine wg rfl rfl (fun hb => Spec.move (Has.s rfl)) ?_
 refine wg rfl rfl (fun hb => Spec.geqI (Has.u rfl hb) (Has.u rfl hb)) ?_
 refine wo (Spec.or (Has.s rfl) (fun h => Has.u rfl h)) ?_
 refine mv ?_
 refine wg rfl rfl (fun hb => Spec.fieldAddrO fd28_1 (Has.cv (Has.s rfl) (Cv.isvP rfl))) ?_
 refine wg rfl rfl (fun hb => Spec.loadF (i := 1) ty25 rfl (Has.u rfl hb) rfl (HasG.s rfl)) ?_
 refine wg rfl rfl (fun hb => Spec.len (Has.u rfl hb) Try.underlying25) ?_
 refine wg rfl rfl (fun hb => Spec.fieldAddrO fd24_1 (Has.cv (Has.s rfl) (Cv.isvP rfl))) ?_
 refine wg rfl rfl (fun hb => Spec.loadF (i := 1) ty3 rfl (Has.u rfl hb) rfl (HasG.s rfl)) ?_
 refine wg rfl rfl (fun hb => Spec.neqI (Has.u rfl hb) (Has.u rfl hb)) ?_
 refine wo (Spec.or (Has.s rfl) (fun h => Has.u rfl h)) ?_
 refine mv ?_
 refine wg rfl rfl (fun hb => Spec.fieldAddrO fd28_2 (Has.cv (Has.s rfl) (Cv.isvP rfl))) ?_
 refine wg rfl rfl (fun hb => Spec.loadF (i := 2) ty26 rfl (Has.u rfl hb) rfl (HasG.s rfl)) ?_
 refine wg rfl rfl (fun hb => Spec.len (Has.u rfl hb) Try.underlying26) ?_
 refine wg rfl rfl (fun hb => Spec.fieldAddrO fd24_1 (Has.cv (Has.s rfl) (Cv.isvP rfl))) ?_
 refine wg rfl rfl (fun hb => Spec.loadF (i := 1) ty3 rfl (Has.u rfl hb) rfl (HasG.s rfl)) ?_
 refine wg rfl rfl (fun hb => Spec.subI (Has.u rfl hb) Has.int) ?_
 refine wg rfl rfl (fun hb => Spec.neqI (Has.u rfl hb) (Has.u rfl hb)) ?_
 refine wo (Spec.or (Has.s rfl) (fun h => Has.u rfl h)) ?_
 refine mv ?_
 refine wg rfl rfl (fun hb => Spec.fieldAddrO fd28_3 (Has.cv (Has.s rfl) (Cv.isvP rfl))) ?_
 refine wg rfl rfl (fun hb => Spec.loadF (i := 3) ty5 rfl (Has.u rfl hb) rfl (HasG.s rfl)) ?_
 refine wg rfl rfl (fun hb => Spec.gtrN (α := UInt8) (Has.u rfl hb) (Has.u8 4 rfl)) ?_
 refine wo (Spec.or (Has.s rfl) (fun h => Has.u rfl h)) ?_
 refine mv ?_
 refine wg rfl rfl (fun hb => Spec.fieldAddrO fd28_1 (Has.cv (Has.s rfl) (Cv.isvP rfl))) ?_
 refine wg rfl rfl (fun hb => Spec.loadF (i := 1) ty25 rfl (Has.u rfl hb) rfl (HasG.s rfl)) ?_
 obtain ⟨x2, hx2, hm⟩ := bind_some hm
 refine wg (f := Fact.rep [] (x2 : Bool)) rfl rfl (fun hb => Spec.callE [0] 25 rfl en57 (slices_ContainsFunc_byte_byte_c a1.Blocks (fun y => head_odd y) (gO_t hx2 (not_t hb))) (HasAll.cons (Has.m (Has.u rfl hb) rfl) (HasAll.cons (Has.cv Has.func (Cv.fn (pu := []) (pc := []) (shc := []) en58 CvF.nil CvF.nil (fun y r h => head_odd_c y h))) HasAll.nil))) ?_
 refine wo (Spec.or (Has.s rfl) (fun h => Has.u rfl h)) ?_
 refine Walk.nil ?_
 refine Leaf.thenN ?_
 refine CWalk.cond rfl (fun hb => ?_) (fun hb => ?_)
 ·have hm := cond_t hb hm
  refine CWalk.seq ?_
  refine CWalk.region ?_
  refine wo (Spec.assign Has.int) ?_
  refine Walk.nil ?_
  refine Leaf.thenN ?_
  refine CWalk.ret ?_
  refine Leaf.thenR ?_
  obtain rfl := Option.some.inj hm
  exact Leaf.retC1 rfl (HasR.cv (HasR.tmp (Has.s rfl)) Cv.fl)
 ·have hm := cond_f hb hm
  refine CWalk.skip ?_
  refine Leaf.thenN ?_
  refine CWalk.seq ?_
  refine CWalk.region ?_
  refine wo (Spec.assign Has.bool) ?_
  refine Walk.nil ?_
  refine Leaf.thenN ?_
  refine CWalk.seq ?_
  refine CWalk.seq ?_
  refine CWalk.region ?_
  refine wo (Spec.fieldAddrO fd28_2 (Has.cv (Has.s rfl) (Cv.isvP rfl))) ?_
  refine wo (Spec.loadF (i := 2) ty26 rfl (Has.s rfl) rfl (HasG.s rfl)) ?_
  refine wo (Spec.len (Has.s rfl) Try.underlying26) ?_
  refine wo (Spec.move Has.int) ?_
  refine Walk.nil ?_
  refine Leaf.thenN ?_
  refine CWalk.block ?_
  obtain ⟨b8, hb8, hm⟩ := bind_some hm
  refine CWalk.loop (fun s : Bool × Int => [.fact 2 (.isv 10), .fact 3 (.isv 17), .fact 7 (.rep [] s.1), .fact 58 (.rep [0] a1.Dirty), .fact 59 (.rep [] (((a1.Dirty).length : Int) : Int)), .fact 60 (.rep [] s.2), .fact 100011 (.at 11 (.rep [] a0.Id)), .fact 100012 (.at 12 (.rep [] a0.Members)), .fact 100013 (.at 13 (.rep [] a0.Chunk)), .fact 100014 (.at 14 (.rep [] a0.Rows)), .fact 100015 (.at 15 (.rep [] a0.Log)), .fact 100016 (.at 16 (.rep [] a0.Heads)), .fact 100018 (.at 18 (.rep [] a1.Stripe)), .fact 100019 (.at 19 (.rep [0] a1.Blocks)), .fact 100020 (.at 20 (.rep [0] a1.Dirty)), .fact 100021 (.at 21 (.rep [] a1.Phase)), .fact 100022 (.at 22 (.rep [] a1.Deals)), .fact 100023 (.at 23 (.rep [] a1.Seq)), .fact 100010 (.obj 10 [(false, 1), (false, 1), (false, 1), (false, 1), (false, 1), (false, 1)]), .fact 100017 (.obj 17 [(false, 1), (false, 1), (false, 1), (false, 1), (false, 1), (false, 1)])]) (fun b : (Bool) ⊕ (Unit) => Sum.elim (fun b => (Exit.exit 0, [.fact 2 (.isv 10), .fact 3 (.isv 17), .fact 7 (.rep [] (b : Bool)), .fact 100011 (.at 11 (.rep [] a0.Id)), .fact 100012 (.at 12 (.rep [] a0.Members)), .fact 100013 (.at 13 (.rep [] a0.Chunk)), .fact 100014 (.at 14 (.rep [] a0.Rows)), .fact 100015 (.at 15 (.rep [] a0.Log)), .fact 100016 (.at 16 (.rep [] a0.Heads)), .fact 100018 (.at 18 (.rep [] a1.Stripe)), .fact 100019 (.at 19 (.rep [0] a1.Blocks)), .fact 100020 (.at 20 (.rep [0] a1.Dirty)), .fact 100021 (.at 21 (.rep [] a1.Phase)), .fact 100022 (.at 22 (.rep [] a1.Deals)), .fact 100023 (.at 23 (.rep [] a1.Seq)), .fact 100010 (.obj 10 [(false, 1), (false, 1), (false, 1), (false, 1), (false, 1), (false, 1)]), .fact 100017 (.obj 17 [(false, 1), (false, 1), (false, 1), (false, 1), (false, 1), (false, 1)])])) (fun b => (Exit.ret, [.fact 4 (.rep [] ((8 : Int) : Int))])) b) hb8 (sn (sn (st (su (st (st (sf (sf (sf (sf (sf (sf (sf (sm (sm (sf (sf (sf (sn (sn Sub.nil)))))))))))))))))))) ?_ ?_
  ·rintro ⟨s3, s4⟩ c5 hm
   replace hm : head_Check_L1 a1 s3 s4 = some c5 := hm
   unfold head_Check_L1 at hm
   show CWalk _ [.fact 2 (.isv 10), .fact 3 (.isv 17), .fact 7 (.rep [] (s3 : Bool)), .fact 58 (.rep [0] a1.Dirty), .fact 59 (.rep [] (((a1.Dirty).length : Int) : Int)), .fact 60 (.rep [] (s4 : Int)), .fact 100011 (.at 11 (.rep [] a0.Id)), .fact 100012 (.at 12 (.rep [] a0.Members)), .fact 100013 (.at 13 (.rep [] a0.Chunk)), .fact 100014 (.at 14 (.rep [] a0.Rows)), .fact 100015 (.at 15 (.rep [] a0.Log)), .fact 100016 (.at 16 (.rep [] a0.Heads)), .fact 100018 (.at 18 (.rep [] a1.Stripe)), .fact 100019 (.at 19 (.rep [0] a1.Blocks)), .fact 100020 (.at 20 (.rep [0] a1.Dirty)), .fact 100021 (.at 21 (.rep [] a1.Phase)), .fact 100022 (.at 22 (.rep [] a1.Deals)), .fact 100023 (.at 23 (.rep [] a1.Seq)), .fact 100010 (.obj 10 [(false, 1), (false, 1), (false, 1), (false, 1), (false, 1), (false, 1)]), .fact 100017 (.obj 17 [(false, 1), (false, 1), (false, 1), (false, 1), (false, 1), (false, 1)])] _ _
   refine CWalk.seq ?_
   refine CWalk.region ?_
   refine wo (Spec.lssI (Has.s rfl) (Has.s rfl)) ?_
   refine Walk.nil ?_
   refine Leaf.thenN ?_
   refine CWalk.seq ?_
   refine CWalk.cond rfl (fun hb => ?_) (fun hb => ?_)
   ·have hm := cond_t hb hm
    refine CWalk.skip ?_
    refine Leaf.thenN ?_
    refine CWalk.seq ?_
    refine CWalk.block ?_
    refine CWalk.seq ?_
    refine CWalk.region ?_
    refine mv ?_
    obtain ⟨x6, hx6, hm⟩ := bind_some hm
    refine wo (Spec.indexAddr hx6 sl26 (Has.s rfl) (Has.s rfl)) ?_
    refine wo ((Spec.load ty4 (Has.s rfl)).flat (T' := [])) ?_
    refine wo (Spec.assign (Has.s rfl)) ?_
    refine wo (Spec.assign (Has.s rfl)) ?_
    refine Walk.nil ?_
    refine Leaf.thenN ?_
    refine CWalk.seq ?_
    refine CWalk.seq ?_
    refine CWalk.region ?_
    refine mv ?_
    refine mv ?_
    refine wg rfl rfl (fun hb => Spec.fieldAddrO fd28_1 (Has.cv (Has.s rfl) (Cv.isvP rfl))) ?_
    refine wg rfl rfl (fun hb => Spec.loadF (i := 1) ty25 rfl (Has.u rfl hb) rfl (HasG.s rfl)) ?_
    refine wg rfl rfl (fun hb => Spec.move (Has.s rfl)) ?_
    obtain ⟨x7, hx7, hm⟩ := bind_some hm
    refine wg rfl rfl (fun hb => Spec.indexAddr (gO_t hx7 hb) sl25 (Has.u rfl hb) (Has.u rfl hb)) ?_
    refine wg rfl rfl (fun hb => Spec.load ty31 (Has.u rfl hb)) ?_
    refine wg rfl rfl (fun hb => Spec.len (Has.u rfl hb) Try.underlying31) ?_
    refine wg rfl rfl (fun hb => Spec.eqlI (Has.u rfl hb) Has.int) ?_
    refine wo (Spec.and (Has.s rfl) (fun h => Has.u rfl h)) ?_
    refine Walk.nil ?_
    refine Leaf.thenN ?_
    refine CWalk.cond rfl (fun hb => ?_) (fun hb => ?_)
    ·have hm := cond_t hb hm
     refine CWalk.seq ?_
     refine CWalk.region ?_
     refine wo (Spec.assign Has.int) ?_
     refine Walk.nil ?_
     refine Leaf.thenN ?_
     refine CWalk.ret ?_
     refine Leaf.thenR ?_
     refine Leaf.blockR ?_
     refine Leaf.thenR ?_
     exact Leaf.brk hm (fun h => nomatch h) rfl (st Sub.nil)
    ·have hm := cond_f hb hm
     refine CWalk.skip ?_
     refine Leaf.thenN ?_
     refine CWalk.region ?_
     refine mv ?_
     refine mv ?_
     refine wg rfl rfl (fun hb => Spec.move (Has.s rfl)) ?_
     refine wo (Spec.or (Has.s rfl) (fun h => Has.u rfl h)) ?_
     refine wo (Spec.assign (Has.s rfl)) ?_
     refine Walk.nil ?_
     refine Leaf.blockN ?_
     refine Leaf.thenN ?_
     refine CWalk.region ?_
     refine wo (Spec.addI (Has.s rfl) Has.int) ?_
     refine mv ?_
     refine Walk.nil ?_
     exact Leaf.next hm (sn (sn (st (su (st (st (sf (sf (sf (sf (sf (sf (sf (sm (sm (sf (sf (sf (sn (sn Sub.nil))))))))))))))))))))
   ·have hm := cond_f hb hm
    refine CWalk.exit ?_
    refine Leaf.thenE ?_
    exact Leaf.brk hm (fun h => nomatch h) rfl (sn (sn (st (sf (sf (sf (sf (sf (sf (sf (sm (sm (sf (sf (sf (sn (sn Sub.nil)))))))))))))))))
  ·intro _
   rcases b8 with b9 | b11
   ·have hm := selim_l hm
    refine Leaf.blockE ?_
    refine Leaf.thenN ?_
    refine CWalk.seq ?_
    obtain ⟨x10, hx10, hm⟩ := bind_some hm
    refine CWalk.drawM [[], [0], [0, 1], [], [3], [], [5], [5, 6], [3, 4, 5, 6, 7], [3, 4, 5, 6, 7, 8], [3, 4, 5, 6, 7, 8, 9], [3, 4, 5, 6, 7, 8, 9, 10], [0, 1, 2], [0, 1, 2, 3, 4, 5, 6, 7, 8, 9, 10, 11, 12]] [[.fact 80 (.pto 17 3)], [.fact 81 (.rep [] a1.Phase)], [.fact 82 (.rep [] ((a1.Phase == (0 : UInt8)) : Bool))], [.fact 83 (.pto 17 1)], [.fact 84 (.rep [0] a1.Blocks)], [.fact 85 (.pto 10 1)], [.fact 86 (.rep [] a0.Members)], [.fact 87 (.rep [] ((wI (a0.Members - (1 : Int))) : Int))], [.fact 88 (.ptr [0] (x10 : List UInt8))], [.fact 89 (.rep [0] (x10 : List UInt8))], [.fact 90 (.rep [] (((x10).length : Int) : Int))], [.fact 91 (.rep [] ((decide (((x10).length : Int) > (0 : Int))) : Bool))], [.fact 10 (.rep [] ((a1.Phase == (0 : UInt8)) : Bool))], [.fact 11 (.rep [] ((decide (((x10).length : Int) > (0 : Int))) : Bool))]] mixed (by kernel_rfl) (ao (so (Spec.fieldAddrO fd28_3 (Has.cv (Has.s rfl) (Cv.isvP rfl)))) (ao (so (Spec.loadF (i := 3) ty5 rfl (Has.s rfl) rfl (HasG.s rfl))) (ao (so (Spec.eqlB (Has.s rfl) (Has.u8 0 rfl))) (ao (so (Spec.fieldAddrO fd28_1 (Has.cv (Has.s rfl) (Cv.isvP rfl)))) (ao (so (Spec.loadF (i := 1) ty25 rfl (Has.s rfl) rfl (HasG.s rfl))) (ao (so (Spec.fieldAddrO fd24_1 (Has.cv (Has.s rfl) (Cv.isvP rfl)))) (ao (so (Spec.loadF (i := 1) ty3 rfl (Has.s rfl) rfl (HasG.s rfl))) (ao (so (Spec.subI (Has.s rfl) Has.int)) (ao (so (Spec.indexAddr hx10 sl25 (Has.s rfl) (Has.s rfl))) (ao (so (Spec.load ty31 (Has.s rfl))) (ao (so (Spec.len (Has.s rfl) Try.underlying31)) (ao (so (Spec.gtrI (Has.s rfl) Has.int)) (ao (so (Spec.assign (Has.s rfl))) (ao (so (Spec.assign (Has.s rfl))) AllM.nil)))))))))))))) ?_
    refine Leaf.thenN ?_
    refine CWalk.seq ?_
    refine CWalk.seq ?_
    refine CWalk.region ?_
    refine mv ?_
    refine mv ?_
    refine wo (Spec.eqlT (Has.s rfl) (Has.s rfl) Try.underlying4) ?_
    refine mv ?_
    refine wg rfl rfl (fun hb => Spec.move (Has.s rfl)) ?_
    refine wg rfl rfl (fun hb => Spec.not (Has.u rfl hb)) ?_
    refine wg rfl rfl (fun hb => Spec.move (Has.u rfl hb)) ?_
    refine Walk.opgu rfl rfl rfl (fun hb => Spec.move (Has.s rfl)) ?_
    refine Walk.opgu rfl rfl rfl (fun hb => Spec.not (Has.u rfl hb)) ?_
    refine wg rfl rfl (fun hb => Spec.and (Has.u rfl hb) (fun h => Has.u rfl ⟨hb, h⟩)) ?_
    refine wo (Spec.or (Has.s rfl) (fun h => Has.u rfl h)) ?_
    refine mv ?_
    refine wg rfl rfl (fun hb => Spec.fieldAddrO fd28_3 (Has.cv (Has.s rfl) (Cv.isvP rfl))) ?_
    refine wg rfl rfl (fun hb => Spec.loadF (i := 3) ty5 rfl (Has.u rfl hb) rfl (HasG.s rfl)) ?_
    refine wg rfl rfl (fun hb => Spec.leqN (α := UInt8) (Has.u rfl hb) (Has.u8 1 rfl)) ?_
    refine wg rfl rfl (fun hb => Spec.move (Has.u rfl hb)) ?_
    refine Walk.opgu rfl rfl rfl (fun hb => Spec.fieldAddrO fd28_5 (Has.cv (Has.s rfl) (Cv.isvP rfl))) ?_
    refine Walk.opgu rfl rfl rfl (fun hb => Spec.loadF (i := 5) ty22 rfl (Has.u rfl hb) rfl (HasG.s rfl)) ?_
    refine Walk.opgu rfl rfl rfl (fun hb => Spec.neqN (α := UInt32) (Has.u rfl hb) (Has.u32 0 rfl)) ?_
    refine wg rfl rfl (fun hb => Spec.and (Has.u rfl hb) (fun h => Has.u rfl ⟨hb, h⟩)) ?_
    refine wo (Spec.or (Has.s rfl) (fun h => Has.u rfl h)) ?_
    refine mv ?_
    refine wg rfl rfl (fun hb => Spec.fieldAddrO fd28_4 (Has.cv (Has.s rfl) (Cv.isvP rfl))) ?_
    refine wg rfl rfl (fun hb => Spec.loadF (i := 4) ty4 rfl (Has.u rfl hb) rfl (HasG.s rfl)) ?_
    refine wg rfl rfl (fun hb => Spec.move (Has.u rfl hb)) ?_
    refine Walk.opgu rfl rfl rfl (fun hb => Spec.move (Has.s rfl)) ?_
    refine Walk.opgu rfl rfl rfl (fun hb => Spec.not (Has.u rfl hb)) ?_
    refine Walk.opgu rfl rfl rfl (fun hb => Spec.move (Has.u rfl hb)) ?_
    refine Walk.opgu rfl rfl rfl (fun hb => Spec.fieldAddrO fd28_3 (Has.cv (Has.s rfl) (Cv.isvP rfl))) ?_
    refine Walk.opgu rfl rfl rfl (fun hb => Spec.loadF (i := 3) ty5 rfl (Has.u rfl hb) rfl (HasG.s rfl)) ?_
    refine Walk.opgu rfl rfl rfl (fun hb => Spec.gtrN (α := UInt8) (Has.u rfl hb) (Has.u8 1 rfl)) ?_
    refine Walk.opgu rfl rfl rfl (fun hb => Spec.or (Has.u rfl hb) (fun h => Has.u rfl ⟨hb, h⟩)) ?_
    refine wg rfl rfl (fun hb => Spec.and (Has.u rfl hb) (fun h => Has.u rfl ⟨hb, h⟩)) ?_
    refine wo (Spec.or (Has.s rfl) (fun h => Has.u rfl h)) ?_
    refine Walk.nil ?_
    refine Leaf.thenN ?_
    refine CWalk.cond rfl (fun hb => ?_) (fun hb => ?_)
    ·have hm := cond_t hb hm
     refine CWalk.seq ?_
     refine CWalk.region ?_
     refine wo (Spec.assign Has.int) ?_
     refine Walk.nil ?_
     refine Leaf.thenN ?_
     refine CWalk.ret ?_
     refine Leaf.thenR ?_
     obtain rfl := Option.some.inj hm
     exact Leaf.retC1 rfl (HasR.cv (HasR.tmp (Has.s rfl)) Cv.fl)
    ·have hm := cond_f hb hm
     refine CWalk.skip ?_
     refine Leaf.thenN ?_
     refine CWalk.seq ?_
     refine CWalk.region ?_
     refine wo (Spec.assign Has.int) ?_
     refine Walk.nil ?_
     refine Leaf.thenN ?_
     refine CWalk.ret ?_
     obtain rfl := Option.some.inj hm
     exact Leaf.retC1 rfl (HasR.cv (HasR.tmp (Has.s rfl)) Cv.fl)
   ·have hm := selim_r hm
    refine Leaf.blockR ?_
    refine Leaf.thenR ?_
    obtain rfl := Option.some.inj hm
    exact Leaf.retC1 rfl (HasR.cv (HasR.tmp (Has.s rfl)) Cv.fl)

/-- slices.Clone[[]bool,bool] -/
def slices_Clone_bool_bool (a0 : List Bool) : Option ((List Bool)) :=
  Option.bind (app ([] : List Bool) a0) (fun x1 => some x1)
set_option maxRecDepth 100000 in
set_option maxHeartbeats 2000000 in
theorem slices_Clone_bool_bool_c (a0 : List Bool) {r : (List Bool)} (hm : slices_Clone_bool_bool a0 = some r) : Ctr Try.prog 56 [.rep 0 a0] (.own 0 none 4 r) [] := by
 refine ctr_of_walk [[10]] 8 Try.func56 rfl rfl rfl rfl (fun w0 om => ?_)
 unfold slices_Clone_bool_bool at hm
 refine CWalk.sub (G' := [.fact 0 (.rep [0] (a0 : List Bool))]) (sn Sub.nil) ?_
 refine CWalk.seq ?_
 refine CWalk.region ?_
 refine wo (Spec.assign Has.nilv) ?_
 refine Walk.nil ?_
 refine Leaf.thenN ?_
 refine CWalk.seq ?_
 refine CWalk.seq ?_
 refine CWalk.region ?_
 refine mv ?_
 refine wo (Spec.eqlNil Try.underlying26 (Has.s rfl)) ?_
 refine Walk.nil ?_
 refine Leaf.thenN ?_
 refine CWalk.condNil rfl (fun hb => ?_) ?_
 ·have hm : some ([] : List Bool) = some r := by first | simpa [app, hb] using hm | simpa [hb] using hm
  refine CWalk.seq ?_
  refine CWalk.region ?_
  refine wo (Spec.assign Has.nilv) ?_
  refine Walk.nil ?_
  refine Leaf.thenN ?_
  refine CWalk.ret ?_
  refine Leaf.thenR ?_
  obtain rfl := Option.some.inj hm
  exact Leaf.retC1 rfl (HasR.cv (HasR.tmp (Has.s rfl)) (Cv.trans Cv.nilOw (Cv.owF (T := []) (te := []) rfl)))
 ·skip
  refine CWalk.skip ?_
  refine Leaf.thenN ?_
  refine CWalk.seq ?_
  refine CWalk.region ?_
  refine ws (Step.lit0 (α := Bool) 10 rfl rfl ow26) ?_
  refine mv ?_
  obtain ⟨x1, hx1, hm⟩ := bind_some hm
  refine ws (Step.append (te' := []) 10 hx1 rfl rfl ow26 (Has.s rfl) rfl (Has.s rfl) ElKeep.flat ElKeep.flat) ?_
  refine wo (Spec.assign (Has.s rfl)) ?_
  refine Walk.nil ?_
  refine Leaf.thenN ?_
  refine CWalk.ret ?_
  obtain rfl := Option.some.inj hm
  exact Leaf.retC1 rfl (HasR.cv (HasR.tmp (Has.s rfl)) (Cv.trans (Cv.isvOw rfl) (Cv.owF (T := [10]) (te := []) rfl)))

/-- slices.Clone[[]byte,byte] -/
def slices_Clone_byte_byte (a0 : List UInt8) : Option ((List UInt8)) :=
  Option.bind (app ([] : List UInt8) a0) (fun x1 => some x1)
set_option maxRecDepth 100000 in
set_option maxHeartbeats 2000000 in
theorem slices_Clone_byte_byte_c (a0 : List UInt8) {r : (List UInt8)} (hm : slices_Clone_byte_byte a0 = some r) : Ctr Try.prog 44 [.rep 0 a0] (.own 0 none 5 r) [] := by
 refine ctr_of_walk [[10]] 8 Try.func44 rfl rfl rfl rfl (fun w0 om => ?_)
 unfold slices_Clone_byte_byte at hm
 refine CWalk.sub (G' := [.fact 0 (.rep [0] (a0 : List UInt8))]) (sn Sub.nil) ?_
 refine CWalk.seq ?_
 refine CWalk.region ?_
 refine wo (Spec.assign Has.nilv) ?_
 refine Walk.nil ?_
 refine Leaf.thenN ?_
 refine CWalk.seq ?_
 refine CWalk.seq ?_
 refine CWalk.region ?_
 refine mv ?_
 refine wo (Spec.eqlNil Try.underlying31 (Has.s rfl)) ?_
 refine Walk.nil ?_
 refine Leaf.thenN ?_
 refine CWalk.condNil rfl (fun hb => ?_) ?_
 ·have hm : some ([] : List UInt8) = some r := by first | simpa [app, hb] using hm | simpa [hb] using hm
  refine CWalk.seq ?_
  refine CWalk.region ?_
  refine wo (Spec.assign Has.nilv) ?_
  refine Walk.nil ?_
  refine Leaf.thenN ?_
  refine CWalk.ret ?_
  refine Leaf.thenR ?_
  obtain rfl := Option.some.inj hm
  exact Leaf.retC1 rfl (HasR.cv (HasR.tmp (Has.s rfl)) (Cv.trans Cv.nilOw (Cv.owF (T := []) (te := []) rfl)))
 ·skip
  refine CWalk.skip ?_
  refine Leaf.thenN ?_
  refine CWalk.seq ?_
  refine CWalk.region ?_
  refine ws (Step.lit0 (α := UInt8) 10 rfl rfl ow31) ?_
  refine mv ?_
  obtain ⟨x1, hx1, hm⟩ := bind_some hm
  refine ws (Step.append (te' := []) 10 hx1 rfl rfl ow31 (Has.s rfl) rfl (Has.s rfl) ElKeep.flat ElKeep.flat) ?_
  refine wo (Spec.assign (Has.s rfl)) ?_
  refine Walk.nil ?_
  refine Leaf.thenN ?_
  refine CWalk.ret ?_
  obtain rfl := Option.some.inj hm
  exact Leaf.retC1 rfl (HasR.cv (HasR.tmp (Has.s rfl)) (Cv.trans (Cv.isvOw rfl) (Cv.owF (T := [10]) (te := []) rfl)))

def head_Twin_L1 (a0 : Head) (s2 : Int) (s3 : List (List UInt8)) : Option (Ctl (Int × (List (List UInt8))) ((List (List UInt8)))) :=
  (bif (decide (s2 < ((a0.Blocks).length : Int))) then Option.bind (idx a0.Blocks s2) (fun x5 => Option.bind (slices_Clone_byte_byte x5) (fun x6 => Option.bind (app s3 ([x6])) (fun x7 => some (Ctl.next ((wI (s2 + (1 : Int))), x7))))) else some (Ctl.brk s3))
/-- freeboard/head.Twin -/
def head_Twin (a0 : Head) : Option (Head) :=
  Option.bind (slices_Clone_bool_bool a0.Dirty) (fun x1 => Option.bind (loopM (fun s : Int × (List (List UInt8)) => head_Twin_L1 a0 s.1 s.2) FUEL ((0 : Int), ([] : List (List UInt8)))) (fun b8 => some (Head.mk a0.Stripe b8 x1 a0.Phase a0.Deals a0.Seq)))
set_option maxRecDepth 100000 in
set_option maxHeartbeats 2000000 in
theorem head_Twin_c (a0 : Head) {r : Head} (hm : head_Twin a0 = some r) : Ctr Try.prog 23 [.rep 0 a0] (.flds [(false, 1, (.fl r.Stripe)), (false, 1, (.own 0 (some 1) 31 r.Blocks)), (false, 1, (.own 2 none 4 r.Dirty)), (false, 1, (.fl r.Phase)), (false, 1, (.fl r.Deals)), (false, 1, (.fl r.Seq))]) [] := by
 refine ctr_of_walk [[27], [25, 26], [24]] 28 Try.func23 rfl rfl rfl rfl (fun w0 om => ?_)
 unfold head_Twin at hm
 refine CWalk.sub (G' := [.fact 0 (.rep [0] (a0 : Head))]) (sn Sub.nil) ?_
 refine CWalk.seq ?_
 refine CWalk.region ?_
 refine ws (Step.boxObj (ls := [(false, 1, Fact.rep [] a0.Stripe), (false, 1, Fact.rep [0] a0.Blocks), (false, 1, Fact.rep [0] a0.Dirty), (false, 1, Fact.rep [] a0.Phase), (false, 1, Fact.rep [] a0.Deals), (false, 1, Fact.rep [] a0.Seq)]) 10 rfl rfl rfl rfl (HasL.flds (Has.cv (Has.s rfl) (Cv.trans (Cv.opens (chHead a0)) (Cv.flds (CvL.cons Cv.fl (CvL.cons Cv.refl (CvL.cons Cv.refl (CvL.cons Cv.fl (CvL.cons Cv.fl (CvL.cons Cv.fl CvL.nil))))))))))) ?_
 refine ws (Step.allocObj (ls := [(false, 1, Fact.rep [] ((0 : Int) : Int)), (false, 1, Fact.nilv), (false, 1, Fact.nilv), (false, 1, Fact.rep [] ((0 : UInt8) : UInt8)), (false, 1, Fact.rep [] (false : Bool)), (false, 1, Fact.rep [] ((0 : UInt32) : UInt32))]) 17 rfl rfl rfl rfl zl28) ?_
 refine Walk.nil ?_
 refine Leaf.thenN ?_
 refine CWalk.seq ?_
 refine CWalk.region ?_
 refine wo (Spec.fieldAddrO fd28_2 (Has.cv (Has.s rfl) (Cv.isvP rfl))) ?_
 refine wo (Spec.loadF (i := 2) ty26 rfl (Has.s rfl) rfl (HasG.s rfl)) ?_
 obtain ⟨x1, hx1, hm⟩ := bind_some hm
 refine wo (f := Fact.ow [24] [] 4 (x1 : List Bool)) (Spec.callE [0] 24 rfl en56 (slices_Clone_bool_bool_c a0.Dirty hx1) (HasAll.cons (Has.m (Has.s rfl) rfl) HasAll.nil)) ?_
 refine wo (Spec.fieldAddrO fd28_2 (Has.cv (Has.s rfl) (Cv.isvP rfl))) ?_
 refine ws (Step.storeF (i := 2) (f := Fact.ow [24] [] 4 (x1 : List Bool)) rfl ty26 rfl (Has.s rfl) rfl (Has.cv (Has.s rfl) (Cv.trans Cv.owSl (Cv.slRep (T' := [24]) rfl rfl))) (Has.s rfl) rfl) ?_
 refine Walk.nil ?_
 refine Leaf.thenN ?_
 refine CWalk.seq ?_
 refine CWalk.region ?_
 refine wo (Spec.fieldAddrO fd28_1 (Has.cv (Has.s rfl) (Cv.isvP rfl))) ?_
 refine wo (Spec.loadF (i := 1) ty25 rfl (Has.s rfl) rfl (HasG.s rfl)) ?_
 refine wo (Spec.assign (Has.s rfl)) ?_
 refine Walk.nil ?_
 refine Leaf.thenN ?_
 refine CWalk.seq ?_
 refine CWalk.region ?_
 refine wo (Spec.fieldAddrO fd28_1 (Has.cv (Has.s rfl) (Cv.isvP rfl))) ?_
 refine ws (Step.storeF (i := 1) (f := Fact.nilv) rfl ty25 rfl (Has.s rfl) rfl (Has.cv Has.nilv (Cv.nil (T := []))) Has.nilv rfl) ?_
 refine Walk.nil ?_
 refine Leaf.thenN ?_
 refine CWalk.seq ?_
 refine CWalk.seq ?_
 refine CWalk.region ?_
 refine mv ?_
 refine wo (Spec.len (Has.s rfl) Try.underlying25) ?_
 refine wo (Spec.move Has.int) ?_
 refine Walk.nil ?_
 refine Leaf.thenN ?_
 refine CWalk.block ?_
 obtain ⟨b8, hb8, hm⟩ := bind_some hm
 refine CWalk.loop (fun s : Int × (List (List UInt8)) => [.fact 1 (.isv 10), .fact 2 (.isv 17), .fact 13 (.rep [0] a0.Blocks), .fact 14 (.rep [] (((a0.Blocks).length : Int) : Int)), .fact 15 (.rep [] s.1), .fact 100011 (.at 11 (.rep [] a0.Stripe)), .fact 100012 (.at 12 (.ow [27] [25, 26] 31 (s.2 : List (List UInt8)))), .fact 100013 (.at 13 (.ow [24] [] 4 (x1 : List Bool))), .fact 100014 (.at 14 (.rep [] a0.Phase)), .fact 100015 (.at 15 (.rep [] a0.Deals)), .fact 100016 (.at 16 (.rep [] a0.Seq)), .fact 100018 (.at 18 (.rep [] ((0 : Int) : Int))), .fact 100019 (.at 19 (.nilv)), .fact 100020 (.at 20 (.nilv)), .fact 100021 (.at 21 (.rep [] ((0 : UInt8) : UInt8))), .fact 100022 (.at 22 (.rep [] (false : Bool))), .fact 100023 (.at 23 (.rep [] ((0 : UInt32) : UInt32))), .fact 100010 (.obj 10 [(false, 1), (false, 1), (false, 1), (false, 1), (false, 1), (false, 1)]), .fact 100017 (.obj 17 [(false, 1), (false, 1), (false, 1), (false, 1), (false, 1), (false, 1)])]) (fun b : (List (List UInt8)) => (Exit.exit 0, [.fact 1 (.isv 10), .fact 2 (.isv 17), .fact 100011 (.at 11 (.rep [] a0.Stripe)), .fact 100012 (.at 12 (.ow [27] [25, 26] 31 (b : List (List UInt8)))), .fact 100013 (.at 13 (.ow [24] [] 4 (x1 : List Bool))), .fact 100014 (.at 14 (.rep [] a0.Phase)), .fact 100015 (.at 15 (.rep [] a0.Deals)), .fact 100016 (.at 16 (.rep [] a0.Seq)), .fact 100018 (.at 18 (.rep [] ((0 : Int) : Int))), .fact 100019 (.at 19 (.nilv)), .fact 100020 (.at 20 (.nilv)), .fact 100021 (.at 21 (.rep [] ((0 : UInt8) : UInt8))), .fact 100022 (.at 22 (.rep [] (false : Bool))), .fact 100023 (.at 23 (.rep [] ((0 : UInt32) : UInt32))), .fact 100010 (.obj 10 [(false, 1), (false, 1), (false, 1), (false, 1), (false, 1), (false, 1)]), .fact 100017 (.obj 17 [(false, 1), (false, 1), (false, 1), (false, 1), (false, 1), (false, 1)])])) hb8 (sn (sn (su (st (st (sf (Sub.cons (Has.at (HasG.cv (HasG.s rfl) (Cv.trans Cv.nilOw (Cv.owM (T := []) (te := []) rfl rfl)))) (Sub.cons (Has.at (HasG.cv (HasG.s rfl) (Cv.owF (T := [24]) (te := []) rfl))) (sf (sf (sf (sf (sg (sg (sf (sf (sf (sn (sn Sub.nil))))))))))))))))))) ?_ ?_
 ·rintro ⟨s2, s3⟩ c4 hm
  replace hm : head_Twin_L1 a0 s2 s3 = some c4 := hm
  unfold head_Twin_L1 at hm
  show CWalk _ [.fact 1 (.isv 10), .fact 2 (.isv 17), .fact 13 (.rep [0] a0.Blocks), .fact 14 (.rep [] (((a0.Blocks).length : Int) : Int)), .fact 15 (.rep [] (s2 : Int)), .fact 100011 (.at 11 (.rep [] a0.Stripe)), .fact 100012 (.at 12 (.ow [27] [25, 26] 31 (s3 : List (List UInt8)))), .fact 100013 (.at 13 (.ow [24] [] 4 (x1 : List Bool))), .fact 100014 (.at 14 (.rep [] a0.Phase)), .fact 100015 (.at 15 (.rep [] a0.Deals)), .fact 100016 (.at 16 (.rep [] a0.Seq)), .fact 100018 (.at 18 (.rep [] ((0 : Int) : Int))), .fact 100019 (.at 19 (.nilv)), .fact 100020 (.at 20 (.nilv)), .fact 100021 (.at 21 (.rep [] ((0 : UInt8) : UInt8))), .fact 100022 (.at 22 (.rep [] (false : Bool))), .fact 100023 (.at 23 (.rep [] ((0 : UInt32) : UInt32))), .fact 100010 (.obj 10 [(false, 1), (false, 1), (false, 1), (false, 1), (false, 1), (false, 1)]), .fact 100017 (.obj 17 [(false, 1), (false, 1), (false, 1), (false, 1), (false, 1), (false, 1)])] _ _
  refine CWalk.seq ?_
  refine CWalk.region ?_
  refine wo (Spec.lssI (Has.s rfl) (Has.s rfl)) ?_
  refine Walk.nil ?_
  refine Leaf.thenN ?_
  refine CWalk.seq ?_
  refine CWalk.cond rfl (fun hb => ?_) (fun hb => ?_)
  ·have hm := cond_t hb hm
   refine CWalk.skip ?_
   refine Leaf.thenN ?_
   refine CWalk.seq ?_
   refine CWalk.block ?_
   refine CWalk.seq ?_
   refine CWalk.region ?_
   obtain ⟨x5, hx5, hm⟩ := bind_some hm
   refine wo (Spec.indexAddr hx5 sl25 (Has.s rfl) (Has.s rfl)) ?_
   refine wo (Spec.load ty31 (Has.s rfl)) ?_
   refine wo (Spec.assign (Has.s rfl)) ?_
   refine Walk.nil ?_
   refine Leaf.thenN ?_
   obtain ⟨x6, hx6, hm⟩ := bind_some hm
   obtain ⟨x7, hx7, hm⟩ := bind_some hm
   refine CWalk.drawM [[], [0], [], [2], [2, 3], [0, 1, 2, 3, 4], [0, 1, 2, 3, 4, 5], [0, 1, 2, 3, 4, 5, 6]] [[.fact 19 (.pto 10 1)], [.fact 20 (.ow [27] [25, 26] 31 (s3 : List (List UInt8)))], [.fact 21 (.rep [0] (x5 : List UInt8))], [.fact 22 (.ow [25] [] 5 (x6 : List UInt8))], [.fact 23 (.rep [26, 25] ([x6] : List (List UInt8)))], [.fact 24 (.ow [27] [25, 26] 31 (x7 : List (List UInt8))), .kill 27], [.fact 25 (.pto 10 1)], [.fact 100012 (.at 12 (.ow [27] [25, 26] 31 (x7 : List (List UInt8)))), .fact 100010 (.obj 10 [(false, 1), (false, 1), (false, 1), (false, 1), (false, 1), (false, 1)]), .kill 10, .killId 12]] mixed (by kernel_rfl) (ao (so (Spec.fieldAddrO fd28_1 (Has.cv (Has.s rfl) (Cv.isvP rfl)))) (ao (so (Spec.loadF (i := 1) ty25 rfl (Has.s rfl) rfl (HasG.s rfl))) (ao (so (Spec.move (Has.s rfl))) (ao (so (Spec.callE [0] 25 rfl en44 (slices_Clone_byte_byte_c x5 hx6) (HasAll.cons (Has.m (Has.s rfl) rfl) HasAll.nil))) (ao (so (Spec.lit (xs := [.tmp 22]) (T := [25]) 26 rfl ow25 rfl rfl rfl rfl (HasEach.cons (Has.m (Has.cv (Has.s rfl) (Cv.trans Cv.owSl (Cv.slRep (T' := [25]) rfl rfl))) rfl) HasEach.nil))) (ao (StepG.stE (Step.appendOw (T := [27]) (te' := [25, 26]) hx7 rfl rfl rfl ow25 (Has.s rfl) (Has.s rfl) (ElKeeps.tags rfl rfl) (ElKeeps.tags rfl rfl))) (ao (so (Spec.fieldAddrO fd28_1 (Has.cv (Has.s rfl) (Cv.isvP rfl)))) (ao (StepG.stE (Step.storeF (i := 1) (f := Fact.ow [27] [25, 26] 31 (x7 : List (List UInt8))) rfl ty25 rfl (Has.s rfl) rfl (Has.cv (Has.s rfl) (Cv.trans Cv.owSl (Cv.slRep (T' := [25, 26, 27]) rfl rfl))) (Has.s rfl) rfl)) AllM.nil)))))))) ?_
   refine Leaf.blockN ?_
   refine Leaf.thenN ?_
   refine CWalk.region ?_
   refine wo (Spec.addI (Has.s rfl) Has.int) ?_
   refine mv ?_
   refine Walk.nil ?_
   exact Leaf.next hm (sn (sn (su (st (st (sf (Sub.cons (Has.at (HasG.cv (HasG.s rfl) (Cv.owM (T := [27]) (te := [25, 26]) rfl rfl))) (Sub.cons (Has.at (HasG.cv (HasG.s rfl) (Cv.owF (T := [24]) (te := []) rfl))) (sf (sf (sf (sf (sg (sg (sf (sf (sf (sn (sn Sub.nil)))))))))))))))))))
  ·have hm := cond_f hb hm
   refine CWalk.exit ?_
   refine Leaf.thenE ?_
   exact Leaf.brk hm (fun h => nomatch h) rfl (sn (sn (sf (Sub.cons (Has.at (HasG.cv (HasG.s rfl) (Cv.owM (T := [27]) (te := [25, 26]) rfl rfl))) (Sub.cons (Has.at (HasG.cv (HasG.s rfl) (Cv.owF (T := [24]) (te := []) rfl))) (sf (sf (sf (sf (sg (sg (sf (sf (sf (sn (sn Sub.nil))))))))))))))))
 ·intro _
  refine Leaf.blockE ?_
  refine Leaf.thenN ?_
  refine CWalk.seq ?_
  refine CWalk.region ?_
  refine wo (Spec.loadObj (ls := [(false, 1, Fact.rep [] a0.Stripe), (false, 1, Fact.ow [27] [25, 26] 31 (b8 : List (List UInt8))), (false, 1, Fact.ow [24] [] 4 (x1 : List Bool)), (false, 1, Fact.rep [] a0.Phase), (false, 1, Fact.rep [] a0.Deals), (false, 1, Fact.rep [] a0.Seq)]) ty28 rfl rfl (Has.s rfl) rfl (HasGs.cons (HasG.s rfl) (HasGs.cons (HasG.s rfl) (HasGs.cons (HasG.s rfl) (HasGs.cons (HasG.s rfl) (HasGs.cons (HasG.s rfl) (HasGs.cons (HasG.s rfl) HasGs.nil))))))) ?_
  refine ws (Step.storeObj (ls := [(false, 1, Fact.rep [] a0.Stripe), (false, 1, Fact.ow [27] [25, 26] 31 (b8 : List (List UInt8))), (false, 1, Fact.ow [24] [] 4 (x1 : List Bool)), (false, 1, Fact.rep [] a0.Phase), (false, 1, Fact.rep [] a0.Deals), (false, 1, Fact.rep [] a0.Seq)]) rfl ty28 rfl rfl (Has.s rfl) rfl (HasL.flds (Has.s rfl)) rfl) ?_
  refine Walk.nil ?_
  refine Leaf.thenN ?_
  refine CWalk.ret ?_
  obtain rfl := Option.some.inj hm
  exact Leaf.retC1 rfl (HasR.cv (HasR.obj (ls := [(false, 1, Fact.rep [] a0.Stripe), (false, 1, Fact.ow [27] [25, 26] 31 (b8 : List (List UInt8))), (false, 1, Fact.ow [24] [] 4 (x1 : List Bool)), (false, 1, Fact.rep [] a0.Phase), (false, 1, Fact.rep [] a0.Deals), (false, 1, Fact.rep [] a0.Seq)]) ty28 rfl rfl (Has.s rfl) rfl (HasGs.cons (HasG.s rfl) (HasGs.cons (HasG.s rfl) (HasGs.cons (HasG.s rfl) (HasGs.cons (HasG.s rfl) (HasGs.cons (HasG.s rfl) (HasGs.cons (HasG.s rfl) HasGs.nil))))))) (Cv.flds (CvL.cons Cv.fl (CvL.cons (Cv.owM (T := [27]) (te := [25, 26]) rfl rfl) (CvL.cons (Cv.owF (T := [24]) (te := []) rfl) (CvL.cons Cv.fl (CvL.cons Cv.fl (CvL.cons Cv.fl CvL.nil))))))))

/-- freeboard/head.block -/
def head_block (a0 : List UInt8) : Option ((List UInt8)) :=
  (bif (((a0).length : Int) == (0 : Int)) then Option.bind (makeL (0 : UInt8) (128 : Int)) (fun x1 => some x1) else Option.bind (slices_Clone_byte_byte a0) (fun x2 => some x2))
set_option maxRecDepth 100000 in
set_option maxHeartbeats 2000000 in
theorem head_block_c (a0 : List UInt8) {r : (List UInt8)} (hm : head_block a0 = some r) : Ctr Try.prog 50 [.rep 0 a0] (.own 0 none 5 r) [] := by
 refine ctr_of_walk [[10, 11]] 9 Try.func50 rfl rfl rfl rfl (fun w0 om => ?_)
 unfold head_block at hm
 refine CWalk.sub (G' := [.fact 0 (.rep [0] (a0 : List UInt8))]) (sn Sub.nil) ?_
 refine CWalk.seq ?_
 refine CWalk.region ?_
 refine wo (Spec.assign Has.nilv) ?_
 refine Walk.nil ?_
 refine Leaf.thenN ?_
 refine CWalk.seq ?_
 refine CWalk.seq ?_
 refine CWalk.region ?_
 refine mv ?_
 refine wo (Spec.len (Has.s rfl) Try.underlying31) ?_
 refine wo (Spec.eqlI (Has.s rfl) Has.int) ?_
 refine Walk.nil ?_
 refine Leaf.thenN ?_
 refine CWalk.cond rfl (fun hb => ?_) (fun hb => ?_)
 ·have hm := cond_t hb hm
  refine CWalk.seq ?_
  refine CWalk.region ?_
  obtain ⟨x1, hx1, hm⟩ := bind_some hm
  refine ws (Step.makeOwn 10 hx1 rfl rfl ow31 zt5 Has.int) ?_
  refine wo (Spec.assign (Has.s rfl)) ?_
  refine Walk.nil ?_
  refine Leaf.thenN ?_
  refine CWalk.ret ?_
  refine Leaf.thenR ?_
  obtain rfl := Option.some.inj hm
  exact Leaf.retC1 rfl (HasR.cv (HasR.tmp (Has.s rfl)) (Cv.trans (Cv.isvOw rfl) (Cv.owF (T := [10]) (te := []) rfl)))
 ·have hm := cond_f hb hm
  refine CWalk.skip ?_
  refine Leaf.thenN ?_
  refine CWalk.seq ?_
  refine CWalk.region ?_
  refine mv ?_
  obtain ⟨x2, hx2, hm⟩ := bind_some hm
  refine wo (f := Fact.ow [11] [] 5 (x2 : List UInt8)) (Spec.callE [0] 11 rfl en44 (slices_Clone_byte_byte_c a0 hx2) (HasAll.cons (Has.m (Has.s rfl) rfl) HasAll.nil)) ?_
  refine wo (Spec.assign (Has.s rfl)) ?_
  refine Walk.nil ?_
  refine Leaf.thenN ?_
  refine CWalk.ret ?_
  obtain rfl := Option.some.inj hm
  exact Leaf.retC1 rfl (HasR.cv (HasR.tmp (Has.s rfl)) (Cv.owF (T := [11]) (te := []) rfl))

def head_Take_J1 (j1 : Int) (j2 : List (List UInt8)) (j3 : List Bool) (j4 : UInt8) (j5 : Bool) (j6 : UInt32) (j7 : Int) : Option (Head × Int) :=
  some ((Head.mk j1 j2 j3 j4 j5 j6), j7)
def head_Take_J2 (j11 : Int) (j12 : Int) (j13 : List (List UInt8)) (j14 : List Bool) (j15 : UInt8) (j16 : Bool) (j17 : UInt32) : Option (Head × Int) :=
  (head_Take_J1 j12 j13 j14 j15 j16 j17 j11)
def head_Take_J3 (x10 : Head) (j18 : Int) (j19 : List (List UInt8)) (j20 : List Bool) (j21 : UInt8) : Option (Head × Int) :=
  (bif (j18 == (0 : Int)) then (head_Take_J2 j18 x10.Stripe j19 j20 j21 x10.Deals x10.Seq) else (head_Take_J2 j18 (0 : Int) ([] : List (List UInt8)) ([] : List Bool) (0 : UInt8) false (0 : UInt32)))
/-- freeboard/head.Take -/
def head_Take (a0 : Config) (a1 : Head) (a2 : Int) (a3 : List UInt8) : Option (Head × Int) :=
  Option.bind (head_Check a0 a1) (fun x8 => (bif (x8 != (0 : Int)) then (head_Take_J1 (0 : Int) ([] : List (List UInt8)) ([] : List Bool) (0 : UInt8) false (0 : UInt32) x8) else (bif ((decide (a2 < (0 : Int))) || (decide (a2 ≥ (wI (a0.Members - (1 : Int)))))) then (head_Take_J1 (0 : Int) ([] : List (List UInt8)) ([] : List Bool) (0 : UInt8) false (0 : UInt32) (2 : Int)) else Option.bind (head_odd a3) (fun x9 => (bif x9 then (head_Take_J1 (0 : Int) ([] : List (List UInt8)) ([] : List Bool) (0 : UInt8) false (0 : UInt32) (3 : Int)) else Option.bind (head_Twin a1) (fun x10 => (bif (decide ((x10.Phase.toNat : Int) > ((1 : UInt8).toNat : Int))) then (head_Take_J3 x10 (160 : Int) x10.Blocks x10.Dirty x10.Phase) else Option.bind (bnd (x10.Blocks).length (wI (a0.Members - (1 : Int)))) (fun x22 => Option.bind (head_block a3) (fun x23 => Option.bind (bnd ((x10.Blocks).set x22 ([] : List UInt8)).length a2) (fun x24 => Option.bind (bnd (x10.Dirty).length a2) (fun x25 => (head_Take_J3 x10 (0 : Int) (((x10.Blocks).set x22 ([] : List UInt8)).set x24 x23) ((x10.Dirty).set x25 true) (0 : UInt8)))))))))))))
set_option maxRecDepth 100000 in
set_option maxHeartbeats 2000000 in
theorem head_Take_c (a0 : Config) (a1 : Head) (a2 : Int) (a3 : List UInt8) {r : Head × Int} (hm : head_Take a0 a1 a2 a3 = some r) : Ctr Try.prog 17 [.rep 0 a0, .rep 0 a1, .rep 0 a2, .rep 0 a3] (.tup2 (.flds [(false, 1, (.fl r.1.Stripe)), (false, 1, (.own 0 (some 1) 31 r.1.Blocks)), (false, 1, (.own 2 none 4 r.1.Dirty)), (false, 1, (.fl r.1.Phase)), (false, 1, (.fl r.1.Deals)), (false, 1, (.fl r.1.Seq))]) (.fl r.2)) [] := by
 refine ctr_of_walk [[58, 68], [59, 70], [60, 69]] 18 Try.func17 rfl rfl rfl rfl (fun w0 om => ?_)
 unfold head_Take at hm
 refine CWalk.sub (G' := [.fact 0 (.rep [] (a0 : Config)), .fact 1 (.rep [0] (a1 : Head)), .fact 2 (.rep [] (a2 : Int)), .fact 3 (.rep [0] (a3 : List UInt8))]) (Sub.cons (Has.fl (Has.s rfl)) (sn (Sub.cons (Has.fl (Has.s rfl)) (sn Sub.nil)))) ?_
 refine CWalk.seq ?_
 refine CWalk.region ?_
 refine ws (Step.boxObj (ls := [(false, 1, Fact.rep [] a0.Id), (false, 1, Fact.rep [] a0.Members), (false, 1, Fact.rep [] a0.Chunk), (false, 1, Fact.rep [] a0.Rows), (false, 1, Fact.rep [] a0.Log), (false, 1, Fact.rep [] a0.Heads)]) 10 rfl rfl rfl rfl (HasL.flds (Has.cv (Has.s rfl) (Cv.trans (Cv.opens (chConfig a0)) (Cv.flds (CvL.cons Cv.fl (CvL.cons Cv.fl (CvL.cons Cv.fl (CvL.cons Cv.fl (CvL.cons Cv.fl (CvL.cons Cv.fl CvL.nil))))))))))) ?_
 refine ws (Step.boxObj (ls := [(false, 1, Fact.rep [] a1.Stripe), (false, 1, Fact.rep [0] a1.Blocks), (false, 1, Fact.rep [0] a1.Dirty), (false, 1, Fact.rep [] a1.Phase), (false, 1, Fact.rep [] a1.Deals), (false, 1, Fact.rep [] a1.Seq)]) 17 rfl rfl rfl rfl (HasL.flds (Has.cv (Has.s rfl) (Cv.trans (Cv.opens (chHead a1)) (Cv.flds (CvL.cons Cv.fl (CvL.cons Cv.refl (CvL.cons Cv.refl (CvL.cons Cv.fl (CvL.cons Cv.fl (CvL.cons Cv.fl CvL.nil))))))))))) ?_
 refine ws (Step.boxObj (ls := [(false, 1, Fact.rep [] (a2 : Int))]) 24 rfl rfl rfl rfl (HasL.one (Has.s rfl) rfl (Has.s rfl))) ?_
 refine ws (Step.boxObj (ls := [(false, 1, Fact.rep [0] (a3 : List UInt8))]) 26 rfl rfl rfl rfl (HasL.one (Has.s rfl) rfl (Has.s rfl))) ?_
 refine ws (Step.allocObj (ls := [(false, 1, Fact.rep [] ((0 : Int) : Int)), (false, 1, Fact.nilv), (false, 1, Fact.nilv), (false, 1, Fact.rep [] ((0 : UInt8) : UInt8)), (false, 1, Fact.rep [] (false : Bool)), (false, 1, Fact.rep [] ((0 : UInt32) : UInt32))]) 28 rfl rfl rfl rfl zl28) ?_
 refine wo (Spec.assign Has.int) ?_
 refine Walk.nil ?_
 refine Leaf.thenN ?_
 refine CWalk.seq ?_
 refine CWalk.region ?_
 refine wo (Spec.loadObj (ls := [(false, 1, Fact.rep [] a0.Id), (false, 1, Fact.rep [] a0.Members), (false, 1, Fact.rep [] a0.Chunk), (false, 1, Fact.rep [] a0.Rows), (false, 1, Fact.rep [] a0.Log), (false, 1, Fact.rep [] a0.Heads)]) ty24 rfl rfl (Has.s rfl) rfl (HasGs.cons (HasG.s rfl) (HasGs.cons (HasG.s rfl) (HasGs.cons (HasG.s rfl) (HasGs.cons (HasG.s rfl) (HasGs.cons (HasG.s rfl) (HasGs.cons (HasG.s rfl) HasGs.nil))))))) ?_
 refine wo (Spec.loadObj (ls := [(false, 1, Fact.rep [] a1.Stripe), (false, 1, Fact.rep [0] a1.Blocks), (false, 1, Fact.rep [0] a1.Dirty), (false, 1, Fact.rep [] a1.Phase), (false, 1, Fact.rep [] a1.Deals), (false, 1, Fact.rep [] a1.Seq)]) ty28 rfl rfl (Has.s rfl) rfl (HasGs.cons (HasG.s rfl) (HasGs.cons (HasG.s rfl) (HasGs.cons (HasG.s rfl) (HasGs.cons (HasG.s rfl) (HasGs.cons (HasG.s rfl) (HasGs.cons (HasG.s rfl) HasGs.nil))))))) ?_
 refine wo (Spec.loadF (i := 0) ty3 rfl (Has.cv (Has.s rfl) (Cv.isvP rfl)) rfl (HasG.s rfl)) ?_
 refine wo (Spec.loadF (i := 0) ty31 rfl (Has.cv (Has.s rfl) (Cv.isvP rfl)) rfl (HasG.s rfl)) ?_
 refine wo (Spec.makeFunc (xs := []) (ys := [.tmp 4, .tmp 7, .tmp 6]) rfl rfl HasF.nil (HasF.cons (Has.s rfl) (HasF.cons (Has.s rfl) (HasF.cons (Has.s rfl) HasF.nil))) (fun _ _ _ => rfl)) ?_
 refine Walk.inline (S := Int × (List (List UInt8)) × (List Bool) × UInt8 × Bool × UInt32 × Int) (fun p : Int × (List (List UInt8)) × (List Bool) × UInt8 × Bool × UInt32 × Int => [.fact 8 (.isv 28), .fact 15 (.tup2 (Fact.flds [(false, 1, Fact.rep [] p.1), (false, 1, Fact.ow [58, 68] [59, 70] 31 (p.2.1 : List (List UInt8))), (false, 1, Fact.ow [60, 69] [] 4 (p.2.2.1 : List Bool)), (false, 1, Fact.rep [] p.2.2.2.1), (false, 1, Fact.rep [] p.2.2.2.2.1), (false, 1, Fact.rep [] p.2.2.2.2.2.1)]) (Fact.rep [] p.2.2.2.2.2.2)), .fact 100029 (.at 29 (.rep [] ((0 : Int) : Int))), .fact 100030 (.at 30 (.nilv)), .fact 100031 (.at 31 (.nilv)), .fact 100032 (.at 32 (.rep [] ((0 : UInt8) : UInt8))), .fact 100033 (.at 33 (.rep [] (false : Bool))), .fact 100034 (.at 34 (.rep [] ((0 : UInt32) : UInt32))), .fact 100028 (.obj 28 [(false, 1), (false, 1), (false, 1), (false, 1), (false, 1), (false, 1)])]) (fun p : Int × (List (List UInt8)) × (List Bool) × UInt8 × Bool × UInt32 × Int => head_Take_J1 p.1 p.2.1 p.2.2.1 p.2.2.2.1 p.2.2.2.2.1 p.2.2.2.2.2.1 p.2.2.2.2.2.2 = some r) (fun u1 => [.fact 100011 (.at 11 (.rep [] a0.Id)), .fact 100012 (.at 12 (.rep [] a0.Members)), .fact 100013 (.at 13 (.rep [] a0.Chunk)), .fact 100014 (.at 14 (.rep [] a0.Rows)), .fact 100015 (.at 15 (.rep [] a0.Log)), .fact 100016 (.at 16 (.rep [] a0.Heads)), .fact 100025 (.at 25 (.rep [] (a2 : Int))), .fact 100027 (.at 27 (.rep [0] (a3 : List UInt8))), .fact 100029 (.at 29 (.rep [] ((0 : Int) : Int))), .fact 100030 (.at 30 (.nilv)), .fact 100031 (.at 31 (.nilv)), .fact 100032 (.at 32 (.rep [] ((0 : UInt8) : UInt8))), .fact 100033 (.at 33 (.rep [] (false : Bool))), .fact 100034 (.at 34 (.rep [] ((0 : UInt32) : UInt32))), .fact 902008 (.cst (u1 8) (Fact.isv 28)), .fact 100010 (.obj 10 [(false, 1), (false, 1), (false, 1), (false, 1), (false, 1), (false, 1)]), .fact 100024 (.obj 24 [(false, 1)]), .fact 100026 (.obj 26 [(false, 1)]), .fact 100028 (.obj 28 [(false, 1), (false, 1), (false, 1), (false, 1), (false, 1), (false, 1)])]) (FA := [Fact.flds [(false, 1, Fact.rep [] a0.Id), (false, 1, Fact.rep [] a0.Members), (false, 1, Fact.rep [] a0.Chunk), (false, 1, Fact.rep [] a0.Rows), (false, 1, Fact.rep [] a0.Log), (false, 1, Fact.rep [] a0.Heads)], Fact.flds [(false, 1, Fact.rep [] a1.Stripe), (false, 1, Fact.rep [0] a1.Blocks), (false, 1, Fact.rep [0] a1.Dirty), (false, 1, Fact.rep [] a1.Phase), (false, 1, Fact.rep [] a1.Deals), (false, 1, Fact.rep [] a1.Seq)], Fact.rep [] (a2 : Int), Fact.rep [0] (a3 : List UInt8), Fact.fnv 49 [] [Fact.isv 10, Fact.isv 26, Fact.isv 24]]) rfl Try.func48 rfl rfl rfl (CallOk.fn en48 (HasF.cons (Has.s rfl) (HasF.cons (Has.s rfl) (HasF.cons (Has.s rfl) (HasF.cons (Has.s rfl) (HasF.cons (Has.s rfl) HasF.nil)))))) (fun u1 => (ck (ck (ck (ck (ck (ck (ck (ck (ck (ck (ck (ck (ck (ck (cs 902000 8 (ck (ck (ck (ck Carry.nil)))))))))))))))))))) (fun u1 => ?_) ?_
 ·refine CWalk.seq ?_
  refine CWalk.region ?_
  refine ws (Step.boxObj (ls := [(false, 1, Fact.rep [] a0.Id), (false, 1, Fact.rep [] a0.Members), (false, 1, Fact.rep [] a0.Chunk), (false, 1, Fact.rep [] a0.Rows), (false, 1, Fact.rep [] a0.Log), (false, 1, Fact.rep [] a0.Heads)]) 35 rfl rfl rfl rfl (HasL.flds (Has.s rfl))) ?_
  refine ws (Step.boxObj (ls := [(false, 1, Fact.rep [] a1.Stripe), (false, 1, Fact.rep [0] a1.Blocks), (false, 1, Fact.rep [0] a1.Dirty), (false, 1, Fact.rep [] a1.Phase), (false, 1, Fact.rep [] a1.Deals), (false, 1, Fact.rep [] a1.Seq)]) 42 rfl rfl rfl rfl (HasL.flds (Has.s rfl))) ?_
  refine ws (Step.allocObj (ls := [(false, 1, Fact.rep [] ((0 : Int) : Int)), (false, 1, Fact.nilv), (false, 1, Fact.nilv), (false, 1, Fact.rep [] ((0 : UInt8) : UInt8)), (false, 1, Fact.rep [] (false : Bool)), (false, 1, Fact.rep [] ((0 : UInt32) : UInt32))]) 49 rfl rfl rfl rfl zl28) ?_
  refine wo (Spec.assign Has.int) ?_
  refine Walk.nil ?_
  refine Leaf.thenN ?_
  refine CWalk.seq ?_
  refine CWalk.seq ?_
  refine CWalk.region ?_
  refine wo (Spec.loadObj (ls := [(false, 1, Fact.rep [] a0.Id), (false, 1, Fact.rep [] a0.Members), (false, 1, Fact.rep [] a0.Chunk), (false, 1, Fact.rep [] a0.Rows), (false, 1, Fact.rep [] a0.Log), (false, 1, Fact.rep [] a0.Heads)]) ty24 rfl rfl (Has.s rfl) rfl (HasGs.cons (HasG.s rfl) (HasGs.cons (HasG.s rfl) (HasGs.cons (HasG.s rfl) (HasGs.cons (HasG.s rfl) (HasGs.cons (HasG.s rfl) (HasGs.cons (HasG.s rfl) HasGs.nil))))))) ?_
  refine wo (Spec.loadObj (ls := [(false, 1, Fact.rep [] a1.Stripe), (false, 1, Fact.rep [0] a1.Blocks), (false, 1, Fact.rep [0] a1.Dirty), (false, 1, Fact.rep [] a1.Phase), (false, 1, Fact.rep [] a1.Deals), (false, 1, Fact.rep [] a1.Seq)]) ty28 rfl rfl (Has.s rfl) rfl (HasGs.cons (HasG.s rfl) (HasGs.cons (HasG.s rfl) (HasGs.cons (HasG.s rfl) (HasGs.cons (HasG.s rfl) (HasGs.cons (HasG.s rfl) (HasGs.cons (HasG.s rfl) HasGs.nil))))))) ?_
  obtain ⟨x8, hx8, hm⟩ := bind_some hm
  refine wo (f := Fact.rep [] (x8 : Int)) (Spec.callE [0] 56 rfl en24 (head_Check_c a0 a1 hx8) (HasAll.cons (Has.fl (Has.cv (Has.s rfl) (Cv.trans (Cv.flds (CvL.cons Cv.fl (CvL.cons Cv.fl (CvL.cons Cv.fl (CvL.cons Cv.fl (CvL.cons Cv.fl (CvL.cons Cv.fl CvL.nil))))))) (Cv.close (T := []) (chConfig a0))))) (HasAll.cons (Has.m (Has.cv (Has.s rfl) (Cv.trans (Cv.flds (CvL.cons Cv.fl (CvL.cons (Cv.m rfl) (CvL.cons (Cv.m rfl) (CvL.cons Cv.fl (CvL.cons Cv.fl (CvL.cons Cv.fl CvL.nil))))))) (Cv.close (T := [0]) (chHead a1)))) rfl) HasAll.nil))) ?_
  refine wo (Spec.assign (Has.s rfl)) ?_
  refine Walk.nil ?_
  refine Leaf.thenN ?_
  refine CWalk.seq ?_
  refine CWalk.region ?_
  refine mv ?_
  refine wo (Spec.neqI (Has.s rfl) Has.int) ?_
  refine Walk.nil ?_
  refine Leaf.thenN ?_
  refine CWalk.cond rfl (fun hb => ?_) (fun hb => ?_)
  ·have hm := cond_t hb hm
   refine CWalk.ret ?_
   refine Leaf.thenR ?_
   exact Leaf.in2 ((0 : Int), ([] : List (List UInt8)), ([] : List Bool), (0 : UInt8), false, (0 : UInt32), x8) hm rfl rfl (HasR.cv (HasR.obj (ls := [(false, 1, Fact.rep [] ((0 : Int) : Int)), (false, 1, Fact.nilv), (false, 1, Fact.nilv), (false, 1, Fact.rep [] ((0 : UInt8) : UInt8)), (false, 1, Fact.rep [] (false : Bool)), (false, 1, Fact.rep [] ((0 : UInt32) : UInt32))]) ty28 rfl rfl (Has.s rfl) rfl (HasGs.cons (HasG.s rfl) (HasGs.cons (HasG.s rfl) (HasGs.cons (HasG.s rfl) (HasGs.cons (HasG.s rfl) (HasGs.cons (HasG.s rfl) (HasGs.cons (HasG.s rfl) HasGs.nil))))))) (Cv.flds (CvL.cons Cv.fl (CvL.cons (Cv.trans Cv.nilOw (Cv.owM (T := []) (te := []) rfl rfl)) (CvL.cons (Cv.trans Cv.nilOw (Cv.owF (T := []) (te := []) rfl)) (CvL.cons Cv.fl (CvL.cons Cv.fl (CvL.cons Cv.fl CvL.nil)))))))) (HasR.cv (HasR.tmp (Has.s rfl)) Cv.fl) (ls 902008 (Low.res (lf (lg (lg (lf (lf (lf (lo Low.nil)))))))))
  ·have hm := cond_f hb hm
   refine CWalk.skip ?_
   refine Leaf.thenN ?_
   refine CWalk.seq ?_
   refine CWalk.seq ?_
   refine CWalk.region ?_
   refine mv ?_
   refine wo (Spec.lssI (Has.s rfl) Has.int) ?_
   refine mv ?_
   refine wg rfl rfl (fun hb => Spec.move (Has.s rfl)) ?_
   refine wg rfl rfl (fun hb => Spec.fieldAddrO fd24_1 (Has.cv (Has.s rfl) (Cv.isvP rfl))) ?_
   refine wg rfl rfl (fun hb => Spec.loadF (i := 1) ty3 rfl (Has.u rfl hb) rfl (HasG.s rfl)) ?_
   refine wg rfl rfl (fun hb => Spec.subI (Has.u rfl hb) Has.int) ?_
   refine wg rfl rfl (fun hb => Spec.geqI (Has.u rfl hb) (Has.u rfl hb)) ?_
   refine wo (Spec.or (Has.s rfl) (fun h => Has.u rfl h)) ?_
   refine Walk.nil ?_
   refine Leaf.thenN ?_
   refine CWalk.cond rfl (fun hb => ?_) (fun hb => ?_)
   ·have hm := cond_t hb hm
    refine CWalk.seq ?_
    refine CWalk.region ?_
    refine wo (Spec.loadObj (ls := [(false, 1, Fact.rep [] ((0 : Int) : Int)), (false, 1, Fact.nilv), (false, 1, Fact.nilv), (false, 1, Fact.rep [] ((0 : UInt8) : UInt8)), (false, 1, Fact.rep [] (false : Bool)), (false, 1, Fact.rep [] ((0 : UInt32) : UInt32))]) ty28 rfl rfl (Has.s rfl) rfl (HasGs.cons (HasG.s rfl) (HasGs.cons (HasG.s rfl) (HasGs.cons (HasG.s rfl) (HasGs.cons (HasG.s rfl) (HasGs.cons (HasG.s rfl) (HasGs.cons (HasG.s rfl) HasGs.nil))))))) ?_
    refine ws (Step.storeObj (ls := [(false, 1, Fact.rep [] ((0 : Int) : Int)), (false, 1, Fact.nilv), (false, 1, Fact.nilv), (false, 1, Fact.rep [] ((0 : UInt8) : UInt8)), (false, 1, Fact.rep [] (false : Bool)), (false, 1, Fact.rep [] ((0 : UInt32) : UInt32))]) rfl ty28 rfl rfl (Has.s rfl) rfl (HasL.flds (Has.s rfl)) rfl) ?_
    refine wo (Spec.assign Has.int) ?_
    refine Walk.nil ?_
    refine Leaf.thenN ?_
    refine CWalk.ret ?_
    refine Leaf.thenR ?_
    exact Leaf.in2 ((0 : Int), ([] : List (List UInt8)), ([] : List Bool), (0 : UInt8), false, (0 : UInt32), (2 : Int)) hm rfl rfl (HasR.cv (HasR.obj (ls := [(false, 1, Fact.rep [] ((0 : Int) : Int)), (false, 1, Fact.nilv), (false, 1, Fact.nilv), (false, 1, Fact.rep [] ((0 : UInt8) : UInt8)), (false, 1, Fact.rep [] (false : Bool)), (false, 1, Fact.rep [] ((0 : UInt32) : UInt32))]) ty28 rfl rfl (Has.s rfl) rfl (HasGs.cons (HasG.s rfl) (HasGs.cons (HasG.s rfl) (HasGs.cons (HasG.s rfl) (HasGs.cons (HasG.s rfl) (HasGs.cons (HasG.s rfl) (HasGs.cons (HasG.s rfl) HasGs.nil))))))) (Cv.flds (CvL.cons Cv.fl (CvL.cons (Cv.trans Cv.nilOw (Cv.owM (T := []) (te := []) rfl rfl)) (CvL.cons (Cv.trans Cv.nilOw (Cv.owF (T := []) (te := []) rfl)) (CvL.cons Cv.fl (CvL.cons Cv.fl (CvL.cons Cv.fl CvL.nil)))))))) (HasR.cv (HasR.tmp (Has.s rfl)) Cv.fl) (ls 902008 (Low.res (lf (lg (lg (lf (lf (lf (lo Low.nil)))))))))
   ·have hm := cond_f hb hm
    refine CWalk.skip ?_
    refine Leaf.thenN ?_
    refine CWalk.seq ?_
    refine CWalk.seq ?_
    refine CWalk.region ?_
    refine mv ?_
    obtain ⟨x9, hx9, hm⟩ := bind_some hm
    refine wo (f := Fact.rep [] (x9 : Bool)) (Spec.callE [0] 57 rfl en58 (head_odd_c a3 hx9) (HasAll.cons (Has.m (Has.s rfl) rfl) HasAll.nil)) ?_
    refine Walk.nil ?_
    refine Leaf.thenN ?_
    refine CWalk.cond rfl (fun hb => ?_) (fun hb => ?_)
    ·have hm := cond_t hb hm
     refine CWalk.seq ?_
     refine CWalk.region ?_
     refine wo (Spec.loadObj (ls := [(false, 1, Fact.rep [] ((0 : Int) : Int)), (false, 1, Fact.nilv), (false, 1, Fact.nilv), (false, 1, Fact.rep [] ((0 : UInt8) : UInt8)), (false, 1, Fact.rep [] (false : Bool)), (false, 1, Fact.rep [] ((0 : UInt32) : UInt32))]) ty28 rfl rfl (Has.s rfl) rfl (HasGs.cons (HasG.s rfl) (HasGs.cons (HasG.s rfl) (HasGs.cons (HasG.s rfl) (HasGs.cons (HasG.s rfl) (HasGs.cons (HasG.s rfl) (HasGs.cons (HasG.s rfl) HasGs.nil))))))) ?_
     refine ws (Step.storeObj (ls := [(false, 1, Fact.rep [] ((0 : Int) : Int)), (false, 1, Fact.nilv), (false, 1, Fact.nilv), (false, 1, Fact.rep [] ((0 : UInt8) : UInt8)), (false, 1, Fact.rep [] (false : Bool)), (false, 1, Fact.rep [] ((0 : UInt32) : UInt32))]) rfl ty28 rfl rfl (Has.s rfl) rfl (HasL.flds (Has.s rfl)) rfl) ?_
     refine wo (Spec.assign Has.int) ?_
     refine Walk.nil ?_
     refine Leaf.thenN ?_
     refine CWalk.ret ?_
     refine Leaf.thenR ?_
     exact Leaf.in2 ((0 : Int), ([] : List (List UInt8)), ([] : List Bool), (0 : UInt8), false, (0 : UInt32), (3 : Int)) hm rfl rfl (HasR.cv (HasR.obj (ls := [(false, 1, Fact.rep [] ((0 : Int) : Int)), (false, 1, Fact.nilv), (false, 1, Fact.nilv), (false, 1, Fact.rep [] ((0 : UInt8) : UInt8)), (false, 1, Fact.rep [] (false : Bool)), (false, 1, Fact.rep [] ((0 : UInt32) : UInt32))]) ty28 rfl rfl (Has.s rfl) rfl (HasGs.cons (HasG.s rfl) (HasGs.cons (HasG.s rfl) (HasGs.cons (HasG.s rfl) (HasGs.cons (HasG.s rfl) (HasGs.cons (HasG.s rfl) (HasGs.cons (HasG.s rfl) HasGs.nil))))))) (Cv.flds (CvL.cons Cv.fl (CvL.cons (Cv.trans Cv.nilOw (Cv.owM (T := []) (te := []) rfl rfl)) (CvL.cons (Cv.trans Cv.nilOw (Cv.owF (T := []) (te := []) rfl)) (CvL.cons Cv.fl (CvL.cons Cv.fl (CvL.cons Cv.fl CvL.nil)))))))) (HasR.cv (HasR.tmp (Has.s rfl)) Cv.fl) (ls 902008 (Low.res (lf (lg (lg (lf (lf (lf (lo Low.nil)))))))))
    ·have hm := cond_f hb hm
     refine CWalk.skip ?_
     refine Leaf.thenN ?_
     refine CWalk.seq ?_
     refine CWalk.region ?_
     refine wo (Spec.loadObj (ls := [(false, 1, Fact.rep [] a1.Stripe), (false, 1, Fact.rep [0] a1.Blocks), (false, 1, Fact.rep [0] a1.Dirty), (false, 1, Fact.rep [] a1.Phase), (false, 1, Fact.rep [] a1.Deals), (false, 1, Fact.rep [] a1.Seq)]) ty28 rfl rfl (Has.s rfl) rfl (HasGs.cons (HasG.s rfl) (HasGs.cons (HasG.s rfl) (HasGs.cons (HasG.s rfl) (HasGs.cons (HasG.s rfl) (HasGs.cons (HasG.s rfl) (HasGs.cons (HasG.s rfl) HasGs.nil))))))) ?_
     obtain ⟨x10, hx10, hm⟩ := bind_some hm
     refine wo (f := Fact.flds [(false, 1, Fact.rep [] x10.Stripe), (false, 1, Fact.ow [58] [59] 31 (x10.Blocks : List (List UInt8))), (false, 1, Fact.ow [60] [] 4 (x10.Dirty : List Bool)), (false, 1, Fact.rep [] x10.Phase), (false, 1, Fact.rep [] x10.Deals), (false, 1, Fact.rep [] x10.Seq)]) (Spec.callE [0] 58 rfl en23 (head_Twin_c a1 hx10) (HasAll.cons (Has.m (Has.cv (Has.s rfl) (Cv.trans (Cv.flds (CvL.cons Cv.fl (CvL.cons (Cv.m rfl) (CvL.cons (Cv.m rfl) (CvL.cons Cv.fl (CvL.cons Cv.fl (CvL.cons Cv.fl CvL.nil))))))) (Cv.close (T := [0]) (chHead a1)))) rfl) HasAll.nil)) ?_
     refine ws (Step.allocObj (ls := [(false, 1, Fact.rep [] ((0 : Int) : Int)), (false, 1, Fact.nilv), (false, 1, Fact.nilv), (false, 1, Fact.rep [] ((0 : UInt8) : UInt8)), (false, 1, Fact.rep [] (false : Bool)), (false, 1, Fact.rep [] ((0 : UInt32) : UInt32))]) 61 rfl rfl rfl rfl zl28) ?_
     refine ws (Step.storeObj (ls := [(false, 1, Fact.rep [] x10.Stripe), (false, 1, Fact.ow [58] [59] 31 (x10.Blocks : List (List UInt8))), (false, 1, Fact.ow [60] [] 4 (x10.Dirty : List Bool)), (false, 1, Fact.rep [] x10.Phase), (false, 1, Fact.rep [] x10.Deals), (false, 1, Fact.rep [] x10.Seq)]) rfl ty28 rfl rfl (Has.s rfl) rfl (HasL.flds (Has.s rfl)) rfl) ?_
     refine Walk.nil ?_
     refine Leaf.thenN ?_
     refine CWalk.seqJ (fun p : Int × Int × (List (List UInt8)) × (List Bool) × UInt8 × Bool × UInt32 => [.fact 10 (.isv 49), .fact 11 (.rep [] p.1), .fact 902008 (.cst (u1 8) (Fact.isv 28)), .fact 100050 (.at 50 (.rep [] p.2.1)), .fact 100051 (.at 51 (.ow [58, 68] [59, 70] 31 (p.2.2.1 : List (List UInt8)))), .fact 100052 (.at 52 (.ow [60, 69] [] 4 (p.2.2.2.1 : List Bool))), .fact 100053 (.at 53 (.rep [] p.2.2.2.2.1)), .fact 100054 (.at 54 (.rep [] p.2.2.2.2.2.1)), .fact 100055 (.at 55 (.rep [] p.2.2.2.2.2.2)), .fact 100029 (.at 29 (.rep [] ((0 : Int) : Int))), .fact 100030 (.at 30 (.nilv)), .fact 100031 (.at 31 (.nilv)), .fact 100032 (.at 32 (.rep [] ((0 : UInt8) : UInt8))), .fact 100033 (.at 33 (.rep [] (false : Bool))), .fact 100034 (.at 34 (.rep [] ((0 : UInt32) : UInt32))), .fact 100049 (.obj 49 [(false, 1), (false, 1), (false, 1), (false, 1), (false, 1), (false, 1)]), .fact 100028 (.obj 28 [(false, 1), (false, 1), (false, 1), (false, 1), (false, 1), (false, 1)])]) (fun p : Int × Int × (List (List UInt8)) × (List Bool) × UInt8 × Bool × UInt32 => head_Take_J2 p.1 p.2.1 p.2.2.1 p.2.2.2.1 p.2.2.2.2.1 p.2.2.2.2.2.1 p.2.2.2.2.2.2 = some r) ?_ ?_
     ·rintro ⟨j11, j12, j13, j14, j15, j16, j17⟩ hm
      replace hm : head_Take_J2 j11 j12 j13 j14 j15 j16 j17 = some r := hm
      unfold head_Take_J2 at hm
      show CWalk _ [.fact 10 (.isv 49), .fact 11 (.rep [] (j11 : Int)), .fact 902008 (.cst (u1 8) (Fact.isv 28)), .fact 100050 (.at 50 (.rep [] (j12 : Int))), .fact 100051 (.at 51 (.ow [58, 68] [59, 70] 31 (j13 : List (List UInt8)))), .fact 100052 (.at 52 (.ow [60, 69] [] 4 (j14 : List Bool))), .fact 100053 (.at 53 (.rep [] (j15 : UInt8))), .fact 100054 (.at 54 (.rep [] (j16 : Bool))), .fact 100055 (.at 55 (.rep [] (j17 : UInt32))), .fact 100029 (.at 29 (.rep [] ((0 : Int) : Int))), .fact 100030 (.at 30 (.nilv)), .fact 100031 (.at 31 (.nilv)), .fact 100032 (.at 32 (.rep [] ((0 : UInt8) : UInt8))), .fact 100033 (.at 33 (.rep [] (false : Bool))), .fact 100034 (.at 34 (.rep [] ((0 : UInt32) : UInt32))), .fact 100049 (.obj 49 [(false, 1), (false, 1), (false, 1), (false, 1), (false, 1), (false, 1)]), .fact 100028 (.obj 28 [(false, 1), (false, 1), (false, 1), (false, 1), (false, 1), (false, 1)])] _ _
      refine CWalk.ret ?_
      exact Leaf.in2 (j12, j13, j14, j15, j16, j17, j11) hm rfl rfl (HasR.cv (HasR.obj (ls := [(false, 1, Fact.rep [] (j12 : Int)), (false, 1, Fact.ow [58, 68] [59, 70] 31 (j13 : List (List UInt8))), (false, 1, Fact.ow [60, 69] [] 4 (j14 : List Bool)), (false, 1, Fact.rep [] (j15 : UInt8)), (false, 1, Fact.rep [] (j16 : Bool)), (false, 1, Fact.rep [] (j17 : UInt32))]) ty28 rfl rfl (Has.s rfl) rfl (HasGs.cons (HasG.s rfl) (HasGs.cons (HasG.s rfl) (HasGs.cons (HasG.s rfl) (HasGs.cons (HasG.s rfl) (HasGs.cons (HasG.s rfl) (HasGs.cons (HasG.s rfl) HasGs.nil))))))) (Cv.flds (CvL.cons Cv.fl (CvL.cons (Cv.owM (T := [58, 68]) (te := [59, 70]) rfl rfl) (CvL.cons (Cv.owF (T := [60, 69]) (te := []) rfl) (CvL.cons Cv.fl (CvL.cons Cv.fl (CvL.cons Cv.fl CvL.nil)))))))) (HasR.cv (HasR.tmp (Has.s rfl)) Cv.fl) (ls 902008 (Low.res (lf (lg (lg (lf (lf (lf (lo Low.nil)))))))))
     ·refine CWalk.seq ?_
      refine CWalk.region ?_
      refine mv ?_
      refine Walk.inline (S := Int × (List (List UInt8)) × (List Bool) × UInt8) (fun p : Int × (List (List UInt8)) × (List Bool) × UInt8 => [.fact 10 (.isv 49), .fact 12 (.isv 61), .fact 34 (.rep [] p.1), .fact 902008 (.cst (u1 8) (Fact.isv 28)), .fact 100050 (.at 50 (.rep [] ((0 : Int) : Int))), .fact 100051 (.at 51 (.nilv)), .fact 100052 (.at 52 (.nilv)), .fact 100053 (.at 53 (.rep [] ((0 : UInt8) : UInt8))), .fact 100054 (.at 54 (.rep [] (false : Bool))), .fact 100055 (.at 55 (.rep [] ((0 : UInt32) : UInt32))), .fact 100062 (.at 62 (.rep [] x10.Stripe)), .fact 100063 (.at 63 (.ow [58, 68] [59, 70] 31 (p.2.1 : List (List UInt8)))), .fact 100064 (.at 64 (.ow [60, 69] [] 4 (p.2.2.1 : List Bool))), .fact 100065 (.at 65 (.rep [] p.2.2.2)), .fact 100066 (.at 66 (.rep [] x10.Deals)), .fact 100067 (.at 67 (.rep [] x10.Seq)), .fact 100029 (.at 29 (.rep [] ((0 : Int) : Int))), .fact 100030 (.at 30 (.nilv)), .fact 100031 (.at 31 (.nilv)), .fact 100032 (.at 32 (.rep [] ((0 : UInt8) : UInt8))), .fact 100033 (.at 33 (.rep [] (false : Bool))), .fact 100034 (.at 34 (.rep [] ((0 : UInt32) : UInt32))), .fact 100049 (.obj 49 [(false, 1), (false, 1), (false, 1), (false, 1), (false, 1), (false, 1)]), .fact 100061 (.obj 61 [(false, 1), (false, 1), (false, 1), (false, 1), (false, 1), (false, 1)]), .fact 100028 (.obj 28 [(false, 1), (false, 1), (false, 1), (false, 1), (false, 1), (false, 1)])]) (fun p : Int × (List (List UInt8)) × (List Bool) × UInt8 => head_Take_J3 x10 p.1 p.2.1 p.2.2.1 p.2.2.2 = some r) (fun u2 => [.fact 100011 (.at 11 (.rep [] a0.Id)), .fact 100012 (.at 12 (.rep [] a0.Members)), .fact 100013 (.at 13 (.rep [] a0.Chunk)), .fact 100014 (.at 14 (.rep [] a0.Rows)), .fact 100015 (.at 15 (.rep [] a0.Log)), .fact 100016 (.at 16 (.rep [] a0.Heads)), .fact 100025 (.at 25 (.rep [] (a2 : Int))), .fact 100027 (.at 27 (.rep [0] (a3 : List UInt8))), .fact 100029 (.at 29 (.rep [] ((0 : Int) : Int))), .fact 100030 (.at 30 (.nilv)), .fact 100031 (.at 31 (.nilv)), .fact 100032 (.at 32 (.rep [] ((0 : UInt8) : UInt8))), .fact 100033 (.at 33 (.rep [] (false : Bool))), .fact 100034 (.at 34 (.rep [] ((0 : UInt32) : UInt32))), .fact 100050 (.at 50 (.rep [] ((0 : Int) : Int))), .fact 100051 (.at 51 (.nilv)), .fact 100052 (.at 52 (.nilv)), .fact 100053 (.at 53 (.rep [] ((0 : UInt8) : UInt8))), .fact 100054 (.at 54 (.rep [] (false : Bool))), .fact 100055 (.at 55 (.rep [] ((0 : UInt32) : UInt32))), .fact 100062 (.at 62 (.rep [] x10.Stripe)), .fact 100063 (.at 63 (.ow [58] [59] 31 (x10.Blocks : List (List UInt8)))), .fact 100064 (.at 64 (.ow [60] [] 4 (x10.Dirty : List Bool))), .fact 100065 (.at 65 (.rep [] x10.Phase)), .fact 100066 (.at 66 (.rep [] x10.Deals)), .fact 100067 (.at 67 (.rep [] x10.Seq)), .fact 902008 (.cst (u1 8) (Fact.isv 28)), .fact 904010 (.cst (u2 10) (Fact.isv 49)), .fact 904012 (.cst (u2 12) (Fact.isv 61)), .fact 100010 (.obj 10 [(false, 1), (false, 1), (false, 1), (false, 1), (false, 1), (false, 1)]), .fact 100024 (.obj 24 [(false, 1)]), .fact 100026 (.obj 26 [(false, 1)]), .fact 100028 (.obj 28 [(false, 1), (false, 1), (false, 1), (false, 1), (false, 1), (false, 1)]), .fact 100049 (.obj 49 [(false, 1), (false, 1), (false, 1), (false, 1), (false, 1), (false, 1)]), .fact 100061 (.obj 61 [(false, 1), (false, 1), (false, 1), (false, 1), (false, 1), (false, 1)])]) (FA := [Fact.isv 61, Fact.isv 10, Fact.isv 26, Fact.isv 24]) rfl Try.func49 rfl rfl rfl (CallOk.valE en49 (Has.s rfl) (HasF.cons (Has.s rfl) HasF.nil)) (fun u2 => (ck (ck (ck (ck (ck (ck (ck (ck (ck (ck (ck (ck (ck (ck (ck (ck (ck (ck (ck (ck (ck (ck (ck (ck (ck (ck (ck (cs 904000 10 (cs 904000 12 (ck (ck (ck (ck (ck (ck Carry.nil)))))))))))))))))))))))))))))))))))) (fun u2 => ?_) ?_
      ·refine CWalk.seq ?_
       refine CWalk.region ?_
       refine wo (Spec.assign Has.int) ?_
       refine Walk.nil ?_
       refine Leaf.thenN ?_
       refine CWalk.seq ?_
       refine CWalk.seq ?_
       refine CWalk.region ?_
       refine mv ?_
       refine wo (Spec.nilCheckI (Has.s rfl) rfl) ?_
       refine wo (Spec.fieldAddrO fd28_3 (Has.cv (Has.s rfl) (Cv.isvP rfl))) ?_
       refine wo (Spec.loadF (i := 3) ty5 rfl (Has.s rfl) rfl (HasG.s rfl)) ?_
       refine wo (Spec.gtrN (α := UInt8) (Has.s rfl) (Has.u8 1 rfl)) ?_
       refine Walk.nil ?_
       refine Leaf.thenN ?_
       refine CWalk.cond rfl (fun hb => ?_) (fun hb => ?_)
       ·have hm := cond_t hb hm
        refine CWalk.seq ?_
        refine CWalk.region ?_
        refine wo (Spec.assign Has.int) ?_
        refine Walk.nil ?_
        refine Leaf.thenN ?_
        refine CWalk.ret ?_
        refine Leaf.thenR ?_
        exact Leaf.in1 ((160 : Int), x10.Blocks, x10.Dirty, x10.Phase) hm rfl rfl (HasR.cv (HasR.tmp (Has.s rfl)) Cv.fl) (ls 904010 (ls 904012 (Low.res (lc (lf (lg (lg (lf (lf (lf (lf (Low.keepG (HasG.cv (HasG.s rfl) (Cv.owM (T := [58]) (te := [59]) rfl rfl)) (Low.keepG (HasG.cv (HasG.s rfl) (Cv.owF (T := [60]) (te := []) rfl)) (lf (lf (lf (lf (lg (lg (lf (lf (lf (lo (lo (lo Low.nil)))))))))))))))))))))))))
       ·have hm := cond_f hb hm
        refine CWalk.skip ?_
        refine Leaf.thenN ?_
        refine CWalk.seq ?_
        refine CWalk.region ?_
        refine mv ?_
        refine wo (Spec.nilCheckI (Has.s rfl) rfl) ?_
        refine wo (Spec.fieldAddrO fd28_3 (Has.cv (Has.s rfl) (Cv.isvP rfl))) ?_
        refine ws (Step.storeF (i := 3) (f := Fact.rep [] ((0 : UInt8) : UInt8)) rfl ty5 rfl (Has.s rfl) rfl (Has.u8 0 rfl) (Has.u8 0 rfl) rfl) ?_
        refine Walk.nil ?_
        refine Leaf.thenN ?_
        refine CWalk.seq ?_
        refine CWalk.ad (Ad.owF (i := 63) 68 rfl rfl rfl (ElT.tags rfl) rfl (Cv.owM (T := [58]) (te := [59]) (T' := [58]) (te' := [59]) rfl rfl)) ?_
        obtain ⟨x22, hx22, hm⟩ := bind_some hm
        refine CWalk.drawM [[], [0], [0, 1], [0, 1, 2], [], [4], [4, 5], [0, 1, 2, 3, 4, 5, 6], [0, 1, 2, 3, 4, 5, 6, 7]] [[.fact 14 (.isv 61)], [.fact 15 (.isv 61)], [.fact 16 (.pto 61 1)], [.fact 17 (.isv 68)], [.fact 18 (.pto 10 1)], [.fact 19 (.rep [] a0.Members)], [.fact 20 (.rep [] ((wI (a0.Members - (1 : Int))) : Int))], [.fact 21 (.pto 68 (x22 * Rp.n (List UInt8)))], [.fact 100068 (.own 68 [59] 31 ((x10.Blocks).set x22 ([] : List UInt8) : List (List UInt8))), .kill 68]] mixed (by kernel_rfl) (ao (so (Spec.move (Has.s rfl))) (ao (so (Spec.nilCheckI (Has.s rfl) rfl)) (ao (so (Spec.fieldAddrO fd28_1 (Has.cv (Has.s rfl) (Cv.isvP rfl)))) (ao (so (Spec.loadF (i := 1) ty25 rfl (Has.s rfl) rfl (HasG.s rfl))) (ao (so (Spec.fieldAddrO fd24_1 (Has.cv (Has.s rfl) (Cv.isvP rfl)))) (ao (so (Spec.loadF (i := 1) ty3 rfl (Has.s rfl) rfl (HasG.s rfl))) (ao (so (Spec.subI (Has.s rfl) Has.int)) (ao (so (Spec.idxOwn hx22 ow25 (Has.s rfl) rfl (Has.s rfl))) (ao (StepG.stE (Step.storeOwn (te' := [59]) rfl (bnd_lt hx22 rfl) ty31 (Has.s rfl) rfl (Has.nil UInt8) (ElKeep.tags rfl rfl) (ElKeep.tags rfl rfl))) AllM.nil))))))))) ?_
        refine Leaf.thenN ?_
        refine CWalk.seq ?_
        refine CWalk.ad (Ad.owF (i := 64) 69 rfl rfl rfl ElT.flat rfl (Cv.owF (T := [60]) (te := []) (T' := [60]) (te' := []) rfl)) ?_
        obtain ⟨x23, hx23, hm⟩ := bind_some hm
        obtain ⟨x24, hx24, hm⟩ := bind_some hm
        obtain ⟨x25, hx25, hm⟩ := bind_some hm
        refine CWalk.drawM [[], [0], [0, 1], [0, 1, 2], [], [], [5], [5, 6], [5, 6, 7], [], [], [10], [0, 1, 2, 3, 4, 5, 6, 7, 8, 10, 11], [0, 1, 2, 3, 4, 5, 6, 7, 8, 10, 11, 12], [0, 1, 2, 3, 4, 5, 6, 7, 8, 9, 10, 11, 12, 13], [0, 1, 2, 3, 4, 5, 6, 7, 8, 9, 10, 11, 12, 13, 14]] [[.fact 22 (.isv 61)], [.fact 23 (.isv 61)], [.fact 24 (.pto 61 1)], [.fact 25 (.isv 68)], [.fact 26 (.rep [] (a2 : Int))], [.fact 27 (.isv 61)], [.fact 28 (.isv 61)], [.fact 29 (.pto 61 2)], [.fact 30 (.isv 69)], [.fact 31 (.rep [] (a2 : Int))], [.fact 32 (.rep [0] (a3 : List UInt8))], [.fact 33 (.ow [70] [] 5 (x23 : List UInt8))], [.fact 34 (.pto 68 (x24 * Rp.n (List UInt8)))], [.fact 100068 (.own 68 [59, 70] 31 (((x10.Blocks).set x22 ([] : List UInt8)).set x24 x23 : List (List UInt8))), .kill 68], [.fact 35 (.pto 69 (x25 * Rp.n Bool))], [.fact 100069 (.own 69 [] 4 ((x10.Dirty).set x25 true : List Bool)), .kill 69]] mixed (by kernel_rfl) (ao (so (Spec.move (Has.s rfl))) (ao (so (Spec.nilCheckI (Has.s rfl) rfl)) (ao (so (Spec.fieldAddrO fd28_1 (Has.cv (Has.s rfl) (Cv.isvP rfl)))) (ao (so (Spec.loadF (i := 1) ty25 rfl (Has.s rfl) rfl (HasG.s rfl))) (ao (so (Spec.loadF (i := 0) ty3 rfl (Has.cv (Has.s rfl) (Cv.isvP rfl)) rfl (HasG.s rfl))) (ao (so (Spec.move (Has.s rfl))) (ao (so (Spec.nilCheckI (Has.s rfl) rfl)) (ao (so (Spec.fieldAddrO fd28_2 (Has.cv (Has.s rfl) (Cv.isvP rfl)))) (ao (so (Spec.loadF (i := 2) ty26 rfl (Has.s rfl) rfl (HasG.s rfl))) (ao (so (Spec.loadF (i := 0) ty3 rfl (Has.cv (Has.s rfl) (Cv.isvP rfl)) rfl (HasG.s rfl))) (ao (so (Spec.loadF (i := 0) ty31 rfl (Has.cv (Has.s rfl) (Cv.isvP rfl)) rfl (HasG.s rfl))) (ao (so (Spec.callE [0] 70 rfl en50 (head_block_c a3 hx23) (HasAll.cons (Has.m (Has.s rfl) rfl) HasAll.nil))) (ao (so (Spec.idxOwn hx24 ow25 (Has.s rfl) rfl (Has.s rfl))) (ao (StepG.stE (Step.storeOwn (te' := [59, 70]) rfl (bnd_lt hx24 rfl) ty31 (Has.s rfl) rfl (Has.cv (Has.s rfl) (Cv.trans Cv.owSl (Cv.slRep (T' := [70]) rfl rfl))) (ElKeep.tags rfl rfl) (ElKeep.tags rfl rfl))) (ao (so (Spec.idxOwn hx25 ow26 (Has.s rfl) rfl (Has.s rfl))) (ao (StepG.stE (Step.storeOwn (te' := []) rfl (bnd_lt hx25 rfl) ty4 (Has.s rfl) rfl Has.bool ElKeep.flat ElKeep.flat)) AllM.nil)))))))))))))))) ?_
        refine Leaf.thenN ?_
        refine CWalk.seq ?_
        refine CWalk.region ?_
        refine wo (Spec.assign Has.int) ?_
        refine Walk.nil ?_
        refine Leaf.thenN ?_
        refine CWalk.ret ?_
        exact Leaf.in1 ((0 : Int), ((x10.Blocks).set x22 ([] : List UInt8)).set x24 x23, (x10.Dirty).set x25 true, (0 : UInt8)) hm rfl rfl (HasR.cv (HasR.tmp (Has.s rfl)) Cv.fl) (ls 904010 (ls 904012 (Low.res (lc (lf (lg (lg (lf (lf (lf (lf (Low.keepG (HasG.cv (HasG.s rfl) (Cv.trans (Cv.isvOw rfl) (Cv.owM (T := [68]) (te := [59, 70]) rfl rfl))) (Low.keepG (HasG.cv (HasG.s rfl) (Cv.trans (Cv.isvOw rfl) (Cv.owF (T := [69]) (te := []) rfl))) (lf (lf (lf (lf (lg (lg (lf (lf (lf (lo (lo (lo Low.nil)))))))))))))))))))))))))
      ·rintro ⟨j18, j19, j20, j21⟩ hm
       replace hm : head_Take_J3 x10 j18 j19 j20 j21 = some r := hm
       unfold head_Take_J3 at hm
       show Walk _ _ _ [.fact 10 (.isv 49), .fact 12 (.isv 61), .fact 34 (.rep [] (j18 : Int)), .fact 902008 (.cst (u1 8) (Fact.isv 28)), .fact 100050 (.at 50 (.rep [] ((0 : Int) : Int))), .fact 100051 (.at 51 (.nilv)), .fact 100052 (.at 52 (.nilv)), .fact 100053 (.at 53 (.rep [] ((0 : UInt8) : UInt8))), .fact 100054 (.at 54 (.rep [] (false : Bool))), .fact 100055 (.at 55 (.rep [] ((0 : UInt32) : UInt32))), .fact 100062 (.at 62 (.rep [] x10.Stripe)), .fact 100063 (.at 63 (.ow [58, 68] [59, 70] 31 (j19 : List (List UInt8)))), .fact 100064 (.at 64 (.ow [60, 69] [] 4 (j20 : List Bool))), .fact 100065 (.at 65 (.rep [] (j21 : UInt8))), .fact 100066 (.at 66 (.rep [] x10.Deals)), .fact 100067 (.at 67 (.rep [] x10.Seq)), .fact 100029 (.at 29 (.rep [] ((0 : Int) : Int))), .fact 100030 (.at 30 (.nilv)), .fact 100031 (.at 31 (.nilv)), .fact 100032 (.at 32 (.rep [] ((0 : UInt8) : UInt8))), .fact 100033 (.at 33 (.rep [] (false : Bool))), .fact 100034 (.at 34 (.rep [] ((0 : UInt32) : UInt32))), .fact 100049 (.obj 49 [(false, 1), (false, 1), (false, 1), (false, 1), (false, 1), (false, 1)]), .fact 100061 (.obj 61 [(false, 1), (false, 1), (false, 1), (false, 1), (false, 1), (false, 1)]), .fact 100028 (.obj 28 [(false, 1), (false, 1), (false, 1), (false, 1), (false, 1), (false, 1)])] _
       refine wo (Spec.assign (Has.s rfl)) ?_
       refine Walk.nil ?_
       refine Leaf.thenN ?_
       refine CWalk.seq ?_
       refine CWalk.region ?_
       refine mv ?_
       refine wo (Spec.eqlI (Has.s rfl) Has.int) ?_
       refine Walk.nil ?_
       refine Leaf.thenN ?_
       refine CWalk.cond rfl (fun hb => ?_) (fun hb => ?_)
       ·have hm := cond_t hb hm
        refine CWalk.region ?_
        refine wo (Spec.loadObj (ls := [(false, 1, Fact.rep [] x10.Stripe), (false, 1, Fact.ow [58, 68] [59, 70] 31 (j19 : List (List UInt8))), (false, 1, Fact.ow [60, 69] [] 4 (j20 : List Bool)), (false, 1, Fact.rep [] (j21 : UInt8)), (false, 1, Fact.rep [] x10.Deals), (false, 1, Fact.rep [] x10.Seq)]) ty28 rfl rfl (Has.s rfl) rfl (HasGs.cons (HasG.s rfl) (HasGs.cons (HasG.s rfl) (HasGs.cons (HasG.s rfl) (HasGs.cons (HasG.s rfl) (HasGs.cons (HasG.s rfl) (HasGs.cons (HasG.s rfl) HasGs.nil))))))) ?_
        refine ws (Step.storeObj (ls := [(false, 1, Fact.rep [] x10.Stripe), (false, 1, Fact.ow [58, 68] [59, 70] 31 (j19 : List (List UInt8))), (false, 1, Fact.ow [60, 69] [] 4 (j20 : List Bool)), (false, 1, Fact.rep [] (j21 : UInt8)), (false, 1, Fact.rep [] x10.Deals), (false, 1, Fact.rep [] x10.Seq)]) rfl ty28 rfl rfl (Has.s rfl) rfl (HasL.flds (Has.s rfl)) rfl) ?_
        refine Walk.nil ?_
        exact Leaf.join (j18, x10.Stripe, j19, j20, j21, x10.Deals, x10.Seq) hm (sn (st (sc (sf (Sub.cons (Has.at (HasG.cv (HasG.s rfl) (Cv.owM (T := [58, 68]) (te := [59, 70]) rfl rfl))) (Sub.cons (Has.at (HasG.cv (HasG.s rfl) (Cv.owF (T := [60, 69]) (te := []) rfl))) (sf (sf (sf (sf (sg (sg (sf (sf (sf (sn (sn Sub.nil)))))))))))))))))
       ·have hm := cond_f hb hm
        refine CWalk.skip ?_
        exact Leaf.join (j18, (0 : Int), ([] : List (List UInt8)), ([] : List Bool), (0 : UInt8), false, (0 : UInt32)) hm (sn (st (sc (sf (Sub.cons (Has.at (HasG.cv (HasG.s rfl) (Cv.trans Cv.nilOw (Cv.owM (T := []) (te := []) rfl rfl)))) (Sub.cons (Has.at (HasG.cv (HasG.s rfl) (Cv.trans Cv.nilOw (Cv.owF (T := []) (te := []) rfl)))) (sf (sf (sf (sf (sg (sg (sf (sf (sf (sn (sn Sub.nil)))))))))))))))))
 ·rintro ⟨j1, j2, j3, j4, j5, j6, j7⟩ hm
  replace hm : head_Take_J1 j1 j2 j3 j4 j5 j6 j7 = some r := hm
  unfold head_Take_J1 at hm
  show Walk _ _ _ [.fact 8 (.isv 28), .fact 15 (.tup2 (Fact.flds [(false, 1, Fact.rep [] (j1 : Int)), (false, 1, Fact.ow [58, 68] [59, 70] 31 (j2 : List (List UInt8))), (false, 1, Fact.ow [60, 69] [] 4 (j3 : List Bool)), (false, 1, Fact.rep [] (j4 : UInt8)), (false, 1, Fact.rep [] (j5 : Bool)), (false, 1, Fact.rep [] (j6 : UInt32))]) (Fact.rep [] (j7 : Int))), .fact 100029 (.at 29 (.rep [] ((0 : Int) : Int))), .fact 100030 (.at 30 (.nilv)), .fact 100031 (.at 31 (.nilv)), .fact 100032 (.at 32 (.rep [] ((0 : UInt8) : UInt8))), .fact 100033 (.at 33 (.rep [] (false : Bool))), .fact 100034 (.at 34 (.rep [] ((0 : UInt32) : UInt32))), .fact 100028 (.obj 28 [(false, 1), (false, 1), (false, 1), (false, 1), (false, 1), (false, 1)])] _
  refine wo (Spec.ext0 (Has.s rfl)) ?_
  refine wo (Spec.ext1 (Has.s rfl)) ?_
  refine ws (Step.storeObj (ls := [(false, 1, Fact.rep [] (j1 : Int)), (false, 1, Fact.ow [58, 68] [59, 70] 31 (j2 : List (List UInt8))), (false, 1, Fact.ow [60, 69] [] 4 (j3 : List Bool)), (false, 1, Fact.rep [] (j4 : UInt8)), (false, 1, Fact.rep [] (j5 : Bool)), (false, 1, Fact.rep [] (j6 : UInt32))]) rfl ty28 rfl rfl (Has.s rfl) rfl (HasL.flds (Has.s rfl)) rfl) ?_
  refine wo (Spec.assign (Has.s rfl)) ?_
  refine Walk.nil ?_
  refine Leaf.thenN ?_
  refine CWalk.ret ?_
  obtain rfl := Option.some.inj hm
  exact Leaf.retC2 rfl (HasR.cv (HasR.obj (ls := [(false, 1, Fact.rep [] (j1 : Int)), (false, 1, Fact.ow [58, 68] [59, 70] 31 (j2 : List (List UInt8))), (false, 1, Fact.ow [60, 69] [] 4 (j3 : List Bool)), (false, 1, Fact.rep [] (j4 : UInt8)), (false, 1, Fact.rep [] (j5 : Bool)), (false, 1, Fact.rep [] (j6 : UInt32))]) ty28 rfl rfl (Has.s rfl) rfl (HasGs.cons (HasG.s rfl) (HasGs.cons (HasG.s rfl) (HasGs.cons (HasG.s rfl) (HasGs.cons (HasG.s rfl) (HasGs.cons (HasG.s rfl) (HasGs.cons (HasG.s rfl) HasGs.nil))))))) (Cv.flds (CvL.cons Cv.fl (CvL.cons (Cv.owM (T := [58, 68]) (te := [59, 70]) rfl rfl) (CvL.cons (Cv.owF (T := [60, 69]) (te := []) rfl) (CvL.cons Cv.fl (CvL.cons Cv.fl (CvL.cons Cv.fl CvL.nil)))))))) (HasR.cv (HasR.tmp (Has.s rfl)) Cv.fl)

def head_Know_J1 (j1 : Int) (j2 : List (List UInt8)) (j3 : List Bool) (j4 : UInt8) (j5 : Bool) (j6 : UInt32) (j7 : Int) : Option (Head × Int) :=
  some ((Head.mk j1 j2 j3 j4 j5 j6), j7)
def head_Know_J2 (j11 : Int) (j12 : List (List UInt8)) (j13 : List Bool) (j14 : UInt8) (j15 : Bool) (j16 : UInt32) : Option (Head × Int) :=
  (head_Know_J1 j11 j12 j13 j14 j15 j16 (0 : Int))
def head_Know_J3 (x10 : Head) (j17 : List (List UInt8)) : Option (Head × Int) :=
  (bif ((0 : Int) == (0 : Int)) then (head_Know_J2 x10.Stripe j17 x10.Dirty x10.Phase x10.Deals x10.Seq) else (head_Know_J2 (0 : Int) ([] : List (List UInt8)) ([] : List Bool) (0 : UInt8) false (0 : UInt32)))
def head_Know_J4 (x10 : Head) (j18 : List (List UInt8)) : Option (Head × Int) :=
  (head_Know_J3 x10 j18)
/-- freeboard/head.Know -/
def head_Know (a0 : Config) (a1 : Head) (a2 : Int) (a3 : List UInt8) : Option (Head × Int) :=
  Option.bind (head_Check a0 a1) (fun x8 => (bif (x8 != (0 : Int)) then (head_Know_J1 (0 : Int) ([] : List (List UInt8)) ([] : List Bool) (0 : UInt8) false (0 : UInt32) x8) else (bif ((decide (a2 < (0 : Int))) || (decide (a2 ≥ (wI (a0.Members - (1 : Int)))))) then (head_Know_J1 (0 : Int) ([] : List (List UInt8)) ([] : List Bool) (0 : UInt8) false (0 : UInt32) (2 : Int)) else Option.bind (head_odd a3) (fun x9 => (bif x9 then (head_Know_J1 (0 : Int) ([] : List (List UInt8)) ([] : List Bool) (0 : UInt8) false (0 : UInt32) (3 : Int)) else Option.bind (head_Twin a1) (fun x10 => Option.bind (idx x10.Blocks a2) (fun x19 => (bif (((x19).length : Int) == (0 : Int)) then Option.bind (head_block a3) (fun x20 => Option.bind (bnd (x10.Blocks).length a2) (fun x21 => (head_Know_J4 x10 ((x10.Blocks).set x21 x20)))) else (head_Know_J4 x10 x10.Blocks)))))))))
set_option maxRecDepth 100000 in
set_option maxHeartbeats 2000000 in
theorem head_Know_c (a0 : Config) (a1 : Head) (a2 : Int) (a3 : List UInt8) {r : Head × Int} (hm : head_Know a0 a1 a2 a3 = some r) : Ctr Try.prog 19 [.rep 0 a0, .rep 0 a1, .rep 0 a2, .rep 0 a3] (.tup2 (.flds [(false, 1, (.fl r.1.Stripe)), (false, 1, (.own 0 (some 1) 31 r.1.Blocks)), (false, 1, (.own 2 none 4 r.1.Dirty)), (false, 1, (.fl r.1.Phase)), (false, 1, (.fl r.1.Deals)), (false, 1, (.fl r.1.Seq))]) (.fl r.2)) [] := by
 refine ctr_of_walk [[58, 68], [59, 69], [60]] 18 Try.func19 rfl rfl rfl rfl (fun w0 om => ?_)
 unfold head_Know at hm
 refine CWalk.sub (G' := [.fact 0 (.rep [] (a0 : Config)), .fact 1 (.rep [0] (a1 : Head)), .fact 2 (.rep [] (a2 : Int)), .fact 3 (.rep [0] (a3 : List UInt8))]) (Sub.cons (Has.fl (Has.s rfl)) (sn (Sub.cons (Has.fl (Has.s rfl)) (sn Sub.nil)))) ?_
 refine CWalk.seq ?_
 refine CWalk.region ?_
 refine ws (Step.boxObj (ls := [(false, 1, Fact.rep [] a0.Id), (false, 1, Fact.rep [] a0.Members), (false, 1, Fact.rep [] a0.Chunk), (false, 1, Fact.rep [] a0.Rows), (false, 1, Fact.rep [] a0.Log), (false, 1, Fact.rep [] a0.Heads)]) 10 rfl rfl rfl rfl (HasL.flds (Has.cv (Has.s rfl) (Cv.trans (Cv.opens (chConfig a0)) (Cv.flds (CvL.cons Cv.fl (CvL.cons Cv.fl (CvL.cons Cv.fl (CvL.cons Cv.fl (CvL.cons Cv.fl (CvL.cons Cv.fl CvL.nil))))))))))) ?_
 refine ws (Step.boxObj (ls := [(false, 1, Fact.rep [] a1.Stripe), (false, 1, Fact.rep [0] a1.Blocks), (false, 1, Fact.rep [0] a1.Dirty), (false, 1, Fact.rep [] a1.Phase), (false, 1, Fact.rep [] a1.Deals), (false, 1, Fact.rep [] a1.Seq)]) 17 rfl rfl rfl rfl (HasL.flds (Has.cv (Has.s rfl) (Cv.trans (Cv.opens (chHead a1)) (Cv.flds (CvL.cons Cv.fl (CvL.cons Cv.refl (CvL.cons Cv.refl (CvL.cons Cv.fl (CvL.cons Cv.fl (CvL.cons Cv.fl CvL.nil))))))))))) ?_
 refine ws (Step.boxObj (ls := [(false, 1, Fact.rep [] (a2 : Int))]) 24 rfl rfl rfl rfl (HasL.one (Has.s rfl) rfl (Has.s rfl))) ?_
 refine ws (Step.boxObj (ls := [(false, 1, Fact.rep [0] (a3 : List UInt8))]) 26 rfl rfl rfl rfl (HasL.one (Has.s rfl) rfl (Has.s rfl))) ?_
 refine ws (Step.allocObj (ls := [(false, 1, Fact.rep [] ((0 : Int) : Int)), (false, 1, Fact.nilv), (false, 1, Fact.nilv), (false, 1, Fact.rep [] ((0 : UInt8) : UInt8)), (false, 1, Fact.rep [] (false : Bool)), (false, 1, Fact.rep [] ((0 : UInt32) : UInt32))]) 28 rfl rfl rfl rfl zl28) ?_
 refine wo (Spec.assign Has.int) ?_
 refine Walk.nil ?_
 refine Leaf.thenN ?_
 refine CWalk.seq ?_
 refine CWalk.region ?_
 refine wo (Spec.loadObj (ls := [(false, 1, Fact.rep [] a0.Id), (false, 1, Fact.rep [] a0.Members), (false, 1, Fact.rep [] a0.Chunk), (false, 1, Fact.rep [] a0.Rows), (false, 1, Fact.rep [] a0.Log), (false, 1, Fact.rep [] a0.Heads)]) ty24 rfl rfl (Has.s rfl) rfl (HasGs.cons (HasG.s rfl) (HasGs.cons (HasG.s rfl) (HasGs.cons (HasG.s rfl) (HasGs.cons (HasG.s rfl) (HasGs.cons (HasG.s rfl) (HasGs.cons (HasG.s rfl) HasGs.nil))))))) ?_
 refine wo (Spec.loadObj (ls := [(false, 1, Fact.rep [] a1.Stripe), (false, 1, Fact.rep [0] a1.Blocks), (false, 1, Fact.rep [0] a1.Dirty), (false, 1, Fact.rep [] a1.Phase), (false, 1, Fact.rep [] a1.Deals), (false, 1, Fact.rep [] a1.Seq)]) ty28 rfl rfl (Has.s rfl) rfl (HasGs.cons (HasG.s rfl) (HasGs.cons (HasG.s rfl) (HasGs.cons (HasG.s rfl) (HasGs.cons (HasG.s rfl) (HasGs.cons (HasG.s rfl) (HasGs.cons (HasG.s rfl) HasGs.nil))))))) ?_
 refine wo (Spec.loadF (i := 0) ty3 rfl (Has.cv (Has.s rfl) (Cv.isvP rfl)) rfl (HasG.s rfl)) ?_
 refine wo (Spec.loadF (i := 0) ty31 rfl (Has.cv (Has.s rfl) (Cv.isvP rfl)) rfl (HasG.s rfl)) ?_
 refine wo (Spec.makeFunc (xs := []) (ys := [.tmp 6, .tmp 7]) rfl rfl HasF.nil (HasF.cons (Has.s rfl) (HasF.cons (Has.s rfl) HasF.nil)) (fun _ _ _ => rfl)) ?_
 refine Walk.inline (S := Int × (List (List UInt8)) × (List Bool) × UInt8 × Bool × UInt32 × Int) (fun p : Int × (List (List UInt8)) × (List Bool) × UInt8 × Bool × UInt32 × Int => [.fact 8 (.isv 28), .fact 15 (.tup2 (Fact.flds [(false, 1, Fact.rep [] p.1), (false, 1, Fact.ow [58, 68] [59, 69] 31 (p.2.1 : List (List UInt8))), (false, 1, Fact.ow [60] [] 4 (p.2.2.1 : List Bool)), (false, 1, Fact.rep [] p.2.2.2.1), (false, 1, Fact.rep [] p.2.2.2.2.1), (false, 1, Fact.rep [] p.2.2.2.2.2.1)]) (Fact.rep [] p.2.2.2.2.2.2)), .fact 100029 (.at 29 (.rep [] ((0 : Int) : Int))), .fact 100030 (.at 30 (.nilv)), .fact 100031 (.at 31 (.nilv)), .fact 100032 (.at 32 (.rep [] ((0 : UInt8) : UInt8))), .fact 100033 (.at 33 (.rep [] (false : Bool))), .fact 100034 (.at 34 (.rep [] ((0 : UInt32) : UInt32))), .fact 100028 (.obj 28 [(false, 1), (false, 1), (false, 1), (false, 1), (false, 1), (false, 1)])]) (fun p : Int × (List (List UInt8)) × (List Bool) × UInt8 × Bool × UInt32 × Int => head_Know_J1 p.1 p.2.1 p.2.2.1 p.2.2.2.1 p.2.2.2.2.1 p.2.2.2.2.2.1 p.2.2.2.2.2.2 = some r) (fun u1 => [.fact 100025 (.at 25 (.rep [] (a2 : Int))), .fact 100027 (.at 27 (.rep [0] (a3 : List UInt8))), .fact 100029 (.at 29 (.rep [] ((0 : Int) : Int))), .fact 100030 (.at 30 (.nilv)), .fact 100031 (.at 31 (.nilv)), .fact 100032 (.at 32 (.rep [] ((0 : UInt8) : UInt8))), .fact 100033 (.at 33 (.rep [] (false : Bool))), .fact 100034 (.at 34 (.rep [] ((0 : UInt32) : UInt32))), .fact 902008 (.cst (u1 8) (Fact.isv 28)), .fact 100024 (.obj 24 [(false, 1)]), .fact 100026 (.obj 26 [(false, 1)]), .fact 100028 (.obj 28 [(false, 1), (false, 1), (false, 1), (false, 1), (false, 1), (false, 1)])]) (FA := [Fact.flds [(false, 1, Fact.rep [] a0.Id), (false, 1, Fact.rep [] a0.Members), (false, 1, Fact.rep [] a0.Chunk), (false, 1, Fact.rep [] a0.Rows), (false, 1, Fact.rep [] a0.Log), (false, 1, Fact.rep [] a0.Heads)], Fact.flds [(false, 1, Fact.rep [] a1.Stripe), (false, 1, Fact.rep [0] a1.Blocks), (false, 1, Fact.rep [0] a1.Dirty), (false, 1, Fact.rep [] a1.Phase), (false, 1, Fact.rep [] a1.Deals), (false, 1, Fact.rep [] a1.Seq)], Fact.rep [] (a2 : Int), Fact.rep [0] (a3 : List UInt8), Fact.fnv 51 [] [Fact.isv 24, Fact.isv 26]]) rfl Try.func48 rfl rfl rfl (CallOk.fn en48 (HasF.cons (Has.s rfl) (HasF.cons (Has.s rfl) (HasF.cons (Has.s rfl) (HasF.cons (Has.s rfl) (HasF.cons (Has.s rfl) HasF.nil)))))) (fun u1 => (ck (ck (ck (ck (ck (ck (ck (ck (cs 902000 8 (ck (ck (ck Carry.nil))))))))))))) (fun u1 => ?_) ?_
 ·refine CWalk.seq ?_
  refine CWalk.region ?_
  refine ws (Step.boxObj (ls := [(false, 1, Fact.rep [] a0.Id), (false, 1, Fact.rep [] a0.Members), (false, 1, Fact.rep [] a0.Chunk), (false, 1, Fact.rep [] a0.Rows), (false, 1, Fact.rep [] a0.Log), (false, 1, Fact.rep [] a0.Heads)]) 35 rfl rfl rfl rfl (HasL.flds (Has.s rfl))) ?_
  refine ws (Step.boxObj (ls := [(false, 1, Fact.rep [] a1.Stripe), (false, 1, Fact.rep [0] a1.Blocks), (false, 1, Fact.rep [0] a1.Dirty), (false, 1, Fact.rep [] a1.Phase), (false, 1, Fact.rep [] a1.Deals), (false, 1, Fact.rep [] a1.Seq)]) 42 rfl rfl rfl rfl (HasL.flds (Has.s rfl))) ?_
  refine ws (Step.allocObj (ls := [(false, 1, Fact.rep [] ((0 : Int) : Int)), (false, 1, Fact.nilv), (false, 1, Fact.nilv), (false, 1, Fact.rep [] ((0 : UInt8) : UInt8)), (false, 1, Fact.rep [] (false : Bool)), (false, 1, Fact.rep [] ((0 : UInt32) : UInt32))]) 49 rfl rfl rfl rfl zl28) ?_
  refine wo (Spec.assign Has.int) ?_
  refine Walk.nil ?_
  refine Leaf.thenN ?_
  refine CWalk.seq ?_
  refine CWalk.seq ?_
  refine CWalk.region ?_
  refine wo (Spec.loadObj (ls := [(false, 1, Fact.rep [] a0.Id), (false, 1, Fact.rep [] a0.Members), (false, 1, Fact.rep [] a0.Chunk), (false, 1, Fact.rep [] a0.Rows), (false, 1, Fact.rep [] a0.Log), (false, 1, Fact.rep [] a0.Heads)]) ty24 rfl rfl (Has.s rfl) rfl (HasGs.cons (HasG.s rfl) (HasGs.cons (HasG.s rfl) (HasGs.cons (HasG.s rfl) (HasGs.cons (HasG.s rfl) (HasGs.cons (HasG.s rfl) (HasGs.cons (HasG.s rfl) HasGs.nil))))))) ?_
  refine wo (Spec.loadObj (ls := [(false, 1, Fact.rep [] a1.Stripe), (false, 1, Fact.rep [0] a1.Blocks), (false, 1, Fact.rep [0] a1.Dirty), (false, 1, Fact.rep [] a1.Phase), (false, 1, Fact.rep [] a1.Deals), (false, 1, Fact.rep [] a1.Seq)]) ty28 rfl rfl (Has.s rfl) rfl (HasGs.cons (HasG.s rfl) (HasGs.cons (HasG.s rfl) (HasGs.cons (HasG.s rfl) (HasGs.cons (HasG.s rfl) (HasGs.cons (HasG.s rfl) (HasGs.cons (HasG.s rfl) HasGs.nil))))))) ?_
  obtain ⟨x8, hx8, hm⟩ := bind_some hm
  refine wo (f := Fact.rep [] (x8 : Int)) (Spec.callE [0] 56 rfl en24 (head_Check_c a0 a1 hx8) (HasAll.cons (Has.fl (Has.cv (Has.s rfl) (Cv.trans (Cv.flds (CvL.cons Cv.fl (CvL.cons Cv.fl (CvL.cons Cv.fl (CvL.cons Cv.fl (CvL.cons Cv.fl (CvL.cons Cv.fl CvL.nil))))))) (Cv.close (T := []) (chConfig a0))))) (HasAll.cons (Has.m (Has.cv (Has.s rfl) (Cv.trans (Cv.flds (CvL.cons Cv.fl (CvL.cons (Cv.m rfl) (CvL.cons (Cv.m rfl) (CvL.cons Cv.fl (CvL.cons Cv.fl (CvL.cons Cv.fl CvL.nil))))))) (Cv.close (T := [0]) (chHead a1)))) rfl) HasAll.nil))) ?_
  refine wo (Spec.assign (Has.s rfl)) ?_
  refine Walk.nil ?_
  refine Leaf.thenN ?_
  refine CWalk.seq ?_
  refine CWalk.region ?_
  refine mv ?_
  refine wo (Spec.neqI (Has.s rfl) Has.int) ?_
  refine Walk.nil ?_
  refine Leaf.thenN ?_
  refine CWalk.cond rfl (fun hb => ?_) (fun hb => ?_)
  ·have hm := cond_t hb hm
   refine CWalk.ret ?_
   refine Leaf.thenR ?_
   exact Leaf.in2 ((0 : Int), ([] : List (List UInt8)), ([] : List Bool), (0 : UInt8), false, (0 : UInt32), x8) hm rfl rfl (HasR.cv (HasR.obj (ls := [(false, 1, Fact.rep [] ((0 : Int) : Int)), (false, 1, Fact.nilv), (false, 1, Fact.nilv), (false, 1, Fact.rep [] ((0 : UInt8) : UInt8)), (false, 1, Fact.rep [] (false : Bool)), (false, 1, Fact.rep [] ((0 : UInt32) : UInt32))]) ty28 rfl rfl (Has.s rfl) rfl (HasGs.cons (HasG.s rfl) (HasGs.cons (HasG.s rfl) (HasGs.cons (HasG.s rfl) (HasGs.cons (HasG.s rfl) (HasGs.cons (HasG.s rfl) (HasGs.cons (HasG.s rfl) HasGs.nil))))))) (Cv.flds (CvL.cons Cv.fl (CvL.cons (Cv.trans Cv.nilOw (Cv.owM (T := []) (te := []) rfl rfl)) (CvL.cons (Cv.trans Cv.nilOw (Cv.owF (T := []) (te := []) rfl)) (CvL.cons Cv.fl (CvL.cons Cv.fl (CvL.cons Cv.fl CvL.nil)))))))) (HasR.cv (HasR.tmp (Has.s rfl)) Cv.fl) (ls 902008 (Low.res (lf (lg (lg (lf (lf (lf (lo Low.nil)))))))))
  ·have hm := cond_f hb hm
   refine CWalk.skip ?_
   refine Leaf.thenN ?_
   refine CWalk.seq ?_
   refine CWalk.seq ?_
   refine CWalk.region ?_
   refine mv ?_
   refine wo (Spec.lssI (Has.s rfl) Has.int) ?_
   refine mv ?_
   refine wg rfl rfl (fun hb => Spec.move (Has.s rfl)) ?_
   refine wg rfl rfl (fun hb => Spec.fieldAddrO fd24_1 (Has.cv (Has.s rfl) (Cv.isvP rfl))) ?_
   refine wg rfl rfl (fun hb => Spec.loadF (i := 1) ty3 rfl (Has.u rfl hb) rfl (HasG.s rfl)) ?_
   refine wg rfl rfl (fun hb => Spec.subI (Has.u rfl hb) Has.int) ?_
   refine wg rfl rfl (fun hb => Spec.geqI (Has.u rfl hb) (Has.u rfl hb)) ?_
   refine wo (Spec.or (Has.s rfl) (fun h => Has.u rfl h)) ?_
   refine Walk.nil ?_
   refine Leaf.thenN ?_
   refine CWalk.cond rfl (fun hb => ?_) (fun hb => ?_)
   ·have hm := cond_t hb hm
    refine CWalk.seq ?_
    refine CWalk.region ?_
    refine wo (Spec.loadObj (ls := [(false, 1, Fact.rep [] ((0 : Int) : Int)), (false, 1, Fact.nilv), (false, 1, Fact.nilv), (false, 1, Fact.rep [] ((0 : UInt8) : UInt8)), (false, 1, Fact.rep [] (false : Bool)), (false, 1, Fact.rep [] ((0 : UInt32) : UInt32))]) ty28 rfl rfl (Has.s rfl) rfl (HasGs.cons (HasG.s rfl) (HasGs.cons (HasG.s rfl) (HasGs.cons (HasG.s rfl) (HasGs.cons (HasG.s rfl) (HasGs.cons (HasG.s rfl) (HasGs.cons (HasG.s rfl) HasGs.nil))))))) ?_
    refine ws (Step.storeObj (ls := [(false, 1, Fact.rep [] ((0 : Int) : Int)), (false, 1, Fact.nilv), (false, 1, Fact.nilv), (false, 1, Fact.rep [] ((0 : UInt8) : UInt8)), (false, 1, Fact.rep [] (false : Bool)), (false, 1, Fact.rep [] ((0 : UInt32) : UInt32))]) rfl ty28 rfl rfl (Has.s rfl) rfl (HasL.flds (Has.s rfl)) rfl) ?_
    refine wo (Spec.assign Has.int) ?_
    refine Walk.nil ?_
    refine Leaf.thenN ?_
    refine CWalk.ret ?_
    refine Leaf.thenR ?_
    exact Leaf.in2 ((0 : Int), ([] : List (List UInt8)), ([] : List Bool), (0 : UInt8), false, (0 : UInt32), (2 : Int)) hm rfl rfl (HasR.cv (HasR.obj (ls := [(false, 1, Fact.rep [] ((0 : Int) : Int)), (false, 1, Fact.nilv), (false, 1, Fact.nilv), (false, 1, Fact.rep [] ((0 : UInt8) : UInt8)), (false, 1, Fact.rep [] (false : Bool)), (false, 1, Fact.rep [] ((0 : UInt32) : UInt32))]) ty28 rfl rfl (Has.s rfl) rfl (HasGs.cons (HasG.s rfl) (HasGs.cons (HasG.s rfl) (HasGs.cons (HasG.s rfl) (HasGs.cons (HasG.s rfl) (HasGs.cons (HasG.s rfl) (HasGs.cons (HasG.s rfl) HasGs.nil))))))) (Cv.flds (CvL.cons Cv.fl (CvL.cons (Cv.trans Cv.nilOw (Cv.owM (T := []) (te := []) rfl rfl)) (CvL.cons (Cv.trans Cv.nilOw (Cv.owF (T := []) (te := []) rfl)) (CvL.cons Cv.fl (CvL.cons Cv.fl (CvL.cons Cv.fl CvL.nil)))))))) (HasR.cv (HasR.tmp (Has.s rfl)) Cv.fl) (ls 902008 (Low.res (lf (lg (lg (lf (lf (lf (lo Low.nil)))))))))
   ·have hm := cond_f hb hm
    refine CWalk.skip ?_
    refine Leaf.thenN ?_
    refine CWalk.seq ?_
    refine CWalk.seq ?_
    refine CWalk.region ?_
    refine mv ?_
    obtain ⟨x9, hx9, hm⟩ := bind_some hm
    refine wo (f := Fact.rep [] (x9 : Bool)) (Spec.callE [0] 57 rfl en58 (head_odd_c a3 hx9) (HasAll.cons (Has.m (Has.s rfl) rfl) HasAll.nil)) ?_
    refine Walk.nil ?_
    refine Leaf.thenN ?_
    refine CWalk.cond rfl (fun hb => ?_) (fun hb => ?_)
    ·have hm := cond_t hb hm
     refine CWalk.seq ?_
     refine CWalk.region ?_
     refine wo (Spec.loadObj (ls := [(false, 1, Fact.rep [] ((0 : Int) : Int)), (false, 1, Fact.nilv), (false, 1, Fact.nilv), (false, 1, Fact.rep [] ((0 : UInt8) : UInt8)), (false, 1, Fact.rep [] (false : Bool)), (false, 1, Fact.rep [] ((0 : UInt32) : UInt32))]) ty28 rfl rfl (Has.s rfl) rfl (HasGs.cons (HasG.s rfl) (HasGs.cons (HasG.s rfl) (HasGs.cons (HasG.s rfl) (HasGs.cons (HasG.s rfl) (HasGs.cons (HasG.s rfl) (HasGs.cons (HasG.s rfl) HasGs.nil))))))) ?_
     refine ws (Step.storeObj (ls := [(false, 1, Fact.rep [] ((0 : Int) : Int)), (false, 1, Fact.nilv), (false, 1, Fact.nilv), (false, 1, Fact.rep [] ((0 : UInt8) : UInt8)), (false, 1, Fact.rep [] (false : Bool)), (false, 1, Fact.rep [] ((0 : UInt32) : UInt32))]) rfl ty28 rfl rfl (Has.s rfl) rfl (HasL.flds (Has.s rfl)) rfl) ?_
     refine wo (Spec.assign Has.int) ?_
     refine Walk.nil ?_
     refine Leaf.thenN ?_
     refine CWalk.ret ?_
     refine Leaf.thenR ?_
     exact Leaf.in2 ((0 : Int), ([] : List (List UInt8)), ([] : List Bool), (0 : UInt8), false, (0 : UInt32), (3 : Int)) hm rfl rfl (HasR.cv (HasR.obj (ls := [(false, 1, Fact.rep [] ((0 : Int) : Int)), (false, 1, Fact.nilv), (false, 1, Fact.nilv), (false, 1, Fact.rep [] ((0 : UInt8) : UInt8)), (false, 1, Fact.rep [] (false : Bool)), (false, 1, Fact.rep [] ((0 : UInt32) : UInt32))]) ty28 rfl rfl (Has.s rfl) rfl (HasGs.cons (HasG.s rfl) (HasGs.cons (HasG.s rfl) (HasGs.cons (HasG.s rfl) (HasGs.cons (HasG.s rfl) (HasGs.cons (HasG.s rfl) (HasGs.cons (HasG.s rfl) HasGs.nil))))))) (Cv.flds (CvL.cons Cv.fl (CvL.cons (Cv.trans Cv.nilOw (Cv.owM (T := []) (te := []) rfl rfl)) (CvL.cons (Cv.trans Cv.nilOw (Cv.owF (T := []) (te := []) rfl)) (CvL.cons Cv.fl (CvL.cons Cv.fl (CvL.cons Cv.fl CvL.nil)))))))) (HasR.cv (HasR.tmp (Has.s rfl)) Cv.fl) (ls 902008 (Low.res (lf (lg (lg (lf (lf (lf (lo Low.nil)))))))))
    ·have hm := cond_f hb hm
     refine CWalk.skip ?_
     refine Leaf.thenN ?_
     refine CWalk.seq ?_
     refine CWalk.region ?_
     refine wo (Spec.loadObj (ls := [(false, 1, Fact.rep [] a1.Stripe), (false, 1, Fact.rep [0] a1.Blocks), (false, 1, Fact.rep [0] a1.Dirty), (false, 1, Fact.rep [] a1.Phase), (false, 1, Fact.rep [] a1.Deals), (false, 1, Fact.rep [] a1.Seq)]) ty28 rfl rfl (Has.s rfl) rfl (HasGs.cons (HasG.s rfl) (HasGs.cons (HasG.s rfl) (HasGs.cons (HasG.s rfl) (HasGs.cons (HasG.s rfl) (HasGs.cons (HasG.s rfl) (HasGs.cons (HasG.s rfl) HasGs.nil))))))) ?_
     obtain ⟨x10, hx10, hm⟩ := bind_some hm
     refine wo (f := Fact.flds [(false, 1, Fact.rep [] x10.Stripe), (false, 1, Fact.ow [58] [59] 31 (x10.Blocks : List (List UInt8))), (false, 1, Fact.ow [60] [] 4 (x10.Dirty : List Bool)), (false, 1, Fact.rep [] x10.Phase), (false, 1, Fact.rep [] x10.Deals), (false, 1, Fact.rep [] x10.Seq)]) (Spec.callE [0] 58 rfl en23 (head_Twin_c a1 hx10) (HasAll.cons (Has.m (Has.cv (Has.s rfl) (Cv.trans (Cv.flds (CvL.cons Cv.fl (CvL.cons (Cv.m rfl) (CvL.cons (Cv.m rfl) (CvL.cons Cv.fl (CvL.cons Cv.fl (CvL.cons Cv.fl CvL.nil))))))) (Cv.close (T := [0]) (chHead a1)))) rfl) HasAll.nil)) ?_
     refine ws (Step.allocObj (ls := [(false, 1, Fact.rep [] ((0 : Int) : Int)), (false, 1, Fact.nilv), (false, 1, Fact.nilv), (false, 1, Fact.rep [] ((0 : UInt8) : UInt8)), (false, 1, Fact.rep [] (false : Bool)), (false, 1, Fact.rep [] ((0 : UInt32) : UInt32))]) 61 rfl rfl rfl rfl zl28) ?_
     refine ws (Step.storeObj (ls := [(false, 1, Fact.rep [] x10.Stripe), (false, 1, Fact.ow [58] [59] 31 (x10.Blocks : List (List UInt8))), (false, 1, Fact.ow [60] [] 4 (x10.Dirty : List Bool)), (false, 1, Fact.rep [] x10.Phase), (false, 1, Fact.rep [] x10.Deals), (false, 1, Fact.rep [] x10.Seq)]) rfl ty28 rfl rfl (Has.s rfl) rfl (HasL.flds (Has.s rfl)) rfl) ?_
     refine Walk.nil ?_
     refine Leaf.thenN ?_
     refine CWalk.seqJ (fun p : Int × (List (List UInt8)) × (List Bool) × UInt8 × Bool × UInt32 => [.fact 10 (.isv 49), .fact 11 (.rep [] ((0 : Int) : Int)), .fact 902008 (.cst (u1 8) (Fact.isv 28)), .fact 100050 (.at 50 (.rep [] p.1)), .fact 100051 (.at 51 (.ow [58, 68] [59, 69] 31 (p.2.1 : List (List UInt8)))), .fact 100052 (.at 52 (.ow [60] [] 4 (p.2.2.1 : List Bool))), .fact 100053 (.at 53 (.rep [] p.2.2.2.1)), .fact 100054 (.at 54 (.rep [] p.2.2.2.2.1)), .fact 100055 (.at 55 (.rep [] p.2.2.2.2.2)), .fact 100029 (.at 29 (.rep [] ((0 : Int) : Int))), .fact 100030 (.at 30 (.nilv)), .fact 100031 (.at 31 (.nilv)), .fact 100032 (.at 32 (.rep [] ((0 : UInt8) : UInt8))), .fact 100033 (.at 33 (.rep [] (false : Bool))), .fact 100034 (.at 34 (.rep [] ((0 : UInt32) : UInt32))), .fact 100049 (.obj 49 [(false, 1), (false, 1), (false, 1), (false, 1), (false, 1), (false, 1)]), .fact 100028 (.obj 28 [(false, 1), (false, 1), (false, 1), (false, 1), (false, 1), (false, 1)])]) (fun p : Int × (List (List UInt8)) × (List Bool) × UInt8 × Bool × UInt32 => head_Know_J2 p.1 p.2.1 p.2.2.1 p.2.2.2.1 p.2.2.2.2.1 p.2.2.2.2.2 = some r) ?_ ?_
     ·rintro ⟨j11, j12, j13, j14, j15, j16⟩ hm
      replace hm : head_Know_J2 j11 j12 j13 j14 j15 j16 = some r := hm
      unfold head_Know_J2 at hm
      show CWalk _ [.fact 10 (.isv 49), .fact 11 (.rep [] ((0 : Int) : Int)), .fact 902008 (.cst (u1 8) (Fact.isv 28)), .fact 100050 (.at 50 (.rep [] (j11 : Int))), .fact 100051 (.at 51 (.ow [58, 68] [59, 69] 31 (j12 : List (List UInt8)))), .fact 100052 (.at 52 (.ow [60] [] 4 (j13 : List Bool))), .fact 100053 (.at 53 (.rep [] (j14 : UInt8))), .fact 100054 (.at 54 (.rep [] (j15 : Bool))), .fact 100055 (.at 55 (.rep [] (j16 : UInt32))), .fact 100029 (.at 29 (.rep [] ((0 : Int) : Int))), .fact 100030 (.at 30 (.nilv)), .fact 100031 (.at 31 (.nilv)), .fact 100032 (.at 32 (.rep [] ((0 : UInt8) : UInt8))), .fact 100033 (.at 33 (.rep [] (false : Bool))), .fact 100034 (.at 34 (.rep [] ((0 : UInt32) : UInt32))), .fact 100049 (.obj 49 [(false, 1), (false, 1), (false, 1), (false, 1), (false, 1), (false, 1)]), .fact 100028 (.obj 28 [(false, 1), (false, 1), (false, 1), (false, 1), (false, 1), (false, 1)])] _ _
      refine CWalk.ret ?_
      exact Leaf.in2 (j11, j12, j13, j14, j15, j16, (0 : Int)) hm rfl rfl (HasR.cv (HasR.obj (ls := [(false, 1, Fact.rep [] (j11 : Int)), (false, 1, Fact.ow [58, 68] [59, 69] 31 (j12 : List (List UInt8))), (false, 1, Fact.ow [60] [] 4 (j13 : List Bool)), (false, 1, Fact.rep [] (j14 : UInt8)), (false, 1, Fact.rep [] (j15 : Bool)), (false, 1, Fact.rep [] (j16 : UInt32))]) ty28 rfl rfl (Has.s rfl) rfl (HasGs.cons (HasG.s rfl) (HasGs.cons (HasG.s rfl) (HasGs.cons (HasG.s rfl) (HasGs.cons (HasG.s rfl) (HasGs.cons (HasG.s rfl) (HasGs.cons (HasG.s rfl) HasGs.nil))))))) (Cv.flds (CvL.cons Cv.fl (CvL.cons (Cv.owM (T := [58, 68]) (te := [59, 69]) rfl rfl) (CvL.cons (Cv.owF (T := [60]) (te := []) rfl) (CvL.cons Cv.fl (CvL.cons Cv.fl (CvL.cons Cv.fl CvL.nil)))))))) (HasR.cv (HasR.tmp (Has.s rfl)) Cv.fl) (ls 902008 (Low.res (lf (lg (lg (lf (lf (lf (lo Low.nil)))))))))
     ·refine CWalk.seq ?_
      refine CWalk.region ?_
      refine mv ?_
      refine Walk.inline (S := (List (List UInt8))) (fun p : (List (List UInt8)) => [.fact 10 (.isv 49), .fact 12 (.isv 61), .fact 34 (.rep [] ((0 : Int) : Int)), .fact 902008 (.cst (u1 8) (Fact.isv 28)), .fact 100050 (.at 50 (.rep [] ((0 : Int) : Int))), .fact 100051 (.at 51 (.nilv)), .fact 100052 (.at 52 (.nilv)), .fact 100053 (.at 53 (.rep [] ((0 : UInt8) : UInt8))), .fact 100054 (.at 54 (.rep [] (false : Bool))), .fact 100055 (.at 55 (.rep [] ((0 : UInt32) : UInt32))), .fact 100062 (.at 62 (.rep [] x10.Stripe)), .fact 100063 (.at 63 (.ow [58, 68] [59, 69] 31 (p : List (List UInt8)))), .fact 100064 (.at 64 (.ow [60] [] 4 (x10.Dirty : List Bool))), .fact 100065 (.at 65 (.rep [] x10.Phase)), .fact 100066 (.at 66 (.rep [] x10.Deals)), .fact 100067 (.at 67 (.rep [] x10.Seq)), .fact 100029 (.at 29 (.rep [] ((0 : Int) : Int))), .fact 100030 (.at 30 (.nilv)), .fact 100031 (.at 31 (.nilv)), .fact 100032 (.at 32 (.rep [] ((0 : UInt8) : UInt8))), .fact 100033 (.at 33 (.rep [] (false : Bool))), .fact 100034 (.at 34 (.rep [] ((0 : UInt32) : UInt32))), .fact 100049 (.obj 49 [(false, 1), (false, 1), (false, 1), (false, 1), (false, 1), (false, 1)]), .fact 100061 (.obj 61 [(false, 1), (false, 1), (false, 1), (false, 1), (false, 1), (false, 1)]), .fact 100028 (.obj 28 [(false, 1), (false, 1), (false, 1), (false, 1), (false, 1), (false, 1)])]) (fun p : (List (List UInt8)) => head_Know_J3 x10 p = some r) (fun u2 => [.fact 100025 (.at 25 (.rep [] (a2 : Int))), .fact 100027 (.at 27 (.rep [0] (a3 : List UInt8))), .fact 100029 (.at 29 (.rep [] ((0 : Int) : Int))), .fact 100030 (.at 30 (.nilv)), .fact 100031 (.at 31 (.nilv)), .fact 100032 (.at 32 (.rep [] ((0 : UInt8) : UInt8))), .fact 100033 (.at 33 (.rep [] (false : Bool))), .fact 100034 (.at 34 (.rep [] ((0 : UInt32) : UInt32))), .fact 100050 (.at 50 (.rep [] ((0 : Int) : Int))), .fact 100051 (.at 51 (.nilv)), .fact 100052 (.at 52 (.nilv)), .fact 100053 (.at 53 (.rep [] ((0 : UInt8) : UInt8))), .fact 100054 (.at 54 (.rep [] (false : Bool))), .fact 100055 (.at 55 (.rep [] ((0 : UInt32) : UInt32))), .fact 100062 (.at 62 (.rep [] x10.Stripe)), .fact 100063 (.at 63 (.ow [58] [59] 31 (x10.Blocks : List (List UInt8)))), .fact 100064 (.at 64 (.ow [60] [] 4 (x10.Dirty : List Bool))), .fact 100065 (.at 65 (.rep [] x10.Phase)), .fact 100066 (.at 66 (.rep [] x10.Deals)), .fact 100067 (.at 67 (.rep [] x10.Seq)), .fact 902008 (.cst (u1 8) (Fact.isv 28)), .fact 904010 (.cst (u2 10) (Fact.isv 49)), .fact 904012 (.cst (u2 12) (Fact.isv 61)), .fact 100024 (.obj 24 [(false, 1)]), .fact 100026 (.obj 26 [(false, 1)]), .fact 100028 (.obj 28 [(false, 1), (false, 1), (false, 1), (false, 1), (false, 1), (false, 1)]), .fact 100049 (.obj 49 [(false, 1), (false, 1), (false, 1), (false, 1), (false, 1), (false, 1)]), .fact 100061 (.obj 61 [(false, 1), (false, 1), (false, 1), (false, 1), (false, 1), (false, 1)])]) (FA := [Fact.isv 61, Fact.isv 24, Fact.isv 26]) rfl Try.func51 rfl rfl rfl (CallOk.valE en51 (Has.s rfl) (HasF.cons (Has.s rfl) HasF.nil)) (fun u2 => (ck (ck (ck (ck (ck (ck (ck (ck (ck (ck (ck (ck (ck (ck (ck (ck (ck (ck (ck (ck (ck (cs 904000 10 (cs 904000 12 (ck (ck (ck (ck (ck Carry.nil))))))))))))))))))))))))))))) (fun u2 => ?_) ?_
      ·refine CWalk.seq ?_
       refine CWalk.region ?_
       refine wo (Spec.assign Has.int) ?_
       refine Walk.nil ?_
       refine Leaf.thenN ?_
       refine CWalk.seqJ (fun p : (List (List UInt8)) => [.fact 902008 (.cst (u1 8) (Fact.isv 28)), .fact 904010 (.cst (u2 10) (Fact.isv 49)), .fact 904012 (.cst (u2 12) (Fact.isv 61)), .fact 100029 (.at 29 (.rep [] ((0 : Int) : Int))), .fact 100030 (.at 30 (.nilv)), .fact 100031 (.at 31 (.nilv)), .fact 100032 (.at 32 (.rep [] ((0 : UInt8) : UInt8))), .fact 100033 (.at 33 (.rep [] (false : Bool))), .fact 100034 (.at 34 (.rep [] ((0 : UInt32) : UInt32))), .fact 100050 (.at 50 (.rep [] ((0 : Int) : Int))), .fact 100051 (.at 51 (.nilv)), .fact 100052 (.at 52 (.nilv)), .fact 100053 (.at 53 (.rep [] ((0 : UInt8) : UInt8))), .fact 100054 (.at 54 (.rep [] (false : Bool))), .fact 100055 (.at 55 (.rep [] ((0 : UInt32) : UInt32))), .fact 100062 (.at 62 (.rep [] x10.Stripe)), .fact 100063 (.at 63 (.ow [58, 68] [59, 69] 31 (p : List (List UInt8)))), .fact 100064 (.at 64 (.ow [60] [] 4 (x10.Dirty : List Bool))), .fact 100065 (.at 65 (.rep [] x10.Phase)), .fact 100066 (.at 66 (.rep [] x10.Deals)), .fact 100067 (.at 67 (.rep [] x10.Seq)), .fact 100028 (.obj 28 [(false, 1), (false, 1), (false, 1), (false, 1), (false, 1), (false, 1)]), .fact 100049 (.obj 49 [(false, 1), (false, 1), (false, 1), (false, 1), (false, 1), (false, 1)]), .fact 100061 (.obj 61 [(false, 1), (false, 1), (false, 1), (false, 1), (false, 1), (false, 1)])]) (fun p : (List (List UInt8)) => head_Know_J4 x10 p = some r) ?_ ?_
       ·rintro j18 hm
        replace hm : head_Know_J4 x10 j18 = some r := hm
        unfold head_Know_J4 at hm
        show CWalk _ [.fact 902008 (.cst (u1 8) (Fact.isv 28)), .fact 904010 (.cst (u2 10) (Fact.isv 49)), .fact 904012 (.cst (u2 12) (Fact.isv 61)), .fact 100029 (.at 29 (.rep [] ((0 : Int) : Int))), .fact 100030 (.at 30 (.nilv)), .fact 100031 (.at 31 (.nilv)), .fact 100032 (.at 32 (.rep [] ((0 : UInt8) : UInt8))), .fact 100033 (.at 33 (.rep [] (false : Bool))), .fact 100034 (.at 34 (.rep [] ((0 : UInt32) : UInt32))), .fact 100050 (.at 50 (.rep [] ((0 : Int) : Int))), .fact 100051 (.at 51 (.nilv)), .fact 100052 (.at 52 (.nilv)), .fact 100053 (.at 53 (.rep [] ((0 : UInt8) : UInt8))), .fact 100054 (.at 54 (.rep [] (false : Bool))), .fact 100055 (.at 55 (.rep [] ((0 : UInt32) : UInt32))), .fact 100062 (.at 62 (.rep [] x10.Stripe)), .fact 100063 (.at 63 (.ow [58, 68] [59, 69] 31 (j18 : List (List UInt8)))), .fact 100064 (.at 64 (.ow [60] [] 4 (x10.Dirty : List Bool))), .fact 100065 (.at 65 (.rep [] x10.Phase)), .fact 100066 (.at 66 (.rep [] x10.Deals)), .fact 100067 (.at 67 (.rep [] x10.Seq)), .fact 100028 (.obj 28 [(false, 1), (false, 1), (false, 1), (false, 1), (false, 1), (false, 1)]), .fact 100049 (.obj 49 [(false, 1), (false, 1), (false, 1), (false, 1), (false, 1), (false, 1)]), .fact 100061 (.obj 61 [(false, 1), (false, 1), (false, 1), (false, 1), (false, 1), (false, 1)])] _ _
        refine CWalk.seq ?_
        refine CWalk.region ?_
        refine wo (Spec.assign Has.int) ?_
        refine Walk.nil ?_
        refine Leaf.thenN ?_
        refine CWalk.ret ?_
        exact Leaf.in1 j18 hm rfl rfl (HasR.cv (HasR.tmp (Has.s rfl)) Cv.fl) (ls 904010 (ls 904012 (Low.res (lc (lf (lg (lg (lf (lf (lf (lf (Low.keepG (HasG.cv (HasG.s rfl) (Cv.owM (T := [58, 68]) (te := [59, 69]) rfl rfl)) (Low.keepG (HasG.cv (HasG.s rfl) (Cv.owF (T := [60]) (te := []) rfl)) (lf (lf (lf (lf (lg (lg (lf (lf (lf (lo (lo (lo Low.nil)))))))))))))))))))))))))
       ·refine CWalk.seq ?_
        obtain ⟨x19, hx19, hm⟩ := bind_some hm
        refine CWalk.drawM [[], [0], [0, 1], [0, 1, 2], [], [0, 1, 2, 3, 4], [0, 1, 2, 3, 4, 5], [0, 1, 2, 3, 4, 5, 6], [0, 1, 2, 3, 4, 5, 6, 7]] [[.fact 5 (.isv 61)], [.fact 6 (.isv 61)], [.fact 7 (.pto 61 1)], [.fact 8 (.ow [58] [59] 31 (x10.Blocks : List (List UInt8)))], [.fact 9 (.rep [] (a2 : Int))], [.fact 10 (.pts [58] [59] (x19 : List UInt8))], [.fact 11 (.rep [59] (x19 : List UInt8))], [.fact 12 (.rep [] (((x19).length : Int) : Int))], [.fact 13 (.rep [] ((((x19).length : Int) == (0 : Int)) : Bool))]] mixed (by kernel_rfl) (ao (so (Spec.move (Has.s rfl))) (ao (so (Spec.nilCheckI (Has.s rfl) rfl)) (ao (so (Spec.fieldAddrO fd28_1 (Has.cv (Has.s rfl) (Cv.isvP rfl)))) (ao (so (Spec.loadF (i := 1) ty25 rfl (Has.s rfl) rfl (HasG.s rfl))) (ao (so (Spec.loadF (i := 0) ty3 rfl (Has.cv (Has.s rfl) (Cv.isvP rfl)) rfl (HasG.s rfl))) (ao (so (Spec.indexSl hx19 sl25 (Has.cv (Has.s rfl) Cv.owSl) (Has.s rfl))) (ao (so (Spec.loadS ty31 (Has.s rfl))) (ao (so (Spec.len (Has.s rfl) Try.underlying31)) (ao (so (Spec.eqlI (Has.s rfl) Has.int)) AllM.nil))))))))) ?_
        refine Leaf.thenN ?_
        refine CWalk.cond rfl (fun hb => ?_) (fun hb => ?_)
        ·have hm := cond_t hb hm
         refine CWalk.ad (Ad.owF (i := 63) 68 rfl rfl rfl (ElT.tags rfl) rfl (Cv.owM (T := [58]) (te := [59]) (T' := [58]) (te' := [59]) rfl rfl)) ?_
         obtain ⟨x20, hx20, hm⟩ := bind_some hm
         obtain ⟨x21, hx21, hm⟩ := bind_some hm
         refine CWalk.drawM [[], [0], [0, 1], [0, 1, 2], [], [], [5], [0, 1, 2, 3, 4, 5, 6], [0, 1, 2, 3, 4, 5, 6, 7]] [[.fact 14 (.isv 61)], [.fact 15 (.isv 61)], [.fact 16 (.pto 61 1)], [.fact 17 (.isv 68)], [.fact 18 (.rep [] (a2 : Int))], [.fact 19 (.rep [0] (a3 : List UInt8))], [.fact 20 (.ow [69] [] 5 (x20 : List UInt8))], [.fact 21 (.pto 68 (x21 * Rp.n (List UInt8)))], [.fact 100068 (.own 68 [59, 69] 31 ((x10.Blocks).set x21 x20 : List (List UInt8))), .kill 68]] mixed (by kernel_rfl) (ao (so (Spec.move (Has.s rfl))) (ao (so (Spec.nilCheckI (Has.s rfl) rfl)) (ao (so (Spec.fieldAddrO fd28_1 (Has.cv (Has.s rfl) (Cv.isvP rfl)))) (ao (so (Spec.loadF (i := 1) ty25 rfl (Has.s rfl) rfl (HasG.s rfl))) (ao (so (Spec.loadF (i := 0) ty3 rfl (Has.cv (Has.s rfl) (Cv.isvP rfl)) rfl (HasG.s rfl))) (ao (so (Spec.loadF (i := 0) ty31 rfl (Has.cv (Has.s rfl) (Cv.isvP rfl)) rfl (HasG.s rfl))) (ao (so (Spec.callE [0] 69 rfl en50 (head_block_c a3 hx20) (HasAll.cons (Has.m (Has.s rfl) rfl) HasAll.nil))) (ao (so (Spec.idxOwn hx21 ow25 (Has.s rfl) rfl (Has.s rfl))) (ao (StepG.stE (Step.storeOwn (te' := [59, 69]) rfl (bnd_lt hx21 rfl) ty31 (Has.s rfl) rfl (Has.cv (Has.s rfl) (Cv.trans Cv.owSl (Cv.slRep (T' := [69]) rfl rfl))) (ElKeep.tags rfl rfl) (ElKeep.tags rfl rfl))) AllM.nil))))))))) ?_
         exact Leaf.join ((x10.Blocks).set x21 x20) hm (sc (sc (sc (sf (sg (sg (sf (sf (sf (sf (sg (sg (sf (sf (sf (sf (Sub.cons (Has.at (HasG.cv (HasG.s rfl) (Cv.trans (Cv.isvOw rfl) (Cv.owM (T := [68]) (te := [59, 69]) rfl rfl)))) (Sub.cons (Has.at (HasG.cv (HasG.s rfl) (Cv.owF (T := [60]) (te := []) rfl))) (sf (sf (sf (sn (sn (sn Sub.nil))))))))))))))))))))))))
        ·have hm := cond_f hb hm
         refine CWalk.skip ?_
         exact Leaf.join x10.Blocks hm (sc (sc (sc (sf (sg (sg (sf (sf (sf (sf (sg (sg (sf (sf (sf (sf (Sub.cons (Has.at (HasG.cv (HasG.s rfl) (Cv.owM (T := [58]) (te := [59]) rfl rfl))) (Sub.cons (Has.at (HasG.cv (HasG.s rfl) (Cv.owF (T := [60]) (te := []) rfl))) (sf (sf (sf (sn (sn (sn Sub.nil))))))))))))))))))))))))
      ·rintro j17 hm
       replace hm : head_Know_J3 x10 j17 = some r := hm
       unfold head_Know_J3 at hm
       show Walk _ _ _ [.fact 10 (.isv 49), .fact 12 (.isv 61), .fact 34 (.rep [] ((0 : Int) : Int)), .fact 902008 (.cst (u1 8) (Fact.isv 28)), .fact 100050 (.at 50 (.rep [] ((0 : Int) : Int))), .fact 100051 (.at 51 (.nilv)), .fact 100052 (.at 52 (.nilv)), .fact 100053 (.at 53 (.rep [] ((0 : UInt8) : UInt8))), .fact 100054 (.at 54 (.rep [] (false : Bool))), .fact 100055 (.at 55 (.rep [] ((0 : UInt32) : UInt32))), .fact 100062 (.at 62 (.rep [] x10.Stripe)), .fact 100063 (.at 63 (.ow [58, 68] [59, 69] 31 (j17 : List (List UInt8)))), .fact 100064 (.at 64 (.ow [60] [] 4 (x10.Dirty : List Bool))), .fact 100065 (.at 65 (.rep [] x10.Phase)), .fact 100066 (.at 66 (.rep [] x10.Deals)), .fact 100067 (.at 67 (.rep [] x10.Seq)), .fact 100029 (.at 29 (.rep [] ((0 : Int) : Int))), .fact 100030 (.at 30 (.nilv)), .fact 100031 (.at 31 (.nilv)), .fact 100032 (.at 32 (.rep [] ((0 : UInt8) : UInt8))), .fact 100033 (.at 33 (.rep [] (false : Bool))), .fact 100034 (.at 34 (.rep [] ((0 : UInt32) : UInt32))), .fact 100049 (.obj 49 [(false, 1), (false, 1), (false, 1), (false, 1), (false, 1), (false, 1)]), .fact 100061 (.obj 61 [(false, 1), (false, 1), (false, 1), (false, 1), (false, 1), (false, 1)]), .fact 100028 (.obj 28 [(false, 1), (false, 1), (false, 1), (false, 1), (false, 1), (false, 1)])] _
       refine wo (Spec.assign (Has.s rfl)) ?_
       refine Walk.nil ?_
       refine Leaf.thenN ?_
       refine CWalk.seq ?_
       refine CWalk.region ?_
       refine mv ?_
       refine wo (Spec.eqlI (Has.s rfl) Has.int) ?_
       refine Walk.nil ?_
       refine Leaf.thenN ?_
       refine CWalk.cond rfl (fun hb => ?_) (fun hb => ?_)
       ·have hm := cond_t hb hm
        refine CWalk.region ?_
        refine wo (Spec.loadObj (ls := [(false, 1, Fact.rep [] x10.Stripe), (false, 1, Fact.ow [58, 68] [59, 69] 31 (j17 : List (List UInt8))), (false, 1, Fact.ow [60] [] 4 (x10.Dirty : List Bool)), (false, 1, Fact.rep [] x10.Phase), (false, 1, Fact.rep [] x10.Deals), (false, 1, Fact.rep [] x10.Seq)]) ty28 rfl rfl (Has.s rfl) rfl (HasGs.cons (HasG.s rfl) (HasGs.cons (HasG.s rfl) (HasGs.cons (HasG.s rfl) (HasGs.cons (HasG.s rfl) (HasGs.cons (HasG.s rfl) (HasGs.cons (HasG.s rfl) HasGs.nil))))))) ?_
        refine ws (Step.storeObj (ls := [(false, 1, Fact.rep [] x10.Stripe), (false, 1, Fact.ow [58, 68] [59, 69] 31 (j17 : List (List UInt8))), (false, 1, Fact.ow [60] [] 4 (x10.Dirty : List Bool)), (false, 1, Fact.rep [] x10.Phase), (false, 1, Fact.rep [] x10.Deals), (false, 1, Fact.rep [] x10.Seq)]) rfl ty28 rfl rfl (Has.s rfl) rfl (HasL.flds (Has.s rfl)) rfl) ?_
        refine Walk.nil ?_
        exact Leaf.join (x10.Stripe, j17, x10.Dirty, x10.Phase, x10.Deals, x10.Seq) hm (sn (st (sc (sf (Sub.cons (Has.at (HasG.cv (HasG.s rfl) (Cv.owM (T := [58, 68]) (te := [59, 69]) rfl rfl))) (Sub.cons (Has.at (HasG.cv (HasG.s rfl) (Cv.owF (T := [60]) (te := []) rfl))) (sf (sf (sf (sf (sg (sg (sf (sf (sf (sn (sn Sub.nil)))))))))))))))))
       ·have hm := cond_f hb hm
        refine CWalk.skip ?_
        exact Leaf.join ((0 : Int), ([] : List (List UInt8)), ([] : List Bool), (0 : UInt8), false, (0 : UInt32)) hm (sn (st (sc (sf (Sub.cons (Has.at (HasG.cv (HasG.s rfl) (Cv.trans Cv.nilOw (Cv.owM (T := []) (te := []) rfl rfl)))) (Sub.cons (Has.at (HasG.cv (HasG.s rfl) (Cv.trans Cv.nilOw (Cv.owF (T := []) (te := []) rfl)))) (sf (sf (sf (sf (sg (sg (sf (sf (sf (sn (sn Sub.nil)))))))))))))))))
 ·rintro ⟨j1, j2, j3, j4, j5, j6, j7⟩ hm
  replace hm : head_Know_J1 j1 j2 j3 j4 j5 j6 j7 = some r := hm
  unfold head_Know_J1 at hm
  show Walk _ _ _ [.fact 8 (.isv 28), .fact 15 (.tup2 (Fact.flds [(false, 1, Fact.rep [] (j1 : Int)), (false, 1, Fact.ow [58, 68] [59, 69] 31 (j2 : List (List UInt8))), (false, 1, Fact.ow [60] [] 4 (j3 : List Bool)), (false, 1, Fact.rep [] (j4 : UInt8)), (false, 1, Fact.rep [] (j5 : Bool)), (false, 1, Fact.rep [] (j6 : UInt32))]) (Fact.rep [] (j7 : Int))), .fact 100029 (.at 29 (.rep [] ((0 : Int) : Int))), .fact 100030 (.at 30 (.nilv)), .fact 100031 (.at 31 (.nilv)), .fact 100032 (.at 32 (.rep [] ((0 : UInt8) : UInt8))), .fact 100033 (.at 33 (.rep [] (false : Bool))), .fact 100034 (.at 34 (.rep [] ((0 : UInt32) : UInt32))), .fact 100028 (.obj 28 [(false, 1), (false, 1), (false, 1), (false, 1), (false, 1), (false, 1)])] _
  refine wo (Spec.ext0 (Has.s rfl)) ?_
  refine wo (Spec.ext1 (Has.s rfl)) ?_
  refine ws (Step.storeObj (ls := [(false, 1, Fact.rep [] (j1 : Int)), (false, 1, Fact.ow [58, 68] [59, 69] 31 (j2 : List (List UInt8))), (false, 1, Fact.ow [60] [] 4 (j3 : List Bool)), (false, 1, Fact.rep [] (j4 : UInt8)), (false, 1, Fact.rep [] (j5 : Bool)), (false, 1, Fact.rep [] (j6 : UInt32))]) rfl ty28 rfl rfl (Has.s rfl) rfl (HasL.flds (Has.s rfl)) rfl) ?_
  refine wo (Spec.assign (Has.s rfl)) ?_
  refine Walk.nil ?_
  refine Leaf.thenN ?_
  refine CWalk.ret ?_
  obtain rfl := Option.some.inj hm
  exact Leaf.retC2 rfl (HasR.cv (HasR.obj (ls := [(false, 1, Fact.rep [] (j1 : Int)), (false, 1, Fact.ow [58, 68] [59, 69] 31 (j2 : List (List UInt8))), (false, 1, Fact.ow [60] [] 4 (j3 : List Bool)), (false, 1, Fact.rep [] (j4 : UInt8)), (false, 1, Fact.rep [] (j5 : Bool)), (false, 1, Fact.rep [] (j6 : UInt32))]) ty28 rfl rfl (Has.s rfl) rfl (HasGs.cons (HasG.s rfl) (HasGs.cons (HasG.s rfl) (HasGs.cons (HasG.s rfl) (HasGs.cons (HasG.s rfl) (HasGs.cons (HasG.s rfl) (HasGs.cons (HasG.s rfl) HasGs.nil))))))) (Cv.flds (CvL.cons Cv.fl (CvL.cons (Cv.owM (T := [58, 68]) (te := [59, 69]) rfl rfl) (CvL.cons (Cv.owF (T := [60]) (te := []) rfl) (CvL.cons Cv.fl (CvL.cons Cv.fl (CvL.cons Cv.fl CvL.nil)))))))) (HasR.cv (HasR.tmp (Has.s rfl)) Cv.fl)

/-- freeboard/head.Tell -/
def head_Tell (a0 : Config) (a1 : Head) (a2 : Int) : Option ((List UInt8) × Bool × Int) :=
  Option.bind (head_Check a0 a1) (fun x1 => (bif (x1 != (0 : Int)) then some (([] : List UInt8), false, x1) else (bif ((decide (a2 < (0 : Int))) || (decide (a2 ≥ (wI (a0.Members - (1 : Int)))))) then some (([] : List UInt8), false, (2 : Int)) else Option.bind (idx a1.Blocks a2) (fun x2 => Option.bind (slices_Clone_byte_byte x2) (fun x3 => some (x3, (decide (((x3).length : Int) > (0 : Int))), (0 : Int)))))))
set_option maxRecDepth 100000 in
set_option maxHeartbeats 2000000 in
theorem head_Tell_c (a0 : Config) (a1 : Head) (a2 : Int) {r : (List UInt8) × Bool × Int} (hm : head_Tell a0 a1 a2 = some r) : Ctr Try.prog 11 [.rep 0 a0, .rep 0 a1, .rep 0 a2] (.tup3 (.own 0 none 5 r.1) (.fl r.2.1) (.fl r.2.2)) [] := by
 refine ctr_of_walk [[25]] 36 Try.func11 rfl rfl rfl rfl (fun w0 om => ?_)
 unfold head_Tell at hm
 refine CWalk.sub (G' := [.fact 0 (.rep [] (a0 : Config)), .fact 1 (.rep [0] (a1 : Head)), .fact 2 (.rep [] (a2 : Int))]) (Sub.cons (Has.fl (Has.s rfl)) (sn (Sub.cons (Has.fl (Has.s rfl)) Sub.nil))) ?_
 refine CWalk.seq ?_
 refine CWalk.region ?_
 refine ws (Step.boxObj (ls := [(false, 1, Fact.rep [] a0.Id), (false, 1, Fact.rep [] a0.Members), (false, 1, Fact.rep [] a0.Chunk), (false, 1, Fact.rep [] a0.Rows), (false, 1, Fact.rep [] a0.Log), (false, 1, Fact.rep [] a0.Heads)]) 10 rfl rfl rfl rfl (HasL.flds (Has.cv (Has.s rfl) (Cv.trans (Cv.opens (chConfig a0)) (Cv.flds (CvL.cons Cv.fl (CvL.cons Cv.fl (CvL.cons Cv.fl (CvL.cons Cv.fl (CvL.cons Cv.fl (CvL.cons Cv.fl CvL.nil))))))))))) ?_
 refine ws (Step.boxObj (ls := [(false, 1, Fact.rep [] a1.Stripe), (false, 1, Fact.rep [0] a1.Blocks), (false, 1, Fact.rep [0] a1.Dirty), (false, 1, Fact.rep [] a1.Phase), (false, 1, Fact.rep [] a1.Deals), (false, 1, Fact.rep [] a1.Seq)]) 17 rfl rfl rfl rfl (HasL.flds (Has.cv (Has.s rfl) (Cv.trans (Cv.opens (chHead a1)) (Cv.flds (CvL.cons Cv.fl (CvL.cons Cv.refl (CvL.cons Cv.refl (CvL.cons Cv.fl (CvL.cons Cv.fl (CvL.cons Cv.fl CvL.nil))))))))))) ?_
 refine wo (Spec.assign Has.nilv) ?_
 refine wo (Spec.assign Has.bool) ?_
 refine wo (Spec.assign Has.int) ?_
 refine Walk.nil ?_
 refine Leaf.thenN ?_
 refine CWalk.seq ?_
 refine CWalk.seq ?_
 refine CWalk.region ?_
 refine wo (Spec.loadObj (ls := [(false, 1, Fact.rep [] a0.Id), (false, 1, Fact.rep [] a0.Members), (false, 1, Fact.rep [] a0.Chunk), (false, 1, Fact.rep [] a0.Rows), (false, 1, Fact.rep [] a0.Log), (false, 1, Fact.rep [] a0.Heads)]) ty24 rfl rfl (Has.s rfl) rfl (HasGs.cons (HasG.s rfl) (HasGs.cons (HasG.s rfl) (HasGs.cons (HasG.s rfl) (HasGs.cons (HasG.s rfl) (HasGs.cons (HasG.s rfl) (HasGs.cons (HasG.s rfl) HasGs.nil))))))) ?_
 refine wo (Spec.loadObj (ls := [(false, 1, Fact.rep [] a1.Stripe), (false, 1, Fact.rep [0] a1.Blocks), (false, 1, Fact.rep [0] a1.Dirty), (false, 1, Fact.rep [] a1.Phase), (false, 1, Fact.rep [] a1.Deals), (false, 1, Fact.rep [] a1.Seq)]) ty28 rfl rfl (Has.s rfl) rfl (HasGs.cons (HasG.s rfl) (HasGs.cons (HasG.s rfl) (HasGs.cons (HasG.s rfl) (HasGs.cons (HasG.s rfl) (HasGs.cons (HasG.s rfl) (HasGs.cons (HasG.s rfl) HasGs.nil))))))) ?_
 obtain ⟨x1, hx1, hm⟩ := bind_some hm
 refine wo (f := Fact.rep [] (x1 : Int)) (Spec.callE [0] 24 rfl en24 (head_Check_c a0 a1 hx1) (HasAll.cons (Has.fl (Has.cv (Has.s rfl) (Cv.trans (Cv.flds (CvL.cons Cv.fl (CvL.cons Cv.fl (CvL.cons Cv.fl (CvL.cons Cv.fl (CvL.cons Cv.fl (CvL.cons Cv.fl CvL.nil))))))) (Cv.close (T := []) (chConfig a0))))) (HasAll.cons (Has.m (Has.cv (Has.s rfl) (Cv.trans (Cv.flds (CvL.cons Cv.fl (CvL.cons (Cv.m rfl) (CvL.cons (Cv.m rfl) (CvL.cons Cv.fl (CvL.cons Cv.fl (CvL.cons Cv.fl CvL.nil))))))) (Cv.close (T := [0]) (chHead a1)))) rfl) HasAll.nil))) ?_
 refine wo (Spec.assign (Has.s rfl)) ?_
 refine Walk.nil ?_
 refine Leaf.thenN ?_
 refine CWalk.seq ?_
 refine CWalk.region ?_
 refine mv ?_
 refine wo (Spec.neqI (Has.s rfl) Has.int) ?_
 refine Walk.nil ?_
 refine Leaf.thenN ?_
 refine CWalk.cond rfl (fun hb => ?_) (fun hb => ?_)
 ·have hm := cond_t hb hm
  refine CWalk.seq ?_
  refine CWalk.region ?_
  refine mv ?_
  refine wo (Spec.assign Has.nilv) ?_
  refine wo (Spec.assign Has.bool) ?_
  refine wo (Spec.assign (Has.s rfl)) ?_
  refine Walk.nil ?_
  refine Leaf.thenN ?_
  refine CWalk.ret ?_
  refine Leaf.thenR ?_
  obtain rfl := Option.some.inj hm
  exact Leaf.retC3 rfl (HasR.cv (HasR.tmp (Has.s rfl)) (Cv.trans Cv.nilOw (Cv.owF (T := []) (te := []) rfl))) (HasR.cv (HasR.tmp (Has.s rfl)) Cv.fl) (HasR.cv (HasR.tmp (Has.s rfl)) Cv.fl)
 ·have hm := cond_f hb hm
  refine CWalk.skip ?_
  refine Leaf.thenN ?_
  refine CWalk.seq ?_
  refine CWalk.seq ?_
  refine CWalk.region ?_
  refine mv ?_
  refine wo (Spec.lssI (Has.s rfl) Has.int) ?_
  refine mv ?_
  refine wg rfl rfl (fun hb => Spec.move (Has.s rfl)) ?_
  refine wg rfl rfl (fun hb => Spec.fieldAddrO fd24_1 (Has.cv (Has.s rfl) (Cv.isvP rfl))) ?_
  refine wg rfl rfl (fun hb => Spec.loadF (i := 1) ty3 rfl (Has.u rfl hb) rfl (HasG.s rfl)) ?_
  refine wg rfl rfl (fun hb => Spec.subI (Has.u rfl hb) Has.int) ?_
  refine wg rfl rfl (fun hb => Spec.geqI (Has.u rfl hb) (Has.u rfl hb)) ?_
  refine wo (Spec.or (Has.s rfl) (fun h => Has.u rfl h)) ?_
  refine Walk.nil ?_
  refine Leaf.thenN ?_
  refine CWalk.cond rfl (fun hb => ?_) (fun hb => ?_)
  ·have hm := cond_t hb hm
   refine CWalk.seq ?_
   refine CWalk.region ?_
   refine wo (Spec.assign Has.nilv) ?_
   refine wo (Spec.assign Has.bool) ?_
   refine wo (Spec.assign Has.int) ?_
   refine Walk.nil ?_
   refine Leaf.thenN ?_
   refine CWalk.ret ?_
   refine Leaf.thenR ?_
   obtain rfl := Option.some.inj hm
   exact Leaf.retC3 rfl (HasR.cv (HasR.tmp (Has.s rfl)) (Cv.trans Cv.nilOw (Cv.owF (T := []) (te := []) rfl))) (HasR.cv (HasR.tmp (Has.s rfl)) Cv.fl) (HasR.cv (HasR.tmp (Has.s rfl)) Cv.fl)
  ·have hm := cond_f hb hm
   refine CWalk.skip ?_
   refine Leaf.thenN ?_
   refine CWalk.seq ?_
   refine CWalk.region ?_
   refine wo (Spec.fieldAddrO fd28_1 (Has.cv (Has.s rfl) (Cv.isvP rfl))) ?_
   refine wo (Spec.loadF (i := 1) ty25 rfl (Has.s rfl) rfl (HasG.s rfl)) ?_
   refine mv ?_
   obtain ⟨x2, hx2, hm⟩ := bind_some hm
   refine wo (Spec.indexAddr hx2 sl25 (Has.s rfl) (Has.s rfl)) ?_
   refine wo (Spec.load ty31 (Has.s rfl)) ?_
   obtain ⟨x3, hx3, hm⟩ := bind_some hm
   refine wo (f := Fact.ow [25] [] 5 (x3 : List UInt8)) (Spec.callE [0] 25 rfl en44 (slices_Clone_byte_byte_c x2 hx3) (HasAll.cons (Has.m (Has.s rfl) rfl) HasAll.nil)) ?_
   refine wo (Spec.assign (Has.s rfl)) ?_
   refine Walk.nil ?_
   refine Leaf.thenN ?_
   refine CWalk.seq ?_
   refine CWalk.region ?_
   refine mv ?_
   refine mv ?_
   refine wo (Spec.len (Has.cv (Has.s rfl) (Cv.trans Cv.owSl (Cv.slRep (T' := [25]) rfl rfl))) Try.underlying31) ?_
   refine wo (Spec.gtrI (Has.s rfl) Has.int) ?_
   refine wo (Spec.assign (Has.s rfl)) ?_
   refine wo (Spec.assign (Has.s rfl)) ?_
   refine wo (Spec.assign Has.int) ?_
   refine Walk.nil ?_
   refine Leaf.thenN ?_
   refine CWalk.ret ?_
   obtain rfl := Option.some.inj hm
   exact Leaf.retC3 rfl (HasR.cv (HasR.tmp (Has.s rfl)) (Cv.owF (T := [25]) (te := []) rfl)) (HasR.cv (HasR.tmp (Has.s rfl)) Cv.fl) (HasR.cv (HasR.tmp (Has.s rfl)) Cv.fl)

/-- freeboard/freeboardlaw16.tells -/
def law16_tells (a0 : Config) (a1 : Head) (a2 : Int) (a3 : UInt8) : Option (Bool) :=
  Option.bind (head_Tell a0 a1 a2) (fun x1 => (bif (a3 == (0 : UInt8)) then some (((x1.2.2 == (0 : Int)) && (!x1.2.1)) && (((x1.1).length : Int) == (0 : Int))) else Option.bind (gO (((x1.2.2 == (0 : Int)) && x1.2.1)) (law16_full a3)) (fun x2 => some (((x1.2.2 == (0 : Int)) && x1.2.1) && ((Str.mk x1.1).s == (Str.mk x2).s)))))
set_option maxRecDepth 100000 in
set_option maxHeartbeats 2000000 in
theorem law16_tells_c (a0 : Config) (a1 : Head) (a2 : Int) (a3 : UInt8) {r : Bool} (hm : law16_tells a0 a1 a2 a3 = some r) : Ctr Try.prog 72 [.rep 0 a0, .rep 0 a1, .rep 0 a2, .rep 0 a3] (.fl r) [] := by
 refine ctr_of_walk [[]] 46 Try.func72 rfl rfl rfl rfl (fun w0 om => ?_)
 unfold law16_tells at hm
 refine CWalk.sub (G' := [.fact 0 (.rep [] (a0 : Config)), .fact 1 (.rep [0] (a1 : Head)), .fact 2 (.rep [] (a2 : Int)), .fact 3 (.rep [] (a3 : UInt8))]) (Sub.cons (Has.fl (Has.s rfl)) (sn (Sub.cons (Has.fl (Has.s rfl)) (Sub.cons (Has.fl (Has.s rfl)) Sub.nil)))) ?_
 refine CWalk.seq ?_
 refine CWalk.region ?_
 refine ws (Step.boxObj (ls := [(false, 1, Fact.rep [] a0.Id), (false, 1, Fact.rep [] a0.Members), (false, 1, Fact.rep [] a0.Chunk), (false, 1, Fact.rep [] a0.Rows), (false, 1, Fact.rep [] a0.Log), (false, 1, Fact.rep [] a0.Heads)]) 10 rfl rfl rfl rfl (HasL.flds (Has.cv (Has.s rfl) (Cv.trans (Cv.opens (chConfig a0)) (Cv.flds (CvL.cons Cv.fl (CvL.cons Cv.fl (CvL.cons Cv.fl (CvL.cons Cv.fl (CvL.cons Cv.fl (CvL.cons Cv.fl CvL.nil))))))))))) ?_
 refine ws (Step.boxObj (ls := [(false, 1, Fact.rep [] a1.Stripe), (false, 1, Fact.rep [0] a1.Blocks), (false, 1, Fact.rep [0] a1.Dirty), (false, 1, Fact.rep [] a1.Phase), (false, 1, Fact.rep [] a1.Deals), (false, 1, Fact.rep [] a1.Seq)]) 17 rfl rfl rfl rfl (HasL.flds (Has.cv (Has.s rfl) (Cv.trans (Cv.opens (chHead a1)) (Cv.flds (CvL.cons Cv.fl (CvL.cons Cv.refl (CvL.cons Cv.refl (CvL.cons Cv.fl (CvL.cons Cv.fl (CvL.cons Cv.fl CvL.nil))))))))))) ?_
 refine wo (Spec.assign Has.bool) ?_
 refine Walk.nil ?_
 refine Leaf.thenN ?_
 refine CWalk.seq ?_
 refine CWalk.region ?_
 refine wo (Spec.loadObj (ls := [(false, 1, Fact.rep [] a0.Id), (false, 1, Fact.rep [] a0.Members), (false, 1, Fact.rep [] a0.Chunk), (false, 1, Fact.rep [] a0.Rows), (false, 1, Fact.rep [] a0.Log), (false, 1, Fact.rep [] a0.Heads)]) ty24 rfl rfl (Has.s rfl) rfl (HasGs.cons (HasG.s rfl) (HasGs.cons (HasG.s rfl) (HasGs.cons (HasG.s rfl) (HasGs.cons (HasG.s rfl) (HasGs.cons (HasG.s rfl) (HasGs.cons (HasG.s rfl) HasGs.nil))))))) ?_
 refine wo (Spec.loadObj (ls := [(false, 1, Fact.rep [] a1.Stripe), (false, 1, Fact.rep [0] a1.Blocks), (false, 1, Fact.rep [0] a1.Dirty), (false, 1, Fact.rep [] a1.Phase), (false, 1, Fact.rep [] a1.Deals), (false, 1, Fact.rep [] a1.Seq)]) ty28 rfl rfl (Has.s rfl) rfl (HasGs.cons (HasG.s rfl) (HasGs.cons (HasG.s rfl) (HasGs.cons (HasG.s rfl) (HasGs.cons (HasG.s rfl) (HasGs.cons (HasG.s rfl) (HasGs.cons (HasG.s rfl) HasGs.nil))))))) ?_
 refine mv ?_
 obtain ⟨x1, hx1, hm⟩ := bind_some hm
 refine wo (f := Fact.tup3 (Fact.ow [24] [] 5 (x1.1 : List UInt8)) (Fact.rep [] x1.2.1) (Fact.rep [] x1.2.2)) (Spec.callE [0] 24 rfl en11 (head_Tell_c a0 a1 a2 hx1) (HasAll.cons (Has.fl (Has.cv (Has.s rfl) (Cv.trans (Cv.flds (CvL.cons Cv.fl (CvL.cons Cv.fl (CvL.cons Cv.fl (CvL.cons Cv.fl (CvL.cons Cv.fl (CvL.cons Cv.fl CvL.nil))))))) (Cv.close (T := []) (chConfig a0))))) (HasAll.cons (Has.m (Has.cv (Has.s rfl) (Cv.trans (Cv.flds (CvL.cons Cv.fl (CvL.cons (Cv.m rfl) (CvL.cons (Cv.m rfl) (CvL.cons Cv.fl (CvL.cons Cv.fl (CvL.cons Cv.fl CvL.nil))))))) (Cv.close (T := [0]) (chHead a1)))) rfl) (HasAll.cons (Has.fl (Has.s rfl)) HasAll.nil)))) ?_
 refine mv ?_
 refine wo (Spec.ext0_3 (Has.s rfl)) ?_
 refine wo (Spec.ext1_3 (Has.s rfl)) ?_
 refine wo (Spec.ext2_3 (Has.s rfl)) ?_
 refine wo (Spec.assign (Has.s rfl)) ?_
 refine wo (Spec.assign (Has.s rfl)) ?_
 refine wo (Spec.assign (Has.s rfl)) ?_
 refine Walk.nil ?_
 refine Leaf.thenN ?_
 refine CWalk.seq ?_
 refine CWalk.seq ?_
 refine CWalk.region ?_
 refine mv ?_
 refine wo (Spec.eqlB (Has.s rfl) (Has.u8 0 rfl)) ?_
 refine Walk.nil ?_
 refine Leaf.thenN ?_
 refine CWalk.cond rfl (fun hb => ?_) (fun hb => ?_)
 ·have hm := cond_t hb hm
  refine CWalk.seq ?_
  refine CWalk.region ?_
  refine mv ?_
  refine wo (Spec.eqlI (Has.s rfl) Has.int) ?_
  refine mv ?_
  refine wg rfl rfl (fun hb => Spec.move (Has.s rfl)) ?_
  refine wg rfl rfl (fun hb => Spec.not (Has.u rfl hb)) ?_
  refine wo (Spec.and (Has.s rfl) (fun h => Has.u rfl h)) ?_
  refine mv ?_
  refine wg rfl rfl (fun hb => Spec.move (Has.s rfl)) ?_
  refine wg rfl rfl (fun hb => Spec.len (Has.cv (Has.u rfl hb) (Cv.trans Cv.owSl (Cv.slRep (T' := [24]) rfl rfl))) Try.underlying31) ?_
  refine wg rfl rfl (fun hb => Spec.eqlI (Has.u rfl hb) Has.int) ?_
  refine wo (Spec.and (Has.s rfl) (fun h => Has.u rfl h)) ?_
  refine wo (Spec.assign (Has.s rfl)) ?_
  refine Walk.nil ?_
  refine Leaf.thenN ?_
  refine CWalk.ret ?_
  refine Leaf.thenR ?_
  obtain rfl := Option.some.inj hm
  exact Leaf.retC1 rfl (HasR.cv (HasR.tmp (Has.s rfl)) Cv.fl)
 ·have hm := cond_f hb hm
  refine CWalk.skip ?_
  refine Leaf.thenN ?_
  refine CWalk.seq ?_
  obtain ⟨x2, hx2, hm⟩ := bind_some hm
  refine CWalk.drawM [[], [0], [0, 1], [0, 1, 2], [0, 1, 2, 3], [0, 1, 2, 3, 4], [0, 1, 2, 3, 4, 5], [0, 1, 2, 3, 4, 5, 6], [0, 1, 2, 3, 4, 5], [0, 1, 2, 3, 4, 5, 8], [0, 1, 2, 3, 4, 5, 8, 9], [0, 1, 2, 3, 4, 5, 6, 7, 8, 9, 10], [0, 1, 2, 3, 4, 5, 6, 7, 8, 9, 10, 11], [0, 1, 2, 3, 4, 5, 6, 7, 8, 9, 10, 11, 12]] [[.fact 33 (.rep [] x1.2.2)], [.fact 34 (.rep [] ((x1.2.2 == (0 : Int)) : Bool))], [.fact 35 (.rep [] ((x1.2.2 == (0 : Int)) : Bool))], [.fact 36 (.under ((x1.2.2 == (0 : Int)) = true) (.rep [] x1.2.1))], [.fact 37 (.rep [] (((x1.2.2 == (0 : Int)) && x1.2.1) : Bool))], [.fact 38 (.rep [] (((x1.2.2 == (0 : Int)) && x1.2.1) : Bool))], [.fact 39 (.under (((x1.2.2 == (0 : Int)) && x1.2.1) = true) (.ow [24] [] 5 (x1.1 : List UInt8)))], [.fact 40 (.under (((x1.2.2 == (0 : Int)) && x1.2.1) = true) (.rep [] ((Str.mk x1.1) : Str)))], [.fact 41 (.under (((x1.2.2 == (0 : Int)) && x1.2.1) = true) (.rep [] (a3 : UInt8)))], [.fact 42 (.under (((x1.2.2 == (0 : Int)) && x1.2.1) = true) (.ow [25] [] 5 (x2 : List UInt8)))], [.fact 43 (.under (((x1.2.2 == (0 : Int)) && x1.2.1) = true) (.rep [] ((Str.mk x2) : Str)))], [.fact 44 (.under (((x1.2.2 == (0 : Int)) && x1.2.1) = true) (.rep [] (((Str.mk x1.1).s == (Str.mk x2).s) : Bool)))], [.fact 45 (.rep [] ((((x1.2.2 == (0 : Int)) && x1.2.1) && ((Str.mk x1.1).s == (Str.mk x2).s)) : Bool))], [.fact 8 (.rep [] ((((x1.2.2 == (0 : Int)) && x1.2.1) && ((Str.mk x1.1).s == (Str.mk x2).s)) : Bool))]] mixed (by kernel_rfl) (ao (so (Spec.move (Has.s rfl))) (ao (so (Spec.eqlI (Has.s rfl) Has.int)) (ao (so (Spec.move (Has.s rfl))) (ao (StepG.opg rfl rfl rfl (fun hb => Spec.move (Has.s rfl))) (ao (so (Spec.and (Has.s rfl) (fun h => Has.u rfl h))) (ao (so (Spec.move (Has.s rfl))) (ao (StepG.opg rfl rfl rfl (fun hb => Spec.move (Has.s rfl))) (ao (StepG.opg rfl rfl rfl (fun hb => Spec.toStr Try.underlying31 Try.underlying5 Try.underlying9 (Has.cv (Has.u rfl hb) (Cv.trans Cv.owSl (Cv.slRep (T' := [24]) rfl rfl))))) (ao (StepG.opg rfl rfl rfl (fun hb => Spec.move (Has.s rfl))) (ao (StepG.opg rfl rfl rfl (fun hb => Spec.callE [] 25 rfl en43 (law16_full_c a3 (gO_t hx2 hb)) (HasAll.cons (Has.fl (Has.u rfl hb)) HasAll.nil))) (ao (StepG.opg rfl rfl rfl (fun hb => Spec.toStr Try.underlying31 Try.underlying5 Try.underlying9 (Has.cv (Has.u rfl hb) (Cv.trans Cv.owSl (Cv.slRep (T' := [25]) rfl rfl))))) (ao (StepG.opg rfl rfl rfl (fun hb => Spec.eqlS (Has.u rfl hb) (Has.u rfl hb))) (ao (so (Spec.and (Has.s rfl) (fun h => Has.u rfl h))) (ao (so (Spec.assign (Has.s rfl))) AllM.nil)))))))))))))) ?_
  refine Leaf.thenN ?_
  refine CWalk.ret ?_
  obtain rfl := Option.some.inj hm
  exact Leaf.retC1 rfl (HasR.cv (HasR.tmp (Has.s rfl)) Cv.fl)

/-- freeboard/freeboardlaw16.alive -/
def law16_alive : Option (Bool) :=
  Option.bind (law16_small) (fun x1 => Option.bind (head_New x1 (1 : Int)) (fun x2 => Option.bind (law16_small) (fun x3 => Option.bind (law16_full (120 : UInt8)) (fun x4 => Option.bind (head_Take x3 x2.1 (0 : Int) x4) (fun x5 => Option.bind (law16_small) (fun x6 => Option.bind (law16_full (112 : UInt8)) (fun x7 => Option.bind (head_Know x6 x5.1 (0 : Int) x7) (fun x8 => Option.bind (law16_small) (fun x9 => Option.bind (law16_full (112 : UInt8)) (fun x10 => Option.bind (head_Know x9 x8.1 (1 : Int) x10) (fun x11 => Option.bind (gO (((((x2.2 == (0 : Int)) && (x5.2 == (0 : Int))) && (x8.2 == (0 : Int))) && (x11.2 == (0 : Int)))) (law16_small)) (fun x12 => Option.bind (gO (((((x2.2 == (0 : Int)) && (x5.2 == (0 : Int))) && (x8.2 == (0 : Int))) && (x11.2 == (0 : Int)))) (law16_tells x12 x5.1 (0 : Int) (120 : UInt8))) (fun x13 => Option.bind (gO ((((((x2.2 == (0 : Int)) && (x5.2 == (0 : Int))) && (x8.2 == (0 : Int))) && (x11.2 == (0 : Int))) && x13)) (law16_small)) (fun x14 => Option.bind (gO ((((((x2.2 == (0 : Int)) && (x5.2 == (0 : Int))) && (x8.2 == (0 : Int))) && (x11.2 == (0 : Int))) && x13)) (law16_tells x14 x5.1 (1 : Int) (0 : UInt8))) (fun x15 => Option.bind (gO (((((((x2.2 == (0 : Int)) && (x5.2 == (0 : Int))) && (x8.2 == (0 : Int))) && (x11.2 == (0 : Int))) && x13) && x15)) (law16_small)) (fun x16 => Option.bind (gO (((((((x2.2 == (0 : Int)) && (x5.2 == (0 : Int))) && (x8.2 == (0 : Int))) && (x11.2 == (0 : Int))) && x13) && x15)) (law16_tells x16 x11.1 (0 : Int) (120 : UInt8))) (fun x17 => Option.bind (gO ((((((((x2.2 == (0 : Int)) && (x5.2 == (0 : Int))) && (x8.2 == (0 : Int))) && (x11.2 == (0 : Int))) && x13) && x15) && x17)) (law16_small)) (fun x18 => Option.bind (gO ((((((((x2.2 == (0 : Int)) && (x5.2 == (0 : Int))) && (x8.2 == (0 : Int))) && (x11.2 == (0 : Int))) && x13) && x15) && x17)) (law16_tells x18 x11.1 (1 : Int) (112 : UInt8))) (fun x19 => some ((((((((x2.2 == (0 : Int)) && (x5.2 == (0 : Int))) && (x8.2 == (0 : Int))) && (x11.2 == (0 : Int))) && x13) && x15) && x17) && x19))))))))))))))))))))
set_option maxRecDepth 100000 in
set_option maxHeartbeats 2000000 in
theorem law16_alive_c {r : Bool} (hm : law16_alive = some r) : Ctr Try.prog 38 [] (.fl r) [] := by
 refine ctr_of_walk [[]] 69 Try.func38 rfl rfl rfl rfl (fun w0 om => ?_)
 unfold law16_alive at hm
 refine CWalk.sub (G' := []) (Sub.nil) ?_
 refine CWalk.seq ?_
 refine CWalk.region ?_
 refine wo (Spec.assign Has.bool) ?_
 refine Walk.nil ?_
 refine Leaf.thenN ?_
 refine CWalk.seq ?_
 refine CWalk.region ?_
 obtain ⟨x1, hx1, hm⟩ := bind_some hm
 refine wo (f := Fact.rep [] (x1 : Config)) (Spec.callE [] 10 rfl en40 (law16_small_c  hx1) HasAll.nil) ?_
 obtain ⟨x2, hx2, hm⟩ := bind_some hm
 refine wo (f := Fact.tup2 (Fact.flds [(false, 1, Fact.rep [] x2.1.Stripe), (false, 1, Fact.ow [11] [] 31 (x2.1.Blocks : List (List UInt8))), (false, 1, Fact.ow [12] [] 4 (x2.1.Dirty : List Bool)), (false, 1, Fact.rep [] x2.1.Phase), (false, 1, Fact.rep [] x2.1.Deals), (false, 1, Fact.rep [] x2.1.Seq)]) (Fact.rep [] x2.2)) (Spec.callE [] 11 rfl en21 (head_New_c x1 (1 : Int) hx2) (HasAll.cons (Has.fl (Has.s rfl)) (HasAll.cons (Has.fl Has.int) HasAll.nil))) ?_
 refine mv ?_
 refine wo (Spec.ext0 (Has.s rfl)) ?_
 refine wo (Spec.ext1 (Has.s rfl)) ?_
 refine ws (Step.allocObj (ls := [(false, 1, Fact.rep [] ((0 : Int) : Int)), (false, 1, Fact.nilv), (false, 1, Fact.nilv), (false, 1, Fact.rep [] ((0 : UInt8) : UInt8)), (false, 1, Fact.rep [] (false : Bool)), (false, 1, Fact.rep [] ((0 : UInt32) : UInt32))]) 13 rfl rfl rfl rfl zl28) ?_
 refine ws (Step.storeObj (ls := [(false, 1, Fact.rep [] x2.1.Stripe), (false, 1, Fact.ow [11] [] 31 (x2.1.Blocks : List (List UInt8))), (false, 1, Fact.ow [12] [] 4 (x2.1.Dirty : List Bool)), (false, 1, Fact.rep [] x2.1.Phase), (false, 1, Fact.rep [] x2.1.Deals), (false, 1, Fact.rep [] x2.1.Seq)]) rfl ty28 rfl rfl (Has.s rfl) rfl (HasL.flds (Has.s rfl)) rfl) ?_
 refine wo (Spec.assign (Has.s rfl)) ?_
 refine Walk.nil ?_
 refine Leaf.thenN ?_
 refine CWalk.seq ?_
 obtain ⟨x3, hx3, hm⟩ := bind_some hm
 obtain ⟨x4, hx4, hm⟩ := bind_some hm
 obtain ⟨x5, hx5, hm⟩ := bind_some hm
 refine CWalk.drawM [[], [], [0], [0, 1, 2], [0, 1, 2, 3], [0, 1, 2, 3, 4], [0, 1, 2, 3, 4], [], [0, 1, 2, 3, 4, 5, 7], [0, 1, 2, 3, 4, 5, 6, 7, 8]] [[.fact 15 (.rep [] (x3 : Config))], [.fact 16 (.flds [(false, 1, Fact.rep [] x2.1.Stripe), (false, 1, Fact.ow [11] [] 31 (x2.1.Blocks : List (List UInt8))), (false, 1, Fact.ow [12] [] 4 (x2.1.Dirty : List Bool)), (false, 1, Fact.rep [] x2.1.Phase), (false, 1, Fact.rep [] x2.1.Deals), (false, 1, Fact.rep [] x2.1.Seq)])], [.fact 17 (.ow [21] [] 5 (x4 : List UInt8))], [.fact 18 (.tup2 (Fact.flds [(false, 1, Fact.rep [] x5.1.Stripe), (false, 1, Fact.ow [22] [23] 31 (x5.1.Blocks : List (List UInt8))), (false, 1, Fact.ow [24] [] 4 (x5.1.Dirty : List Bool)), (false, 1, Fact.rep [] x5.1.Phase), (false, 1, Fact.rep [] x5.1.Deals), (false, 1, Fact.rep [] x5.1.Seq)]) (Fact.rep [] x5.2))], [.fact 14 (.tup2 (Fact.flds [(false, 1, Fact.rep [] x5.1.Stripe), (false, 1, Fact.ow [22] [23] 31 (x5.1.Blocks : List (List UInt8))), (false, 1, Fact.ow [24] [] 4 (x5.1.Dirty : List Bool)), (false, 1, Fact.rep [] x5.1.Phase), (false, 1, Fact.rep [] x5.1.Deals), (false, 1, Fact.rep [] x5.1.Seq)]) (Fact.rep [] x5.2))], [.fact 19 (.flds [(false, 1, Fact.rep [] x5.1.Stripe), (false, 1, Fact.ow [22] [23] 31 (x5.1.Blocks : List (List UInt8))), (false, 1, Fact.ow [24] [] 4 (x5.1.Dirty : List Bool)), (false, 1, Fact.rep [] x5.1.Phase), (false, 1, Fact.rep [] x5.1.Deals), (false, 1, Fact.rep [] x5.1.Seq)])], [.fact 20 (.rep [] x5.2)], [.fact 3 (.isv 25), .fact 100025 (.obj 25 [(false, 1), (false, 1), (false, 1), (false, 1), (false, 1), (false, 1)]), .fact 100026 (.at 26 (.rep [] ((0 : Int) : Int))), .fact 100027 (.at 27 (.nilv)), .fact 100028 (.at 28 (.nilv)), .fact 100029 (.at 29 (.rep [] ((0 : UInt8) : UInt8))), .fact 100030 (.at 30 (.rep [] (false : Bool))), .fact 100031 (.at 31 (.rep [] ((0 : UInt32) : UInt32))), .killId 25, .killId 26, .killId 27, .killId 28, .killId 29, .killId 30, .killId 31], [.fact 100025 (.obj 25 [(false, 1), (false, 1), (false, 1), (false, 1), (false, 1), (false, 1)]), .fact 100026 (.at 26 (.rep [] x5.1.Stripe)), .fact 100027 (.at 27 (.ow [22] [23] 31 (x5.1.Blocks : List (List UInt8)))), .fact 100028 (.at 28 (.ow [24] [] 4 (x5.1.Dirty : List Bool))), .fact 100029 (.at 29 (.rep [] x5.1.Phase)), .fact 100030 (.at 30 (.rep [] x5.1.Deals)), .fact 100031 (.at 31 (.rep [] x5.1.Seq)), .kill 25, .killId 26, .killId 27, .killId 28, .killId 29, .killId 30, .killId 31], [.fact 4 (.rep [] x5.2)]] mixed (by kernel_rfl) (ao (so (Spec.callE [] 20 rfl en40 (law16_small_c  hx3) HasAll.nil)) (ao (so (Spec.loadObj (ls := [(false, 1, Fact.rep [] x2.1.Stripe), (false, 1, Fact.ow [11] [] 31 (x2.1.Blocks : List (List UInt8))), (false, 1, Fact.ow [12] [] 4 (x2.1.Dirty : List Bool)), (false, 1, Fact.rep [] x2.1.Phase), (false, 1, Fact.rep [] x2.1.Deals), (false, 1, Fact.rep [] x2.1.Seq)]) ty28 rfl rfl (Has.s rfl) rfl (HasGs.cons (HasG.s rfl) (HasGs.cons (HasG.s rfl) (HasGs.cons (HasG.s rfl) (HasGs.cons (HasG.s rfl) (HasGs.cons (HasG.s rfl) (HasGs.cons (HasG.s rfl) HasGs.nil)))))))) (ao (so (Spec.callE [] 21 rfl en43 (law16_full_c (120 : UInt8) hx4) (HasAll.cons (Has.fl (Has.u8 120 rfl)) HasAll.nil))) (ao (so (Spec.callE [11, 12, 21] 22 rfl en17 (head_Take_c x3 x2.1 (0 : Int) x4 hx5) (HasAll.cons (Has.fl (Has.s rfl)) (HasAll.cons (Has.m (Has.cv (Has.s rfl) (Cv.trans (Cv.flds (CvL.cons Cv.fl (CvL.cons (Cv.trans (Cv.trans Cv.owSl (Cv.slRep (T' := [11]) rfl rfl)) (Cv.m rfl)) (CvL.cons (Cv.trans (Cv.trans Cv.owSl (Cv.slRep (T' := [12]) rfl rfl)) (Cv.m rfl)) (CvL.cons Cv.fl (CvL.cons Cv.fl (CvL.cons Cv.fl CvL.nil))))))) (Cv.close (T := [11, 12]) (chHead x2.1)))) rfl) (HasAll.cons (Has.fl Has.int) (HasAll.cons (Has.m (Has.cv (Has.s rfl) (Cv.trans Cv.owSl (Cv.slRep (T' := [21]) rfl rfl))) rfl) HasAll.nil)))))) (ao (so (Spec.move (Has.s rfl))) (ao (so (Spec.ext0 (Has.s rfl))) (ao (so (Spec.ext1 (Has.s rfl))) (ao (StepG.stE (Step.allocObj (ls := [(false, 1, Fact.rep [] ((0 : Int) : Int)), (false, 1, Fact.nilv), (false, 1, Fact.nilv), (false, 1, Fact.rep [] ((0 : UInt8) : UInt8)), (false, 1, Fact.rep [] (false : Bool)), (false, 1, Fact.rep [] ((0 : UInt32) : UInt32))]) 25 rfl rfl rfl rfl zl28)) (ao (StepG.stE (Step.storeObj (ls := [(false, 1, Fact.rep [] x5.1.Stripe), (false, 1, Fact.ow [22] [23] 31 (x5.1.Blocks : List (List UInt8))), (false, 1, Fact.ow [24] [] 4 (x5.1.Dirty : List Bool)), (false, 1, Fact.rep [] x5.1.Phase), (false, 1, Fact.rep [] x5.1.Deals), (false, 1, Fact.rep [] x5.1.Seq)]) rfl ty28 rfl rfl (Has.s rfl) rfl (HasL.flds (Has.s rfl)) rfl)) (ao (so (Spec.assign (Has.s rfl))) AllM.nil)))))))))) ?_
 refine Leaf.thenN ?_
 refine CWalk.seq ?_
 obtain ⟨x6, hx6, hm⟩ := bind_some hm
 obtain ⟨x7, hx7, hm⟩ := bind_some hm
 obtain ⟨x8, hx8, hm⟩ := bind_some hm
 refine CWalk.drawM [[], [], [0], [0, 1, 2], [0, 1, 2, 3], [0, 1, 2, 3, 4], [0, 1, 2, 3, 4], [], [0, 1, 2, 3, 4, 5, 7], [0, 1, 2, 3, 4, 5, 6, 7, 8]] [[.fact 22 (.rep [] (x6 : Config))], [.fact 23 (.flds [(false, 1, Fact.rep [] x5.1.Stripe), (false, 1, Fact.ow [22] [23] 31 (x5.1.Blocks : List (List UInt8))), (false, 1, Fact.ow [24] [] 4 (x5.1.Dirty : List Bool)), (false, 1, Fact.rep [] x5.1.Phase), (false, 1, Fact.rep [] x5.1.Deals), (false, 1, Fact.rep [] x5.1.Seq)])], [.fact 24 (.ow [33] [] 5 (x7 : List UInt8))], [.fact 25 (.tup2 (Fact.flds [(false, 1, Fact.rep [] x8.1.Stripe), (false, 1, Fact.ow [34] [35] 31 (x8.1.Blocks : List (List UInt8))), (false, 1, Fact.ow [36] [] 4 (x8.1.Dirty : List Bool)), (false, 1, Fact.rep [] x8.1.Phase), (false, 1, Fact.rep [] x8.1.Deals), (false, 1, Fact.rep [] x8.1.Seq)]) (Fact.rep [] x8.2))], [.fact 21 (.tup2 (Fact.flds [(false, 1, Fact.rep [] x8.1.Stripe), (false, 1, Fact.ow [34] [35] 31 (x8.1.Blocks : List (List UInt8))), (false, 1, Fact.ow [36] [] 4 (x8.1.Dirty : List Bool)), (false, 1, Fact.rep [] x8.1.Phase), (false, 1, Fact.rep [] x8.1.Deals), (false, 1, Fact.rep [] x8.1.Seq)]) (Fact.rep [] x8.2))], [.fact 26 (.flds [(false, 1, Fact.rep [] x8.1.Stripe), (false, 1, Fact.ow [34] [35] 31 (x8.1.Blocks : List (List UInt8))), (false, 1, Fact.ow [36] [] 4 (x8.1.Dirty : List Bool)), (false, 1, Fact.rep [] x8.1.Phase), (false, 1, Fact.rep [] x8.1.Deals), (false, 1, Fact.rep [] x8.1.Seq)])], [.fact 27 (.rep [] x8.2)], [.fact 5 (.isv 37), .fact 100037 (.obj 37 [(false, 1), (false, 1), (false, 1), (false, 1), (false, 1), (false, 1)]), .fact 100038 (.at 38 (.rep [] ((0 : Int) : Int))), .fact 100039 (.at 39 (.nilv)), .fact 100040 (.at 40 (.nilv)), .fact 100041 (.at 41 (.rep [] ((0 : UInt8) : UInt8))), .fact 100042 (.at 42 (.rep [] (false : Bool))), .fact 100043 (.at 43 (.rep [] ((0 : UInt32) : UInt32))), .killId 37, .killId 38, .killId 39, .killId 40, .killId 41, .killId 42, .killId 43], [.fact 100037 (.obj 37 [(false, 1), (false, 1), (false, 1), (false, 1), (false, 1), (false, 1)]), .fact 100038 (.at 38 (.rep [] x8.1.Stripe)), .fact 100039 (.at 39 (.ow [34] [35] 31 (x8.1.Blocks : List (List UInt8)))), .fact 100040 (.at 40 (.ow [36] [] 4 (x8.1.Dirty : List Bool))), .fact 100041 (.at 41 (.rep [] x8.1.Phase)), .fact 100042 (.at 42 (.rep [] x8.1.Deals)), .fact 100043 (.at 43 (.rep [] x8.1.Seq)), .kill 37, .killId 38, .killId 39, .killId 40, .killId 41, .killId 42, .killId 43], [.fact 6 (.rep [] x8.2)]] mixed (by kernel_rfl) (ao (so (Spec.callE [] 32 rfl en40 (law16_small_c  hx6) HasAll.nil)) (ao (so (Spec.loadObj (ls := [(false, 1, Fact.rep [] x5.1.Stripe), (false, 1, Fact.ow [22] [23] 31 (x5.1.Blocks : List (List UInt8))), (false, 1, Fact.ow [24] [] 4 (x5.1.Dirty : List Bool)), (false, 1, Fact.rep [] x5.1.Phase), (false, 1, Fact.rep [] x5.1.Deals), (false, 1, Fact.rep [] x5.1.Seq)]) ty28 rfl rfl (Has.s rfl) rfl (HasGs.cons (HasG.s rfl) (HasGs.cons (HasG.s rfl) (HasGs.cons (HasG.s rfl) (HasGs.cons (HasG.s rfl) (HasGs.cons (HasG.s rfl) (HasGs.cons (HasG.s rfl) HasGs.nil)))))))) (ao (so (Spec.callE [] 33 rfl en43 (law16_full_c (112 : UInt8) hx7) (HasAll.cons (Has.fl (Has.u8 112 rfl)) HasAll.nil))) (ao (so (Spec.callE [22, 23, 24, 33] 34 rfl en19 (head_Know_c x6 x5.1 (0 : Int) x7 hx8) (HasAll.cons (Has.fl (Has.s rfl)) (HasAll.cons (Has.m (Has.cv (Has.s rfl) (Cv.trans (Cv.flds (CvL.cons Cv.fl (CvL.cons (Cv.trans (Cv.trans Cv.owSl (Cv.slRep (T' := [22, 23]) rfl rfl)) (Cv.m rfl)) (CvL.cons (Cv.trans (Cv.trans Cv.owSl (Cv.slRep (T' := [24]) rfl rfl)) (Cv.m rfl)) (CvL.cons Cv.fl (CvL.cons Cv.fl (CvL.cons Cv.fl CvL.nil))))))) (Cv.close (T := [22, 23, 24]) (chHead x5.1)))) rfl) (HasAll.cons (Has.fl Has.int) (HasAll.cons (Has.m (Has.cv (Has.s rfl) (Cv.trans Cv.owSl (Cv.slRep (T' := [33]) rfl rfl))) rfl) HasAll.nil)))))) (ao (so (Spec.move (Has.s rfl))) (ao (so (Spec.ext0 (Has.s rfl))) (ao (so (Spec.ext1 (Has.s rfl))) (ao (StepG.stE (Step.allocObj (ls := [(false, 1, Fact.rep [] ((0 : Int) : Int)), (false, 1, Fact.nilv), (false, 1, Fact.nilv), (false, 1, Fact.rep [] ((0 : UInt8) : UInt8)), (false, 1, Fact.rep [] (false : Bool)), (false, 1, Fact.rep [] ((0 : UInt32) : UInt32))]) 37 rfl rfl rfl rfl zl28)) (ao (StepG.stE (Step.storeObj (ls := [(false, 1, Fact.rep [] x8.1.Stripe), (false, 1, Fact.ow [34] [35] 31 (x8.1.Blocks : List (List UInt8))), (false, 1, Fact.ow [36] [] 4 (x8.1.Dirty : List Bool)), (false, 1, Fact.rep [] x8.1.Phase), (false, 1, Fact.rep [] x8.1.Deals), (false, 1, Fact.rep [] x8.1.Seq)]) rfl ty28 rfl rfl (Has.s rfl) rfl (HasL.flds (Has.s rfl)) rfl)) (ao (so (Spec.assign (Has.s rfl))) AllM.nil)))))))))) ?_
 refine Leaf.thenN ?_
 refine CWalk.seq ?_
 obtain ⟨x9, hx9, hm⟩ := bind_some hm
 obtain ⟨x10, hx10, hm⟩ := bind_some hm
 obtain ⟨x11, hx11, hm⟩ := bind_some hm
 refine CWalk.drawM [[], [], [0], [0, 1, 2], [0, 1, 2, 3], [0, 1, 2, 3, 4], [0, 1, 2, 3, 4], [], [0, 1, 2, 3, 4, 5, 7], [0, 1, 2, 3, 4, 5, 6, 7, 8]] [[.fact 29 (.rep [] (x9 : Config))], [.fact 30 (.flds [(false, 1, Fact.rep [] x8.1.Stripe), (false, 1, Fact.ow [34] [35] 31 (x8.1.Blocks : List (List UInt8))), (false, 1, Fact.ow [36] [] 4 (x8.1.Dirty : List Bool)), (false, 1, Fact.rep [] x8.1.Phase), (false, 1, Fact.rep [] x8.1.Deals), (false, 1, Fact.rep [] x8.1.Seq)])], [.fact 31 (.ow [45] [] 5 (x10 : List UInt8))], [.fact 32 (.tup2 (Fact.flds [(false, 1, Fact.rep [] x11.1.Stripe), (false, 1, Fact.ow [46] [47] 31 (x11.1.Blocks : List (List UInt8))), (false, 1, Fact.ow [48] [] 4 (x11.1.Dirty : List Bool)), (false, 1, Fact.rep [] x11.1.Phase), (false, 1, Fact.rep [] x11.1.Deals), (false, 1, Fact.rep [] x11.1.Seq)]) (Fact.rep [] x11.2))], [.fact 28 (.tup2 (Fact.flds [(false, 1, Fact.rep [] x11.1.Stripe), (false, 1, Fact.ow [46] [47] 31 (x11.1.Blocks : List (List UInt8))), (false, 1, Fact.ow [48] [] 4 (x11.1.Dirty : List Bool)), (false, 1, Fact.rep [] x11.1.Phase), (false, 1, Fact.rep [] x11.1.Deals), (false, 1, Fact.rep [] x11.1.Seq)]) (Fact.rep [] x11.2))], [.fact 33 (.flds [(false, 1, Fact.rep [] x11.1.Stripe), (false, 1, Fact.ow [46] [47] 31 (x11.1.Blocks : List (List UInt8))), (false, 1, Fact.ow [48] [] 4 (x11.1.Dirty : List Bool)), (false, 1, Fact.rep [] x11.1.Phase), (false, 1, Fact.rep [] x11.1.Deals), (false, 1, Fact.rep [] x11.1.Seq)])], [.fact 34 (.rep [] x11.2)], [.fact 7 (.isv 49), .fact 100049 (.obj 49 [(false, 1), (false, 1), (false, 1), (false, 1), (false, 1), (false, 1)]), .fact 100050 (.at 50 (.rep [] ((0 : Int) : Int))), .fact 100051 (.at 51 (.nilv)), .fact 100052 (.at 52 (.nilv)), .fact 100053 (.at 53 (.rep [] ((0 : UInt8) : UInt8))), .fact 100054 (.at 54 (.rep [] (false : Bool))), .fact 100055 (.at 55 (.rep [] ((0 : UInt32) : UInt32))), .killId 49, .killId 50, .killId 51, .killId 52, .killId 53, .killId 54, .killId 55], [.fact 100049 (.obj 49 [(false, 1), (false, 1), (false, 1), (false, 1), (false, 1), (false, 1)]), .fact 100050 (.at 50 (.rep [] x11.1.Stripe)), .fact 100051 (.at 51 (.ow [46] [47] 31 (x11.1.Blocks : List (List UInt8)))), .fact 100052 (.at 52 (.ow [48] [] 4 (x11.1.Dirty : List Bool))), .fact 100053 (.at 53 (.rep [] x11.1.Phase)), .fact 100054 (.at 54 (.rep [] x11.1.Deals)), .fact 100055 (.at 55 (.rep [] x11.1.Seq)), .kill 49, .killId 50, .killId 51, .killId 52, .killId 53, .killId 54, .killId 55], [.fact 8 (.rep [] x11.2)]] mixed (by kernel_rfl) (ao (so (Spec.callE [] 44 rfl en40 (law16_small_c  hx9) HasAll.nil)) (ao (so (Spec.loadObj (ls := [(false, 1, Fact.rep [] x8.1.Stripe), (false, 1, Fact.ow [34] [35] 31 (x8.1.Blocks : List (List UInt8))), (false, 1, Fact.ow [36] [] 4 (x8.1.Dirty : List Bool)), (false, 1, Fact.rep [] x8.1.Phase), (false, 1, Fact.rep [] x8.1.Deals), (false, 1, Fact.rep [] x8.1.Seq)]) ty28 rfl rfl (Has.s rfl) rfl (HasGs.cons (HasG.s rfl) (HasGs.cons (HasG.s rfl) (HasGs.cons (HasG.s rfl) (HasGs.cons (HasG.s rfl) (HasGs.cons (HasG.s rfl) (HasGs.cons (HasG.s rfl) HasGs.nil)))))))) (ao (so (Spec.callE [] 45 rfl en43 (law16_full_c (112 : UInt8) hx10) (HasAll.cons (Has.fl (Has.u8 112 rfl)) HasAll.nil))) (ao (so (Spec.callE [34, 35, 36, 45] 46 rfl en19 (head_Know_c x9 x8.1 (1 : Int) x10 hx11) (HasAll.cons (Has.fl (Has.s rfl)) (HasAll.cons (Has.m (Has.cv (Has.s rfl) (Cv.trans (Cv.flds (CvL.cons Cv.fl (CvL.cons (Cv.trans (Cv.trans Cv.owSl (Cv.slRep (T' := [34, 35]) rfl rfl)) (Cv.m rfl)) (CvL.cons (Cv.trans (Cv.trans Cv.owSl (Cv.slRep (T' := [36]) rfl rfl)) (Cv.m rfl)) (CvL.cons Cv.fl (CvL.cons Cv.fl (CvL.cons Cv.fl CvL.nil))))))) (Cv.close (T := [34, 35, 36]) (chHead x8.1)))) rfl) (HasAll.cons (Has.fl Has.int) (HasAll.cons (Has.m (Has.cv (Has.s rfl) (Cv.trans Cv.owSl (Cv.slRep (T' := [45]) rfl rfl))) rfl) HasAll.nil)))))) (ao (so (Spec.move (Has.s rfl))) (ao (so (Spec.ext0 (Has.s rfl))) (ao (so (Spec.ext1 (Has.s rfl))) (ao (StepG.stE (Step.allocObj (ls := [(false, 1, Fact.rep [] ((0 : Int) : Int)), (false, 1, Fact.nilv), (false, 1, Fact.nilv), (false, 1, Fact.rep [] ((0 : UInt8) : UInt8)), (false, 1, Fact.rep [] (false : Bool)), (false, 1, Fact.rep [] ((0 : UInt32) : UInt32))]) 49 rfl rfl rfl rfl zl28)) (ao (StepG.stE (Step.storeObj (ls := [(false, 1, Fact.rep [] x11.1.Stripe), (false, 1, Fact.ow [46] [47] 31 (x11.1.Blocks : List (List UInt8))), (false, 1, Fact.ow [48] [] 4 (x11.1.Dirty : List Bool)), (false, 1, Fact.rep [] x11.1.Phase), (false, 1, Fact.rep [] x11.1.Deals), (false, 1, Fact.rep [] x11.1.Seq)]) rfl ty28 rfl rfl (Has.s rfl) rfl (HasL.flds (Has.s rfl)) rfl)) (ao (so (Spec.assign (Has.s rfl))) AllM.nil)))))))))) ?_
 refine Leaf.thenN ?_
 refine CWalk.seq ?_
 obtain ⟨x12, hx12, hm⟩ := bind_some hm
 obtain ⟨x13, hx13, hm⟩ := bind_some hm
 obtain ⟨x14, hx14, hm⟩ := bind_some hm
 obtain ⟨x15, hx15, hm⟩ := bind_some hm
 obtain ⟨x16, hx16, hm⟩ := bind_some hm
 obtain ⟨x17, hx17, hm⟩ := bind_some hm
 obtain ⟨x18, hx18, hm⟩ := bind_some hm
 obtain ⟨x19, hx19, hm⟩ := bind_some hm
 refine CWalk.drawM [[], [0], [0, 1], [0, 1, 2], [0, 1, 2, 3], [0, 1, 2, 3, 4], [0, 1, 2, 3, 4, 5], [0, 1, 2, 3, 4, 5, 6], [0, 1, 2, 3, 4, 5, 6, 7], [0, 1, 2, 3, 4, 5, 6, 7, 8], [0, 1, 2, 3, 4, 5, 6, 7, 8, 9], [0, 1, 2, 3, 4, 5, 6, 7, 8, 9, 10], [0, 1, 2, 3, 4, 5, 6, 7, 8, 9, 10, 11], [0, 1, 2, 3, 4, 5, 6, 7, 8, 9, 10, 11, 12], [0, 1, 2, 3, 4, 5, 6, 7, 8, 9, 10, 11, 12, 13], [0, 1, 2, 3, 4, 5, 6, 7, 8, 9, 10, 11, 12, 13, 14], [0, 1, 2, 3, 4, 5, 6, 7, 8, 9, 10, 11, 12, 13, 14], [0, 1, 2, 3, 4, 5, 6, 7, 8, 9, 10, 11, 12, 13, 14, 15, 16], [0, 1, 2, 3, 4, 5, 6, 7, 8, 9, 10, 11, 12, 13, 14, 15, 16, 17], [0, 1, 2, 3, 4, 5, 6, 7, 8, 9, 10, 11, 12, 13, 14, 15, 16, 17, 18], [0, 1, 2, 3, 4, 5, 6, 7, 8, 9, 10, 11, 12, 13, 14, 15, 16, 17, 18, 19], [0, 1, 2, 3, 4, 5, 6, 7, 8, 9, 10, 11, 12, 13, 14, 15, 16, 17, 18, 19], [0, 1, 2, 3, 4, 5, 6, 7, 8, 9, 10, 11, 12, 13, 14, 15, 16, 17, 18, 19, 20, 21], [0, 1, 2, 3, 4, 5, 6, 7, 8, 9, 10, 11, 12, 13, 14, 15, 16, 17, 18, 19, 20, 21, 22], [0, 1, 2, 3, 4, 5, 6, 7, 8, 9, 10, 11, 12, 13, 14, 15, 16, 17, 18, 19, 20, 21, 22, 23], [0, 1, 2, 3, 4, 5, 6, 7, 8, 9, 10, 11, 12, 13, 14, 15, 16, 17, 18, 19, 20, 21, 22, 23, 24], [0, 1, 2, 3, 4, 5, 6, 7, 8, 9, 10, 11, 12, 13, 14, 15, 16, 17, 18, 19, 20, 21, 22, 23, 24], [0, 1, 2, 3, 4, 5, 6, 7, 8, 9, 10, 11, 12, 13, 14, 15, 16, 17, 18, 19, 20, 21, 22, 23, 24, 25, 26], [0, 1, 2, 3, 4, 5, 6, 7, 8, 9, 10, 11, 12, 13, 14, 15, 16, 17, 18, 19, 20, 21, 22, 23, 24, 25, 26, 27], [0, 1, 2, 3, 4, 5, 6, 7, 8, 9, 10, 11, 12, 13, 14, 15, 16, 17, 18, 19, 20, 21, 22, 23, 24, 25, 26, 27, 28], [0, 1, 2, 3, 4, 5, 6, 7, 8, 9, 10, 11, 12, 13, 14, 15, 16, 17, 18, 19, 20, 21, 22, 23, 24, 25, 26, 27, 28, 29], [0, 1, 2, 3, 4, 5, 6, 7, 8, 9, 10, 11, 12, 13, 14, 15, 16, 17, 18, 19, 20, 21, 22, 23, 24, 25, 26, 27, 28, 29], [0, 1, 2, 3, 4, 5, 6, 7, 8, 9, 10, 11, 12, 13, 14, 15, 16, 17, 18, 19, 20, 21, 22, 23, 24, 25, 26, 27, 28, 29, 30, 31], [0, 1, 2, 3, 4, 5, 6, 7, 8, 9, 10, 11, 12, 13, 14, 15, 16, 17, 18, 19, 20, 21, 22, 23, 24, 25, 26, 27, 28, 29, 30, 31, 32], [0, 1, 2, 3, 4, 5, 6, 7, 8, 9, 10, 11, 12, 13, 14, 15, 16, 17, 18, 19, 20, 21, 22, 23, 24, 25, 26, 27, 28, 29, 30, 31, 32, 33]] [[.fact 35 (.rep [] x2.2)], [.fact 36 (.rep [] ((x2.2 == (0 : Int)) : Bool))], [.fact 37 (.rep [] ((x2.2 == (0 : Int)) : Bool))], [.fact 38 (.under ((x2.2 == (0 : Int)) = true) (.rep [] x5.2))], [.fact 39 (.under ((x2.2 == (0 : Int)) = true) (.rep [] ((x5.2 == (0 : Int)) : Bool)))], [.fact 40 (.rep [] (((x2.2 == (0 : Int)) && (x5.2 == (0 : Int))) : Bool))], [.fact 41 (.rep [] (((x2.2 == (0 : Int)) && (x5.2 == (0 : Int))) : Bool))], [.fact 42 (.under (((x2.2 == (0 : Int)) && (x5.2 == (0 : Int))) = true) (.rep [] x8.2))], [.fact 43 (.under (((x2.2 == (0 : Int)) && (x5.2 == (0 : Int))) = true) (.rep [] ((x8.2 == (0 : Int)) : Bool)))], [.fact 44 (.rep [] ((((x2.2 == (0 : Int)) && (x5.2 == (0 : Int))) && (x8.2 == (0 : Int))) : Bool))], [.fact 45 (.rep [] ((((x2.2 == (0 : Int)) && (x5.2 == (0 : Int))) && (x8.2 == (0 : Int))) : Bool))], [.fact 46 (.under ((((x2.2 == (0 : Int)) && (x5.2 == (0 : Int))) && (x8.2 == (0 : Int))) = true) (.rep [] x11.2))], [.fact 47 (.under ((((x2.2 == (0 : Int)) && (x5.2 == (0 : Int))) && (x8.2 == (0 : Int))) = true) (.rep [] ((x11.2 == (0 : Int)) : Bool)))], [.fact 48 (.rep [] (((((x2.2 == (0 : Int)) && (x5.2 == (0 : Int))) && (x8.2 == (0 : Int))) && (x11.2 == (0 : Int))) : Bool))], [.fact 49 (.rep [] (((((x2.2 == (0 : Int)) && (x5.2 == (0 : Int))) && (x8.2 == (0 : Int))) && (x11.2 == (0 : Int))) : Bool))], [.fact 50 (.under (((((x2.2 == (0 : Int)) && (x5.2 == (0 : Int))) && (x8.2 == (0 : Int))) && (x11.2 == (0 : Int))) = true) (.rep [] (x12 : Config)))], [.fact 51 (.under (((((x2.2 == (0 : Int)) && (x5.2 == (0 : Int))) && (x8.2 == (0 : Int))) && (x11.2 == (0 : Int))) = true) (.flds [(false, 1, Fact.rep [] x5.1.Stripe), (false, 1, Fact.ow [22] [23] 31 (x5.1.Blocks : List (List UInt8))), (false, 1, Fact.ow [24] [] 4 (x5.1.Dirty : List Bool)), (false, 1, Fact.rep [] x5.1.Phase), (false, 1, Fact.rep [] x5.1.Deals), (false, 1, Fact.rep [] x5.1.Seq)]))], [.fact 52 (.under (((((x2.2 == (0 : Int)) && (x5.2 == (0 : Int))) && (x8.2 == (0 : Int))) && (x11.2 == (0 : Int))) = true) (.rep [] (x13 : Bool)))], [.fact 53 (.rep [] ((((((x2.2 == (0 : Int)) && (x5.2 == (0 : Int))) && (x8.2 == (0 : Int))) && (x11.2 == (0 : Int))) && x13) : Bool))], [.fact 54 (.rep [] ((((((x2.2 == (0 : Int)) && (x5.2 == (0 : Int))) && (x8.2 == (0 : Int))) && (x11.2 == (0 : Int))) && x13) : Bool))], [.fact 55 (.under ((((((x2.2 == (0 : Int)) && (x5.2 == (0 : Int))) && (x8.2 == (0 : Int))) && (x11.2 == (0 : Int))) && x13) = true) (.rep [] (x14 : Config)))], [.fact 56 (.under ((((((x2.2 == (0 : Int)) && (x5.2 == (0 : Int))) && (x8.2 == (0 : Int))) && (x11.2 == (0 : Int))) && x13) = true) (.flds [(false, 1, Fact.rep [] x5.1.Stripe), (false, 1, Fact.ow [22] [23] 31 (x5.1.Blocks : List (List UInt8))), (false, 1, Fact.ow [24] [] 4 (x5.1.Dirty : List Bool)), (false, 1, Fact.rep [] x5.1.Phase), (false, 1, Fact.rep [] x5.1.Deals), (false, 1, Fact.rep [] x5.1.Seq)]))], [.fact 57 (.under ((((((x2.2 == (0 : Int)) && (x5.2 == (0 : Int))) && (x8.2 == (0 : Int))) && (x11.2 == (0 : Int))) && x13) = true) (.rep [] (x15 : Bool)))], [.fact 58 (.rep [] (((((((x2.2 == (0 : Int)) && (x5.2 == (0 : Int))) && (x8.2 == (0 : Int))) && (x11.2 == (0 : Int))) && x13) && x15) : Bool))], [.fact 59 (.rep [] (((((((x2.2 == (0 : Int)) && (x5.2 == (0 : Int))) && (x8.2 == (0 : Int))) && (x11.2 == (0 : Int))) && x13) && x15) : Bool))], [.fact 60 (.under (((((((x2.2 == (0 : Int)) && (x5.2 == (0 : Int))) && (x8.2 == (0 : Int))) && (x11.2 == (0 : Int))) && x13) && x15) = true) (.rep [] (x16 : Config)))], [.fact 61 (.under (((((((x2.2 == (0 : Int)) && (x5.2 == (0 : Int))) && (x8.2 == (0 : Int))) && (x11.2 == (0 : Int))) && x13) && x15) = true) (.flds [(false, 1, Fact.rep [] x11.1.Stripe), (false, 1, Fact.ow [46] [47] 31 (x11.1.Blocks : List (List UInt8))), (false, 1, Fact.ow [48] [] 4 (x11.1.Dirty : List Bool)), (false, 1, Fact.rep [] x11.1.Phase), (false, 1, Fact.rep [] x11.1.Deals), (false, 1, Fact.rep [] x11.1.Seq)]))], [.fact 62 (.under (((((((x2.2 == (0 : Int)) && (x5.2 == (0 : Int))) && (x8.2 == (0 : Int))) && (x11.2 == (0 : Int))) && x13) && x15) = true) (.rep [] (x17 : Bool)))], [.fact 63 (.rep [] ((((((((x2.2 == (0 : Int)) && (x5.2 == (0 : Int))) && (x8.2 == (0 : Int))) && (x11.2 == (0 : Int))) && x13) && x15) && x17) : Bool))], [.fact 64 (.rep [] ((((((((x2.2 == (0 : Int)) && (x5.2 == (0 : Int))) && (x8.2 == (0 : Int))) && (x11.2 == (0 : Int))) && x13) && x15) && x17) : Bool))], [.fact 65 (.under ((((((((x2.2 == (0 : Int)) && (x5.2 == (0 : Int))) && (x8.2 == (0 : Int))) && (x11.2 == (0 : Int))) && x13) && x15) && x17) = true) (.rep [] (x18 : Config)))], [.fact 66 (.under ((((((((x2.2 == (0 : Int)) && (x5.2 == (0 : Int))) && (x8.2 == (0 : Int))) && (x11.2 == (0 : Int))) && x13) && x15) && x17) = true) (.flds [(false, 1, Fact.rep [] x11.1.Stripe), (false, 1, Fact.ow [46] [47] 31 (x11.1.Blocks : List (List UInt8))), (false, 1, Fact.ow [48] [] 4 (x11.1.Dirty : List Bool)), (false, 1, Fact.rep [] x11.1.Phase), (false, 1, Fact.rep [] x11.1.Deals), (false, 1, Fact.rep [] x11.1.Seq)]))], [.fact 67 (.under ((((((((x2.2 == (0 : Int)) && (x5.2 == (0 : Int))) && (x8.2 == (0 : Int))) && (x11.2 == (0 : Int))) && x13) && x15) && x17) = true) (.rep [] (x19 : Bool)))], [.fact 68 (.rep [] (((((((((x2.2 == (0 : Int)) && (x5.2 == (0 : Int))) && (x8.2 == (0 : Int))) && (x11.2 == (0 : Int))) && x13) && x15) && x17) && x19) : Bool))], [.fact 0 (.rep [] (((((((((x2.2 == (0 : Int)) && (x5.2 == (0 : Int))) && (x8.2 == (0 : Int))) && (x11.2 == (0 : Int))) && x13) && x15) && x17) && x19) : Bool))]] mixed (by kernel_rfl) (ao (so (Spec.move (Has.s rfl))) (ao (so (Spec.eqlI (Has.s rfl) Has.int)) (ao (so (Spec.move (Has.s rfl))) (ao (StepG.opg rfl rfl rfl (fun hb => Spec.move (Has.s rfl))) (ao (StepG.opg rfl rfl rfl (fun hb => Spec.eqlI (Has.u rfl hb) Has.int)) (ao (so (Spec.and (Has.s rfl) (fun h => Has.u rfl h))) (ao (so (Spec.move (Has.s rfl))) (ao (StepG.opg rfl rfl rfl (fun hb => Spec.move (Has.s rfl))) (ao (StepG.opg rfl rfl rfl (fun hb => Spec.eqlI (Has.u rfl hb) Has.int)) (ao (so (Spec.and (Has.s rfl) (fun h => Has.u rfl h))) (ao (so (Spec.move (Has.s rfl))) (ao (StepG.opg rfl rfl rfl (fun hb => Spec.move (Has.s rfl))) (ao (StepG.opg rfl rfl rfl (fun hb => Spec.eqlI (Has.u rfl hb) Has.int)) (ao (so (Spec.and (Has.s rfl) (fun h => Has.u rfl h))) (ao (so (Spec.move (Has.s rfl))) (ao (StepG.opg rfl rfl rfl (fun hb => Spec.callE [] 56 rfl en40 (law16_small_c  (gO_t hx12 hb)) HasAll.nil)) (ao (StepG.opg rfl rfl rfl (fun hb => Spec.loadObj (ls := [(false, 1, Fact.rep [] x5.1.Stripe), (false, 1, Fact.ow [22] [23] 31 (x5.1.Blocks : List (List UInt8))), (false, 1, Fact.ow [24] [] 4 (x5.1.Dirty : List Bool)), (false, 1, Fact.rep [] x5.1.Phase), (false, 1, Fact.rep [] x5.1.Deals), (false, 1, Fact.rep [] x5.1.Seq)]) ty28 rfl rfl (Has.s rfl) rfl (HasGs.cons (HasG.s rfl) (HasGs.cons (HasG.s rfl) (HasGs.cons (HasG.s rfl) (HasGs.cons (HasG.s rfl) (HasGs.cons (HasG.s rfl) (HasGs.cons (HasG.s rfl) HasGs.nil)))))))) (ao (StepG.opg rfl rfl rfl (fun hb => Spec.callE [22, 23, 24] 57 rfl en72 (law16_tells_c x12 x5.1 (0 : Int) (120 : UInt8) (gO_t hx13 hb)) (HasAll.cons (Has.fl (Has.u rfl hb)) (HasAll.cons (Has.m (Has.cv (Has.u rfl hb) (Cv.trans (Cv.flds (CvL.cons Cv.fl (CvL.cons (Cv.trans (Cv.trans Cv.owSl (Cv.slRep (T' := [22, 23]) rfl rfl)) (Cv.m rfl)) (CvL.cons (Cv.trans (Cv.trans Cv.owSl (Cv.slRep (T' := [24]) rfl rfl)) (Cv.m rfl)) (CvL.cons Cv.fl (CvL.cons Cv.fl (CvL.cons Cv.fl CvL.nil))))))) (Cv.close (T := [22, 23, 24]) (chHead x5.1)))) rfl) (HasAll.cons (Has.fl Has.int) (HasAll.cons (Has.fl (Has.u8 120 rfl)) HasAll.nil)))))) (ao (so (Spec.and (Has.s rfl) (fun h => Has.u rfl h))) (ao (so (Spec.move (Has.s rfl))) (ao (StepG.opg rfl rfl rfl (fun hb => Spec.callE [] 58 rfl en40 (law16_small_c  (gO_t hx14 hb)) HasAll.nil)) (ao (StepG.opg rfl rfl rfl (fun hb => Spec.loadObj (ls := [(false, 1, Fact.rep [] x5.1.Stripe), (false, 1, Fact.ow [22] [23] 31 (x5.1.Blocks : List (List UInt8))), (false, 1, Fact.ow [24] [] 4 (x5.1.Dirty : List Bool)), (false, 1, Fact.rep [] x5.1.Phase), (false, 1, Fact.rep [] x5.1.Deals), (false, 1, Fact.rep [] x5.1.Seq)]) ty28 rfl rfl (Has.s rfl) rfl (HasGs.cons (HasG.s rfl) (HasGs.cons (HasG.s rfl) (HasGs.cons (HasG.s rfl) (HasGs.cons (HasG.s rfl) (HasGs.cons (HasG.s rfl) (HasGs.cons (HasG.s rfl) HasGs.nil)))))))) (ao (StepG.opg rfl rfl rfl (fun hb => Spec.callE [22, 23, 24] 59 rfl en72 (law16_tells_c x14 x5.1 (1 : Int) (0 : UInt8) (gO_t hx15 hb)) (HasAll.cons (Has.fl (Has.u rfl hb)) (HasAll.cons (Has.m (Has.cv (Has.u rfl hb) (Cv.trans (Cv.flds (CvL.cons Cv.fl (CvL.cons (Cv.trans (Cv.trans Cv.owSl (Cv.slRep (T' := [22, 23]) rfl rfl)) (Cv.m rfl)) (CvL.cons (Cv.trans (Cv.trans Cv.owSl (Cv.slRep (T' := [24]) rfl rfl)) (Cv.m rfl)) (CvL.cons Cv.fl (CvL.cons Cv.fl (CvL.cons Cv.fl CvL.nil))))))) (Cv.close (T := [22, 23, 24]) (chHead x5.1)))) rfl) (HasAll.cons (Has.fl Has.int) (HasAll.cons (Has.fl (Has.u8 0 rfl)) HasAll.nil)))))) (ao (so (Spec.and (Has.s rfl) (fun h => Has.u rfl h))) (ao (so (Spec.move (Has.s rfl))) (ao (StepG.opg rfl rfl rfl (fun hb => Spec.callE [] 60 rfl en40 (law16_small_c  (gO_t hx16 hb)) HasAll.nil)) (ao (StepG.opg rfl rfl rfl (fun hb => Spec.loadObj (ls := [(false, 1, Fact.rep [] x11.1.Stripe), (false, 1, Fact.ow [46] [47] 31 (x11.1.Blocks : List (List UInt8))), (false, 1, Fact.ow [48] [] 4 (x11.1.Dirty : List Bool)), (false, 1, Fact.rep [] x11.1.Phase), (false, 1, Fact.rep [] x11.1.Deals), (false, 1, Fact.rep [] x11.1.Seq)]) ty28 rfl rfl (Has.s rfl) rfl (HasGs.cons (HasG.s rfl) (HasGs.cons (HasG.s rfl) (HasGs.cons (HasG.s rfl) (HasGs.cons (HasG.s rfl) (HasGs.cons (HasG.s rfl) (HasGs.cons (HasG.s rfl) HasGs.nil)))))))) (ao (StepG.opg rfl rfl rfl (fun hb => Spec.callE [46, 47, 48] 61 rfl en72 (law16_tells_c x16 x11.1 (0 : Int) (120 : UInt8) (gO_t hx17 hb)) (HasAll.cons (Has.fl (Has.u rfl hb)) (HasAll.cons (Has.m (Has.cv (Has.u rfl hb) (Cv.trans (Cv.flds (CvL.cons Cv.fl (CvL.cons (Cv.trans (Cv.trans Cv.owSl (Cv.slRep (T' := [46, 47]) rfl rfl)) (Cv.m rfl)) (CvL.cons (Cv.trans (Cv.trans Cv.owSl (Cv.slRep (T' := [48]) rfl rfl)) (Cv.m rfl)) (CvL.cons Cv.fl (CvL.cons Cv.fl (CvL.cons Cv.fl CvL.nil))))))) (Cv.close (T := [46, 47, 48]) (chHead x11.1)))) rfl) (HasAll.cons (Has.fl Has.int) (HasAll.cons (Has.fl (Has.u8 120 rfl)) HasAll.nil)))))) (ao (so (Spec.and (Has.s rfl) (fun h => Has.u rfl h))) (ao (so (Spec.move (Has.s rfl))) (ao (StepG.opg rfl rfl rfl (fun hb => Spec.callE [] 62 rfl en40 (law16_small_c  (gO_t hx18 hb)) HasAll.nil)) (ao (StepG.opg rfl rfl rfl (fun hb => Spec.loadObj (ls := [(false, 1, Fact.rep [] x11.1.Stripe), (false, 1, Fact.ow [46] [47] 31 (x11.1.Blocks : List (List UInt8))), (false, 1, Fact.ow [48] [] 4 (x11.1.Dirty : List Bool)), (false, 1, Fact.rep [] x11.1.Phase), (false, 1, Fact.rep [] x11.1.Deals), (false, 1, Fact.rep [] x11.1.Seq)]) ty28 rfl rfl (Has.s rfl) rfl (HasGs.cons (HasG.s rfl) (HasGs.cons (HasG.s rfl) (HasGs.cons (HasG.s rfl) (HasGs.cons (HasG.s rfl) (HasGs.cons (HasG.s rfl) (HasGs.cons (HasG.s rfl) HasGs.nil)))))))) (ao (StepG.opg rfl rfl rfl (fun hb => Spec.callE [46, 47, 48] 63 rfl en72 (law16_tells_c x18 x11.1 (1 : Int) (112 : UInt8) (gO_t hx19 hb)) (HasAll.cons (Has.fl (Has.u rfl hb)) (HasAll.cons (Has.m (Has.cv (Has.u rfl hb) (Cv.trans (Cv.flds (CvL.cons Cv.fl (CvL.cons (Cv.trans (Cv.trans Cv.owSl (Cv.slRep (T' := [46, 47]) rfl rfl)) (Cv.m rfl)) (CvL.cons (Cv.trans (Cv.trans Cv.owSl (Cv.slRep (T' := [48]) rfl rfl)) (Cv.m rfl)) (CvL.cons Cv.fl (CvL.cons Cv.fl (CvL.cons Cv.fl CvL.nil))))))) (Cv.close (T := [46, 47, 48]) (chHead x11.1)))) rfl) (HasAll.cons (Has.fl Has.int) (HasAll.cons (Has.fl (Has.u8 112 rfl)) HasAll.nil)))))) (ao (so (Spec.and (Has.s rfl) (fun h => Has.u rfl h))) (ao (so (Spec.assign (Has.s rfl))) AllM.nil))))))))))))))))))))))))))))))))))) ?_
 refine Leaf.thenN ?_
 refine CWalk.ret ?_
 obtain rfl := Option.some.inj hm
 exact Leaf.retC1 rfl (HasR.cv (HasR.tmp (Has.s rfl)) Cv.fl)

/-- freeboard/head.may -/
def head_may (a0 : Int) (a1 : UInt8) : Option (Bool) :=
  (bif (a0 == (0 : Int)) then some (a1 == (0 : UInt8)) else (bif (a0 == (1 : Int)) then some (a1 == (1 : UInt8)) else (bif (a0 == (2 : Int)) then some (a1 == (2 : UInt8)) else (bif (a0 == (3 : Int)) then some ((a1 == (1 : UInt8)) || (a1 == (3 : UInt8))) else some (a1 == (4 : UInt8))))))
set_option maxRecDepth 100000 in
set_option maxHeartbeats 2000000 in
theorem head_may_c (a0 : Int) (a1 : UInt8) {r : Bool} (hm : head_may a0 a1 = some r) : Ctr Try.prog 78 [.rep 0 a0, .rep 0 a1] (.fl r) [] := by
 refine ctr_of_walk [[]] 28 Try.func78 rfl rfl rfl rfl (fun w0 om => ?_)
 unfold head_may at hm
 refine CWalk.sub (G' := [.fact 0 (.rep [] (a0 : Int)), .fact 1 (.rep [] (a1 : UInt8))]) (Sub.cons (Has.fl (Has.s rfl)) (Sub.cons (Has.fl (Has.s rfl)) Sub.nil)) ?_
 refine CWalk.seq ?_
 refine CWalk.region ?_
 refine wo (Spec.assign Has.bool) ?_
 refine Walk.nil ?_
 refine Leaf.thenN ?_
 refine CWalk.seq ?_
 refine CWalk.seq ?_
 refine CWalk.region ?_
 refine mv ?_
 refine Walk.nil ?_
 refine Leaf.thenN ?_
 refine CWalk.block ?_
 refine CWalk.seq ?_
 refine CWalk.region ?_
 refine wo (Spec.eqlI (Has.s rfl) Has.int) ?_
 refine wo (Spec.assign (Has.s rfl)) ?_
 refine Walk.nil ?_
 refine Leaf.thenN ?_
 refine CWalk.cond rfl (fun hb => ?_) (fun hb => ?_)
 ·have hm := cond_t hb hm
  refine CWalk.seq ?_
  refine CWalk.region ?_
  refine mv ?_
  refine wo (Spec.eqlB (Has.s rfl) (Has.u8 0 rfl)) ?_
  refine wo (Spec.assign (Has.s rfl)) ?_
  refine Walk.nil ?_
  refine Leaf.thenN ?_
  refine CWalk.ret ?_
  refine Leaf.blockR ?_
  refine Leaf.thenR ?_
  obtain rfl := Option.some.inj hm
  exact Leaf.retC1 rfl (HasR.cv (HasR.tmp (Has.s rfl)) Cv.fl)
 ·have hm := cond_f hb hm
  refine CWalk.seq ?_
  refine CWalk.region ?_
  refine wo (Spec.eqlI (Has.s rfl) Has.int) ?_
  refine wo (Spec.assign (Has.s rfl)) ?_
  refine Walk.nil ?_
  refine Leaf.thenN ?_
  refine CWalk.cond rfl (fun hb => ?_) (fun hb => ?_)
  ·have hm := cond_t hb hm
   refine CWalk.seq ?_
   refine CWalk.region ?_
   refine mv ?_
   refine wo (Spec.eqlB (Has.s rfl) (Has.u8 1 rfl)) ?_
   refine wo (Spec.assign (Has.s rfl)) ?_
   refine Walk.nil ?_
   refine Leaf.thenN ?_
   refine CWalk.ret ?_
   refine Leaf.blockR ?_
   refine Leaf.thenR ?_
   obtain rfl := Option.some.inj hm
   exact Leaf.retC1 rfl (HasR.cv (HasR.tmp (Has.s rfl)) Cv.fl)
  ·have hm := cond_f hb hm
   refine CWalk.seq ?_
   refine CWalk.region ?_
   refine wo (Spec.eqlI (Has.s rfl) Has.int) ?_
   refine wo (Spec.assign (Has.s rfl)) ?_
   refine Walk.nil ?_
   refine Leaf.thenN ?_
   refine CWalk.cond rfl (fun hb => ?_) (fun hb => ?_)
   ·have hm := cond_t hb hm
    refine CWalk.seq ?_
    refine CWalk.region ?_
    refine mv ?_
    refine wo (Spec.eqlB (Has.s rfl) (Has.u8 2 rfl)) ?_
    refine wo (Spec.assign (Has.s rfl)) ?_
    refine Walk.nil ?_
    refine Leaf.thenN ?_
    refine CWalk.ret ?_
    refine Leaf.blockR ?_
    refine Leaf.thenR ?_
    obtain rfl := Option.some.inj hm
    exact Leaf.retC1 rfl (HasR.cv (HasR.tmp (Has.s rfl)) Cv.fl)
   ·have hm := cond_f hb hm
    refine CWalk.seq ?_
    refine CWalk.region ?_
    refine wo (Spec.eqlI (Has.s rfl) Has.int) ?_
    refine wo (Spec.assign (Has.s rfl)) ?_
    refine Walk.nil ?_
    refine Leaf.thenN ?_
    refine CWalk.cond rfl (fun hb => ?_) (fun hb => ?_)
    ·have hm := cond_t hb hm
     refine CWalk.seq ?_
     refine CWalk.region ?_
     refine mv ?_
     refine wo (Spec.eqlB (Has.s rfl) (Has.u8 1 rfl)) ?_
     refine mv ?_
     refine wg rfl rfl (fun hb => Spec.move (Has.s rfl)) ?_
     refine wg rfl rfl (fun hb => Spec.eqlB (Has.u rfl hb) (Has.u8 3 rfl)) ?_
     refine wo (Spec.or (Has.s rfl) (fun h => Has.u rfl h)) ?_
     refine wo (Spec.assign (Has.s rfl)) ?_
     refine Walk.nil ?_
     refine Leaf.thenN ?_
     refine CWalk.ret ?_
     refine Leaf.blockR ?_
     refine Leaf.thenR ?_
     obtain rfl := Option.some.inj hm
     exact Leaf.retC1 rfl (HasR.cv (HasR.tmp (Has.s rfl)) Cv.fl)
    ·have hm := cond_f hb hm
     refine CWalk.skip ?_
     refine Leaf.blockN ?_
     refine Leaf.thenN ?_
     refine CWalk.seq ?_
     refine CWalk.region ?_
     refine mv ?_
     refine wo (Spec.eqlB (Has.s rfl) (Has.u8 4 rfl)) ?_
     refine wo (Spec.assign (Has.s rfl)) ?_
     refine Walk.nil ?_
     refine Leaf.thenN ?_
     refine CWalk.ret ?_
     obtain rfl := Option.some.inj hm
     exact Leaf.retC1 rfl (HasR.cv (HasR.tmp (Has.s rfl)) Cv.fl)

def slices_Index_bool_bool_L1 (a0 : List Bool) (a1 : Bool) (s1 : Int) : Option (Ctl (Int) ((Unit) ⊕ (Int))) :=
  (bif (decide (s1 < ((a0).length : Int))) then Option.bind (idx a0 s1) (fun x3 => (bif (a1 == x3) then some (Ctl.brk (Sum.inr s1)) else some (Ctl.next (wI (s1 + (1 : Int)))))) else some (Ctl.brk (Sum.inl ())))
/-- slices.Index[[]bool,bool] -/
def slices_Index_bool_bool (a0 : List Bool) (a1 : Bool) : Option (Int) :=
  Option.bind (loopM (fun s : Int => slices_Index_bool_bool_L1 a0 a1 s) FUEL (0 : Int)) (fun b4 => Sum.elim (fun b5 => some (-1 : Int)) (fun b6 => some b6) b4)
set_option maxRecDepth 100000 in
set_option maxHeartbeats 2000000 in
theorem slices_Index_bool_bool_c (a0 : List Bool) (a1 : Bool) {r : Int} (hm : slices_Index_bool_bool a0 a1 = some r) : Ctr Try.prog 81 [.rep 0 a0, .rep 0 a1] (.fl r) [] := by
 refine ctr_of_walk [[]] 19 Try.func81 rfl rfl rfl rfl (fun w0 om => ?_)
 unfold slices_Index_bool_bool at hm
 refine CWalk.sub (G' := [.fact 0 (.rep [0] (a0 : List Bool)), .fact 1 (.rep [] (a1 : Bool))]) (sn (Sub.cons (Has.fl (Has.s rfl)) Sub.nil)) ?_
 refine CWalk.seq ?_
 refine CWalk.region ?_
 refine wo (Spec.assign Has.int) ?_
 refine Walk.nil ?_
 refine Leaf.thenN ?_
 refine CWalk.seq ?_
 refine CWalk.seq ?_
 refine CWalk.region ?_
 refine mv ?_
 refine wo (Spec.len (Has.s rfl) Try.underlying26) ?_
 refine wo (Spec.move Has.int) ?_
 refine Walk.nil ?_
 refine Leaf.thenN ?_
 refine CWalk.block ?_
 obtain ⟨b4, hb4, hm⟩ := bind_some hm
 refine CWalk.loop (fun s : Int => [.fact 0 (.rep [0] (a0 : List Bool)), .fact 1 (.rep [] (a1 : Bool)), .fact 7 (.rep [] (((a0).length : Int) : Int)), .fact 8 (.rep [] (s : Int))]) (fun b : (Unit) ⊕ (Int) => Sum.elim (fun b => (Exit.exit 0, [])) (fun b => (Exit.ret, [.fact 4 (.rep [] (b : Int))])) b) hb4 (su (st (st (st Sub.nil)))) ?_ ?_
 ·rintro s1 c2 hm
  replace hm : slices_Index_bool_bool_L1 a0 a1 s1 = some c2 := hm
  unfold slices_Index_bool_bool_L1 at hm
  show CWalk _ [.fact 0 (.rep [0] (a0 : List Bool)), .fact 1 (.rep [] (a1 : Bool)), .fact 7 (.rep [] (((a0).length : Int) : Int)), .fact 8 (.rep [] (s1 : Int))] _ _
  refine CWalk.seq ?_
  refine CWalk.region ?_
  refine wo (Spec.lssI (Has.s rfl) (Has.s rfl)) ?_
  refine Walk.nil ?_
  refine Leaf.thenN ?_
  refine CWalk.seq ?_
  refine CWalk.cond rfl (fun hb => ?_) (fun hb => ?_)
  ·have hm := cond_t hb hm
   refine CWalk.skip ?_
   refine Leaf.thenN ?_
   refine CWalk.seq ?_
   refine CWalk.block ?_
   refine CWalk.seq ?_
   refine CWalk.region ?_
   refine mv ?_
   refine wo (Spec.assign (Has.s rfl)) ?_
   refine Walk.nil ?_
   refine Leaf.thenN ?_
   refine CWalk.seq ?_
   refine CWalk.region ?_
   refine mv ?_
   refine mv ?_
   refine mv ?_
   obtain ⟨x3, hx3, hm⟩ := bind_some hm
   refine wo (Spec.indexAddr hx3 sl26 (Has.s rfl) (Has.s rfl)) ?_
   refine wo ((Spec.load ty4 (Has.s rfl)).flat (T' := [])) ?_
   refine wo (Spec.eqlT (Has.s rfl) (Has.s rfl) Try.underlying4) ?_
   refine Walk.nil ?_
   refine Leaf.thenN ?_
   refine CWalk.cond rfl (fun hb => ?_) (fun hb => ?_)
   ·have hm := cond_t hb hm
    refine CWalk.seq ?_
    refine CWalk.region ?_
    refine mv ?_
    refine wo (Spec.assign (Has.s rfl)) ?_
    refine Walk.nil ?_
    refine Leaf.thenN ?_
    refine CWalk.ret ?_
    refine Leaf.blockR ?_
    refine Leaf.thenR ?_
    exact Leaf.brk hm (fun h => nomatch h) rfl (st Sub.nil)
   ·have hm := cond_f hb hm
    refine CWalk.skip ?_
    refine Leaf.blockN ?_
    refine Leaf.thenN ?_
    refine CWalk.region ?_
    refine wo (Spec.addI (Has.s rfl) Has.int) ?_
    refine mv ?_
    refine Walk.nil ?_
    exact Leaf.next hm (su (st (st (st Sub.nil))))
  ·have hm := cond_f hb hm
   refine CWalk.exit ?_
   refine Leaf.thenE ?_
   exact Leaf.brk hm (fun h => nomatch h) rfl (Sub.nil)
 ·intro _
  rcases b4 with b5 | b6
  ·have hm := selim_l hm
   refine Leaf.blockE ?_
   refine Leaf.thenN ?_
   refine CWalk.seq ?_
   refine CWalk.region ?_
   refine wo (Spec.assign Has.int) ?_
   refine Walk.nil ?_
   refine Leaf.thenN ?_
   refine CWalk.ret ?_
   obtain rfl := Option.some.inj hm
   exact Leaf.retC1 rfl (HasR.cv (HasR.tmp (Has.s rfl)) Cv.fl)
  ·have hm := selim_r hm
   refine Leaf.blockR ?_
   refine Leaf.thenR ?_
   obtain rfl := Option.some.inj hm
   exact Leaf.retC1 rfl (HasR.cv (HasR.tmp (Has.s rfl)) Cv.fl)

/-- slices.Contains[[]bool,bool] -/
def slices_Contains_bool_bool (a0 : List Bool) (a1 : Bool) : Option (Bool) :=
  Option.bind (slices_Index_bool_bool a0 a1) (fun x1 => some (decide (x1 ≥ (0 : Int))))
set_option maxRecDepth 100000 in
set_option maxHeartbeats 2000000 in
theorem slices_Contains_bool_bool_c (a0 : List Bool) (a1 : Bool) {r : Bool} (hm : slices_Contains_bool_bool a0 a1 = some r) : Ctr Try.prog 79 [.rep 0 a0, .rep 0 a1] (.fl r) [] := by
 refine ctr_of_walk [[]] 9 Try.func79 rfl rfl rfl rfl (fun w0 om => ?_)
 unfold slices_Contains_bool_bool at hm
 refine CWalk.sub (G' := [.fact 0 (.rep [0] (a0 : List Bool)), .fact 1 (.rep [] (a1 : Bool))]) (sn (Sub.cons (Has.fl (Has.s rfl)) Sub.nil)) ?_
 refine CWalk.seq ?_
 refine CWalk.region ?_
 refine wo (Spec.assign Has.bool) ?_
 refine Walk.nil ?_
 refine Leaf.thenN ?_
 refine CWalk.seq ?_
 refine CWalk.region ?_
 refine mv ?_
 refine mv ?_
 obtain ⟨x1, hx1, hm⟩ := bind_some hm
 refine wo (f := Fact.rep [] (x1 : Int)) (Spec.callE [0] 10 rfl en81 (slices_Index_bool_bool_c a0 a1 hx1) (HasAll.cons (Has.m (Has.s rfl) rfl) (HasAll.cons (Has.fl (Has.s rfl)) HasAll.nil))) ?_
 refine wo (Spec.geqI (Has.s rfl) Has.int) ?_
 refine wo (Spec.assign (Has.s rfl)) ?_
 refine Walk.nil ?_
 refine Leaf.thenN ?_
 refine CWalk.ret ?_
 obtain rfl := Option.some.inj hm
 exact Leaf.retC1 rfl (HasR.cv (HasR.tmp (Has.s rfl)) Cv.fl)

end Go.Proofs.Ytjefieckineneaa
