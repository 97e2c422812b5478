/- Printed by a program of ours: models of functions, and that calls do what they say. -/
import Derived.Test.YtbedfodlofannaaProg
import Derived.Test.YtbedfodlofannaaCore45
import Derived.KernelRfl
namespace Go.Proofs.Ytbedfodlofannaa
open Go GL
set_option linter.unusedVariables false

structure Config where
  Id : UInt32
  Members : Int
  Chunk : Int
  Rows : Int
  Log : Int
  Heads : Int
  deriving Inhabited, DecidableEq
instance : Rp Config := Rp.via (inferInstance : Rp (UInt32 × Int × Int × Int × Int × Int)) (fun x => (x.Id, x.Members, x.Chunk, x.Rows, x.Log, x.Heads))
theorem chConfig (x : Config) : Ch x [⟨inferInstance, x.Id⟩, ⟨inferInstance, x.Members⟩, ⟨inferInstance, x.Chunk⟩, ⟨inferInstance, x.Rows⟩, ⟨inferInstance, x.Log⟩, ⟨inferInstance, x.Heads⟩] := Ch.via (ChT.cons (ChT.cons (ChT.cons (ChT.cons (ChT.cons (ChT.one _))))))
instance : Lo Config := Lo.via (inferInstance : Rp (UInt32 × Int × Int × Int × Int × Int)) inferInstance (fun x : Config => (x.Id, x.Members, x.Chunk, x.Rows, x.Log, x.Heads))
theorem loConfig_0 (x : Config) : LoAt x 0 x.Id := fun F cs w h => (LoAt.fst : LoAt ((x.Id, x.Members, x.Chunk, x.Rows, x.Log, x.Heads)) 0 x.Id) F cs w h
theorem loConfig_1 (x : Config) : LoAt x 1 x.Members := fun F cs w h => ((LoAt.snd LoAt.fst) : LoAt ((x.Id, x.Members, x.Chunk, x.Rows, x.Log, x.Heads)) 1 x.Members) F cs w h
theorem loConfig_2 (x : Config) : LoAt x 2 x.Chunk := fun F cs w h => ((LoAt.snd (LoAt.snd LoAt.fst)) : LoAt ((x.Id, x.Members, x.Chunk, x.Rows, x.Log, x.Heads)) 2 x.Chunk) F cs w h
theorem loConfig_3 (x : Config) : LoAt x 3 x.Rows := fun F cs w h => ((LoAt.snd (LoAt.snd (LoAt.snd LoAt.fst))) : LoAt ((x.Id, x.Members, x.Chunk, x.Rows, x.Log, x.Heads)) 3 x.Rows) F cs w h
theorem loConfig_4 (x : Config) : LoAt x 4 x.Log := fun F cs w h => ((LoAt.snd (LoAt.snd (LoAt.snd (LoAt.snd LoAt.fst)))) : LoAt ((x.Id, x.Members, x.Chunk, x.Rows, x.Log, x.Heads)) 4 x.Log) F cs w h
theorem loConfig_5 (x : Config) : LoAt x 5 x.Heads := fun F cs w h => ((LoAt.snd (LoAt.snd (LoAt.snd (LoAt.snd (LoAt.snd LoAt.self))))) : LoAt ((x.Id, x.Members, x.Chunk, x.Rows, x.Log, x.Heads)) 5 x.Heads) F cs w h
instance : Flat Config := ⟨fun F F' x cs w w' h => Flat.flat (α := UInt32 × Int × Int × Int × Int × Int) F F' ((x.Id, x.Members, x.Chunk, x.Rows, x.Log, x.Heads)) cs w w' h⟩

structure Plan where
  Kind : UInt8
  Reads : List Int
  deriving Inhabited, DecidableEq
instance : Rp Plan := Rp.via (inferInstance : Rp (UInt8 × (List Int))) (fun x => (x.Kind, x.Reads))
theorem chPlan (x : Plan) : Ch x [⟨inferInstance, x.Kind⟩, ⟨inferInstance, x.Reads⟩] := Ch.via (ChT.cons (ChT.one _))
instance : Lo Plan := Lo.via (inferInstance : Rp (UInt8 × (List Int))) inferInstance (fun x : Plan => (x.Kind, x.Reads))
theorem loPlan_0 (x : Plan) : LoAt x 0 x.Kind := fun F cs w h => (LoAt.fst : LoAt ((x.Kind, x.Reads)) 0 x.Kind) F cs w h
theorem loPlan_1 (x : Plan) : LoAt x 1 x.Reads := fun F cs w h => ((LoAt.snd LoAt.self) : LoAt ((x.Kind, x.Reads)) 1 x.Reads) F cs w h

structure Head where
  Stripe : Int
  Blocks : List (List UInt8)
  Dirty : List Bool
  Phase : UInt8
  Deals : Bool
  Seq : UInt32
  deriving Inhabited, DecidableEq
instance : Rp Head := Rp.via (inferInstance : Rp (Int × (List (List UInt8)) × (List Bool) × UInt8 × Bool × UInt32)) (fun x => (x.Stripe, x.Blocks, x.Dirty, x.Phase, x.Deals, x.Seq))
theorem chHead (x : Head) : Ch x [⟨inferInstance, x.Stripe⟩, ⟨inferInstance, x.Blocks⟩, ⟨inferInstance, x.Dirty⟩, ⟨inferInstance, x.Phase⟩, ⟨inferInstance, x.Deals⟩, ⟨inferInstance, x.Seq⟩] := Ch.via (ChT.cons (ChT.cons (ChT.cons (ChT.cons (ChT.cons (ChT.one _))))))
instance : Lo Head := Lo.via (inferInstance : Rp (Int × (List (List UInt8)) × (List Bool) × UInt8 × Bool × UInt32)) inferInstance (fun x : Head => (x.Stripe, x.Blocks, x.Dirty, x.Phase, x.Deals, x.Seq))
theorem loHead_0 (x : Head) : LoAt x 0 x.Stripe := fun F cs w h => (LoAt.fst : LoAt ((x.Stripe, x.Blocks, x.Dirty, x.Phase, x.Deals, x.Seq)) 0 x.Stripe) F cs w h
theorem loHead_1 (x : Head) : LoAt x 1 x.Blocks := fun F cs w h => ((LoAt.snd LoAt.fst) : LoAt ((x.Stripe, x.Blocks, x.Dirty, x.Phase, x.Deals, x.Seq)) 1 x.Blocks) F cs w h
theorem loHead_2 (x : Head) : LoAt x 2 x.Dirty := fun F cs w h => ((LoAt.snd (LoAt.snd LoAt.fst)) : LoAt ((x.Stripe, x.Blocks, x.Dirty, x.Phase, x.Deals, x.Seq)) 2 x.Dirty) F cs w h
theorem loHead_3 (x : Head) : LoAt x 3 x.Phase := fun F cs w h => ((LoAt.snd (LoAt.snd (LoAt.snd LoAt.fst))) : LoAt ((x.Stripe, x.Blocks, x.Dirty, x.Phase, x.Deals, x.Seq)) 3 x.Phase) F cs w h
theorem loHead_4 (x : Head) : LoAt x 4 x.Deals := fun F cs w h => ((LoAt.snd (LoAt.snd (LoAt.snd (LoAt.snd LoAt.fst)))) : LoAt ((x.Stripe, x.Blocks, x.Dirty, x.Phase, x.Deals, x.Seq)) 4 x.Deals) F cs w h
theorem loHead_5 (x : Head) : LoAt x 5 x.Seq := fun F cs w h => ((LoAt.snd (LoAt.snd (LoAt.snd (LoAt.snd (LoAt.snd LoAt.self))))) : LoAt ((x.Stripe, x.Blocks, x.Dirty, x.Phase, x.Deals, x.Seq)) 5 x.Seq) F cs w h

structure Arr3_Int where
  e0 : Int
  e1 : Int
  e2 : Int
  deriving Inhabited, DecidableEq
instance : Rp Arr3_Int := Rp.via (inferInstance : Rp (Int × Int × Int)) (fun x => (x.e0, x.e1, x.e2))
theorem chArr3_Int (x : Arr3_Int) : Ch x [⟨inferInstance, x.e0⟩, ⟨inferInstance, x.e1⟩, ⟨inferInstance, x.e2⟩] := Ch.via (ChT.cons (ChT.cons (ChT.one _)))
instance : Lo Arr3_Int := Lo.via (inferInstance : Rp (Int × Int × Int)) inferInstance (fun x : Arr3_Int => (x.e0, x.e1, x.e2))
theorem loArr3_Int_0 (x : Arr3_Int) : LoAt x 0 x.e0 := fun F cs w h => (LoAt.fst : LoAt ((x.e0, x.e1, x.e2)) 0 x.e0) F cs w h
theorem loArr3_Int_1 (x : Arr3_Int) : LoAt x 1 x.e1 := fun F cs w h => ((LoAt.snd LoAt.fst) : LoAt ((x.e0, x.e1, x.e2)) 1 x.e1) F cs w h
theorem loArr3_Int_2 (x : Arr3_Int) : LoAt x 2 x.e2 := fun F cs w h => ((LoAt.snd (LoAt.snd LoAt.self)) : LoAt ((x.e0, x.e1, x.e2)) 2 x.e2) F cs w h
instance : Flat Arr3_Int := ⟨fun F F' x cs w w' h => Flat.flat (α := Int × Int × Int) F F' ((x.e0, x.e1, x.e2)) cs w w' h⟩

structure Row83 where
  Config : Config
  n : Int
  deriving Inhabited, DecidableEq
instance : Rp Row83 := Rp.via (inferInstance : Rp (Config × Int)) (fun x => (x.Config, x.n))
theorem chRow83 (x : Row83) : Ch x [⟨inferInstance, x.Config⟩, ⟨inferInstance, x.n⟩] := Ch.via (ChT.cons (ChT.one _))
instance : Lo Row83 := Lo.via (inferInstance : Rp (Config × Int)) inferInstance (fun x : Row83 => (x.Config, x.n))
theorem loRow83_0 (x : Row83) : LoAt x 0 x.Config := fun F cs w h => (LoAt.fst : LoAt ((x.Config, x.n)) 0 x.Config) F cs w h
theorem loRow83_1 (x : Row83) : LoAt x 6 x.n := fun F cs w h => ((LoAt.snd LoAt.self) : LoAt ((x.Config, x.n)) 6 x.n) F cs w h
instance : Flat Row83 := ⟨fun F F' x cs w w' h => Flat.flat (α := Config × Int) F F' ((x.Config, x.n)) cs w w' h⟩

theorem ow29 : OwnTy Try.prog 29 3 (Int) := OwnTy.of Try.underlying29 (by kernel_rfl) rfl (by kernel_rfl)
theorem bd31 : BuildTy Try.prog 31 [(0, 1), (1, 1)] [(false, 1, Fact.rep [] ((0 : UInt8) : UInt8)), (false, 1, Fact.nilv)] := ⟨⟨_, [.int .u8 0, .slice none 0 0], by kernel_rfl, Try.underlying31, (fun g w => FldRel.zr (fun _ _ => rfl) (FldRel.zn (rfl))), by kernel_rfl⟩⟩
theorem ow36 : OwnTy Try.prog 36 5 (UInt8) := OwnTy.of Try.underlying36 (by kernel_rfl) rfl (by kernel_rfl)
theorem zt5 : ZeroTy Try.prog 5 (0 : UInt8) := ⟨.int .u8 0, by kernel_rfl, fun _ => rfl⟩
theorem ty5 : Ty Try.prog 5 (UInt8) := Ty.of (by kernel_rfl)
theorem en26 : enters Try.prog 26 = true := by kernel_rfl
theorem ow25 : OwnTy Try.prog 25 36 (List UInt8) := OwnTy.of Try.underlying25 (by kernel_rfl) rfl (by kernel_rfl)
theorem zl24 : ZeroLs Try.prog 24 [(false, 1, Fact.rep [] ((0 : UInt32) : UInt32)), (false, 1, Fact.rep [] ((0 : Int) : Int)), (false, 1, Fact.rep [] ((0 : Int) : Int)), (false, 1, Fact.rep [] ((0 : Int) : Int)), (false, 1, Fact.rep [] ((0 : Int) : Int)), (false, 1, Fact.rep [] ((0 : Int) : Int))] := ⟨⟨[.int .u32 0, .int .i64 0, .int .i64 0, .int .i64 0, .int .i64 0, .int .i64 0], by kernel_rfl, fun g w => FldRel.zr (fun _ _ => rfl) (FldRel.zr (fun _ _ => rfl) (FldRel.zr (fun _ _ => rfl) (FldRel.zr (fun _ _ => rfl) (FldRel.zr (fun _ _ => rfl) (FldRel.zr (fun _ _ => rfl) (rfl))))))⟩⟩
theorem bd24 : BuildTy Try.prog 24 [(0, 1), (1, 1), (2, 1), (3, 1), (4, 1), (5, 1)] [(false, 1, Fact.rep [] ((0 : UInt32) : UInt32)), (false, 1, Fact.rep [] ((0 : Int) : Int)), (false, 1, Fact.rep [] ((0 : Int) : Int)), (false, 1, Fact.rep [] ((0 : Int) : Int)), (false, 1, Fact.rep [] ((0 : Int) : Int)), (false, 1, Fact.rep [] ((0 : Int) : Int))] := ⟨⟨_, [.int .u32 0, .int .i64 0, .int .i64 0, .int .i64 0, .int .i64 0, .int .i64 0], by kernel_rfl, Try.underlying24, (fun g w => FldRel.zr (fun _ _ => rfl) (FldRel.zr (fun _ _ => rfl) (FldRel.zr (fun _ _ => rfl) (FldRel.zr (fun _ _ => rfl) (FldRel.zr (fun _ _ => rfl) (FldRel.zr (fun _ _ => rfl) (rfl))))))), by kernel_rfl⟩⟩
theorem ty24 : Ty Try.prog 24 (Config) := Ty.of (by kernel_rfl)
theorem en15 : enters Try.prog 15 = true := by kernel_rfl
theorem zl28 : ZeroLs Try.prog 28 [(false, 1, Fact.rep [] ((0 : Int) : Int)), (false, 1, Fact.nilv), (false, 1, Fact.nilv), (false, 1, Fact.rep [] ((0 : UInt8) : UInt8)), (false, 1, Fact.rep [] (false : Bool)), (false, 1, Fact.rep [] ((0 : UInt32) : UInt32))] := ⟨⟨[.int .i64 0, .slice none 0 0, .slice none 0 0, .int .u8 0, .bool false, .int .u32 0], by kernel_rfl, fun g w => FldRel.zr (fun _ _ => rfl) (FldRel.zn (FldRel.zn (FldRel.zr (fun _ _ => rfl) (FldRel.zr (fun _ _ => rfl) (FldRel.zr (fun _ _ => rfl) (rfl))))))⟩⟩
theorem fd24_2 : FieldTy Try.prog 24 2 2 1 := FieldTy.of Try.underlying24 (by kernel_rfl) rfl
theorem ty3 : Ty Try.prog 3 (Int) := Ty.of (by kernel_rfl)
theorem fd24_3 : FieldTy Try.prog 24 3 3 1 := FieldTy.of Try.underlying24 (by kernel_rfl) rfl
theorem fd24_1 : FieldTy Try.prog 24 1 1 1 := FieldTy.of Try.underlying24 (by kernel_rfl) rfl
theorem bd112 : BuildTyA Try.prog 112 [(0, 1), (1, 1), (2, 1)] [(false, 1, Fact.rep [] ((0 : Int) : Int)), (false, 1, Fact.rep [] ((0 : Int) : Int)), (false, 1, Fact.rep [] ((0 : Int) : Int))] := ⟨⟨_, _, 1, [.int .i64 0, .int .i64 0, .int .i64 0], by kernel_rfl, Try.underlying112, by kernel_rfl, (fun g w => FldRel.zr (fun _ _ => rfl) (FldRel.zr (fun _ _ => rfl) (FldRel.zr (fun _ _ => rfl) (rfl)))), rfl⟩⟩
theorem fd24_5 : FieldTy Try.prog 24 5 5 1 := FieldTy.of Try.underlying24 (by kernel_rfl) rfl
theorem ow113 : OwnTy Try.prog 113 112 (Arr3_Int) := OwnTy.of Try.underlying113 (by kernel_rfl) rfl (by kernel_rfl)
theorem sl113 : SlTy Try.prog 113 112 (Arr3_Int) := SlTy.of Try.underlying113 (by kernel_rfl) rfl
theorem ty112 : Ty Try.prog 112 (Arr3_Int) := Ty.of (by kernel_rfl)
theorem zl112 : ZeroLs Try.prog 112 [(false, 1, Fact.rep [] ((0 : Int) : Int)), (false, 1, Fact.rep [] ((0 : Int) : Int)), (false, 1, Fact.rep [] ((0 : Int) : Int))] := ⟨⟨[.int .i64 0, .int .i64 0, .int .i64 0], by kernel_rfl, fun g w => FldRel.zr (fun _ _ => rfl) (FldRel.zr (fun _ _ => rfl) (FldRel.zr (fun _ _ => rfl) (rfl)))⟩⟩
theorem sm112 : SmTy Try.prog 112 3 3 1 := ⟨Try.underlying112, by kernel_rfl⟩
theorem en79 : enters Try.prog 79 = true := by kernel_rfl
theorem fd24_4 : FieldTy Try.prog 24 4 4 1 := FieldTy.of Try.underlying24 (by kernel_rfl) rfl
theorem en75 : enters Try.prog 75 = true := by kernel_rfl
theorem en64 : enters Try.prog 64 = true := by kernel_rfl
theorem en38 : enters Try.prog 38 = true := by kernel_rfl
theorem bd28 : BuildTy Try.prog 28 [(0, 1), (1, 1), (2, 1), (3, 1), (4, 1), (5, 1)] [(false, 1, Fact.rep [] ((0 : Int) : Int)), (false, 1, Fact.nilv), (false, 1, Fact.nilv), (false, 1, Fact.rep [] ((0 : UInt8) : UInt8)), (false, 1, Fact.rep [] (false : Bool)), (false, 1, Fact.rep [] ((0 : UInt32) : UInt32))] := ⟨⟨_, [.int .i64 0, .slice none 0 0, .slice none 0 0, .int .u8 0, .bool false, .int .u32 0], by kernel_rfl, Try.underlying28, (fun g w => FldRel.zr (fun _ _ => rfl) (FldRel.zn (FldRel.zn (FldRel.zr (fun _ _ => rfl) (FldRel.zr (fun _ _ => rfl) (FldRel.zr (fun _ _ => rfl) (rfl))))))), by kernel_rfl⟩⟩
theorem ty28 : Ty Try.prog 28 (Head) := Ty.of (by kernel_rfl)
theorem zt36 : ZeroTy Try.prog 36 ([] : List UInt8) := ⟨.slice none 0 0, by kernel_rfl, fun _ => nil_rel⟩
theorem ow26 : OwnTy Try.prog 26 4 (Bool) := OwnTy.of Try.underlying26 (by kernel_rfl) rfl (by kernel_rfl)
theorem zt4 : ZeroTy Try.prog 4 false := ⟨.bool false, by kernel_rfl, fun _ => rfl⟩
theorem mixed : Try.prog.follows .mixedOrders = true := by kernel_rfl
theorem en17 : enters Try.prog 17 = true := by kernel_rfl
theorem ty36 : Ty Try.prog 36 (List UInt8) := Ty.of (by kernel_rfl)
theorem en47 : enters Try.prog 47 = true := by kernel_rfl
theorem fd28_0 : FieldTy Try.prog 28 0 0 1 := FieldTy.of Try.underlying28 (by kernel_rfl) rfl
theorem fd28_1 : FieldTy Try.prog 28 1 1 1 := FieldTy.of Try.underlying28 (by kernel_rfl) rfl
theorem ty25 : Ty Try.prog 25 (List (List UInt8)) := Ty.of (by kernel_rfl)
theorem fd28_2 : FieldTy Try.prog 28 2 2 1 := FieldTy.of Try.underlying28 (by kernel_rfl) rfl
theorem ty26 : Ty Try.prog 26 (List Bool) := Ty.of (by kernel_rfl)
theorem fd28_3 : FieldTy Try.prog 28 3 3 1 := FieldTy.of Try.underlying28 (by kernel_rfl) rfl
theorem sl25 : SlTy Try.prog 25 36 (List UInt8) := SlTy.of Try.underlying25 (by kernel_rfl) rfl
theorem en56 : enters Try.prog 56 = true := by kernel_rfl
theorem en51 : enters Try.prog 51 = true := by kernel_rfl
theorem en31 : enters Try.prog 31 = true := by kernel_rfl
theorem sl26 : SlTy Try.prog 26 4 (Bool) := SlTy.of Try.underlying26 (by kernel_rfl) rfl
theorem ty4 : Ty Try.prog 4 (Bool) := Ty.of (by kernel_rfl)
theorem fd28_5 : FieldTy Try.prog 28 5 5 1 := FieldTy.of Try.underlying28 (by kernel_rfl) rfl
theorem ty22 : Ty Try.prog 22 (UInt32) := Ty.of (by kernel_rfl)
theorem fd28_4 : FieldTy Try.prog 28 4 4 1 := FieldTy.of Try.underlying28 (by kernel_rfl) rfl
theorem en27 : enters Try.prog 27 = true := by kernel_rfl
theorem en77 : enters Try.prog 77 = true := by kernel_rfl
theorem en70 : enters Try.prog 70 = true := by kernel_rfl
theorem en69 : enters Try.prog 69 = true := by kernel_rfl
theorem en48 : enters Try.prog 48 = true := by kernel_rfl
theorem en49 : enters Try.prog 49 = true := by kernel_rfl
theorem en22 : enters Try.prog 22 = true := by kernel_rfl
theorem en16 : enters Try.prog 16 = true := by kernel_rfl
theorem ty31 : Ty Try.prog 31 (Plan) := Ty.of (by kernel_rfl)
theorem en52 : enters Try.prog 52 = true := by kernel_rfl
theorem en28 : enters Try.prog 28 = true := by kernel_rfl
theorem en29 : enters Try.prog 29 = true := by kernel_rfl
theorem zl63 : ZeroLs Try.prog 63 [(false, 1, Fact.fz Try.prog [] ((none : Option (Option (List Int))) : Option (Option (List Int)))), (false, 1, Fact.fz Try.prog [] ((none : Option (Option (List Int))) : Option (Option (List Int)))), (false, 1, Fact.fz Try.prog [] ((none : Option (Option (List Int))) : Option (Option (List Int)))), (false, 1, Fact.fz Try.prog [] ((none : Option (Option (List Int))) : Option (Option (List Int))))] := ⟨⟨[.nilFunc, .nilFunc, .nilFunc, .nilFunc], by kernel_rfl, fun g w => FldRel.zf (FldRel.zf (FldRel.zf (FldRel.zf (rfl))))⟩⟩
theorem en53 : enters Try.prog 53 = true := by kernel_rfl
theorem en55 : enters Try.prog 55 = true := by kernel_rfl
theorem bd63 : BuildTyA Try.prog 63 [(0, 1), (1, 1), (2, 1), (3, 1)] [(false, 1, Fact.fz Try.prog [] ((none : Option (Option (List Int))) : Option (Option (List Int)))), (false, 1, Fact.fz Try.prog [] ((none : Option (Option (List Int))) : Option (Option (List Int)))), (false, 1, Fact.fz Try.prog [] ((none : Option (Option (List Int))) : Option (Option (List Int)))), (false, 1, Fact.fz Try.prog [] ((none : Option (Option (List Int))) : Option (Option (List Int))))] := ⟨⟨_, _, 1, [.nilFunc, .nilFunc, .nilFunc, .nilFunc], by kernel_rfl, Try.underlying63, by kernel_rfl, (fun g w => FldRel.zf (FldRel.zf (FldRel.zf (FldRel.zf (rfl))))), rfl⟩⟩
theorem ty63 : Ty Try.prog 63 (Int × Int × Int × Int) := Ty.of (by kernel_rfl)
theorem en54 : enters Try.prog 54 = true := by kernel_rfl
theorem fd31_0 : FieldTy Try.prog 31 0 0 1 := FieldTy.of Try.underlying31 (by kernel_rfl) rfl
theorem sm63 : SmTy Try.prog 63 62 4 1 := ⟨Try.underlying63, by kernel_rfl⟩
theorem ty62 : Ty Try.prog 62 (Int) := Ty.of (by kernel_rfl)
theorem fd31_1 : FieldTy Try.prog 31 1 1 1 := FieldTy.of Try.underlying31 (by kernel_rfl) rfl
theorem ty29 : Ty Try.prog 29 (List Int) := Ty.of (by kernel_rfl)
theorem sl29 : SlTy Try.prog 29 3 (Int) := SlTy.of Try.underlying29 (by kernel_rfl) rfl
theorem en30 : enters Try.prog 30 = true := by kernel_rfl
theorem en32 : enters Try.prog 32 = true := by kernel_rfl
theorem zl25 : ZeroLs Try.prog 25 [(false, 1, Fact.nilv)] := ⟨⟨[.slice none 0 0], by kernel_rfl, fun g w => FldRel.zn (rfl)⟩⟩
theorem en33 : enters Try.prog 33 = true := by kernel_rfl
theorem ar87 : ArrTy Try.prog 87 5 128 (UInt8) (0 : UInt8) := ArrTy.of Try.underlying87 rfl (by kernel_rfl) (by kernel_rfl) (fun _ => rfl)
theorem sl36 : SlTy Try.prog 36 5 (UInt8) := SlTy.of Try.underlying36 (by kernel_rfl) rfl
theorem en21 : enters Try.prog 21 = true := by kernel_rfl
theorem en57 : enters Try.prog 57 = true := by kernel_rfl
theorem en11 : enters Try.prog 11 = true := by kernel_rfl
theorem en39 : enters Try.prog 39 = true := by kernel_rfl
theorem en18 : enters Try.prog 18 = true := by kernel_rfl
theorem en50 : enters Try.prog 50 = true := by kernel_rfl
theorem en23 : enters Try.prog 23 = true := by kernel_rfl
theorem en24 : enters Try.prog 24 = true := by kernel_rfl
theorem zl31 : ZeroLs Try.prog 31 [(false, 1, Fact.rep [] ((0 : UInt8) : UInt8)), (false, 1, Fact.nilv)] := ⟨⟨[.int .u8 0, .slice none 0 0], by kernel_rfl, fun g w => FldRel.zr (fun _ _ => rfl) (FldRel.zn (rfl))⟩⟩
theorem zl83 : ZeroLs Try.prog 83 [(false, 1, Fact.rep [] ((0 : UInt32) : UInt32)), (false, 1, Fact.rep [] ((0 : Int) : Int)), (false, 1, Fact.rep [] ((0 : Int) : Int)), (false, 1, Fact.rep [] ((0 : Int) : Int)), (false, 1, Fact.rep [] ((0 : Int) : Int)), (false, 1, Fact.rep [] ((0 : Int) : Int)), (false, 1, Fact.rep [] ((0 : Int) : Int))] := ⟨⟨[.int .u32 0, .int .i64 0, .int .i64 0, .int .i64 0, .int .i64 0, .int .i64 0, .int .i64 0], by kernel_rfl, fun g w => FldRel.zr (fun _ _ => rfl) (FldRel.zr (fun _ _ => rfl) (FldRel.zr (fun _ _ => rfl) (FldRel.zr (fun _ _ => rfl) (FldRel.zr (fun _ _ => rfl) (FldRel.zr (fun _ _ => rfl) (FldRel.zr (fun _ _ => rfl) (rfl)))))))⟩⟩
theorem bd83 : BuildTy Try.prog 83 [(0, 6), (6, 1)] [(true, 6, Fact.flds [(false, 1, Fact.rep [] ((0 : UInt32) : UInt32)), (false, 1, Fact.rep [] ((0 : Int) : Int)), (false, 1, Fact.rep [] ((0 : Int) : Int)), (false, 1, Fact.rep [] ((0 : Int) : Int)), (false, 1, Fact.rep [] ((0 : Int) : Int)), (false, 1, Fact.rep [] ((0 : Int) : Int))]), (false, 1, Fact.rep [] ((0 : Int) : Int))] := ⟨⟨_, [.int .u32 0, .int .i64 0, .int .i64 0, .int .i64 0, .int .i64 0, .int .i64 0, .int .i64 0], by kernel_rfl, Try.underlying83, (fun g w => FldRel.zs (c1 := [.int .u32 0, .int .i64 0, .int .i64 0, .int .i64 0, .int .i64 0, .int .i64 0]) (FldRel.zr (fun _ _ => rfl) (FldRel.zr (fun _ _ => rfl) (FldRel.zr (fun _ _ => rfl) (FldRel.zr (fun _ _ => rfl) (FldRel.zr (fun _ _ => rfl) (FldRel.zr (fun _ _ => rfl) (rfl))))))) (FldRel.zr (fun _ _ => rfl) (rfl))), by kernel_rfl⟩⟩
theorem ty83 : Ty Try.prog 83 (Row83) := Ty.of (by kernel_rfl)
theorem en67 : enters Try.prog 67 = true := by kernel_rfl
theorem en45 : enters Try.prog 45 = true := by kernel_rfl
theorem fd83_0 : FieldTy Try.prog 83 0 0 6 := FieldTy.of Try.underlying83 (by kernel_rfl) rfl
theorem fd83_1 : FieldTy Try.prog 83 1 6 1 := FieldTy.of Try.underlying83 (by kernel_rfl) rfl
theorem en68 : enters Try.prog 68 = true := by kernel_rfl
theorem en46 : enters Try.prog 46 = true := by kernel_rfl
theorem en20 : enters Try.prog 20 = true := by kernel_rfl
theorem en42 : enters Try.prog 42 = true := by kernel_rfl
theorem ow77 : OwnTy Try.prog 77 31 (Plan) := OwnTy.of Try.underlying77 (by kernel_rfl) rfl (by kernel_rfl)
theorem sl77 : SlTy Try.prog 77 31 (Plan) := SlTy.of Try.underlying77 (by kernel_rfl) rfl
theorem en76 : enters Try.prog 76 = true := by kernel_rfl
theorem en65 : enters Try.prog 65 = true := by kernel_rfl
theorem en41 : enters Try.prog 41 = true := by kernel_rfl
theorem en66 : enters Try.prog 66 = true := by kernel_rfl
theorem en44 : enters Try.prog 44 = true := by kernel_rfl
theorem en43 : enters Try.prog 43 = true := by kernel_rfl
theorem en40 : enters Try.prog 40 = true := by kernel_rfl
theorem en19 : enters Try.prog 19 = true := by kernel_rfl
theorem en25 : enters Try.prog 25 = true := by kernel_rfl

def law18_full_L1 (a0 : UInt8) (s2 : Int) (s3 : List UInt8) : Option (Ctl (Int × (List UInt8)) ((List UInt8))) :=
  (bif (decide (s2 < ((s3).length : Int))) then Option.bind (bnd (s3).length s2) (fun x5 => some (Ctl.next ((wI (s2 + (1 : Int))), (s3).set x5 a0))) else some (Ctl.brk s3))
/-- freeboard/freeboardlaw18.full -/
def law18_full (a0 : UInt8) : Option ((List UInt8)) :=
  Option.bind (makeL (0 : UInt8) (128 : Int)) (fun x1 => Option.bind (loopM (fun s : Int × (List UInt8) => law18_full_L1 a0 s.1 s.2) FUEL ((0 : Int), x1)) (fun b6 => some b6))
set_option maxRecDepth 100000 in
set_option maxHeartbeats 2000000 in
theorem law18_full_c (a0 : UInt8) {r : (List UInt8)} (hm : law18_full a0 = some r) : Ctr Try.prog 26 [.rep 0 a0] (.own 0 none 5 r) [] := by
 refine ctr_of_walk [[10]] 17 Try.func26 rfl rfl rfl rfl (fun w0 om => ?_)
 unfold law18_full at hm
 refine CWalk.sub (G' := [.fact 0 (.rep [] (a0 : UInt8))]) (Sub.cons (Has.fl (Has.s rfl)) Sub.nil) ?_
 refine CWalk.seq ?_
 refine CWalk.region ?_
 refine wo (Spec.assign Has.nilv) ?_
 refine Walk.nil ?_
 refine Leaf.thenN ?_
 refine CWalk.seq ?_
 refine CWalk.region ?_
 obtain ⟨x1, hx1, hm⟩ := bind_some hm
 refine ws (Step.makeOwn 10 hx1 rfl rfl ow36 zt5 Has.int) ?_
 refine wo (Spec.assign (Has.s rfl)) ?_
 refine Walk.nil ?_
 refine Leaf.thenN ?_
 refine CWalk.seq ?_
 refine CWalk.seq ?_
 refine CWalk.region ?_
 refine wo (Spec.assign Has.int) ?_
 refine Walk.nil ?_
 refine Leaf.thenN ?_
 refine CWalk.block ?_
 obtain ⟨b6, hb6, hm⟩ := bind_some hm
 refine CWalk.loop (fun s : Int × (List UInt8) => [.fact 0 (.rep [] (a0 : UInt8)), .fact 3 (.isv 10), .fact 4 (.rep [] s.1), .fact 100010 (.own 10 [] 5 (s.2 : List UInt8))]) (fun b : (List UInt8) => (Exit.exit 0, [.fact 3 (.isv 10), .fact 100010 (.own 10 [] 5 (b : List UInt8))])) hb6 (st (sn (st (Sub.cons (Has.ownM (Has.s rfl) rfl) Sub.nil)))) ?_ ?_
 ·rintro ⟨s2, s3⟩ c4 hm
  replace hm : law18_full_L1 a0 s2 s3 = some c4 := hm
  unfold law18_full_L1 at hm
  show CWalk _ [.fact 0 (.rep [] (a0 : UInt8)), .fact 3 (.isv 10), .fact 4 (.rep [] (s2 : Int)), .fact 100010 (.own 10 [] 5 (s3 : List UInt8))] _ _
  refine CWalk.seq ?_
  refine CWalk.seq ?_
  refine CWalk.region ?_
  refine mv ?_
  refine mv ?_
  refine wo (Spec.len (Has.cv (Has.s rfl) (Cv.own rfl)) Try.underlying36) ?_
  refine wo (Spec.lssI (Has.s rfl) (Has.s rfl)) ?_
  refine Walk.nil ?_
  refine Leaf.thenN ?_
  refine CWalk.cond rfl (fun hb => ?_) (fun hb => ?_)
  ·have hm := cond_t hb hm
   refine CWalk.skip ?_
   refine Leaf.thenN ?_
   refine CWalk.seq ?_
   refine CWalk.block ?_
   refine CWalk.region ?_
   refine mv ?_
   refine mv ?_
   refine mv ?_
   obtain ⟨x5, hx5, hm⟩ := bind_some hm
   refine wo (Spec.idxOwn hx5 ow36 (Has.s rfl) rfl (Has.s rfl)) ?_
   refine ws (Step.storeOwn (te' := []) rfl (bnd_lt hx5 rfl) ty5 (Has.s rfl) rfl (Has.s rfl) ElKeep.flat ElKeep.flat) ?_
   refine Walk.nil ?_
   refine Leaf.blockN ?_
   refine Leaf.thenN ?_
   refine CWalk.region ?_
   refine mv ?_
   refine wo (Spec.addI (Has.s rfl) Has.int) ?_
   refine wo (Spec.assign (Has.s rfl)) ?_
   refine Walk.nil ?_
   exact Leaf.next hm (st (sn (st (Sub.cons (Has.ownM (Has.s rfl) rfl) Sub.nil))))
  ·have hm := cond_f hb hm
   refine CWalk.exit ?_
   refine Leaf.thenE ?_
   exact Leaf.brk hm (fun h => nomatch h) rfl (sn (Sub.cons (Has.ownM (Has.s rfl) rfl) Sub.nil))
 ·intro _
  refine Leaf.blockE ?_
  refine Leaf.thenN ?_
  refine CWalk.seq ?_
  refine CWalk.region ?_
  refine mv ?_
  refine wo (Spec.assign (Has.s rfl)) ?_
  refine Walk.nil ?_
  refine Leaf.thenN ?_
  refine CWalk.ret ?_
  obtain rfl := Option.some.inj hm
  exact Leaf.retC1 rfl (HasR.cv (HasR.tmp (Has.s rfl)) (Cv.trans (Cv.isvOw rfl) (Cv.owF (T := [10]) (te := []) rfl)))

/-- freeboard/freeboardlaw18.three -/
def law18_three : Option (Config) :=
  some (Config.mk (0 : UInt32) (3 : Int) (1 : Int) (1 : Int) (12 : Int) (2 : Int))
set_option maxRecDepth 100000 in
set_option maxHeartbeats 2000000 in
theorem law18_three_c {r : Config} (hm : law18_three = some r) : Ctr Try.prog 15 [] (.fl r) [] := by
 refine ctr_of_walk [[]] 2 Try.func15 rfl rfl rfl rfl (fun w0 om => ?_)
 unfold law18_three at hm
 refine CWalk.sub (G' := []) (Sub.nil) ?_
 refine CWalk.seq ?_
 refine CWalk.region ?_
 refine ws (Step.allocObj (ls := [(false, 1, Fact.rep [] ((0 : UInt32) : UInt32)), (false, 1, Fact.rep [] ((0 : Int) : Int)), (false, 1, Fact.rep [] ((0 : Int) : Int)), (false, 1, Fact.rep [] ((0 : Int) : Int)), (false, 1, Fact.rep [] ((0 : Int) : Int)), (false, 1, Fact.rep [] ((0 : Int) : Int))]) 10 rfl rfl rfl rfl zl24) ?_
 refine Walk.nil ?_
 refine Leaf.thenN ?_
 refine CWalk.seq ?_
 refine CWalk.region ?_
 refine wo (Spec.build (us := [(1, .const (.int .i64 3)), (2, .const (.int .i64 1)), (3, .const (.int .i64 1)), (4, .const (.int .i64 12)), (5, .const (.int .i64 2))]) (ls' := [(false, 1, Fact.rep [] ((0 : UInt32) : UInt32)), (false, 1, Fact.rep [] ((3 : Int) : Int)), (false, 1, Fact.rep [] ((1 : Int) : Int)), (false, 1, Fact.rep [] ((1 : Int) : Int)), (false, 1, Fact.rep [] ((12 : Int) : Int)), (false, 1, Fact.rep [] ((2 : Int) : Int))]) bd24 rfl (BP.cons rfl rfl Has.int Has.int (BP.cons rfl rfl Has.int Has.int (BP.cons rfl rfl Has.int Has.int (BP.cons rfl rfl Has.int Has.int (BP.cons rfl rfl Has.int Has.int BP.nil)))))) ?_
 refine ws (Step.storeObj (ls := [(false, 1, Fact.rep [] ((0 : UInt32) : UInt32)), (false, 1, Fact.rep [] ((3 : Int) : Int)), (false, 1, Fact.rep [] ((1 : Int) : Int)), (false, 1, Fact.rep [] ((1 : Int) : Int)), (false, 1, Fact.rep [] ((12 : Int) : Int)), (false, 1, Fact.rep [] ((2 : Int) : Int))]) rfl ty24 rfl rfl (Has.s rfl) rfl (HasL.flds (Has.s rfl)) rfl) ?_
 refine Walk.nil ?_
 refine Leaf.thenN ?_
 refine CWalk.ret ?_
 obtain rfl := Option.some.inj hm
 exact Leaf.retC1 rfl (HasR.cv (HasR.obj (ls := [(false, 1, Fact.rep [] ((0 : UInt32) : UInt32)), (false, 1, Fact.rep [] ((3 : Int) : Int)), (false, 1, Fact.rep [] ((1 : Int) : Int)), (false, 1, Fact.rep [] ((1 : Int) : Int)), (false, 1, Fact.rep [] ((12 : Int) : Int)), (false, 1, Fact.rep [] ((2 : Int) : Int))]) ty24 rfl rfl (Has.s rfl) rfl (HasGs.cons (HasG.s rfl) (HasGs.cons (HasG.s rfl) (HasGs.cons (HasG.s rfl) (HasGs.cons (HasG.s rfl) (HasGs.cons (HasG.s rfl) (HasGs.cons (HasG.s rfl) HasGs.nil))))))) (Cv.trans (Cv.trans (Cv.flds (CvL.cons Cv.fl (CvL.cons Cv.fl (CvL.cons Cv.fl (CvL.cons Cv.fl (CvL.cons Cv.fl (CvL.cons Cv.fl CvL.nil))))))) (Cv.close (T := []) (chConfig (Config.mk (0 : UInt32) (3 : Int) (1 : Int) (1 : Int) (12 : Int) (2 : Int))))) Cv.fl))

def shape_bounds_L1 (a0 : List Arr3_Int) (s1 : Int) : Option (Ctl (Int) ((Unit) ⊕ (Unit))) :=
  (bif (decide (s1 < ((a0).length : Int))) then Option.bind (idx a0 s1) (fun x3 => (bif ((decide (x3.e0 < x3.e1)) || (decide (x3.e0 > x3.e2))) then some (Ctl.brk (Sum.inr ())) else some (Ctl.next (wI (s1 + (1 : Int)))))) else some (Ctl.brk (Sum.inl ())))
/-- freeboard/shape.bounds -/
def shape_bounds (a0 : List Arr3_Int) : Option (Bool) :=
  Option.bind (loopM (fun s : Int => shape_bounds_L1 a0 s) FUEL (0 : Int)) (fun b4 => Sum.elim (fun b5 => some true) (fun b6 => some false) b4)
set_option maxRecDepth 100000 in
set_option maxHeartbeats 2000000 in
theorem shape_bounds_c (a0 : List Arr3_Int) {r : Bool} (hm : shape_bounds a0 = some r) : Ctr Try.prog 79 [.rep 0 a0] (.fl r) [] := by
 refine ctr_of_walk [[]] 24 Try.func79 rfl rfl rfl rfl (fun w0 om => ?_)
 unfold shape_bounds at hm
 refine CWalk.sub (G' := [.fact 0 (.rep [0] (a0 : List Arr3_Int))]) (sn Sub.nil) ?_
 refine CWalk.seq ?_
 refine CWalk.region ?_
 refine wo (Spec.assign Has.bool) ?_
 refine Walk.nil ?_
 refine Leaf.thenN ?_
 refine CWalk.seq ?_
 refine CWalk.seq ?_
 refine CWalk.region ?_
 refine mv ?_
 refine wo (Spec.len (Has.s rfl) Try.underlying113) ?_
 refine wo (Spec.move Has.int) ?_
 refine Walk.nil ?_
 refine Leaf.thenN ?_
 refine CWalk.block ?_
 obtain ⟨b4, hb4, hm⟩ := bind_some hm
 refine CWalk.loop (fun s : Int => [.fact 5 (.rep [0] (a0 : List Arr3_Int)), .fact 6 (.rep [] (((a0).length : Int) : Int)), .fact 7 (.rep [] (s : Int))]) (fun b : (Unit) ⊕ (Unit) => Sum.elim (fun b => (Exit.exit 0, [])) (fun b => (Exit.ret, [.fact 2 (.rep [] (false : Bool))])) b) hb4 (su (st (st Sub.nil))) ?_ ?_
 ·rintro s1 c2 hm
  replace hm : shape_bounds_L1 a0 s1 = some c2 := hm
  unfold shape_bounds_L1 at hm
  show CWalk _ [.fact 5 (.rep [0] (a0 : List Arr3_Int)), .fact 6 (.rep [] (((a0).length : Int) : Int)), .fact 7 (.rep [] (s1 : Int))] _ _
  refine CWalk.seq ?_
  refine CWalk.region ?_
  refine wo (Spec.lssI (Has.s rfl) (Has.s rfl)) ?_
  refine Walk.nil ?_
  refine Leaf.thenN ?_
  refine CWalk.seq ?_
  refine CWalk.cond rfl (fun hb => ?_) (fun hb => ?_)
  ·have hm := cond_t hb hm
   refine CWalk.skip ?_
   refine Leaf.thenN ?_
   refine CWalk.seq ?_
   refine CWalk.block ?_
   refine CWalk.seq ?_
   refine CWalk.region ?_
   obtain ⟨x3, hx3, hm⟩ := bind_some hm
   refine wo (Spec.indexAddr hx3 sl113 (Has.s rfl) (Has.s rfl)) ?_
   refine wo ((Spec.load ty112 (Has.s rfl)).flat (T' := [])) ?_
   refine ws (Step.allocObj (ls := [(false, 1, Fact.rep [] ((0 : Int) : Int)), (false, 1, Fact.rep [] ((0 : Int) : Int)), (false, 1, Fact.rep [] ((0 : Int) : Int))]) 10 rfl rfl rfl rfl zl112) ?_
   refine ws (Step.storeObj (ls := [(false, 1, Fact.rep [] x3.e0), (false, 1, Fact.rep [] x3.e1), (false, 1, Fact.rep [] x3.e2)]) rfl ty112 rfl rfl (Has.s rfl) rfl (HasL.flds (Has.cv (Has.s rfl) (Cv.trans (Cv.opens (chArr3_Int x3)) (Cv.flds (CvL.cons Cv.fl (CvL.cons Cv.fl (CvL.cons Cv.fl CvL.nil))))))) rfl) ?_
   refine Walk.nil ?_
   refine Leaf.thenN ?_
   refine CWalk.seq ?_
   refine CWalk.region ?_
   refine wo (Spec.idxC (i := 0) sm112 rfl (Has.cv (Has.s rfl) (Cv.isvP rfl))) ?_
   refine wo (Spec.loadF (i := 0) ty3 rfl (Has.s rfl) rfl (HasG.s rfl)) ?_
   refine wo (Spec.idxC (i := 1) sm112 rfl (Has.cv (Has.s rfl) (Cv.isvP rfl))) ?_
   refine wo (Spec.loadF (i := 1) ty3 rfl (Has.s rfl) rfl (HasG.s rfl)) ?_
   refine wo (Spec.lssI (Has.s rfl) (Has.s rfl)) ?_
   refine mv ?_
   refine wg rfl rfl (fun hb => Spec.idxC (i := 0) sm112 rfl (Has.cv (Has.s rfl) (Cv.isvP rfl))) ?_
   refine wg rfl rfl (fun hb => Spec.loadF (i := 0) ty3 rfl (Has.u rfl hb) rfl (HasG.s rfl)) ?_
   refine wg rfl rfl (fun hb => Spec.idxC (i := 2) sm112 rfl (Has.cv (Has.s rfl) (Cv.isvP rfl))) ?_
   refine wg rfl rfl (fun hb => Spec.loadF (i := 2) ty3 rfl (Has.u rfl hb) rfl (HasG.s rfl)) ?_
   refine wg rfl rfl (fun hb => Spec.gtrI (Has.u rfl hb) (Has.u rfl hb)) ?_
   refine wo (Spec.or (Has.s rfl) (fun h => Has.u rfl h)) ?_
   refine Walk.nil ?_
   refine Leaf.thenN ?_
   refine CWalk.cond rfl (fun hb => ?_) (fun hb => ?_)
   ·have hm := cond_t hb hm
    refine CWalk.seq ?_
    refine CWalk.region ?_
    refine wo (Spec.assign Has.bool) ?_
    refine Walk.nil ?_
    refine Leaf.thenN ?_
    refine CWalk.ret ?_
    refine Leaf.blockR ?_
    refine Leaf.thenR ?_
    exact Leaf.brk hm (fun h => nomatch h) rfl (st Sub.nil)
   ·have hm := cond_f hb hm
    refine CWalk.skip ?_
    refine Leaf.blockN ?_
    refine Leaf.thenN ?_
    refine CWalk.region ?_
    refine wo (Spec.addI (Has.s rfl) Has.int) ?_
    refine mv ?_
    refine Walk.nil ?_
    exact Leaf.next hm (su (st (st Sub.nil)))
  ·have hm := cond_f hb hm
   refine CWalk.exit ?_
   refine Leaf.thenE ?_
   exact Leaf.brk hm (fun h => nomatch h) rfl (Sub.nil)
 ·intro _
  rcases b4 with b5 | b6
  ·have hm := selim_l hm
   refine Leaf.blockE ?_
   refine Leaf.thenN ?_
   refine CWalk.seq ?_
   refine CWalk.region ?_
   refine wo (Spec.assign Has.bool) ?_
   refine Walk.nil ?_
   refine Leaf.thenN ?_
   refine CWalk.ret ?_
   obtain rfl := Option.some.inj hm
   exact Leaf.retC1 rfl (HasR.cv (HasR.tmp (Has.s rfl)) Cv.fl)
  ·have hm := selim_r hm
   refine Leaf.blockR ?_
   refine Leaf.thenR ?_
   obtain rfl := Option.some.inj hm
   exact Leaf.retC1 rfl (HasR.cv (HasR.tmp (Has.s rfl)) Cv.fl)

/-- freeboard/shape.Check -/
def shape_Check (a0 : Config) : Option (Int) :=
  Option.bind (shape_bounds ([(Arr3_Int.mk a0.Members (3 : Int) (16 : Int)), (Arr3_Int.mk a0.Chunk (1 : Int) (8 : Int)), (Arr3_Int.mk a0.Rows (1 : Int) (8 : Int)), (Arr3_Int.mk a0.Heads (2 : Int) (8 : Int))])) (fun x1 => Option.bind (gO (!(!x1)) (shape_bounds ([(Arr3_Int.mk a0.Log (wI ((wI (a0.Members + (1 : Int))) * (wI (a0.Heads + (1 : Int))))) (255 : Int))]))) (fun x2 => (bif ((!x1) || (!x2)) then some (8 : Int) else some (0 : Int))))
set_option maxRecDepth 100000 in
set_option maxHeartbeats 2000000 in
theorem shape_Check_c (a0 : Config) {r : Int} (hm : shape_Check a0 = some r) : Ctr Try.prog 75 [.rep 0 a0] (.fl r) [] := by
 refine ctr_of_walk [[]] 35 Try.func75 rfl rfl rfl rfl (fun w0 om => ?_)
 unfold shape_Check at hm
 refine CWalk.sub (G' := [.fact 0 (.rep [] (a0 : Config))]) (Sub.cons (Has.fl (Has.s rfl)) Sub.nil) ?_
 refine CWalk.seq ?_
 refine CWalk.region ?_
 refine ws (Step.boxObj (ls := [(false, 1, Fact.rep [] a0.Id), (false, 1, Fact.rep [] a0.Members), (false, 1, Fact.rep [] a0.Chunk), (false, 1, Fact.rep [] a0.Rows), (false, 1, Fact.rep [] a0.Log), (false, 1, Fact.rep [] a0.Heads)]) 10 rfl rfl rfl rfl (HasL.flds (Has.cv (Has.s rfl) (Cv.trans (Cv.opens (chConfig a0)) (Cv.flds (CvL.cons Cv.fl (CvL.cons Cv.fl (CvL.cons Cv.fl (CvL.cons Cv.fl (CvL.cons Cv.fl (CvL.cons Cv.fl CvL.nil))))))))))) ?_
 refine wo (Spec.assign Has.int) ?_
 refine Walk.nil ?_
 refine Leaf.thenN ?_
 refine CWalk.seq ?_
 refine CWalk.region ?_
 refine wo (Spec.fieldAddrO fd24_1 (Has.cv (Has.s rfl) (Cv.isvP rfl))) ?_
 refine wo (Spec.loadF (i := 1) ty3 rfl (Has.s rfl) rfl (HasG.s rfl)) ?_
 refine wo (Spec.buildA (us := [(0, .tmp 5), (1, .const (.int .i64 3)), (2, .const (.int .i64 16))]) (ls' := [(false, 1, Fact.rep [] a0.Members), (false, 1, Fact.rep [] ((3 : Int) : Int)), (false, 1, Fact.rep [] ((16 : Int) : Int))]) bd112 rfl (BP.cons rfl rfl (Has.s rfl) (Has.s rfl) (BP.cons rfl rfl Has.int Has.int (BP.cons rfl rfl Has.int Has.int BP.nil)))) ?_
 refine wo (Spec.fieldAddrO fd24_2 (Has.cv (Has.s rfl) (Cv.isvP rfl))) ?_
 refine wo (Spec.loadF (i := 2) ty3 rfl (Has.s rfl) rfl (HasG.s rfl)) ?_
 refine wo (Spec.buildA (us := [(0, .tmp 8), (1, .const (.int .i64 1)), (2, .const (.int .i64 8))]) (ls' := [(false, 1, Fact.rep [] a0.Chunk), (false, 1, Fact.rep [] ((1 : Int) : Int)), (false, 1, Fact.rep [] ((8 : Int) : Int))]) bd112 rfl (BP.cons rfl rfl (Has.s rfl) (Has.s rfl) (BP.cons rfl rfl Has.int Has.int (BP.cons rfl rfl Has.int Has.int BP.nil)))) ?_
 refine wo (Spec.fieldAddrO fd24_3 (Has.cv (Has.s rfl) (Cv.isvP rfl))) ?_
 refine wo (Spec.loadF (i := 3) ty3 rfl (Has.s rfl) rfl (HasG.s rfl)) ?_
 refine wo (Spec.buildA (us := [(0, .tmp 11), (1, .const (.int .i64 1)), (2, .const (.int .i64 8))]) (ls' := [(false, 1, Fact.rep [] a0.Rows), (false, 1, Fact.rep [] ((1 : Int) : Int)), (false, 1, Fact.rep [] ((8 : Int) : Int))]) bd112 rfl (BP.cons rfl rfl (Has.s rfl) (Has.s rfl) (BP.cons rfl rfl Has.int Has.int (BP.cons rfl rfl Has.int Has.int BP.nil)))) ?_
 refine wo (Spec.fieldAddrO fd24_5 (Has.cv (Has.s rfl) (Cv.isvP rfl))) ?_
 refine wo (Spec.loadF (i := 5) ty3 rfl (Has.s rfl) rfl (HasG.s rfl)) ?_
 refine wo (Spec.buildA (us := [(0, .tmp 14), (1, .const (.int .i64 2)), (2, .const (.int .i64 8))]) (ls' := [(false, 1, Fact.rep [] a0.Heads), (false, 1, Fact.rep [] ((2 : Int) : Int)), (false, 1, Fact.rep [] ((8 : Int) : Int))]) bd112 rfl (BP.cons rfl rfl (Has.s rfl) (Has.s rfl) (BP.cons rfl rfl Has.int Has.int (BP.cons rfl rfl Has.int Has.int BP.nil)))) ?_
 refine wo (Spec.lit (xs := [.tmp 6, .tmp 9, .tmp 12, .tmp 15]) (T := []) 17 rfl ow113 rfl rfl rfl rfl (HasEach.cons (Has.fl (Has.cv (Has.s rfl) (Cv.trans (Cv.flds (CvL.cons Cv.fl (CvL.cons Cv.fl (CvL.cons Cv.fl CvL.nil)))) (Cv.close (T := []) (chArr3_Int (Arr3_Int.mk a0.Members (3 : Int) (16 : Int))))))) (HasEach.cons (Has.fl (Has.cv (Has.s rfl) (Cv.trans (Cv.flds (CvL.cons Cv.fl (CvL.cons Cv.fl (CvL.cons Cv.fl CvL.nil)))) (Cv.close (T := []) (chArr3_Int (Arr3_Int.mk a0.Chunk (1 : Int) (8 : Int))))))) (HasEach.cons (Has.fl (Has.cv (Has.s rfl) (Cv.trans (Cv.flds (CvL.cons Cv.fl (CvL.cons Cv.fl (CvL.cons Cv.fl CvL.nil)))) (Cv.close (T := []) (chArr3_Int (Arr3_Int.mk a0.Rows (1 : Int) (8 : Int))))))) (HasEach.cons (Has.fl (Has.cv (Has.s rfl) (Cv.trans (Cv.flds (CvL.cons Cv.fl (CvL.cons Cv.fl (CvL.cons Cv.fl CvL.nil)))) (Cv.close (T := []) (chArr3_Int (Arr3_Int.mk a0.Heads (2 : Int) (8 : Int))))))) HasEach.nil))))) ?_
 obtain ⟨x1, hx1, hm⟩ := bind_some hm
 refine wo (f := Fact.rep [] (x1 : Bool)) (Spec.callE [17] 18 rfl en79 (shape_bounds_c ([(Arr3_Int.mk a0.Members (3 : Int) (16 : Int)), (Arr3_Int.mk a0.Chunk (1 : Int) (8 : Int)), (Arr3_Int.mk a0.Rows (1 : Int) (8 : Int)), (Arr3_Int.mk a0.Heads (2 : Int) (8 : Int))]) hx1) (HasAll.cons (Has.m (Has.s rfl) rfl) HasAll.nil)) ?_
 refine wo (Spec.assign (Has.s rfl)) ?_
 refine Walk.nil ?_
 refine Leaf.thenN ?_
 refine CWalk.seq ?_
 refine CWalk.seq ?_
 refine CWalk.region ?_
 refine mv ?_
 refine wo (Spec.not (Has.s rfl)) ?_
 refine mv ?_
 refine wg rfl rfl (fun hb => Spec.fieldAddrO fd24_4 (Has.cv (Has.s rfl) (Cv.isvP rfl))) ?_
 refine wg rfl rfl (fun hb => Spec.loadF (i := 4) ty3 rfl (Has.u rfl hb) rfl (HasG.s rfl)) ?_
 refine wg rfl rfl (fun hb => Spec.fieldAddrO fd24_1 (Has.cv (Has.s rfl) (Cv.isvP rfl))) ?_
 refine wg rfl rfl (fun hb => Spec.loadF (i := 1) ty3 rfl (Has.u rfl hb) rfl (HasG.s rfl)) ?_
 refine wg rfl rfl (fun hb => Spec.addI (Has.u rfl hb) Has.int) ?_
 refine wg rfl rfl (fun hb => Spec.fieldAddrO fd24_5 (Has.cv (Has.s rfl) (Cv.isvP rfl))) ?_
 refine wg rfl rfl (fun hb => Spec.loadF (i := 5) ty3 rfl (Has.u rfl hb) rfl (HasG.s rfl)) ?_
 refine wg rfl rfl (fun hb => Spec.addI (Has.u rfl hb) Has.int) ?_
 refine wg rfl rfl (fun hb => Spec.mulI (Has.u rfl hb) (Has.u rfl hb)) ?_
 refine wg rfl rfl (fun hb => Spec.buildA (us := [(0, .tmp 22), (1, .tmp 29), (2, .const (.int .i64 255))]) (ls' := [(false, 1, Fact.rep [] a0.Log), (false, 1, Fact.rep [] ((wI ((wI (a0.Members + (1 : Int))) * (wI (a0.Heads + (1 : Int))))) : Int)), (false, 1, Fact.rep [] ((255 : Int) : Int))]) bd112 rfl (BP.cons rfl rfl (Has.u rfl hb) (Has.u rfl hb) (BP.cons rfl rfl (Has.u rfl hb) (Has.u rfl hb) (BP.cons rfl rfl Has.int Has.int BP.nil)))) ?_
 refine wg rfl rfl (fun hb => Spec.lit (xs := [.tmp 30]) (T := []) 19 rfl ow113 rfl rfl rfl rfl (HasEach.cons (Has.fl (Has.cv (Has.u rfl hb) (Cv.trans (Cv.flds (CvL.cons Cv.fl (CvL.cons Cv.fl (CvL.cons Cv.fl CvL.nil)))) (Cv.close (T := []) (chArr3_Int (Arr3_Int.mk a0.Log (wI ((wI (a0.Members + (1 : Int))) * (wI (a0.Heads + (1 : Int))))) (255 : Int))))))) HasEach.nil)) ?_
 obtain ⟨x2, hx2, hm⟩ := bind_some hm
 refine wg (f := Fact.rep [] (x2 : Bool)) rfl rfl (fun hb => Spec.callE [19] 20 rfl en79 (shape_bounds_c ([(Arr3_Int.mk a0.Log (wI ((wI (a0.Members + (1 : Int))) * (wI (a0.Heads + (1 : Int))))) (255 : Int))]) (gO_t hx2 (not_t hb))) (HasAll.cons (Has.m (Has.u rfl hb) rfl) HasAll.nil)) ?_
 refine wg rfl rfl (fun hb => Spec.not (Has.u rfl hb)) ?_
 refine wo (Spec.or (Has.s rfl) (fun h => Has.u rfl h)) ?_
 refine Walk.nil ?_
 refine Leaf.thenN ?_
 refine CWalk.cond rfl (fun hb => ?_) (fun hb => ?_)
 ·have hm := cond_t hb hm
  refine CWalk.seq ?_
  refine CWalk.region ?_
  refine wo (Spec.assign Has.int) ?_
  refine Walk.nil ?_
  refine Leaf.thenN ?_
  refine CWalk.ret ?_
  refine Leaf.thenR ?_
  obtain rfl := Option.some.inj hm
  exact Leaf.retC1 rfl (HasR.cv (HasR.tmp (Has.s rfl)) Cv.fl)
 ·have hm := cond_f hb hm
  refine CWalk.skip ?_
  refine Leaf.thenN ?_
  refine CWalk.seq ?_
  refine CWalk.region ?_
  refine wo (Spec.assign Has.int) ?_
  refine Walk.nil ?_
  refine Leaf.thenN ?_
  refine CWalk.ret ?_
  obtain rfl := Option.some.inj hm
  exact Leaf.retC1 rfl (HasR.cv (HasR.tmp (Has.s rfl)) Cv.fl)

/-- freeboard/shape.told -/
def shape_told (a0 : Config) (a1 : Int) : Option (Int × Int) :=
  Option.bind (shape_Check a0) (fun x1 => (bif (x1 != (0 : Int)) then some ((0 : Int), x1) else some (a1, (0 : Int))))
set_option maxRecDepth 100000 in
set_option maxHeartbeats 2000000 in
theorem shape_told_c (a0 : Config) (a1 : Int) {r : Int × Int} (hm : shape_told a0 a1 = some r) : Ctr Try.prog 64 [.rep 0 a0, .rep 0 a1] (.tup2 (.fl r.1) (.fl r.2)) [] := by
 refine ctr_of_walk [[]] 13 Try.func64 rfl rfl rfl rfl (fun w0 om => ?_)
 unfold shape_told at hm
 refine CWalk.sub (G' := [.fact 0 (.rep [] (a0 : Config)), .fact 1 (.rep [] (a1 : Int))]) (Sub.cons (Has.fl (Has.s rfl)) (Sub.cons (Has.fl (Has.s rfl)) Sub.nil)) ?_
 refine CWalk.seq ?_
 refine CWalk.region ?_
 refine ws (Step.boxObj (ls := [(false, 1, Fact.rep [] a0.Id), (false, 1, Fact.rep [] a0.Members), (false, 1, Fact.rep [] a0.Chunk), (false, 1, Fact.rep [] a0.Rows), (false, 1, Fact.rep [] a0.Log), (false, 1, Fact.rep [] a0.Heads)]) 10 rfl rfl rfl rfl (HasL.flds (Has.cv (Has.s rfl) (Cv.trans (Cv.opens (chConfig a0)) (Cv.flds (CvL.cons Cv.fl (CvL.cons Cv.fl (CvL.cons Cv.fl (CvL.cons Cv.fl (CvL.cons Cv.fl (CvL.cons Cv.fl CvL.nil))))))))))) ?_
 refine wo (Spec.assign Has.int) ?_
 refine wo (Spec.assign Has.int) ?_
 refine Walk.nil ?_
 refine Leaf.thenN ?_
 refine CWalk.seq ?_
 refine CWalk.seq ?_
 refine CWalk.region ?_
 refine wo (Spec.loadObj (ls := [(false, 1, Fact.rep [] a0.Id), (false, 1, Fact.rep [] a0.Members), (false, 1, Fact.rep [] a0.Chunk), (false, 1, Fact.rep [] a0.Rows), (false, 1, Fact.rep [] a0.Log), (false, 1, Fact.rep [] a0.Heads)]) ty24 rfl rfl (Has.s rfl) rfl (HasGs.cons (HasG.s rfl) (HasGs.cons (HasG.s rfl) (HasGs.cons (HasG.s rfl) (HasGs.cons (HasG.s rfl) (HasGs.cons (HasG.s rfl) (HasGs.cons (HasG.s rfl) HasGs.nil))))))) ?_
 obtain ⟨x1, hx1, hm⟩ := bind_some hm
 refine wo (f := Fact.rep [] (x1 : Int)) (Spec.callE [] 17 rfl en75 (shape_Check_c a0 hx1) (HasAll.cons (Has.fl (Has.cv (Has.s rfl) (Cv.trans (Cv.flds (CvL.cons Cv.fl (CvL.cons Cv.fl (CvL.cons Cv.fl (CvL.cons Cv.fl (CvL.cons Cv.fl (CvL.cons Cv.fl CvL.nil))))))) (Cv.close (T := []) (chConfig a0))))) HasAll.nil)) ?_
 refine wo (Spec.assign (Has.s rfl)) ?_
 refine Walk.nil ?_
 refine Leaf.thenN ?_
 refine CWalk.seq ?_
 refine CWalk.region ?_
 refine mv ?_
 refine wo (Spec.neqI (Has.s rfl) Has.int) ?_
 refine Walk.nil ?_
 refine Leaf.thenN ?_
 refine CWalk.cond rfl (fun hb => ?_) (fun hb => ?_)
 ·have hm := cond_t hb hm
  refine CWalk.seq ?_
  refine CWalk.region ?_
  refine mv ?_
  refine wo (Spec.assign Has.int) ?_
  refine wo (Spec.assign (Has.s rfl)) ?_
  refine Walk.nil ?_
  refine Leaf.thenN ?_
  refine CWalk.ret ?_
  refine Leaf.thenR ?_
  obtain rfl := Option.some.inj hm
  exact Leaf.retC2 rfl (HasR.cv (HasR.tmp (Has.s rfl)) Cv.fl) (HasR.cv (HasR.tmp (Has.s rfl)) Cv.fl)
 ·have hm := cond_f hb hm
  refine CWalk.skip ?_
  refine Leaf.thenN ?_
  refine CWalk.seq ?_
  refine CWalk.region ?_
  refine mv ?_
  refine wo (Spec.assign (Has.s rfl)) ?_
  refine wo (Spec.assign Has.int) ?_
  refine Walk.nil ?_
  refine Leaf.thenN ?_
  refine CWalk.ret ?_
  obtain rfl := Option.some.inj hm
  exact Leaf.retC2 rfl (HasR.cv (HasR.tmp (Has.s rfl)) Cv.fl) (HasR.cv (HasR.tmp (Has.s rfl)) Cv.fl)

/-- freeboard/shape.Stripes -/
def shape_Stripes (a0 : Config) : Option (Int × Int) :=
  Option.bind (shape_told a0 (wI (a0.Chunk * a0.Rows))) (fun x1 => some (x1.1, x1.2))
set_option maxRecDepth 100000 in
set_option maxHeartbeats 2000000 in
theorem shape_Stripes_c (a0 : Config) {r : Int × Int} (hm : shape_Stripes a0 = some r) : Ctr Try.prog 38 [.rep 0 a0] (.tup2 (.fl r.1) (.fl r.2)) [] := by
 refine ctr_of_walk [[]] 13 Try.func38 rfl rfl rfl rfl (fun w0 om => ?_)
 unfold shape_Stripes at hm
 refine CWalk.sub (G' := [.fact 0 (.rep [] (a0 : Config))]) (Sub.cons (Has.fl (Has.s rfl)) Sub.nil) ?_
 refine CWalk.seq ?_
 refine CWalk.region ?_
 refine ws (Step.boxObj (ls := [(false, 1, Fact.rep [] a0.Id), (false, 1, Fact.rep [] a0.Members), (false, 1, Fact.rep [] a0.Chunk), (false, 1, Fact.rep [] a0.Rows), (false, 1, Fact.rep [] a0.Log), (false, 1, Fact.rep [] a0.Heads)]) 10 rfl rfl rfl rfl (HasL.flds (Has.cv (Has.s rfl) (Cv.trans (Cv.opens (chConfig a0)) (Cv.flds (CvL.cons Cv.fl (CvL.cons Cv.fl (CvL.cons Cv.fl (CvL.cons Cv.fl (CvL.cons Cv.fl (CvL.cons Cv.fl CvL.nil))))))))))) ?_
 refine wo (Spec.assign Has.int) ?_
 refine wo (Spec.assign Has.int) ?_
 refine Walk.nil ?_
 refine Leaf.thenN ?_
 refine CWalk.seq ?_
 refine CWalk.region ?_
 refine wo (Spec.loadObj (ls := [(false, 1, Fact.rep [] a0.Id), (false, 1, Fact.rep [] a0.Members), (false, 1, Fact.rep [] a0.Chunk), (false, 1, Fact.rep [] a0.Rows), (false, 1, Fact.rep [] a0.Log), (false, 1, Fact.rep [] a0.Heads)]) ty24 rfl rfl (Has.s rfl) rfl (HasGs.cons (HasG.s rfl) (HasGs.cons (HasG.s rfl) (HasGs.cons (HasG.s rfl) (HasGs.cons (HasG.s rfl) (HasGs.cons (HasG.s rfl) (HasGs.cons (HasG.s rfl) HasGs.nil))))))) ?_
 refine wo (Spec.fieldAddrO fd24_2 (Has.cv (Has.s rfl) (Cv.isvP rfl))) ?_
 refine wo (Spec.loadF (i := 2) ty3 rfl (Has.s rfl) rfl (HasG.s rfl)) ?_
 refine wo (Spec.fieldAddrO fd24_3 (Has.cv (Has.s rfl) (Cv.isvP rfl))) ?_
 refine wo (Spec.loadF (i := 3) ty3 rfl (Has.s rfl) rfl (HasG.s rfl)) ?_
 refine wo (Spec.mulI (Has.s rfl) (Has.s rfl)) ?_
 obtain ⟨x1, hx1, hm⟩ := bind_some hm
 refine wo (f := Fact.tup2 (Fact.rep [] x1.1) (Fact.rep [] x1.2)) (Spec.callE [] 17 rfl en64 (shape_told_c a0 (wI (a0.Chunk * a0.Rows)) hx1) (HasAll.cons (Has.fl (Has.cv (Has.s rfl) (Cv.trans (Cv.flds (CvL.cons Cv.fl (CvL.cons Cv.fl (CvL.cons Cv.fl (CvL.cons Cv.fl (CvL.cons Cv.fl (CvL.cons Cv.fl CvL.nil))))))) (Cv.close (T := []) (chConfig a0))))) (HasAll.cons (Has.fl (Has.s rfl)) HasAll.nil))) ?_
 refine wo (Spec.ext0 (Has.s rfl)) ?_
 refine wo (Spec.ext1 (Has.s rfl)) ?_
 refine wo (Spec.assign (Has.s rfl)) ?_
 refine wo (Spec.assign (Has.s rfl)) ?_
 refine Walk.nil ?_
 refine Leaf.thenN ?_
 refine CWalk.ret ?_
 obtain rfl := Option.some.inj hm
 exact Leaf.retC2 rfl (HasR.cv (HasR.tmp (Has.s rfl)) Cv.fl) (HasR.cv (HasR.tmp (Has.s rfl)) Cv.fl)

def head_New_J1 (a0 : Config) (a1 : Int) (j2 : Bool) : Option (Head × Int) :=
  (bif j2 then some ((Head.mk (0 : Int) ([] : List (List UInt8)) ([] : List Bool) (0 : UInt8) false (0 : UInt32)), (2 : Int)) else Option.bind (makeL ([] : List UInt8) a0.Members) (fun x3 => Option.bind (makeL false (wI (a0.Members - (1 : Int)))) (fun x4 => some ((Head.mk a1 x3 x4 (0 : UInt8) false (0 : UInt32)), (0 : Int)))))
/-- freeboard/head.New -/
def head_New (a0 : Config) (a1 : Int) : Option (Head × Int) :=
  Option.bind (shape_Stripes a0) (fun x1 => (bif (x1.2 != (0 : Int)) then some ((Head.mk (0 : Int) ([] : List (List UInt8)) ([] : List Bool) (0 : UInt8) false (0 : UInt32)), x1.2) else (bif (decide (a1 < (0 : Int))) then (head_New_J1 a0 a1 (decide (a1 < (0 : Int)))) else (head_New_J1 a0 a1 (decide (a1 ≥ x1.1))))))
set_option maxRecDepth 100000 in
set_option maxHeartbeats 2000000 in
theorem head_New_c (a0 : Config) (a1 : Int) {r : Head × Int} (hm : head_New a0 a1 = some r) : Ctr Try.prog 17 [.rep 0 a0, .rep 0 a1] (.tup2 (.flds [(false, 1, (.fl r.1.Stripe)), (false, 1, (.own 0 none 36 r.1.Blocks)), (false, 1, (.own 1 none 4 r.1.Dirty)), (false, 1, (.fl r.1.Phase)), (false, 1, (.fl r.1.Deals)), (false, 1, (.fl r.1.Seq))]) (.fl r.2)) [] := by
 refine ctr_of_walk [[25], [26]] 34 Try.func17 rfl rfl rfl rfl (fun w0 om => ?_)
 unfold head_New at hm
 refine CWalk.sub (G' := [.fact 0 (.rep [] (a0 : Config)), .fact 1 (.rep [] (a1 : Int))]) (Sub.cons (Has.fl (Has.s rfl)) (Sub.cons (Has.fl (Has.s rfl)) Sub.nil)) ?_
 refine CWalk.seq ?_
 refine CWalk.region ?_
 refine ws (Step.boxObj (ls := [(false, 1, Fact.rep [] a0.Id), (false, 1, Fact.rep [] a0.Members), (false, 1, Fact.rep [] a0.Chunk), (false, 1, Fact.rep [] a0.Rows), (false, 1, Fact.rep [] a0.Log), (false, 1, Fact.rep [] a0.Heads)]) 10 rfl rfl rfl rfl (HasL.flds (Has.cv (Has.s rfl) (Cv.trans (Cv.opens (chConfig a0)) (Cv.flds (CvL.cons Cv.fl (CvL.cons Cv.fl (CvL.cons Cv.fl (CvL.cons Cv.fl (CvL.cons Cv.fl (CvL.cons Cv.fl CvL.nil))))))))))) ?_
 refine ws (Step.allocObj (ls := [(false, 1, Fact.rep [] ((0 : Int) : Int)), (false, 1, Fact.nilv), (false, 1, Fact.nilv), (false, 1, Fact.rep [] ((0 : UInt8) : UInt8)), (false, 1, Fact.rep [] (false : Bool)), (false, 1, Fact.rep [] ((0 : UInt32) : UInt32))]) 17 rfl rfl rfl rfl zl28) ?_
 refine wo (Spec.assign Has.int) ?_
 refine Walk.nil ?_
 refine Leaf.thenN ?_
 refine CWalk.seq ?_
 refine CWalk.region ?_
 refine wo (Spec.loadObj (ls := [(false, 1, Fact.rep [] a0.Id), (false, 1, Fact.rep [] a0.Members), (false, 1, Fact.rep [] a0.Chunk), (false, 1, Fact.rep [] a0.Rows), (false, 1, Fact.rep [] a0.Log), (false, 1, Fact.rep [] a0.Heads)]) ty24 rfl rfl (Has.s rfl) rfl (HasGs.cons (HasG.s rfl) (HasGs.cons (HasG.s rfl) (HasGs.cons (HasG.s rfl) (HasGs.cons (HasG.s rfl) (HasGs.cons (HasG.s rfl) (HasGs.cons (HasG.s rfl) HasGs.nil))))))) ?_
 obtain ⟨x1, hx1, hm⟩ := bind_some hm
 refine wo (f := Fact.tup2 (Fact.rep [] x1.1) (Fact.rep [] x1.2)) (Spec.callE [] 24 rfl en38 (shape_Stripes_c a0 hx1) (HasAll.cons (Has.fl (Has.cv (Has.s rfl) (Cv.trans (Cv.flds (CvL.cons Cv.fl (CvL.cons Cv.fl (CvL.cons Cv.fl (CvL.cons Cv.fl (CvL.cons Cv.fl (CvL.cons Cv.fl CvL.nil))))))) (Cv.close (T := []) (chConfig a0))))) HasAll.nil)) ?_
 refine mv ?_
 refine wo (Spec.ext0 (Has.s rfl)) ?_
 refine wo (Spec.ext1 (Has.s rfl)) ?_
 refine wo (Spec.assign (Has.s rfl)) ?_
 refine wo (Spec.assign (Has.s rfl)) ?_
 refine Walk.nil ?_
 refine Leaf.thenN ?_
 refine CWalk.seq ?_
 refine CWalk.block ?_
 refine CWalk.seq ?_
 refine CWalk.region ?_
 refine mv ?_
 refine wo (Spec.neqI (Has.s rfl) Has.int) ?_
 refine wo (Spec.assign (Has.s rfl)) ?_
 refine Walk.nil ?_
 refine Leaf.thenN ?_
 refine CWalk.cond rfl (fun hb => ?_) (fun hb => ?_)
 ·have hm := cond_t hb hm
  refine CWalk.seq ?_
  refine CWalk.region ?_
  refine wo (Spec.build (us := []) (ls' := [(false, 1, Fact.rep [] ((0 : Int) : Int)), (false, 1, Fact.nilv), (false, 1, Fact.nilv), (false, 1, Fact.rep [] ((0 : UInt8) : UInt8)), (false, 1, Fact.rep [] (false : Bool)), (false, 1, Fact.rep [] ((0 : UInt32) : UInt32))]) bd28 rfl BP.nil) ?_
  refine mv ?_
  refine ws (Step.storeObj (ls := [(false, 1, Fact.rep [] ((0 : Int) : Int)), (false, 1, Fact.nilv), (false, 1, Fact.nilv), (false, 1, Fact.rep [] ((0 : UInt8) : UInt8)), (false, 1, Fact.rep [] (false : Bool)), (false, 1, Fact.rep [] ((0 : UInt32) : UInt32))]) rfl ty28 rfl rfl (Has.s rfl) rfl (HasL.flds (Has.s rfl)) rfl) ?_
  refine wo (Spec.assign (Has.s rfl)) ?_
  refine Walk.nil ?_
  refine Leaf.thenN ?_
  refine CWalk.ret ?_
  refine Leaf.blockR ?_
  refine Leaf.thenR ?_
  obtain rfl := Option.some.inj hm
  exact Leaf.retC2 rfl (HasR.cv (HasR.obj (ls := [(false, 1, Fact.rep [] ((0 : Int) : Int)), (false, 1, Fact.nilv), (false, 1, Fact.nilv), (false, 1, Fact.rep [] ((0 : UInt8) : UInt8)), (false, 1, Fact.rep [] (false : Bool)), (false, 1, Fact.rep [] ((0 : UInt32) : UInt32))]) ty28 rfl rfl (Has.s rfl) rfl (HasGs.cons (HasG.s rfl) (HasGs.cons (HasG.s rfl) (HasGs.cons (HasG.s rfl) (HasGs.cons (HasG.s rfl) (HasGs.cons (HasG.s rfl) (HasGs.cons (HasG.s rfl) HasGs.nil))))))) (Cv.flds (CvL.cons Cv.fl (CvL.cons (Cv.trans Cv.nilOw (Cv.owM (T := []) (te := []) rfl rfl)) (CvL.cons (Cv.trans Cv.nilOw (Cv.owF (T := []) (te := []) rfl)) (CvL.cons Cv.fl (CvL.cons Cv.fl (CvL.cons Cv.fl CvL.nil)))))))) (HasR.cv (HasR.tmp (Has.s rfl)) Cv.fl)
 ·have hm := cond_f hb hm
  refine CWalk.seqJ (fun p : Bool => [.fact 1 (.rep [] (a1 : Int)), .fact 2 (.isv 10), .fact 4 (.isv 17), .fact 18 (.rep [] (p : Bool)), .fact 100011 (.at 11 (.rep [] a0.Id)), .fact 100012 (.at 12 (.rep [] a0.Members)), .fact 100013 (.at 13 (.rep [] a0.Chunk)), .fact 100014 (.at 14 (.rep [] a0.Rows)), .fact 100015 (.at 15 (.rep [] a0.Log)), .fact 100016 (.at 16 (.rep [] a0.Heads)), .fact 100018 (.at 18 (.rep [] ((0 : Int) : Int))), .fact 100019 (.at 19 (.nilv)), .fact 100020 (.at 20 (.nilv)), .fact 100021 (.at 21 (.rep [] ((0 : UInt8) : UInt8))), .fact 100022 (.at 22 (.rep [] (false : Bool))), .fact 100023 (.at 23 (.rep [] ((0 : UInt32) : UInt32))), .fact 100010 (.obj 10 [(false, 1), (false, 1), (false, 1), (false, 1), (false, 1), (false, 1)]), .fact 100017 (.obj 17 [(false, 1), (false, 1), (false, 1), (false, 1), (false, 1), (false, 1)])]) (fun p : Bool => head_New_J1 a0 a1 p = some r) ?_ ?_
  ·rintro j2 hm
   replace hm : head_New_J1 a0 a1 j2 = some r := hm
   unfold head_New_J1 at hm
   show CWalk _ [.fact 1 (.rep [] (a1 : Int)), .fact 2 (.isv 10), .fact 4 (.isv 17), .fact 18 (.rep [] (j2 : Bool)), .fact 100011 (.at 11 (.rep [] a0.Id)), .fact 100012 (.at 12 (.rep [] a0.Members)), .fact 100013 (.at 13 (.rep [] a0.Chunk)), .fact 100014 (.at 14 (.rep [] a0.Rows)), .fact 100015 (.at 15 (.rep [] a0.Log)), .fact 100016 (.at 16 (.rep [] a0.Heads)), .fact 100018 (.at 18 (.rep [] ((0 : Int) : Int))), .fact 100019 (.at 19 (.nilv)), .fact 100020 (.at 20 (.nilv)), .fact 100021 (.at 21 (.rep [] ((0 : UInt8) : UInt8))), .fact 100022 (.at 22 (.rep [] (false : Bool))), .fact 100023 (.at 23 (.rep [] ((0 : UInt32) : UInt32))), .fact 100010 (.obj 10 [(false, 1), (false, 1), (false, 1), (false, 1), (false, 1), (false, 1)]), .fact 100017 (.obj 17 [(false, 1), (false, 1), (false, 1), (false, 1), (false, 1), (false, 1)])] _ _
   refine CWalk.cond rfl (fun hb => ?_) (fun hb => ?_)
   ·have hm := cond_t hb hm
    refine CWalk.seq ?_
    refine CWalk.region ?_
    refine wo (Spec.build (us := []) (ls' := [(false, 1, Fact.rep [] ((0 : Int) : Int)), (false, 1, Fact.nilv), (false, 1, Fact.nilv), (false, 1, Fact.rep [] ((0 : UInt8) : UInt8)), (false, 1, Fact.rep [] (false : Bool)), (false, 1, Fact.rep [] ((0 : UInt32) : UInt32))]) bd28 rfl BP.nil) ?_
    refine ws (Step.storeObj (ls := [(false, 1, Fact.rep [] ((0 : Int) : Int)), (false, 1, Fact.nilv), (false, 1, Fact.nilv), (false, 1, Fact.rep [] ((0 : UInt8) : UInt8)), (false, 1, Fact.rep [] (false : Bool)), (false, 1, Fact.rep [] ((0 : UInt32) : UInt32))]) rfl ty28 rfl rfl (Has.s rfl) rfl (HasL.flds (Has.s rfl)) rfl) ?_
    refine wo (Spec.assign Has.int) ?_
    refine Walk.nil ?_
    refine Leaf.thenN ?_
    refine CWalk.ret ?_
    refine Leaf.blockR ?_
    refine Leaf.thenR ?_
    obtain rfl := Option.some.inj hm
    exact Leaf.retC2 rfl (HasR.cv (HasR.obj (ls := [(false, 1, Fact.rep [] ((0 : Int) : Int)), (false, 1, Fact.nilv), (false, 1, Fact.nilv), (false, 1, Fact.rep [] ((0 : UInt8) : UInt8)), (false, 1, Fact.rep [] (false : Bool)), (false, 1, Fact.rep [] ((0 : UInt32) : UInt32))]) ty28 rfl rfl (Has.s rfl) rfl (HasGs.cons (HasG.s rfl) (HasGs.cons (HasG.s rfl) (HasGs.cons (HasG.s rfl) (HasGs.cons (HasG.s rfl) (HasGs.cons (HasG.s rfl) (HasGs.cons (HasG.s rfl) HasGs.nil))))))) (Cv.flds (CvL.cons Cv.fl (CvL.cons (Cv.trans Cv.nilOw (Cv.owM (T := []) (te := []) rfl rfl)) (CvL.cons (Cv.trans Cv.nilOw (Cv.owF (T := []) (te := []) rfl)) (CvL.cons Cv.fl (CvL.cons Cv.fl (CvL.cons Cv.fl CvL.nil)))))))) (HasR.cv (HasR.tmp (Has.s rfl)) Cv.fl)
   ·have hm := cond_f hb hm
    refine CWalk.skip ?_
    refine Leaf.blockN ?_
    refine Leaf.thenN ?_
    refine CWalk.seq ?_
    obtain ⟨x3, hx3, hm⟩ := bind_some hm
    obtain ⟨x4, hx4, hm⟩ := bind_some hm
    refine CWalk.drawM [[], [], [1], [1, 2], [], [4], [4, 5], [4, 5, 6], [0, 1, 2, 3, 4, 5, 6, 7], [0, 1, 2, 3, 4, 5, 6, 7, 8], [0, 1, 2, 3, 4, 5, 6, 7, 8, 9]] [[.fact 25 (.rep [] (a1 : Int))], [.fact 26 (.pto 10 1)], [.fact 27 (.rep [] a0.Members)], [.fact 28 (.isv 25), .fact 100025 (.own 25 [] 36 (x3 : List (List UInt8))), .killId 25], [.fact 29 (.pto 10 1)], [.fact 30 (.rep [] a0.Members)], [.fact 31 (.rep [] ((wI (a0.Members - (1 : Int))) : Int))], [.fact 32 (.isv 26), .fact 100026 (.own 26 [] 4 (x4 : List Bool)), .killId 26], [.fact 33 (.flds [(false, 1, Fact.rep [] (a1 : Int)), (false, 1, Fact.isv 25), (false, 1, Fact.isv 26), (false, 1, Fact.rep [] ((0 : UInt8) : UInt8)), (false, 1, Fact.rep [] (false : Bool)), (false, 1, Fact.rep [] ((0 : UInt32) : UInt32))])], [.fact 100017 (.obj 17 [(false, 1), (false, 1), (false, 1), (false, 1), (false, 1), (false, 1)]), .fact 100018 (.at 18 (.rep [] (a1 : Int))), .fact 100019 (.at 19 (.isv 25)), .fact 100020 (.at 20 (.isv 26)), .fact 100021 (.at 21 (.rep [] ((0 : UInt8) : UInt8))), .fact 100022 (.at 22 (.rep [] (false : Bool))), .fact 100023 (.at 23 (.rep [] ((0 : UInt32) : UInt32))), .kill 17, .killId 18, .killId 19, .killId 20, .killId 21, .killId 22, .killId 23], [.fact 5 (.rep [] ((0 : Int) : Int))]] mixed (by kernel_rfl) (ao (so (Spec.move (Has.s rfl))) (ao (so (Spec.fieldAddrO fd24_1 (Has.cv (Has.s rfl) (Cv.isvP rfl)))) (ao (so (Spec.loadF (i := 1) ty3 rfl (Has.s rfl) rfl (HasG.s rfl))) (ao (StepG.stE (Step.makeOwn 25 hx3 rfl rfl ow25 zt36 (Has.s rfl))) (ao (so (Spec.fieldAddrO fd24_1 (Has.cv (Has.s rfl) (Cv.isvP rfl)))) (ao (so (Spec.loadF (i := 1) ty3 rfl (Has.s rfl) rfl (HasG.s rfl))) (ao (so (Spec.subI (Has.s rfl) Has.int)) (ao (StepG.stE (Step.makeOwn 26 hx4 rfl rfl ow26 zt4 (Has.s rfl))) (ao (so (Spec.build (us := [(0, .tmp 25), (1, .tmp 28), (2, .tmp 32)]) (ls' := [(false, 1, Fact.rep [] (a1 : Int)), (false, 1, Fact.isv 25), (false, 1, Fact.isv 26), (false, 1, Fact.rep [] ((0 : UInt8) : UInt8)), (false, 1, Fact.rep [] (false : Bool)), (false, 1, Fact.rep [] ((0 : UInt32) : UInt32))]) bd28 rfl (BP.cons rfl rfl (Has.s rfl) (Has.s rfl) (BP.cons rfl rfl (Has.cv (Has.s rfl) (Cv.own rfl)) (Has.s rfl) (BP.cons rfl rfl (Has.cv (Has.s rfl) (Cv.own rfl)) (Has.s rfl) BP.nil))))) (ao (StepG.stE (Step.storeObj (ls := [(false, 1, Fact.rep [] (a1 : Int)), (false, 1, Fact.isv 25), (false, 1, Fact.isv 26), (false, 1, Fact.rep [] ((0 : UInt8) : UInt8)), (false, 1, Fact.rep [] (false : Bool)), (false, 1, Fact.rep [] ((0 : UInt32) : UInt32))]) rfl ty28 rfl rfl (Has.s rfl) rfl (HasL.flds (Has.s rfl)) rfl)) (ao (so (Spec.assign Has.int)) AllM.nil))))))))))) ?_
    refine Leaf.thenN ?_
    refine CWalk.ret ?_
    obtain rfl := Option.some.inj hm
    exact Leaf.retC2 rfl (HasR.cv (HasR.obj (ls := [(false, 1, Fact.rep [] (a1 : Int)), (false, 1, Fact.isv 25), (false, 1, Fact.isv 26), (false, 1, Fact.rep [] ((0 : UInt8) : UInt8)), (false, 1, Fact.rep [] (false : Bool)), (false, 1, Fact.rep [] ((0 : UInt32) : UInt32))]) ty28 rfl rfl (Has.s rfl) rfl (HasGs.cons (HasG.s rfl) (HasGs.cons (HasG.s rfl) (HasGs.cons (HasG.s rfl) (HasGs.cons (HasG.s rfl) (HasGs.cons (HasG.s rfl) (HasGs.cons (HasG.s rfl) HasGs.nil))))))) (Cv.flds (CvL.cons Cv.fl (CvL.cons (Cv.trans (Cv.isvOw rfl) (Cv.owM (T := [25]) (te := []) rfl rfl)) (CvL.cons (Cv.trans (Cv.isvOw rfl) (Cv.owF (T := [26]) (te := []) rfl)) (CvL.cons Cv.fl (CvL.cons Cv.fl (CvL.cons Cv.fl CvL.nil)))))))) (HasR.cv (HasR.tmp (Has.s rfl)) Cv.fl)
  ·refine CWalk.seq ?_
   refine CWalk.region ?_
   refine mv ?_
   refine wo (Spec.lssI (Has.s rfl) Has.int) ?_
   refine wo (Spec.assign (Has.s rfl)) ?_
   refine Walk.nil ?_
   refine Leaf.thenN ?_
   refine CWalk.cond rfl (fun hb => ?_) (fun hb => ?_)
   ·have hm := cond_t hb hm
    refine CWalk.skip ?_
    exact Leaf.join (decide (a1 < (0 : Int))) hm (st (sn (sn (st (sf (sf (sf (sf (sf (sf (sf (sg (sg (sf (sf (sf (sn (sn Sub.nil))))))))))))))))))
   ·have hm := cond_f hb hm
    refine CWalk.region ?_
    refine mv ?_
    refine mv ?_
    refine wo (Spec.geqI (Has.s rfl) (Has.s rfl)) ?_
    refine wo (Spec.assign (Has.s rfl)) ?_
    refine Walk.nil ?_
    exact Leaf.join (decide (a1 ≥ x1.1)) hm (st (sn (sn (st (sf (sf (sf (sf (sf (sf (sf (sg (sg (sf (sf (sf (sn (sn Sub.nil))))))))))))))))))

def slices_IndexFunc_byte_byte_L1 (a0 : List (List UInt8)) (a1 : (List UInt8) → Option Bool) (s1 : Int) : Option (Ctl (Int) ((Unit) ⊕ (Int))) :=
  (bif (decide (s1 < ((a0).length : Int))) then Option.bind (idx a0 s1) (fun x3 => Option.bind (a1 x3) (fun x4 => (bif x4 then some (Ctl.brk (Sum.inr s1)) else some (Ctl.next (wI (s1 + (1 : Int))))))) else some (Ctl.brk (Sum.inl ())))
/-- slices.IndexFunc[[][]byte,[]byte] -/
def slices_IndexFunc_byte_byte (a0 : List (List UInt8)) (a1 : (List UInt8) → Option Bool) : Option (Int) :=
  Option.bind (loopM (fun s : Int => slices_IndexFunc_byte_byte_L1 a0 a1 s) FUEL (0 : Int)) (fun b5 => Sum.elim (fun b6 => some (-1 : Int)) (fun b7 => some b7) b5)
set_option maxRecDepth 100000 in
set_option maxHeartbeats 2000000 in
theorem slices_IndexFunc_byte_byte_c (a0 : List (List UInt8)) (a1 : (List UInt8) → Option Bool) {r : Int} (hm : slices_IndexFunc_byte_byte a0 a1 = some r) : Ctr Try.prog 56 [.rep 0 a0, .fn Try.prog pre1 0 a1] (.fl r) [] := by
 refine ctr_of_walk [[]] 19 Try.func56 rfl rfl rfl rfl (fun w0 om => ?_)
 unfold slices_IndexFunc_byte_byte at hm
 refine CWalk.sub (G' := [.fact 0 (.rep [0] (a0 : List (List UInt8))), .fact 1 (.fn Try.prog pre1 [0] (a1))]) (sn (sn Sub.nil)) ?_
 refine CWalk.seq ?_
 refine CWalk.region ?_
 refine wo (Spec.assign Has.int) ?_
 refine Walk.nil ?_
 refine Leaf.thenN ?_
 refine CWalk.seq ?_
 refine CWalk.seq ?_
 refine CWalk.region ?_
 refine mv ?_
 refine wo (Spec.len (Has.s rfl) Try.underlying25) ?_
 refine wo (Spec.move Has.int) ?_
 refine Walk.nil ?_
 refine Leaf.thenN ?_
 refine CWalk.block ?_
 obtain ⟨b5, hb5, hm⟩ := bind_some hm
 refine CWalk.loop (fun s : Int => [.fact 0 (.rep [0] (a0 : List (List UInt8))), .fact 1 (.fn Try.prog pre1 [0] (a1)), .fact 7 (.rep [] (((a0).length : Int) : Int)), .fact 8 (.rep [] (s : Int))]) (fun b : (Unit) ⊕ (Int) => Sum.elim (fun b => (Exit.exit 0, [])) (fun b => (Exit.ret, [.fact 4 (.rep [] (b : Int))])) b) hb5 (su (sn (st (st Sub.nil)))) ?_ ?_
 ·rintro s1 c2 hm
  replace hm : slices_IndexFunc_byte_byte_L1 a0 a1 s1 = some c2 := hm
  unfold slices_IndexFunc_byte_byte_L1 at hm
  show CWalk _ [.fact 0 (.rep [0] (a0 : List (List UInt8))), .fact 1 (.fn Try.prog pre1 [0] (a1)), .fact 7 (.rep [] (((a0).length : Int) : Int)), .fact 8 (.rep [] (s1 : Int))] _ _
  refine CWalk.seq ?_
  refine CWalk.region ?_
  refine wo (Spec.lssI (Has.s rfl) (Has.s rfl)) ?_
  refine Walk.nil ?_
  refine Leaf.thenN ?_
  refine CWalk.seq ?_
  refine CWalk.cond rfl (fun hb => ?_) (fun hb => ?_)
  ·have hm := cond_t hb hm
   refine CWalk.skip ?_
   refine Leaf.thenN ?_
   refine CWalk.seq ?_
   refine CWalk.block ?_
   refine CWalk.seq ?_
   refine CWalk.region ?_
   refine mv ?_
   refine wo (Spec.assign (Has.s rfl)) ?_
   refine Walk.nil ?_
   refine Leaf.thenN ?_
   refine CWalk.seq ?_
   refine CWalk.region ?_
   refine mv ?_
   refine mv ?_
   refine mv ?_
   obtain ⟨x3, hx3, hm⟩ := bind_some hm
   refine wo (Spec.indexAddr hx3 sl25 (Has.s rfl) (Has.s rfl)) ?_
   refine wo (Spec.load ty36 (Has.s rfl)) ?_
   obtain ⟨x4, hx4, hm⟩ := bind_some hm
   refine wo (Spec.callFn (xs := [.tmp 15]) (x := x3) [0] 10 rfl hx4 (Has.s rfl) (HasAll.cons (Has.m (Has.s rfl) rfl) HasAll.nil)) ?_
   refine Walk.nil ?_
   refine Leaf.thenN ?_
   refine CWalk.cond rfl (fun hb => ?_) (fun hb => ?_)
   ·have hm := cond_t hb hm
    refine CWalk.seq ?_
    refine CWalk.region ?_
    refine mv ?_
    refine wo (Spec.assign (Has.s rfl)) ?_
    refine Walk.nil ?_
    refine Leaf.thenN ?_
    refine CWalk.ret ?_
    refine Leaf.blockR ?_
    refine Leaf.thenR ?_
    exact Leaf.brk hm (fun h => nomatch h) rfl (st Sub.nil)
   ·have hm := cond_f hb hm
    refine CWalk.skip ?_
    refine Leaf.blockN ?_
    refine Leaf.thenN ?_
    refine CWalk.region ?_
    refine wo (Spec.addI (Has.s rfl) Has.int) ?_
    refine mv ?_
    refine Walk.nil ?_
    exact Leaf.next hm (su (sn (st (st Sub.nil))))
  ·have hm := cond_f hb hm
   refine CWalk.exit ?_
   refine Leaf.thenE ?_
   exact Leaf.brk hm (fun h => nomatch h) rfl (Sub.nil)
 ·intro _
  rcases b5 with b6 | b7
  ·have hm := selim_l hm
   refine Leaf.blockE ?_
   refine Leaf.thenN ?_
   refine CWalk.seq ?_
   refine CWalk.region ?_
   refine wo (Spec.assign Has.int) ?_
   refine Walk.nil ?_
   refine Leaf.thenN ?_
   refine CWalk.ret ?_
   obtain rfl := Option.some.inj hm
   exact Leaf.retC1 rfl (HasR.cv (HasR.tmp (Has.s rfl)) Cv.fl)
  ·have hm := selim_r hm
   refine Leaf.blockR ?_
   refine Leaf.thenR ?_
   obtain rfl := Option.some.inj hm
   exact Leaf.retC1 rfl (HasR.cv (HasR.tmp (Has.s rfl)) Cv.fl)

/-- slices.ContainsFunc[[][]byte,[]byte] -/
def slices_ContainsFunc_byte_byte (a0 : List (List UInt8)) (a1 : (List UInt8) → Option Bool) : Option (Bool) :=
  Option.bind (slices_IndexFunc_byte_byte a0 a1) (fun x1 => some (decide (x1 ≥ (0 : Int))))
set_option maxRecDepth 100000 in
set_option maxHeartbeats 2000000 in
theorem slices_ContainsFunc_byte_byte_c (a0 : List (List UInt8)) (a1 : (List UInt8) → Option Bool) {r : Bool} (hm : slices_ContainsFunc_byte_byte a0 a1 = some r) : Ctr Try.prog 31 [.rep 0 a0, .fn Try.prog pre1 0 a1] (.fl r) [] := by
 refine ctr_of_walk [[]] 9 Try.func31 rfl rfl rfl rfl (fun w0 om => ?_)
 unfold slices_ContainsFunc_byte_byte at hm
 refine CWalk.sub (G' := [.fact 0 (.rep [0] (a0 : List (List UInt8))), .fact 1 (.fn Try.prog pre1 [0] (a1))]) (sn (sn Sub.nil)) ?_
 refine CWalk.seq ?_
 refine CWalk.region ?_
 refine wo (Spec.assign Has.bool) ?_
 refine Walk.nil ?_
 refine Leaf.thenN ?_
 refine CWalk.seq ?_
 refine CWalk.region ?_
 refine mv ?_
 refine mv ?_
 obtain ⟨x1, hx1, hm⟩ := bind_some hm
 refine wo (f := Fact.rep [] (x1 : Int)) (Spec.callE [0] 10 rfl en56 (slices_IndexFunc_byte_byte_c a0 a1 hx1) (HasAll.cons (Has.m (Has.s rfl) rfl) (HasAll.cons (Has.cv (Has.s rfl) (Cv.fnM rfl)) HasAll.nil))) ?_
 refine wo (Spec.geqI (Has.s rfl) Has.int) ?_
 refine wo (Spec.assign (Has.s rfl)) ?_
 refine Walk.nil ?_
 refine Leaf.thenN ?_
 refine CWalk.ret ?_
 obtain rfl := Option.some.inj hm
 exact Leaf.retC1 rfl (HasR.cv (HasR.tmp (Has.s rfl)) Cv.fl)

/-- freeboard/head.odd -/
def head_odd (a0 : List UInt8) : Option (Bool) :=
  some ((((a0).length : Int) != (0 : Int)) && (((a0).length : Int) != (128 : Int)))
set_option maxRecDepth 100000 in
set_option maxHeartbeats 2000000 in
theorem head_odd_c (a0 : List UInt8) {r : Bool} (hm : head_odd a0 = some r) : Ctr Try.prog 51 [.rep 0 a0] (.fl r) [] := by
 refine ctr_of_walk [[]] 11 Try.func51 rfl rfl rfl rfl (fun w0 om => ?_)
 unfold head_odd at hm
 refine CWalk.sub (G' := [.fact 0 (.rep [0] (a0 : List UInt8))]) (sn Sub.nil) ?_
 refine CWalk.seq ?_
 refine CWalk.region ?_
 refine wo (Spec.assign Has.bool) ?_
 refine Walk.nil ?_
 refine Leaf.thenN ?_
 refine CWalk.seq ?_
 refine CWalk.region ?_
 refine mv ?_
 refine wo (Spec.len (Has.s rfl) Try.underlying36) ?_
 refine wo (Spec.neqI (Has.s rfl) Has.int) ?_
 refine mv ?_
 refine wg rfl rfl (fun hb => Spec.move (Has.s rfl)) ?_
 refine wg rfl rfl (fun hb => Spec.len (Has.u rfl hb) Try.underlying36) ?_
 refine wg rfl rfl (fun hb => Spec.neqI (Has.u rfl hb) Has.int) ?_
 refine wo (Spec.and (Has.s rfl) (fun h => Has.u rfl h)) ?_
 refine wo (Spec.assign (Has.s rfl)) ?_
 refine Walk.nil ?_
 refine Leaf.thenN ?_
 refine CWalk.ret ?_
 obtain rfl := Option.some.inj hm
 exact Leaf.retC1 rfl (HasR.cv (HasR.tmp (Has.s rfl)) Cv.fl)

def head_Check_L1 (a1 : Head) (s3 : Bool) (s4 : Int) : Option (Ctl (Bool × Int) ((Bool) ⊕ (Unit))) :=
  (bif (decide (s4 < ((a1.Dirty).length : Int))) then Option.bind (idx a1.Dirty s4) (fun x6 => Option.bind (gO (x6) (idx a1.Blocks s4)) (fun x7 => (bif (x6 && (((x7).length : Int) == (0 : Int))) then some (Ctl.brk (Sum.inr ())) else some (Ctl.next ((s3 || x6), (wI (s4 + (1 : Int)))))))) else some (Ctl.brk (Sum.inl s3)))
/-- freeboard/head.Check -/
def head_Check (a0 : Config) (a1 : Head) : Option (Int) :=
  Option.bind (shape_Stripes a0) (fun x1 => Option.bind (gO (!((((((x1.2 != (0 : Int)) || (decide (a1.Stripe < (0 : Int)))) || (decide (a1.Stripe ≥ x1.1))) || (((a1.Blocks).length : Int) != a0.Members)) || (((a1.Dirty).length : Int) != (wI (a0.Members - (1 : Int))))) || (decide ((a1.Phase.toNat : Int) > ((4 : UInt8).toNat : Int))))) (slices_ContainsFunc_byte_byte a1.Blocks (fun y => head_odd y))) (fun x2 => (bif (((((((x1.2 != (0 : Int)) || (decide (a1.Stripe < (0 : Int)))) || (decide (a1.Stripe ≥ x1.1))) || (((a1.Blocks).length : Int) != a0.Members)) || (((a1.Dirty).length : Int) != (wI (a0.Members - (1 : Int))))) || (decide ((a1.Phase.toNat : Int) > ((4 : UInt8).toNat : Int)))) || x2) then some (8 : Int) else Option.bind (loopM (fun s : Bool × Int => head_Check_L1 a1 s.1 s.2) FUEL (false, (0 : Int))) (fun b8 => Sum.elim (fun b9 => Option.bind (idx a1.Blocks (wI (a0.Members - (1 : Int)))) (fun x10 => (bif (((((a1.Phase == (0 : UInt8)) == (decide (((x10).length : Int) > (0 : Int)))) || ((!(a1.Phase == (0 : UInt8))) && (!b9))) || ((decide ((a1.Phase.toNat : Int) ≤ ((1 : UInt8).toNat : Int))) && ((a1.Seq.toNat : Int) != ((0 : UInt32).toNat : Int)))) || (a1.Deals && ((!b9) || (decide ((a1.Phase.toNat : Int) > ((1 : UInt8).toNat : Int)))))) then some (8 : Int) else some (0 : Int)))) (fun b11 => some (8 : Int)) b8))))
set_option maxRecDepth 100000 in
set_option maxHeartbeats 2000000 in
theorem head_Check_c (a0 : Config) (a1 : Head) {r : Int} (hm : head_Check a0 a1 = some r) : Ctr Try.prog 27 [.rep 0 a0, .rep 0 a1] (.fl r) [] := by
 refine ctr_of_walk [[]] 126 Try.func27 rfl rfl rfl rfl (fun w0 om => ?_)
 unfold head_Check at hm
 refine CWalk.sub (G' := [.fact 0 (.rep [] (a0 : Config)), .fact 1 (.rep [0] (a1 : Head))]) (Sub.cons (Has.fl (Has.s rfl)) (sn Sub.nil)) ?_
 refine CWalk.seq ?_
 refine CWalk.region ?_
 refine ws (Step.boxObj (ls := [(false, 1, Fact.rep [] a0.Id), (false, 1, Fact.rep [] a0.Members), (false, 1, Fact.rep [] a0.Chunk), (false, 1, Fact.rep [] a0.Rows), (false, 1, Fact.rep [] a0.Log), (false, 1, Fact.rep [] a0.Heads)]) 10 rfl rfl rfl rfl (HasL.flds (Has.cv (Has.s rfl) (Cv.trans (Cv.opens (chConfig a0)) (Cv.flds (CvL.cons Cv.fl (CvL.cons Cv.fl (CvL.cons Cv.fl (CvL.cons Cv.fl (CvL.cons Cv.fl (CvL.cons Cv.fl CvL.nil))))))))))) ?_
 refine ws (Step.boxObj (ls := [(false, 1, Fact.rep [] a1.Stripe), (false, 1, Fact.rep [0] a1.Blocks), (false, 1, Fact.rep [0] a1.Dirty), (false, 1, Fact.rep [] a1.Phase), (false, 1, Fact.rep [] a1.Deals), (false, 1, Fact.rep [] a1.Seq)]) 17 rfl rfl rfl rfl (HasL.flds (Has.cv (Has.s rfl) (Cv.trans (Cv.opens (chHead a1)) (Cv.flds (CvL.cons Cv.fl (CvL.cons Cv.refl (CvL.cons Cv.refl (CvL.cons Cv.fl (CvL.cons Cv.fl (CvL.cons Cv.fl CvL.nil))))))))))) ?_
 refine wo (Spec.assign Has.int) ?_
 refine Walk.nil ?_
 refine Leaf.thenN ?_
 refine CWalk.seq ?_
 refine CWalk.region ?_
 refine wo (Spec.loadObj (ls := [(false, 1, Fact.rep [] a0.Id), (false, 1, Fact.rep [] a0.Members), (false, 1, Fact.rep [] a0.Chunk), (false, 1, Fact.rep [] a0.Rows), (false, 1, Fact.rep [] a0.Log), (false, 1, Fact.rep [] a0.Heads)]) ty24 rfl rfl (Has.s rfl) rfl (HasGs.cons (HasG.s rfl) (HasGs.cons (HasG.s rfl) (HasGs.cons (HasG.s rfl) (HasGs.cons (HasG.s rfl) (HasGs.cons (HasG.s rfl) (HasGs.cons (HasG.s rfl) HasGs.nil))))))) ?_
 obtain ⟨x1, hx1, hm⟩ := bind_some hm
 refine wo (f := Fact.tup2 (Fact.rep [] x1.1) (Fact.rep [] x1.2)) (Spec.callE [] 24 rfl en38 (shape_Stripes_c a0 hx1) (HasAll.cons (Has.fl (Has.cv (Has.s rfl) (Cv.trans (Cv.flds (CvL.cons Cv.fl (CvL.cons Cv.fl (CvL.cons Cv.fl (CvL.cons Cv.fl (CvL.cons Cv.fl (CvL.cons Cv.fl CvL.nil))))))) (Cv.close (T := []) (chConfig a0))))) HasAll.nil)) ?_
 refine mv ?_
 refine wo (Spec.ext0 (Has.s rfl)) ?_
 refine wo (Spec.ext1 (Has.s rfl)) ?_
 refine wo (Spec.assign (Has.s rfl)) ?_
 refine wo (Spec.assign (Has.s rfl)) ?_
 refine Walk.nil ?_
 refine Leaf.thenN ?_
 refine CWalk.seq ?_
 refine CWalk.seq ?_
 refine CWalk.region ?_
 refine mv ?_
 refine wo (Spec.neqI (Has.s rfl) Has.int) ?_
 refine mv ?_
 refine wg rfl rfl (fun hb => Spec.fieldAddrO fd28_0 (Has.cv (Has.s rfl) (Cv.isvP rfl))) ?_
 refine wg rfl rfl (fun hb => Spec.loadF (i := 0) ty3 rfl (Has.u rfl hb) rfl (HasG.s rfl)) ?_
 refine wg rfl rfl (fun hb => Spec.lssI (Has.u rfl hb) Has.int) ?_
 refine wo (Spec.or (Has.s rfl) (fun h => Has.u rfl h)) ?_
 refine mv ?_
 refine wg rfl rfl (fun hb => Spec.fieldAddrO fd28_0 (Has.cv (Has.s rfl) (Cv.isvP rfl))) ?_
 refine wg rfl rfl (fun hb => Spec.loadF (i := 0) ty3 rfl (Has.u rfl hb) rfl (HasG.s rfl)) ?_
 refine wg rfl rfl (fun hb => Spec.move (Has.s rfl)) ?_
 refine wg rfl rfl (fun hb => Spec.geqI (Has.u rfl hb) (Has.u rfl hb)) ?_
 refine wo (Spec.or (Has.s rfl) (fun h => Has.u rfl h)) ?_
 refine mv ?_
 refine wg rfl rfl (fun hb => Spec.fieldAddrO fd28_1 (Has.cv (Has.s rfl) (Cv.isvP rfl))) ?_
 refine wg rfl rfl (fun hb => Spec.loadF (i := 1) ty25 rfl (Has.u rfl hb) rfl (HasG.s rfl)) ?_
 refine wg rfl rfl (fun hb => Spec.len (Has.u rfl hb) Try.underlying25) ?_
 refine wg rfl rfl (fun hb => Spec.fieldAddrO fd24_1 (Has.cv (Has.s rfl) (Cv.isvP rfl))) ?_
 refine wg rfl rfl (fun hb => Spec.loadF (i := 1) ty3 rfl (Has.u rfl hb) rfl (HasG.s rfl)) ?_
 refine wg rfl rfl (fun hb => Spec.neqI (Has.u rfl hb) (Has.u rfl hb)) ?_
 refine wo (Spec.or (Has.s rfl) (fun h => Has.u rfl h)) ?_
 refine mv ?_
 refine wg rfl rfl (fun hb => Spec.fieldAddrO fd28_2 (Has.cv (Has.s rfl) (Cv.isvP rfl))) ?_
 refine wg rfl rfl (fun hb => Spec.loadF (i := 2) ty26 rfl (Has.u rfl hb) rfl (HasG.s rfl)) ?_
 refine wg rfl rfl (fun hb => Spec.len (Has.u rfl hb) Try.underlying26) ?_
 refine wg rfl rfl (fun hb => Spec.fieldAddrO fd24_1 (Has.cv (Has.s rfl) (Cv.isvP rfl))) ?_
 refine wg rfl rfl (fun hb => Spec.loadF (i := 1) ty3 rfl (Has.u rfl hb) rfl (HasG.s rfl)) ?_
 refine wg rfl rfl (fun hb => Spec.subI (Has.u rfl hb) Has.int) ?_
 refine wg rfl rfl (fun hb => Spec.neqI (Has.u rfl hb) (Has.u rfl hb)) ?_
 refine wo (Spec.or (Has.s rfl) (fun h => Has.u rfl h)) ?_
 refine mv ?_
 refine wg rfl rfl (fun hb => Spec.fieldAddrO fd28_3 (Has.cv (Has.s rfl) (Cv.isvP rfl))) ?_
 refine wg rfl rfl (fun hb => Spec.loadF (i := 3) ty5 rfl (Has.u rfl hb) rfl (HasG.s rfl)) ?_
 refine wg rfl rfl (fun hb => Spec.gtrN (α := UInt8) (Has.u rfl hb) (Has.u8 4 rfl)) ?_
 refine wo (Spec.or (Has.s rfl) (fun h => Has.u rfl h)) ?_
 refine mv ?_
 refine wg rfl rfl (fun hb => Spec.fieldAddrO fd28_1 (Has.cv (Has.s rfl) (Cv.isvP rfl))) ?_
 refine wg rfl rfl (fun hb => Spec.loadF (i := 1) ty25 rfl (Has.u rfl hb) rfl (HasG.s rfl)) ?_
 obtain ⟨x2, hx2, hm⟩ := bind_some hm
 refine wg (f := Fact.rep [] (x2 : Bool)) rfl rfl (fun hb => Spec.callE [0] 25 rfl en31 (slices_ContainsFunc_byte_byte_c a1.Blocks (fun y => head_odd y) (gO_t hx2 (not_t hb))) (HasAll.cons (Has.m (Has.u rfl hb) rfl) (HasAll.cons (Has.cv Has.func (Cv.fn (pu := []) (pc := []) (shc := []) en51 CvF.nil CvF.nil (fun y r h => head_odd_c y h))) HasAll.nil))) ?_
 refine wo (Spec.or (Has.s rfl) (fun h => Has.u rfl h)) ?_
 refine Walk.nil ?_
 refine Leaf.thenN ?_
 refine CWalk.cond rfl (fun hb => ?_) (fun hb => ?_)
 ·have hm := cond_t hb hm
  refine CWalk.seq ?_
  refine CWalk.region ?_
  refine wo (Spec.assign Has.int) ?_
  refine Walk.nil ?_
  refine Leaf.thenN ?_
  refine CWalk.ret ?_
  refine Leaf.thenR ?_
  obtain rfl := Option.some.inj hm
  exact Leaf.retC1 rfl (HasR.cv (HasR.tmp (Has.s rfl)) Cv.fl)
 ·have hm := cond_f hb hm
  refine CWalk.skip ?_
  refine Leaf.thenN ?_
  refine CWalk.seq ?_
  refine CWalk.region ?_
  refine wo (Spec.assign Has.bool) ?_
  refine Walk.nil ?_
  refine Leaf.thenN ?_
  refine CWalk.seq ?_
  refine CWalk.seq ?_
  refine CWalk.region ?_
  refine wo (Spec.fieldAddrO fd28_2 (Has.cv (Has.s rfl) (Cv.isvP rfl))) ?_
  refine wo (Spec.loadF (i := 2) ty26 rfl (Has.s rfl) rfl (HasG.s rfl)) ?_
  refine wo (Spec.len (Has.s rfl) Try.underlying26) ?_
  refine wo (Spec.move Has.int) ?_
  refine Walk.nil ?_
  refine Leaf.thenN ?_
  refine CWalk.block ?_
  obtain ⟨b8, hb8, hm⟩ := bind_some hm
  refine CWalk.loop (fun s : Bool × Int => [.fact 2 (.isv 10), .fact 3 (.isv 17), .fact 7 (.rep [] s.1), .fact 58 (.rep [0] a1.Dirty), .fact 59 (.rep [] (((a1.Dirty).length : Int) : Int)), .fact 60 (.rep [] s.2), .fact 100011 (.at 11 (.rep [] a0.Id)), .fact 100012 (.at 12 (.rep [] a0.Members)), .fact 100013 (.at 13 (.rep [] a0.Chunk)), .fact 100014 (.at 14 (.rep [] a0.Rows)), .fact 100015 (.at 15 (.rep [] a0.Log)), .fact 100016 (.at 16 (.rep [] a0.Heads)), .fact 100018 (.at 18 (.rep [] a1.Stripe)), .fact 100019 (.at 19 (.rep [0] a1.Blocks)), .fact 100020 (.at 20 (.rep [0] a1.Dirty)), .fact 100021 (.at 21 (.rep [] a1.Phase)), .fact 100022 (.at 22 (.rep [] a1.Deals)), .fact 100023 (.at 23 (.rep [] a1.Seq)), .fact 100010 (.obj 10 [(false, 1), (false, 1), (false, 1), (false, 1), (false, 1), (false, 1)]), .fact 100017 (.obj 17 [(false, 1), (false, 1), (false, 1), (false, 1), (false, 1), (false, 1)])]) (fun b : (Bool) ⊕ (Unit) => Sum.elim (fun b => (Exit.exit 0, [.fact 2 (.isv 10), .fact 3 (.isv 17), .fact 7 (.rep [] (b : Bool)), .fact 100011 (.at 11 (.rep [] a0.Id)), .fact 100012 (.at 12 (.rep [] a0.Members)), .fact 100013 (.at 13 (.rep [] a0.Chunk)), .fact 100014 (.at 14 (.rep [] a0.Rows)), .fact 100015 (.at 15 (.rep [] a0.Log)), .fact 100016 (.at 16 (.rep [] a0.Heads)), .fact 100018 (.at 18 (.rep [] a1.Stripe)), .fact 100019 (.at 19 (.rep [0] a1.Blocks)), .fact 100020 (.at 20 (.rep [0] a1.Dirty)), .fact 100021 (.at 21 (.rep [] a1.Phase)), .fact 100022 (.at 22 (.rep [] a1.Deals)), .fact 100023 (.at 23 (.rep [] a1.Seq)), .fact 100010 (.obj 10 [(false, 1), (false, 1), (false, 1), (false, 1), (false, 1), (false, 1)]), .fact 100017 (.obj 17 [(false, 1), (false, 1), (false, 1), (false, 1), (false, 1), (false, 1)])])) (fun b => (Exit.ret, [.fact 4 (.rep [] ((8 : Int) : Int))])) b) hb8 (sn (sn (st (su (st (st (sf (sf (sf (sf (sf (sf (sf (sm (sm (sf (sf (sf (sn (sn Sub.nil)))))))))))))))))))) ?_ ?_
  ·rintro ⟨s3, s4⟩ c5 hm
   replace hm : head_Check_L1 a1 s3 s4 = some c5 := hm
   unfold head_Check_L1 at hm
   show CWalk _ [.fact 2 (.isv 10), .fact 3 (.isv 17), .fact 7 (.rep [] (s3 : Bool)), .fact 58 (.rep [0] a1.Dirty), .fact 59 (.rep [] (((a1.Dirty).length : Int) : Int)), .fact 60 (.rep [] (s4 : Int)), .fact 100011 (.at 11 (.rep [] a0.Id)), .fact 100012 (.at 12 (.rep [] a0.Members)), .fact 100013 (.at 13 (.rep [] a0.Chunk)), .fact 100014 (.at 14 (.rep [] a0.Rows)), .fact 100015 (.at 15 (.rep [] a0.Log)), .fact 100016 (.at 16 (.rep [] a0.Heads)), .fact 100018 (.at 18 (.rep [] a1.Stripe)), .fact 100019 (.at 19 (.rep [0] a1.Blocks)), .fact 100020 (.at 20 (.rep [0] a1.Dirty)), .fact 100021 (.at 21 (.rep [] a1.Phase)), .fact 100022 (.at 22 (.rep [] a1.Deals)), .fact 100023 (.at 23 (.rep [] a1.Seq)), .fact 100010 (.obj 10 [(false, 1), (false, 1), (false, 1), (false, 1), (false, 1), (false, 1)]), .fact 100017 (.obj 17 [(false, 1), (false, 1), (false, 1), (false, 1), (false, 1), (false, 1)])] _ _
   refine CWalk.seq ?_
   refine CWalk.region ?_
   refine wo (Spec.lssI (Has.s rfl) (Has.s rfl)) ?_
   refine Walk.nil ?_
   refine Leaf.thenN ?_
   refine CWalk.seq ?_
   refine CWalk.cond rfl (fun hb => ?_) (fun hb => ?_)
   ·have hm := cond_t hb hm
    refine CWalk.skip ?_
    refine Leaf.thenN ?_
    refine CWalk.seq ?_
    refine CWalk.block ?_
    refine CWalk.seq ?_
    refine CWalk.region ?_
    refine mv ?_
    obtain ⟨x6, hx6, hm⟩ := bind_some hm
    refine wo (Spec.indexAddr hx6 sl26 (Has.s rfl) (Has.s rfl)) ?_
    refine wo ((Spec.load ty4 (Has.s rfl)).flat (T' := [])) ?_
    refine wo (Spec.assign (Has.s rfl)) ?_
    refine wo (Spec.assign (Has.s rfl)) ?_
    refine Walk.nil ?_
    refine Leaf.thenN ?_
    refine CWalk.seq ?_
    refine CWalk.seq ?_
    refine CWalk.region ?_
    refine mv ?_
    refine mv ?_
    refine wg rfl rfl (fun hb => Spec.fieldAddrO fd28_1 (Has.cv (Has.s rfl) (Cv.isvP rfl))) ?_
    refine wg rfl rfl (fun hb => Spec.loadF (i := 1) ty25 rfl (Has.u rfl hb) rfl (HasG.s rfl)) ?_
    refine wg rfl rfl (fun hb => Spec.move (Has.s rfl)) ?_
    obtain ⟨x7, hx7, hm⟩ := bind_some hm
    refine wg rfl rfl (fun hb => Spec.indexAddr (gO_t hx7 hb) sl25 (Has.u rfl hb) (Has.u rfl hb)) ?_
    refine wg rfl rfl (fun hb => Spec.load ty36 (Has.u rfl hb)) ?_
    refine wg rfl rfl (fun hb => Spec.len (Has.u rfl hb) Try.underlying36) ?_
    refine wg rfl rfl (fun hb => Spec.eqlI (Has.u rfl hb) Has.int) ?_
    refine wo (Spec.and (Has.s rfl) (fun h => Has.u rfl h)) ?_
    refine Walk.nil ?_
    refine Leaf.thenN ?_
    refine CWalk.cond rfl (fun hb => ?_) (fun hb => ?_)
    ·have hm := cond_t hb hm
     refine CWalk.seq ?_
     refine CWalk.region ?_
     refine wo (Spec.assign Has.int) ?_
     refine Walk.nil ?_
     refine Leaf.thenN ?_
     refine CWalk.ret ?_
     refine Leaf.thenR ?_
     refine Leaf.blockR ?_
     refine Leaf.thenR ?_
     exact Leaf.brk hm (fun h => nomatch h) rfl (st Sub.nil)
    ·have hm := cond_f hb hm
     refine CWalk.skip ?_
     refine Leaf.thenN ?_
     refine CWalk.region ?_
     refine mv ?_
     refine mv ?_
     refine wg rfl rfl (fun hb => Spec.move (Has.s rfl)) ?_
     refine wo (Spec.or (Has.s rfl) (fun h => Has.u rfl h)) ?_
     refine wo (Spec.assign (Has.s rfl)) ?_
     refine Walk.nil ?_
     refine Leaf.blockN ?_
     refine Leaf.thenN ?_
     refine CWalk.region ?_
     refine wo (Spec.addI (Has.s rfl) Has.int) ?_
     refine mv ?_
     refine Walk.nil ?_
     exact Leaf.next hm (sn (sn (st (su (st (st (sf (sf (sf (sf (sf (sf (sf (sm (sm (sf (sf (sf (sn (sn Sub.nil))))))))))))))))))))
   ·have hm := cond_f hb hm
    refine CWalk.exit ?_
    refine Leaf.thenE ?_
    exact Leaf.brk hm (fun h => nomatch h) rfl (sn (sn (st (sf (sf (sf (sf (sf (sf (sf (sm (sm (sf (sf (sf (sn (sn Sub.nil)))))))))))))))))
  ·intro _
   rcases b8 with b9 | b11
   ·have hm := selim_l hm
    refine Leaf.blockE ?_
    refine Leaf.thenN ?_
    refine CWalk.seq ?_
    obtain ⟨x10, hx10, hm⟩ := bind_some hm
    refine CWalk.drawM [[], [0], [0, 1], [], [3], [], [5], [5, 6], [3, 4, 5, 6, 7], [3, 4, 5, 6, 7, 8], [3, 4, 5, 6, 7, 8, 9], [3, 4, 5, 6, 7, 8, 9, 10], [0, 1, 2], [0, 1, 2, 3, 4, 5, 6, 7, 8, 9, 10, 11, 12]] [[.fact 80 (.pto 17 3)], [.fact 81 (.rep [] a1.Phase)], [.fact 82 (.rep [] ((a1.Phase == (0 : UInt8)) : Bool))], [.fact 83 (.pto 17 1)], [.fact 84 (.rep [0] a1.Blocks)], [.fact 85 (.pto 10 1)], [.fact 86 (.rep [] a0.Members)], [.fact 87 (.rep [] ((wI (a0.Members - (1 : Int))) : Int))], [.fact 88 (.ptr [0] (x10 : List UInt8))], [.fact 89 (.rep [0] (x10 : List UInt8))], [.fact 90 (.rep [] (((x10).length : Int) : Int))], [.fact 91 (.rep [] ((decide (((x10).length : Int) > (0 : Int))) : Bool))], [.fact 10 (.rep [] ((a1.Phase == (0 : UInt8)) : Bool))], [.fact 11 (.rep [] ((decide (((x10).length : Int) > (0 : Int))) : Bool))]] mixed (by kernel_rfl) (ao (so (Spec.fieldAddrO fd28_3 (Has.cv (Has.s rfl) (Cv.isvP rfl)))) (ao (so (Spec.loadF (i := 3) ty5 rfl (Has.s rfl) rfl (HasG.s rfl))) (ao (so (Spec.eqlB (Has.s rfl) (Has.u8 0 rfl))) (ao (so (Spec.fieldAddrO fd28_1 (Has.cv (Has.s rfl) (Cv.isvP rfl)))) (ao (so (Spec.loadF (i := 1) ty25 rfl (Has.s rfl) rfl (HasG.s rfl))) (ao (so (Spec.fieldAddrO fd24_1 (Has.cv (Has.s rfl) (Cv.isvP rfl)))) (ao (so (Spec.loadF (i := 1) ty3 rfl (Has.s rfl) rfl (HasG.s rfl))) (ao (so (Spec.subI (Has.s rfl) Has.int)) (ao (so (Spec.indexAddr hx10 sl25 (Has.s rfl) (Has.s rfl))) (ao (so (Spec.load ty36 (Has.s rfl))) (ao (so (Spec.len (Has.s rfl) Try.underlying36)) (ao (so (Spec.gtrI (Has.s rfl) Has.int)) (ao (so (Spec.assign (Has.s rfl))) (ao (so (Spec.assign (Has.s rfl))) AllM.nil)))))))))))))) ?_
    refine Leaf.thenN ?_
    refine CWalk.seq ?_
    refine CWalk.seq ?_
    refine CWalk.region ?_
    refine mv ?_
    refine mv ?_
    refine wo (Spec.eqlT (Has.s rfl) (Has.s rfl) Try.underlying4) ?_
    refine mv ?_
    refine wg rfl rfl (fun hb => Spec.move (Has.s rfl)) ?_
    refine wg rfl rfl (fun hb => Spec.not (Has.u rfl hb)) ?_
    refine wg rfl rfl (fun hb => Spec.move (Has.u rfl hb)) ?_
    refine Walk.opgu rfl rfl rfl (fun hb => Spec.move (Has.s rfl)) ?_
    refine Walk.opgu rfl rfl rfl (fun hb => Spec.not (Has.u rfl hb)) ?_
    refine wg rfl rfl (fun hb => Spec.and (Has.u rfl hb) (fun h => Has.u rfl ⟨hb, h⟩)) ?_
    refine wo (Spec.or (Has.s rfl) (fun h => Has.u rfl h)) ?_
    refine mv ?_
    refine wg rfl rfl (fun hb => Spec.fieldAddrO fd28_3 (Has.cv (Has.s rfl) (Cv.isvP rfl))) ?_
    refine wg rfl rfl (fun hb => Spec.loadF (i := 3) ty5 rfl (Has.u rfl hb) rfl (HasG.s rfl)) ?_
    refine wg rfl rfl (fun hb => Spec.leqN (α := UInt8) (Has.u rfl hb) (Has.u8 1 rfl)) ?_
    refine wg rfl rfl (fun hb => Spec.move (Has.u rfl hb)) ?_
    refine Walk.opgu rfl rfl rfl (fun hb => Spec.fieldAddrO fd28_5 (Has.cv (Has.s rfl) (Cv.isvP rfl))) ?_
    refine Walk.opgu rfl rfl rfl (fun hb => Spec.loadF (i := 5) ty22 rfl (Has.u rfl hb) rfl (HasG.s rfl)) ?_
    refine Walk.opgu rfl rfl rfl (fun hb => Spec.neqN (α := UInt32) (Has.u rfl hb) (Has.u32 0 rfl)) ?_
    refine wg rfl rfl (fun hb => Spec.and (Has.u rfl hb) (fun h => Has.u rfl ⟨hb, h⟩)) ?_
    refine wo (Spec.or (Has.s rfl) (fun h => Has.u rfl h)) ?_
    refine mv ?_
    refine wg rfl rfl (fun hb => Spec.fieldAddrO fd28_4 (Has.cv (Has.s rfl) (Cv.isvP rfl))) ?_
    refine wg rfl rfl (fun hb => Spec.loadF (i := 4) ty4 rfl (Has.u rfl hb) rfl (HasG.s rfl)) ?_
    refine wg rfl rfl (fun hb => Spec.move (Has.u rfl hb)) ?_
    refine Walk.opgu rfl rfl rfl (fun hb => Spec.move (Has.s rfl)) ?_
    refine Walk.opgu rfl rfl rfl (fun hb => Spec.not (Has.u rfl hb)) ?_
    refine Walk.opgu rfl rfl rfl (fun hb => Spec.move (Has.u rfl hb)) ?_
    refine Walk.opgu rfl rfl rfl (fun hb => Spec.fieldAddrO fd28_3 (Has.cv (Has.s rfl) (Cv.isvP rfl))) ?_
    refine Walk.opgu rfl rfl rfl (fun hb => Spec.loadF (i := 3) ty5 rfl (Has.u rfl hb) rfl (HasG.s rfl)) ?_
    refine Walk.opgu rfl rfl rfl (fun hb => Spec.gtrN (α := UInt8) (Has.u rfl hb) (Has.u8 1 rfl)) ?_
    refine Walk.opgu rfl rfl rfl (fun hb => Spec.or (Has.u rfl hb) (fun h => Has.u rfl ⟨hb, h⟩)) ?_
    refine wg rfl rfl (fun hb => Spec.and (Has.u rfl hb) (fun h => Has.u rfl ⟨hb, h⟩)) ?_
    refine wo (Spec.or (Has.s rfl) (fun h => Has.u rfl h)) ?_
    refine Walk.nil ?_
    refine Leaf.thenN ?_
    refine CWalk.cond rfl (fun hb => ?_) (fun hb => ?_)
    ·have hm := cond_t hb hm
     refine CWalk.seq ?_
     refine CWalk.region ?_
     refine wo (Spec.assign Has.int) ?_
     refine Walk.nil ?_
     refine Leaf.thenN ?_
     refine CWalk.ret ?_
     refine Leaf.thenR ?_
     obtain rfl := Option.some.inj hm
     exact Leaf.retC1 rfl (HasR.cv (HasR.tmp (Has.s rfl)) Cv.fl)
    ·have hm := cond_f hb hm
     refine CWalk.skip ?_
     refine Leaf.thenN ?_
     refine CWalk.seq ?_
     refine CWalk.region ?_
     refine wo (Spec.assign Has.int) ?_
     refine Walk.nil ?_
     refine Leaf.thenN ?_
     refine CWalk.ret ?_
     obtain rfl := Option.some.inj hm
     exact Leaf.retC1 rfl (HasR.cv (HasR.tmp (Has.s rfl)) Cv.fl)
   ·have hm := selim_r hm
    refine Leaf.blockR ?_
    refine Leaf.thenR ?_
    obtain rfl := Option.some.inj hm
    exact Leaf.retC1 rfl (HasR.cv (HasR.tmp (Has.s rfl)) Cv.fl)

/-- slices.Clone[[]bool,bool] -/
def slices_Clone_bool_bool (a0 : List Bool) : Option ((List Bool)) :=
  Option.bind (app ([] : List Bool) a0) (fun x1 => some x1)
set_option maxRecDepth 100000 in
set_option maxHeartbeats 2000000 in
theorem slices_Clone_bool_bool_c (a0 : List Bool) {r : (List Bool)} (hm : slices_Clone_bool_bool a0 = some r) : Ctr Try.prog 77 [.rep 0 a0] (.own 0 none 4 r) [] := by
 refine ctr_of_walk [[10]] 8 Try.func77 rfl rfl rfl rfl (fun w0 om => ?_)
 unfold slices_Clone_bool_bool at hm
 refine CWalk.sub (G' := [.fact 0 (.rep [0] (a0 : List Bool))]) (sn Sub.nil) ?_
 refine CWalk.seq ?_
 refine CWalk.region ?_
 refine wo (Spec.assign Has.nilv) ?_
 refine Walk.nil ?_
 refine Leaf.thenN ?_
 refine CWalk.seq ?_
 refine CWalk.seq ?_
 refine CWalk.region ?_
 refine mv ?_
 refine wo (Spec.eqlNil Try.underlying26 (Has.s rfl)) ?_
 refine Walk.nil ?_
 refine Leaf.thenN ?_
 refine CWalk.condNil rfl (fun hb => ?_) ?_
 ·have hm : some ([] : List Bool) = some r := by first | simpa [app, hb] using hm | simpa [hb] using hm
  refine CWalk.seq ?_
  refine CWalk.region ?_
  refine wo (Spec.assign Has.nilv) ?_
  refine Walk.nil ?_
  refine Leaf.thenN ?_
  refine CWalk.ret ?_
  refine Leaf.thenR ?_
  obtain rfl := Option.some.inj hm
  exact Leaf.retC1 rfl (HasR.cv (HasR.tmp (Has.s rfl)) (Cv.trans Cv.nilOw (Cv.owF (T := []) (te := []) rfl)))
 ·skip
  refine CWalk.skip ?_
  refine Leaf.thenN ?_
  refine CWalk.seq ?_
  refine CWalk.region ?_
  refine ws (Step.lit0 (α := Bool) 10 rfl rfl ow26) ?_
  refine mv ?_
  obtain ⟨x1, hx1, hm⟩ := bind_some hm
  refine ws (Step.append (te' := []) 10 hx1 rfl rfl ow26 (Has.s rfl) rfl (Has.s rfl) ElKeep.flat ElKeep.flat) ?_
  refine wo (Spec.assign (Has.s rfl)) ?_
  refine Walk.nil ?_
  refine Leaf.thenN ?_
  refine CWalk.ret ?_
  obtain rfl := Option.some.inj hm
  exact Leaf.retC1 rfl (HasR.cv (HasR.tmp (Has.s rfl)) (Cv.trans (Cv.isvOw rfl) (Cv.owF (T := [10]) (te := []) rfl)))

/-- slices.Clone[[]byte,byte] -/
def slices_Clone_byte_byte (a0 : List UInt8) : Option ((List UInt8)) :=
  Option.bind (app ([] : List UInt8) a0) (fun x1 => some x1)
set_option maxRecDepth 100000 in
set_option maxHeartbeats 2000000 in
theorem slices_Clone_byte_byte_c (a0 : List UInt8) {r : (List UInt8)} (hm : slices_Clone_byte_byte a0 = some r) : Ctr Try.prog 70 [.rep 0 a0] (.own 0 none 5 r) [] := by
 refine ctr_of_walk [[10]] 8 Try.func70 rfl rfl rfl rfl (fun w0 om => ?_)
 unfold slices_Clone_byte_byte at hm
 refine CWalk.sub (G' := [.fact 0 (.rep [0] (a0 : List UInt8))]) (sn Sub.nil) ?_
 refine CWalk.seq ?_
 refine CWalk.region ?_
 refine wo (Spec.assign Has.nilv) ?_
 refine Walk.nil ?_
 refine Leaf.thenN ?_
 refine CWalk.seq ?_
 refine CWalk.seq ?_
 refine CWalk.region ?_
 refine mv ?_
 refine wo (Spec.eqlNil Try.underlying36 (Has.s rfl)) ?_
 refine Walk.nil ?_
 refine Leaf.thenN ?_
 refine CWalk.condNil rfl (fun hb => ?_) ?_
 ·have hm : some ([] : List UInt8) = some r := by first | simpa [app, hb] using hm | simpa [hb] using hm
  refine CWalk.seq ?_
  refine CWalk.region ?_
  refine wo (Spec.assign Has.nilv) ?_
  refine Walk.nil ?_
  refine Leaf.thenN ?_
  refine CWalk.ret ?_
  refine Leaf.thenR ?_
  obtain rfl := Option.some.inj hm
  exact Leaf.retC1 rfl (HasR.cv (HasR.tmp (Has.s rfl)) (Cv.trans Cv.nilOw (Cv.owF (T := []) (te := []) rfl)))
 ·skip
  refine CWalk.skip ?_
  refine Leaf.thenN ?_
  refine CWalk.seq ?_
  refine CWalk.region ?_
  refine ws (Step.lit0 (α := UInt8) 10 rfl rfl ow36) ?_
  refine mv ?_
  obtain ⟨x1, hx1, hm⟩ := bind_some hm
  refine ws (Step.append (te' := []) 10 hx1 rfl rfl ow36 (Has.s rfl) rfl (Has.s rfl) ElKeep.flat ElKeep.flat) ?_
  refine wo (Spec.assign (Has.s rfl)) ?_
  refine Walk.nil ?_
  refine Leaf.thenN ?_
  refine CWalk.ret ?_
  obtain rfl := Option.some.inj hm
  exact Leaf.retC1 rfl (HasR.cv (HasR.tmp (Has.s rfl)) (Cv.trans (Cv.isvOw rfl) (Cv.owF (T := [10]) (te := []) rfl)))

def head_Twin_L1 (a0 : Head) (s2 : Int) (s3 : List (List UInt8)) : Option (Ctl (Int × (List (List UInt8))) ((List (List UInt8)))) :=
  (bif (decide (s2 < ((a0.Blocks).length : Int))) then Option.bind (idx a0.Blocks s2) (fun x5 => Option.bind (slices_Clone_byte_byte x5) (fun x6 => Option.bind (app s3 ([x6])) (fun x7 => some (Ctl.next ((wI (s2 + (1 : Int))), x7))))) else some (Ctl.brk s3))
/-- freeboard/head.Twin -/
def head_Twin (a0 : Head) : Option (Head) :=
  Option.bind (slices_Clone_bool_bool a0.Dirty) (fun x1 => Option.bind (loopM (fun s : Int × (List (List UInt8)) => head_Twin_L1 a0 s.1 s.2) FUEL ((0 : Int), ([] : List (List UInt8)))) (fun b8 => some (Head.mk a0.Stripe b8 x1 a0.Phase a0.Deals a0.Seq)))
set_option maxRecDepth 100000 in
set_option maxHeartbeats 2000000 in
theorem head_Twin_c (a0 : Head) {r : Head} (hm : head_Twin a0 = some r) : Ctr Try.prog 69 [.rep 0 a0] (.flds [(false, 1, (.fl r.Stripe)), (false, 1, (.own 0 (some 1) 36 r.Blocks)), (false, 1, (.own 2 none 4 r.Dirty)), (false, 1, (.fl r.Phase)), (false, 1, (.fl r.Deals)), (false, 1, (.fl r.Seq))]) [] := by
 refine ctr_of_walk [[27], [25, 26], [24]] 28 Try.func69 rfl rfl rfl rfl (fun w0 om => ?_)
 unfold head_Twin at hm
 refine CWalk.sub (G' := [.fact 0 (.rep [0] (a0 : Head))]) (sn Sub.nil) ?_
 refine CWalk.seq ?_
 refine CWalk.region ?_
 refine ws (Step.boxObj (ls := [(false, 1, Fact.rep [] a0.Stripe), (false, 1, Fact.rep [0] a0.Blocks), (false, 1, Fact.rep [0] a0.Dirty), (false, 1, Fact.rep [] a0.Phase), (false, 1, Fact.rep [] a0.Deals), (false, 1, Fact.rep [] a0.Seq)]) 10 rfl rfl rfl rfl (HasL.flds (Has.cv (Has.s rfl) (Cv.trans (Cv.opens (chHead a0)) (Cv.flds (CvL.cons Cv.fl (CvL.cons Cv.refl (CvL.cons Cv.refl (CvL.cons Cv.fl (CvL.cons Cv.fl (CvL.cons Cv.fl CvL.nil))))))))))) ?_
 refine ws (Step.allocObj (ls := [(false, 1, Fact.rep [] ((0 : Int) : Int)), (false, 1, Fact.nilv), (false, 1, Fact.nilv), (false, 1, Fact.rep [] ((0 : UInt8) : UInt8)), (false, 1, Fact.rep [] (false : Bool)), (false, 1, Fact.rep [] ((0 : UInt32) : UInt32))]) 17 rfl rfl rfl rfl zl28) ?_
 refine Walk.nil ?_
 refine Leaf.thenN ?_
 refine CWalk.seq ?_
 refine CWalk.region ?_
 refine wo (Spec.fieldAddrO fd28_2 (Has.cv (Has.s rfl) (Cv.isvP rfl))) ?_
 refine wo (Spec.loadF (i := 2) ty26 rfl (Has.s rfl) rfl (HasG.s rfl)) ?_
 obtain ⟨x1, hx1, hm⟩ := bind_some hm
 refine wo (f := Fact.ow [24] [] 4 (x1 : List Bool)) (Spec.callE [0] 24 rfl en77 (slices_Clone_bool_bool_c a0.Dirty hx1) (HasAll.cons (Has.m (Has.s rfl) rfl) HasAll.nil)) ?_
 refine wo (Spec.fieldAddrO fd28_2 (Has.cv (Has.s rfl) (Cv.isvP rfl))) ?_
 refine ws (Step.storeF (i := 2) (f := Fact.ow [24] [] 4 (x1 : List Bool)) rfl ty26 rfl (Has.s rfl) rfl (Has.cv (Has.s rfl) (Cv.trans Cv.owSl (Cv.slRep (T' := [24]) rfl rfl))) (Has.s rfl) rfl) ?_
 refine Walk.nil ?_
 refine Leaf.thenN ?_
 refine CWalk.seq ?_
 refine CWalk.region ?_
 refine wo (Spec.fieldAddrO fd28_1 (Has.cv (Has.s rfl) (Cv.isvP rfl))) ?_
 refine wo (Spec.loadF (i := 1) ty25 rfl (Has.s rfl) rfl (HasG.s rfl)) ?_
 refine wo (Spec.assign (Has.s rfl)) ?_
 refine Walk.nil ?_
 refine Leaf.thenN ?_
 refine CWalk.seq ?_
 refine CWalk.region ?_
 refine wo (Spec.fieldAddrO fd28_1 (Has.cv (Has.s rfl) (Cv.isvP rfl))) ?_
 refine ws (Step.storeF (i := 1) (f := Fact.nilv) rfl ty25 rfl (Has.s rfl) rfl (Has.cv Has.nilv (Cv.nil (T := []))) Has.nilv rfl) ?_
 refine Walk.nil ?_
 refine Leaf.thenN ?_
 refine CWalk.seq ?_
 refine CWalk.seq ?_
 refine CWalk.region ?_
 refine mv ?_
 refine wo (Spec.len (Has.s rfl) Try.underlying25) ?_
 refine wo (Spec.move Has.int) ?_
 refine Walk.nil ?_
 refine Leaf.thenN ?_
 refine CWalk.block ?_
 obtain ⟨b8, hb8, hm⟩ := bind_some hm
 refine CWalk.loop (fun s : Int × (List (List UInt8)) => [.fact 1 (.isv 10), .fact 2 (.isv 17), .fact 13 (.rep [0] a0.Blocks), .fact 14 (.rep [] (((a0.Blocks).length : Int) : Int)), .fact 15 (.rep [] s.1), .fact 100011 (.at 11 (.rep [] a0.Stripe)), .fact 100012 (.at 12 (.ow [27] [25, 26] 36 (s.2 : List (List UInt8)))), .fact 100013 (.at 13 (.ow [24] [] 4 (x1 : List Bool))), .fact 100014 (.at 14 (.rep [] a0.Phase)), .fact 100015 (.at 15 (.rep [] a0.Deals)), .fact 100016 (.at 16 (.rep [] a0.Seq)), .fact 100018 (.at 18 (.rep [] ((0 : Int) : Int))), .fact 100019 (.at 19 (.nilv)), .fact 100020 (.at 20 (.nilv)), .fact 100021 (.at 21 (.rep [] ((0 : UInt8) : UInt8))), .fact 100022 (.at 22 (.rep [] (false : Bool))), .fact 100023 (.at 23 (.rep [] ((0 : UInt32) : UInt32))), .fact 100010 (.obj 10 [(false, 1), (false, 1), (false, 1), (false, 1), (false, 1), (false, 1)]), .fact 100017 (.obj 17 [(false, 1), (false, 1), (false, 1), (false, 1), (false, 1), (false, 1)])]) (fun b : (List (List UInt8)) => (Exit.exit 0, [.fact 1 (.isv 10), .fact 2 (.isv 17), .fact 100011 (.at 11 (.rep [] a0.Stripe)), .fact 100012 (.at 12 (.ow [27] [25, 26] 36 (b : List (List UInt8)))), .fact 100013 (.at 13 (.ow [24] [] 4 (x1 : List Bool))), .fact 100014 (.at 14 (.rep [] a0.Phase)), .fact 100015 (.at 15 (.rep [] a0.Deals)), .fact 100016 (.at 16 (.rep [] a0.Seq)), .fact 100018 (.at 18 (.rep [] ((0 : Int) : Int))), .fact 100019 (.at 19 (.nilv)), .fact 100020 (.at 20 (.nilv)), .fact 100021 (.at 21 (.rep [] ((0 : UInt8) : UInt8))), .fact 100022 (.at 22 (.rep [] (false : Bool))), .fact 100023 (.at 23 (.rep [] ((0 : UInt32) : UInt32))), .fact 100010 (.obj 10 [(false, 1), (false, 1), (false, 1), (false, 1), (false, 1), (false, 1)]), .fact 100017 (.obj 17 [(false, 1), (false, 1), (false, 1), (false, 1), (false, 1), (false, 1)])])) hb8 (sn (sn (su (st (st (sf (Sub.cons (Has.at (HasG.cv (HasG.s rfl) (Cv.trans Cv.nilOw (Cv.owM (T := []) (te := []) rfl rfl)))) (Sub.cons (Has.at (HasG.cv (HasG.s rfl) (Cv.owF (T := [24]) (te := []) rfl))) (sf (sf (sf (sf (sg (sg (sf (sf (sf (sn (sn Sub.nil))))))))))))))))))) ?_ ?_
 ·rintro ⟨s2, s3⟩ c4 hm
  replace hm : head_Twin_L1 a0 s2 s3 = some c4 := hm
  unfold head_Twin_L1 at hm
  show CWalk _ [.fact 1 (.isv 10), .fact 2 (.isv 17), .fact 13 (.rep [0] a0.Blocks), .fact 14 (.rep [] (((a0.Blocks).length : Int) : Int)), .fact 15 (.rep [] (s2 : Int)), .fact 100011 (.at 11 (.rep [] a0.Stripe)), .fact 100012 (.at 12 (.ow [27] [25, 26] 36 (s3 : List (List UInt8)))), .fact 100013 (.at 13 (.ow [24] [] 4 (x1 : List Bool))), .fact 100014 (.at 14 (.rep [] a0.Phase)), .fact 100015 (.at 15 (.rep [] a0.Deals)), .fact 100016 (.at 16 (.rep [] a0.Seq)), .fact 100018 (.at 18 (.rep [] ((0 : Int) : Int))), .fact 100019 (.at 19 (.nilv)), .fact 100020 (.at 20 (.nilv)), .fact 100021 (.at 21 (.rep [] ((0 : UInt8) : UInt8))), .fact 100022 (.at 22 (.rep [] (false : Bool))), .fact 100023 (.at 23 (.rep [] ((0 : UInt32) : UInt32))), .fact 100010 (.obj 10 [(false, 1), (false, 1), (false, 1), (false, 1), (false, 1), (false, 1)]), .fact 100017 (.obj 17 [(false, 1), (false, 1), (false, 1), (false, 1), (false, 1), (false, 1)])] _ _
  refine CWalk.seq ?_
  refine CWalk.region ?_
  refine wo (Spec.lssI (Has.s rfl) (Has.s rfl)) ?_
  refine Walk.nil ?_
  refine Leaf.thenN ?_
  refine CWalk.seq ?_
  refine CWalk.cond rfl (fun hb => ?_) (fun hb => ?_)
  ·have hm := cond_t hb hm
   refine CWalk.skip ?_
   refine Leaf.thenN ?_
   refine CWalk.seq ?_
   refine CWalk.block ?_
   refine CWalk.seq ?_
   refine CWalk.region ?_
   obtain ⟨x5, hx5, hm⟩ := bind_some hm
   refine wo (Spec.indexAddr hx5 sl25 (Has.s rfl) (Has.s rfl)) ?_
   refine wo (Spec.load ty36 (Has.s rfl)) ?_
   refine wo (Spec.assign (Has.s rfl)) ?_
   refine Walk.nil ?_
   refine Leaf.thenN ?_
   obtain ⟨x6, hx6, hm⟩ := bind_some hm
   obtain ⟨x7, hx7, hm⟩ := bind_some hm
   refine CWalk.drawM [[], [0], [], [2], [2, 3], [0, 1, 2, 3, 4], [0, 1, 2, 3, 4, 5], [0, 1, 2, 3, 4, 5, 6]] [[.fact 19 (.pto 10 1)], [.fact 20 (.ow [27] [25, 26] 36 (s3 : List (List UInt8)))], [.fact 21 (.rep [0] (x5 : List UInt8))], [.fact 22 (.ow [25] [] 5 (x6 : List UInt8))], [.fact 23 (.rep [26, 25] ([x6] : List (List UInt8)))], [.fact 24 (.ow [27] [25, 26] 36 (x7 : List (List UInt8))), .kill 27], [.fact 25 (.pto 10 1)], [.fact 100012 (.at 12 (.ow [27] [25, 26] 36 (x7 : List (List UInt8)))), .fact 100010 (.obj 10 [(false, 1), (false, 1), (false, 1), (false, 1), (false, 1), (false, 1)]), .kill 10, .killId 12]] mixed (by kernel_rfl) (ao (so (Spec.fieldAddrO fd28_1 (Has.cv (Has.s rfl) (Cv.isvP rfl)))) (ao (so (Spec.loadF (i := 1) ty25 rfl (Has.s rfl) rfl (HasG.s rfl))) (ao (so (Spec.move (Has.s rfl))) (ao (so (Spec.callE [0] 25 rfl en70 (slices_Clone_byte_byte_c x5 hx6) (HasAll.cons (Has.m (Has.s rfl) rfl) HasAll.nil))) (ao (so (Spec.lit (xs := [.tmp 22]) (T := [25]) 26 rfl ow25 rfl rfl rfl rfl (HasEach.cons (Has.m (Has.cv (Has.s rfl) (Cv.trans Cv.owSl (Cv.slRep (T' := [25]) rfl rfl))) rfl) HasEach.nil))) (ao (StepG.stE (Step.appendOw (T := [27]) (te' := [25, 26]) hx7 rfl rfl rfl ow25 (Has.s rfl) (Has.s rfl) (ElKeeps.tags rfl rfl) (ElKeeps.tags rfl rfl))) (ao (so (Spec.fieldAddrO fd28_1 (Has.cv (Has.s rfl) (Cv.isvP rfl)))) (ao (StepG.stE (Step.storeF (i := 1) (f := Fact.ow [27] [25, 26] 36 (x7 : List (List UInt8))) rfl ty25 rfl (Has.s rfl) rfl (Has.cv (Has.s rfl) (Cv.trans Cv.owSl (Cv.slRep (T' := [25, 26, 27]) rfl rfl))) (Has.s rfl) rfl)) AllM.nil)))))))) ?_
   refine Leaf.blockN ?_
   refine Leaf.thenN ?_
   refine CWalk.region ?_
   refine wo (Spec.addI (Has.s rfl) Has.int) ?_
   refine mv ?_
   refine Walk.nil ?_
   exact Leaf.next hm (sn (sn (su (st (st (sf (Sub.cons (Has.at (HasG.cv (HasG.s rfl) (Cv.owM (T := [27]) (te := [25, 26]) rfl rfl))) (Sub.cons (Has.at (HasG.cv (HasG.s rfl) (Cv.owF (T := [24]) (te := []) rfl))) (sf (sf (sf (sf (sg (sg (sf (sf (sf (sn (sn Sub.nil)))))))))))))))))))
  ·have hm := cond_f hb hm
   refine CWalk.exit ?_
   refine Leaf.thenE ?_
   exact Leaf.brk hm (fun h => nomatch h) rfl (sn (sn (sf (Sub.cons (Has.at (HasG.cv (HasG.s rfl) (Cv.owM (T := [27]) (te := [25, 26]) rfl rfl))) (Sub.cons (Has.at (HasG.cv (HasG.s rfl) (Cv.owF (T := [24]) (te := []) rfl))) (sf (sf (sf (sf (sg (sg (sf (sf (sf (sn (sn Sub.nil))))))))))))))))
 ·intro _
  refine Leaf.blockE ?_
  refine Leaf.thenN ?_
  refine CWalk.seq ?_
  refine CWalk.region ?_
  refine wo (Spec.loadObj (ls := [(false, 1, Fact.rep [] a0.Stripe), (false, 1, Fact.ow [27] [25, 26] 36 (b8 : List (List UInt8))), (false, 1, Fact.ow [24] [] 4 (x1 : List Bool)), (false, 1, Fact.rep [] a0.Phase), (false, 1, Fact.rep [] a0.Deals), (false, 1, Fact.rep [] a0.Seq)]) ty28 rfl rfl (Has.s rfl) rfl (HasGs.cons (HasG.s rfl) (HasGs.cons (HasG.s rfl) (HasGs.cons (HasG.s rfl) (HasGs.cons (HasG.s rfl) (HasGs.cons (HasG.s rfl) (HasGs.cons (HasG.s rfl) HasGs.nil))))))) ?_
  refine ws (Step.storeObj (ls := [(false, 1, Fact.rep [] a0.Stripe), (false, 1, Fact.ow [27] [25, 26] 36 (b8 : List (List UInt8))), (false, 1, Fact.ow [24] [] 4 (x1 : List Bool)), (false, 1, Fact.rep [] a0.Phase), (false, 1, Fact.rep [] a0.Deals), (false, 1, Fact.rep [] a0.Seq)]) rfl ty28 rfl rfl (Has.s rfl) rfl (HasL.flds (Has.s rfl)) rfl) ?_
  refine Walk.nil ?_
  refine Leaf.thenN ?_
  refine CWalk.ret ?_
  obtain rfl := Option.some.inj hm
  exact Leaf.retC1 rfl (HasR.cv (HasR.obj (ls := [(false, 1, Fact.rep [] a0.Stripe), (false, 1, Fact.ow [27] [25, 26] 36 (b8 : List (List UInt8))), (false, 1, Fact.ow [24] [] 4 (x1 : List Bool)), (false, 1, Fact.rep [] a0.Phase), (false, 1, Fact.rep [] a0.Deals), (false, 1, Fact.rep [] a0.Seq)]) ty28 rfl rfl (Has.s rfl) rfl (HasGs.cons (HasG.s rfl) (HasGs.cons (HasG.s rfl) (HasGs.cons (HasG.s rfl) (HasGs.cons (HasG.s rfl) (HasGs.cons (HasG.s rfl) (HasGs.cons (HasG.s rfl) HasGs.nil))))))) (Cv.flds (CvL.cons Cv.fl (CvL.cons (Cv.owM (T := [27]) (te := [25, 26]) rfl rfl) (CvL.cons (Cv.owF (T := [24]) (te := []) rfl) (CvL.cons Cv.fl (CvL.cons Cv.fl (CvL.cons Cv.fl CvL.nil))))))))

/-- freeboard/head.block -/
def head_block (a0 : List UInt8) : Option ((List UInt8)) :=
  (bif (((a0).length : Int) == (0 : Int)) then Option.bind (makeL (0 : UInt8) (128 : Int)) (fun x1 => some x1) else Option.bind (slices_Clone_byte_byte a0) (fun x2 => some x2))
set_option maxRecDepth 100000 in
set_option maxHeartbeats 2000000 in
theorem head_block_c (a0 : List UInt8) {r : (List UInt8)} (hm : head_block a0 = some r) : Ctr Try.prog 49 [.rep 0 a0] (.own 0 none 5 r) [] := by
 refine ctr_of_walk [[10, 11]] 9 Try.func49 rfl rfl rfl rfl (fun w0 om => ?_)
 unfold head_block at hm
 refine CWalk.sub (G' := [.fact 0 (.rep [0] (a0 : List UInt8))]) (sn Sub.nil) ?_
 refine CWalk.seq ?_
 refine CWalk.region ?_
 refine wo (Spec.assign Has.nilv) ?_
 refine Walk.nil ?_
 refine Leaf.thenN ?_
 refine CWalk.seq ?_
 refine CWalk.seq ?_
 refine CWalk.region ?_
 refine mv ?_
 refine wo (Spec.len (Has.s rfl) Try.underlying36) ?_
 refine wo (Spec.eqlI (Has.s rfl) Has.int) ?_
 refine Walk.nil ?_
 refine Leaf.thenN ?_
 refine CWalk.cond rfl (fun hb => ?_) (fun hb => ?_)
 ·have hm := cond_t hb hm
  refine CWalk.seq ?_
  refine CWalk.region ?_
  obtain ⟨x1, hx1, hm⟩ := bind_some hm
  refine ws (Step.makeOwn 10 hx1 rfl rfl ow36 zt5 Has.int) ?_
  refine wo (Spec.assign (Has.s rfl)) ?_
  refine Walk.nil ?_
  refine Leaf.thenN ?_
  refine CWalk.ret ?_
  refine Leaf.thenR ?_
  obtain rfl := Option.some.inj hm
  exact Leaf.retC1 rfl (HasR.cv (HasR.tmp (Has.s rfl)) (Cv.trans (Cv.isvOw rfl) (Cv.owF (T := [10]) (te := []) rfl)))
 ·have hm := cond_f hb hm
  refine CWalk.skip ?_
  refine Leaf.thenN ?_
  refine CWalk.seq ?_
  refine CWalk.region ?_
  refine mv ?_
  obtain ⟨x2, hx2, hm⟩ := bind_some hm
  refine wo (f := Fact.ow [11] [] 5 (x2 : List UInt8)) (Spec.callE [0] 11 rfl en70 (slices_Clone_byte_byte_c a0 hx2) (HasAll.cons (Has.m (Has.s rfl) rfl) HasAll.nil)) ?_
  refine wo (Spec.assign (Has.s rfl)) ?_
  refine Walk.nil ?_
  refine Leaf.thenN ?_
  refine CWalk.ret ?_
  obtain rfl := Option.some.inj hm
  exact Leaf.retC1 rfl (HasR.cv (HasR.tmp (Has.s rfl)) (Cv.owF (T := [11]) (te := []) rfl))

def head_Take_J1 (j1 : Int) (j2 : List (List UInt8)) (j3 : List Bool) (j4 : UInt8) (j5 : Bool) (j6 : UInt32) (j7 : Int) : Option (Head × Int) :=
  some ((Head.mk j1 j2 j3 j4 j5 j6), j7)
def head_Take_J2 (j11 : Int) (j12 : Int) (j13 : List (List UInt8)) (j14 : List Bool) (j15 : UInt8) (j16 : Bool) (j17 : UInt32) : Option (Head × Int) :=
  (head_Take_J1 j12 j13 j14 j15 j16 j17 j11)
def head_Take_J3 (x10 : Head) (j18 : Int) (j19 : List (List UInt8)) (j20 : List Bool) (j21 : UInt8) : Option (Head × Int) :=
  (bif (j18 == (0 : Int)) then (head_Take_J2 j18 x10.Stripe j19 j20 j21 x10.Deals x10.Seq) else (head_Take_J2 j18 (0 : Int) ([] : List (List UInt8)) ([] : List Bool) (0 : UInt8) false (0 : UInt32)))
/-- freeboard/head.Take -/
def head_Take (a0 : Config) (a1 : Head) (a2 : Int) (a3 : List UInt8) : Option (Head × Int) :=
  Option.bind (head_Check a0 a1) (fun x8 => (bif (x8 != (0 : Int)) then (head_Take_J1 (0 : Int) ([] : List (List UInt8)) ([] : List Bool) (0 : UInt8) false (0 : UInt32) x8) else (bif ((decide (a2 < (0 : Int))) || (decide (a2 ≥ (wI (a0.Members - (1 : Int)))))) then (head_Take_J1 (0 : Int) ([] : List (List UInt8)) ([] : List Bool) (0 : UInt8) false (0 : UInt32) (2 : Int)) else Option.bind (head_odd a3) (fun x9 => (bif x9 then (head_Take_J1 (0 : Int) ([] : List (List UInt8)) ([] : List Bool) (0 : UInt8) false (0 : UInt32) (3 : Int)) else Option.bind (head_Twin a1) (fun x10 => (bif (decide ((x10.Phase.toNat : Int) > ((1 : UInt8).toNat : Int))) then (head_Take_J3 x10 (160 : Int) x10.Blocks x10.Dirty x10.Phase) else Option.bind (bnd (x10.Blocks).length (wI (a0.Members - (1 : Int)))) (fun x22 => Option.bind (head_block a3) (fun x23 => Option.bind (bnd ((x10.Blocks).set x22 ([] : List UInt8)).length a2) (fun x24 => Option.bind (bnd (x10.Dirty).length a2) (fun x25 => (head_Take_J3 x10 (0 : Int) (((x10.Blocks).set x22 ([] : List UInt8)).set x24 x23) ((x10.Dirty).set x25 true) (0 : UInt8)))))))))))))
set_option maxRecDepth 100000 in
set_option maxHeartbeats 2000000 in
theorem head_Take_c (a0 : Config) (a1 : Head) (a2 : Int) (a3 : List UInt8) {r : Head × Int} (hm : head_Take a0 a1 a2 a3 = some r) : Ctr Try.prog 22 [.rep 0 a0, .rep 0 a1, .rep 0 a2, .rep 0 a3] (.tup2 (.flds [(false, 1, (.fl r.1.Stripe)), (false, 1, (.own 0 (some 1) 36 r.1.Blocks)), (false, 1, (.own 2 none 4 r.1.Dirty)), (false, 1, (.fl r.1.Phase)), (false, 1, (.fl r.1.Deals)), (false, 1, (.fl r.1.Seq))]) (.fl r.2)) [] := by
 refine ctr_of_walk [[58, 68], [59, 70], [60, 69]] 18 Try.func22 rfl rfl rfl rfl (fun w0 om => ?_)
 unfold head_Take at hm
 refine CWalk.sub (G' := [.fact 0 (.rep [] (a0 : Config)), .fact 1 (.rep [0] (a1 : Head)), .fact 2 (.rep [] (a2 : Int)), .fact 3 (.rep [0] (a3 : List UInt8))]) (Sub.cons (Has.fl (Has.s rfl)) (sn (Sub.cons (Has.fl (Has.s rfl)) (sn Sub.nil)))) ?_
 refine CWalk.seq ?_
 refine CWalk.region ?_
 refine ws (Step.boxObj (ls := [(false, 1, Fact.rep [] a0.Id), (false, 1, Fact.rep [] a0.Members), (false, 1, Fact.rep [] a0.Chunk), (false, 1, Fact.rep [] a0.Rows), (false, 1, Fact.rep [] a0.Log), (false, 1, Fact.rep [] a0.Heads)]) 10 rfl rfl rfl rfl (HasL.flds (Has.cv (Has.s rfl) (Cv.trans (Cv.opens (chConfig a0)) (Cv.flds (CvL.cons Cv.fl (CvL.cons Cv.fl (CvL.cons Cv.fl (CvL.cons Cv.fl (CvL.cons Cv.fl (CvL.cons Cv.fl CvL.nil))))))))))) ?_
 refine ws (Step.boxObj (ls := [(false, 1, Fact.rep [] a1.Stripe), (false, 1, Fact.rep [0] a1.Blocks), (false, 1, Fact.rep [0] a1.Dirty), (false, 1, Fact.rep [] a1.Phase), (false, 1, Fact.rep [] a1.Deals), (false, 1, Fact.rep [] a1.Seq)]) 17 rfl rfl rfl rfl (HasL.flds (Has.cv (Has.s rfl) (Cv.trans (Cv.opens (chHead a1)) (Cv.flds (CvL.cons Cv.fl (CvL.cons Cv.refl (CvL.cons Cv.refl (CvL.cons Cv.fl (CvL.cons Cv.fl (CvL.cons Cv.fl CvL.nil))))))))))) ?_
 refine ws (Step.boxObj (ls := [(false, 1, Fact.rep [] (a2 : Int))]) 24 rfl rfl rfl rfl (HasL.one (Has.s rfl) rfl (Has.s rfl))) ?_
 refine ws (Step.boxObj (ls := [(false, 1, Fact.rep [0] (a3 : List UInt8))]) 26 rfl rfl rfl rfl (HasL.one (Has.s rfl) rfl (Has.s rfl))) ?_
 refine ws (Step.allocObj (ls := [(false, 1, Fact.rep [] ((0 : Int) : Int)), (false, 1, Fact.nilv), (false, 1, Fact.nilv), (false, 1, Fact.rep [] ((0 : UInt8) : UInt8)), (false, 1, Fact.rep [] (false : Bool)), (false, 1, Fact.rep [] ((0 : UInt32) : UInt32))]) 28 rfl rfl rfl rfl zl28) ?_
 refine wo (Spec.assign Has.int) ?_
 refine Walk.nil ?_
 refine Leaf.thenN ?_
 refine CWalk.seq ?_
 refine CWalk.region ?_
 refine wo (Spec.loadObj (ls := [(false, 1, Fact.rep [] a0.Id), (false, 1, Fact.rep [] a0.Members), (false, 1, Fact.rep [] a0.Chunk), (false, 1, Fact.rep [] a0.Rows), (false, 1, Fact.rep [] a0.Log), (false, 1, Fact.rep [] a0.Heads)]) ty24 rfl rfl (Has.s rfl) rfl (HasGs.cons (HasG.s rfl) (HasGs.cons (HasG.s rfl) (HasGs.cons (HasG.s rfl) (HasGs.cons (HasG.s rfl) (HasGs.cons (HasG.s rfl) (HasGs.cons (HasG.s rfl) HasGs.nil))))))) ?_
 refine wo (Spec.loadObj (ls := [(false, 1, Fact.rep [] a1.Stripe), (false, 1, Fact.rep [0] a1.Blocks), (false, 1, Fact.rep [0] a1.Dirty), (false, 1, Fact.rep [] a1.Phase), (false, 1, Fact.rep [] a1.Deals), (false, 1, Fact.rep [] a1.Seq)]) ty28 rfl rfl (Has.s rfl) rfl (HasGs.cons (HasG.s rfl) (HasGs.cons (HasG.s rfl) (HasGs.cons (HasG.s rfl) (HasGs.cons (HasG.s rfl) (HasGs.cons (HasG.s rfl) (HasGs.cons (HasG.s rfl) HasGs.nil))))))) ?_
 refine wo (Spec.loadF (i := 0) ty3 rfl (Has.cv (Has.s rfl) (Cv.isvP rfl)) rfl (HasG.s rfl)) ?_
 refine wo (Spec.loadF (i := 0) ty36 rfl (Has.cv (Has.s rfl) (Cv.isvP rfl)) rfl (HasG.s rfl)) ?_
 refine wo (Spec.makeFunc (xs := []) (ys := [.tmp 4, .tmp 7, .tmp 6]) rfl rfl HasF.nil (HasF.cons (Has.s rfl) (HasF.cons (Has.s rfl) (HasF.cons (Has.s rfl) HasF.nil))) (fun _ _ _ => rfl)) ?_
 refine Walk.inline (S := Int × (List (List UInt8)) × (List Bool) × UInt8 × Bool × UInt32 × Int) (fun p : Int × (List (List UInt8)) × (List Bool) × UInt8 × Bool × UInt32 × Int => [.fact 8 (.isv 28), .fact 15 (.tup2 (Fact.flds [(false, 1, Fact.rep [] p.1), (false, 1, Fact.ow [58, 68] [59, 70] 36 (p.2.1 : List (List UInt8))), (false, 1, Fact.ow [60, 69] [] 4 (p.2.2.1 : List Bool)), (false, 1, Fact.rep [] p.2.2.2.1), (false, 1, Fact.rep [] p.2.2.2.2.1), (false, 1, Fact.rep [] p.2.2.2.2.2.1)]) (Fact.rep [] p.2.2.2.2.2.2)), .fact 100029 (.at 29 (.rep [] ((0 : Int) : Int))), .fact 100030 (.at 30 (.nilv)), .fact 100031 (.at 31 (.nilv)), .fact 100032 (.at 32 (.rep [] ((0 : UInt8) : UInt8))), .fact 100033 (.at 33 (.rep [] (false : Bool))), .fact 100034 (.at 34 (.rep [] ((0 : UInt32) : UInt32))), .fact 100028 (.obj 28 [(false, 1), (false, 1), (false, 1), (false, 1), (false, 1), (false, 1)])]) (fun p : Int × (List (List UInt8)) × (List Bool) × UInt8 × Bool × UInt32 × Int => head_Take_J1 p.1 p.2.1 p.2.2.1 p.2.2.2.1 p.2.2.2.2.1 p.2.2.2.2.2.1 p.2.2.2.2.2.2 = some r) (fun u1 => [.fact 100011 (.at 11 (.rep [] a0.Id)), .fact 100012 (.at 12 (.rep [] a0.Members)), .fact 100013 (.at 13 (.rep [] a0.Chunk)), .fact 100014 (.at 14 (.rep [] a0.Rows)), .fact 100015 (.at 15 (.rep [] a0.Log)), .fact 100016 (.at 16 (.rep [] a0.Heads)), .fact 100025 (.at 25 (.rep [] (a2 : Int))), .fact 100027 (.at 27 (.rep [0] (a3 : List UInt8))), .fact 100029 (.at 29 (.rep [] ((0 : Int) : Int))), .fact 100030 (.at 30 (.nilv)), .fact 100031 (.at 31 (.nilv)), .fact 100032 (.at 32 (.rep [] ((0 : UInt8) : UInt8))), .fact 100033 (.at 33 (.rep [] (false : Bool))), .fact 100034 (.at 34 (.rep [] ((0 : UInt32) : UInt32))), .fact 902008 (.cst (u1 8) (Fact.isv 28)), .fact 100010 (.obj 10 [(false, 1), (false, 1), (false, 1), (false, 1), (false, 1), (false, 1)]), .fact 100024 (.obj 24 [(false, 1)]), .fact 100026 (.obj 26 [(false, 1)]), .fact 100028 (.obj 28 [(false, 1), (false, 1), (false, 1), (false, 1), (false, 1), (false, 1)])]) (FA := [Fact.flds [(false, 1, Fact.rep [] a0.Id), (false, 1, Fact.rep [] a0.Members), (false, 1, Fact.rep [] a0.Chunk), (false, 1, Fact.rep [] a0.Rows), (false, 1, Fact.rep [] a0.Log), (false, 1, Fact.rep [] a0.Heads)], Fact.flds [(false, 1, Fact.rep [] a1.Stripe), (false, 1, Fact.rep [0] a1.Blocks), (false, 1, Fact.rep [0] a1.Dirty), (false, 1, Fact.rep [] a1.Phase), (false, 1, Fact.rep [] a1.Deals), (false, 1, Fact.rep [] a1.Seq)], Fact.rep [] (a2 : Int), Fact.rep [0] (a3 : List UInt8), Fact.fnv 48 [] [Fact.isv 10, Fact.isv 26, Fact.isv 24]]) rfl Try.func47 rfl rfl rfl (CallOk.fn en47 (HasF.cons (Has.s rfl) (HasF.cons (Has.s rfl) (HasF.cons (Has.s rfl) (HasF.cons (Has.s rfl) (HasF.cons (Has.s rfl) HasF.nil)))))) (fun u1 => (ck (ck (ck (ck (ck (ck (ck (ck (ck (ck (ck (ck (ck (ck (cs 902000 8 (ck (ck (ck (ck Carry.nil)))))))))))))))))))) (fun u1 => ?_) ?_
 ·refine CWalk.seq ?_
  refine CWalk.region ?_
  refine ws (Step.boxObj (ls := [(false, 1, Fact.rep [] a0.Id), (false, 1, Fact.rep [] a0.Members), (false, 1, Fact.rep [] a0.Chunk), (false, 1, Fact.rep [] a0.Rows), (false, 1, Fact.rep [] a0.Log), (false, 1, Fact.rep [] a0.Heads)]) 35 rfl rfl rfl rfl (HasL.flds (Has.s rfl))) ?_
  refine ws (Step.boxObj (ls := [(false, 1, Fact.rep [] a1.Stripe), (false, 1, Fact.rep [0] a1.Blocks), (false, 1, Fact.rep [0] a1.Dirty), (false, 1, Fact.rep [] a1.Phase), (false, 1, Fact.rep [] a1.Deals), (false, 1, Fact.rep [] a1.Seq)]) 42 rfl rfl rfl rfl (HasL.flds (Has.s rfl))) ?_
  refine ws (Step.allocObj (ls := [(false, 1, Fact.rep [] ((0 : Int) : Int)), (false, 1, Fact.nilv), (false, 1, Fact.nilv), (false, 1, Fact.rep [] ((0 : UInt8) : UInt8)), (false, 1, Fact.rep [] (false : Bool)), (false, 1, Fact.rep [] ((0 : UInt32) : UInt32))]) 49 rfl rfl rfl rfl zl28) ?_
  refine wo (Spec.assign Has.int) ?_
  refine Walk.nil ?_
  refine Leaf.thenN ?_
  refine CWalk.seq ?_
  refine CWalk.seq ?_
  refine CWalk.region ?_
  refine wo (Spec.loadObj (ls := [(false, 1, Fact.rep [] a0.Id), (false, 1, Fact.rep [] a0.Members), (false, 1, Fact.rep [] a0.Chunk), (false, 1, Fact.rep [] a0.Rows), (false, 1, Fact.rep [] a0.Log), (false, 1, Fact.rep [] a0.Heads)]) ty24 rfl rfl (Has.s rfl) rfl (HasGs.cons (HasG.s rfl) (HasGs.cons (HasG.s rfl) (HasGs.cons (HasG.s rfl) (HasGs.cons (HasG.s rfl) (HasGs.cons (HasG.s rfl) (HasGs.cons (HasG.s rfl) HasGs.nil))))))) ?_
  refine wo (Spec.loadObj (ls := [(false, 1, Fact.rep [] a1.Stripe), (false, 1, Fact.rep [0] a1.Blocks), (false, 1, Fact.rep [0] a1.Dirty), (false, 1, Fact.rep [] a1.Phase), (false, 1, Fact.rep [] a1.Deals), (false, 1, Fact.rep [] a1.Seq)]) ty28 rfl rfl (Has.s rfl) rfl (HasGs.cons (HasG.s rfl) (HasGs.cons (HasG.s rfl) (HasGs.cons (HasG.s rfl) (HasGs.cons (HasG.s rfl) (HasGs.cons (HasG.s rfl) (HasGs.cons (HasG.s rfl) HasGs.nil))))))) ?_
  obtain ⟨x8, hx8, hm⟩ := bind_some hm
  refine wo (f := Fact.rep [] (x8 : Int)) (Spec.callE [0] 56 rfl en27 (head_Check_c a0 a1 hx8) (HasAll.cons (Has.fl (Has.cv (Has.s rfl) (Cv.trans (Cv.flds (CvL.cons Cv.fl (CvL.cons Cv.fl (CvL.cons Cv.fl (CvL.cons Cv.fl (CvL.cons Cv.fl (CvL.cons Cv.fl CvL.nil))))))) (Cv.close (T := []) (chConfig a0))))) (HasAll.cons (Has.m (Has.cv (Has.s rfl) (Cv.trans (Cv.flds (CvL.cons Cv.fl (CvL.cons (Cv.m rfl) (CvL.cons (Cv.m rfl) (CvL.cons Cv.fl (CvL.cons Cv.fl (CvL.cons Cv.fl CvL.nil))))))) (Cv.close (T := [0]) (chHead a1)))) rfl) HasAll.nil))) ?_
  refine wo (Spec.assign (Has.s rfl)) ?_
  refine Walk.nil ?_
  refine Leaf.thenN ?_
  refine CWalk.seq ?_
  refine CWalk.region ?_
  refine mv ?_
  refine wo (Spec.neqI (Has.s rfl) Has.int) ?_
  refine Walk.nil ?_
  refine Leaf.thenN ?_
  refine CWalk.cond rfl (fun hb => ?_) (fun hb => ?_)
  ·have hm := cond_t hb hm
   refine CWalk.ret ?_
   refine Leaf.thenR ?_
   exact Leaf.in2 ((0 : Int), ([] : List (List UInt8)), ([] : List Bool), (0 : UInt8), false, (0 : UInt32), x8) hm rfl rfl (HasR.cv (HasR.obj (ls := [(false, 1, Fact.rep [] ((0 : Int) : Int)), (false, 1, Fact.nilv), (false, 1, Fact.nilv), (false, 1, Fact.rep [] ((0 : UInt8) : UInt8)), (false, 1, Fact.rep [] (false : Bool)), (false, 1, Fact.rep [] ((0 : UInt32) : UInt32))]) ty28 rfl rfl (Has.s rfl) rfl (HasGs.cons (HasG.s rfl) (HasGs.cons (HasG.s rfl) (HasGs.cons (HasG.s rfl) (HasGs.cons (HasG.s rfl) (HasGs.cons (HasG.s rfl) (HasGs.cons (HasG.s rfl) HasGs.nil))))))) (Cv.flds (CvL.cons Cv.fl (CvL.cons (Cv.trans Cv.nilOw (Cv.owM (T := []) (te := []) rfl rfl)) (CvL.cons (Cv.trans Cv.nilOw (Cv.owF (T := []) (te := []) rfl)) (CvL.cons Cv.fl (CvL.cons Cv.fl (CvL.cons Cv.fl CvL.nil)))))))) (HasR.cv (HasR.tmp (Has.s rfl)) Cv.fl) (ls 902008 (Low.res (lf (lg (lg (lf (lf (lf (lo Low.nil)))))))))
  ·have hm := cond_f hb hm
   refine CWalk.skip ?_
   refine Leaf.thenN ?_
   refine CWalk.seq ?_
   refine CWalk.seq ?_
   refine CWalk.region ?_
   refine mv ?_
   refine wo (Spec.lssI (Has.s rfl) Has.int) ?_
   refine mv ?_
   refine wg rfl rfl (fun hb => Spec.move (Has.s rfl)) ?_
   refine wg rfl rfl (fun hb => Spec.fieldAddrO fd24_1 (Has.cv (Has.s rfl) (Cv.isvP rfl))) ?_
   refine wg rfl rfl (fun hb => Spec.loadF (i := 1) ty3 rfl (Has.u rfl hb) rfl (HasG.s rfl)) ?_
   refine wg rfl rfl (fun hb => Spec.subI (Has.u rfl hb) Has.int) ?_
   refine wg rfl rfl (fun hb => Spec.geqI (Has.u rfl hb) (Has.u rfl hb)) ?_
   refine wo (Spec.or (Has.s rfl) (fun h => Has.u rfl h)) ?_
   refine Walk.nil ?_
   refine Leaf.thenN ?_
   refine CWalk.cond rfl (fun hb => ?_) (fun hb => ?_)
   ·have hm := cond_t hb hm
    refine CWalk.seq ?_
    refine CWalk.region ?_
    refine wo (Spec.loadObj (ls := [(false, 1, Fact.rep [] ((0 : Int) : Int)), (false, 1, Fact.nilv), (false, 1, Fact.nilv), (false, 1, Fact.rep [] ((0 : UInt8) : UInt8)), (false, 1, Fact.rep [] (false : Bool)), (false, 1, Fact.rep [] ((0 : UInt32) : UInt32))]) ty28 rfl rfl (Has.s rfl) rfl (HasGs.cons (HasG.s rfl) (HasGs.cons (HasG.s rfl) (HasGs.cons (HasG.s rfl) (HasGs.cons (HasG.s rfl) (HasGs.cons (HasG.s rfl) (HasGs.cons (HasG.s rfl) HasGs.nil))))))) ?_
    refine ws (Step.storeObj (ls := [(false, 1, Fact.rep [] ((0 : Int) : Int)), (false, 1, Fact.nilv), (false, 1, Fact.nilv), (false, 1, Fact.rep [] ((0 : UInt8) : UInt8)), (false, 1, Fact.rep [] (false : Bool)), (false, 1, Fact.rep [] ((0 : UInt32) : UInt32))]) rfl ty28 rfl rfl (Has.s rfl) rfl (HasL.flds (Has.s rfl)) rfl) ?_
    refine wo (Spec.assign Has.int) ?_
    refine Walk.nil ?_
    refine Leaf.thenN ?_
    refine CWalk.ret ?_
    refine Leaf.thenR ?_
    exact Leaf.in2 ((0 : Int), ([] : List (List UInt8)), ([] : List Bool), (0 : UInt8), false, (0 : UInt32), (2 : Int)) hm rfl rfl (HasR.cv (HasR.obj (ls := [(false, 1, Fact.rep [] ((0 : Int) : Int)), (false, 1, Fact.nilv), (false, 1, Fact.nilv), (false, 1, Fact.rep [] ((0 : UInt8) : UInt8)), (false, 1, Fact.rep [] (false : Bool)), (false, 1, Fact.rep [] ((0 : UInt32) : UInt32))]) ty28 rfl rfl (Has.s rfl) rfl (HasGs.cons (HasG.s rfl) (HasGs.cons (HasG.s rfl) (HasGs.cons (HasG.s rfl) (HasGs.cons (HasG.s rfl) (HasGs.cons (HasG.s rfl) (HasGs.cons (HasG.s rfl) HasGs.nil))))))) (Cv.flds (CvL.cons Cv.fl (CvL.cons (Cv.trans Cv.nilOw (Cv.owM (T := []) (te := []) rfl rfl)) (CvL.cons (Cv.trans Cv.nilOw (Cv.owF (T := []) (te := []) rfl)) (CvL.cons Cv.fl (CvL.cons Cv.fl (CvL.cons Cv.fl CvL.nil)))))))) (HasR.cv (HasR.tmp (Has.s rfl)) Cv.fl) (ls 902008 (Low.res (lf (lg (lg (lf (lf (lf (lo Low.nil)))))))))
   ·have hm := cond_f hb hm
    refine CWalk.skip ?_
    refine Leaf.thenN ?_
    refine CWalk.seq ?_
    refine CWalk.seq ?_
    refine CWalk.region ?_
    refine mv ?_
    obtain ⟨x9, hx9, hm⟩ := bind_some hm
    refine wo (f := Fact.rep [] (x9 : Bool)) (Spec.callE [0] 57 rfl en51 (head_odd_c a3 hx9) (HasAll.cons (Has.m (Has.s rfl) rfl) HasAll.nil)) ?_
    refine Walk.nil ?_
    refine Leaf.thenN ?_
    refine CWalk.cond rfl (fun hb => ?_) (fun hb => ?_)
    ·have hm := cond_t hb hm
     refine CWalk.seq ?_
     refine CWalk.region ?_
     refine wo (Spec.loadObj (ls := [(false, 1, Fact.rep [] ((0 : Int) : Int)), (false, 1, Fact.nilv), (false, 1, Fact.nilv), (false, 1, Fact.rep [] ((0 : UInt8) : UInt8)), (false, 1, Fact.rep [] (false : Bool)), (false, 1, Fact.rep [] ((0 : UInt32) : UInt32))]) ty28 rfl rfl (Has.s rfl) rfl (HasGs.cons (HasG.s rfl) (HasGs.cons (HasG.s rfl) (HasGs.cons (HasG.s rfl) (HasGs.cons (HasG.s rfl) (HasGs.cons (HasG.s rfl) (HasGs.cons (HasG.s rfl) HasGs.nil))))))) ?_
     refine ws (Step.storeObj (ls := [(false, 1, Fact.rep [] ((0 : Int) : Int)), (false, 1, Fact.nilv), (false, 1, Fact.nilv), (false, 1, Fact.rep [] ((0 : UInt8) : UInt8)), (false, 1, Fact.rep [] (false : Bool)), (false, 1, Fact.rep [] ((0 : UInt32) : UInt32))]) rfl ty28 rfl rfl (Has.s rfl) rfl (HasL.flds (Has.s rfl)) rfl) ?_
     refine wo (Spec.assign Has.int) ?_
     refine Walk.nil ?_
     refine Leaf.thenN ?_
     refine CWalk.ret ?_
     refine Leaf.thenR ?_
     exact Leaf.in2 ((0 : Int), ([] : List (List UInt8)), ([] : List Bool), (0 : UInt8), false, (0 : UInt32), (3 : Int)) hm rfl rfl (HasR.cv (HasR.obj (ls := [(false, 1, Fact.rep [] ((0 : Int) : Int)), (false, 1, Fact.nilv), (false, 1, Fact.nilv), (false, 1, Fact.rep [] ((0 : UInt8) : UInt8)), (false, 1, Fact.rep [] (false : Bool)), (false, 1, Fact.rep [] ((0 : UInt32) : UInt32))]) ty28 rfl rfl (Has.s rfl) rfl (HasGs.cons (HasG.s rfl) (HasGs.cons (HasG.s rfl) (HasGs.cons (HasG.s rfl) (HasGs.cons (HasG.s rfl) (HasGs.cons (HasG.s rfl) (HasGs.cons (HasG.s rfl) HasGs.nil))))))) (Cv.flds (CvL.cons Cv.fl (CvL.cons (Cv.trans Cv.nilOw (Cv.owM (T := []) (te := []) rfl rfl)) (CvL.cons (Cv.trans Cv.nilOw (Cv.owF (T := []) (te := []) rfl)) (CvL.cons Cv.fl (CvL.cons Cv.fl (CvL.cons Cv.fl CvL.nil)))))))) (HasR.cv (HasR.tmp (Has.s rfl)) Cv.fl) (ls 902008 (Low.res (lf (lg (lg (lf (lf (lf (lo Low.nil)))))))))
    ·have hm := cond_f hb hm
     refine CWalk.skip ?_
     refine Leaf.thenN ?_
     refine CWalk.seq ?_
     refine CWalk.region ?_
     refine wo (Spec.loadObj (ls := [(false, 1, Fact.rep [] a1.Stripe), (false, 1, Fact.rep [0] a1.Blocks), (false, 1, Fact.rep [0] a1.Dirty), (false, 1, Fact.rep [] a1.Phase), (false, 1, Fact.rep [] a1.Deals), (false, 1, Fact.rep [] a1.Seq)]) ty28 rfl rfl (Has.s rfl) rfl (HasGs.cons (HasG.s rfl) (HasGs.cons (HasG.s rfl) (HasGs.cons (HasG.s rfl) (HasGs.cons (HasG.s rfl) (HasGs.cons (HasG.s rfl) (HasGs.cons (HasG.s rfl) HasGs.nil))))))) ?_
     obtain ⟨x10, hx10, hm⟩ := bind_some hm
     refine wo (f := Fact.flds [(false, 1, Fact.rep [] x10.Stripe), (false, 1, Fact.ow [58] [59] 36 (x10.Blocks : List (List UInt8))), (false, 1, Fact.ow [60] [] 4 (x10.Dirty : List Bool)), (false, 1, Fact.rep [] x10.Phase), (false, 1, Fact.rep [] x10.Deals), (false, 1, Fact.rep [] x10.Seq)]) (Spec.callE [0] 58 rfl en69 (head_Twin_c a1 hx10) (HasAll.cons (Has.m (Has.cv (Has.s rfl) (Cv.trans (Cv.flds (CvL.cons Cv.fl (CvL.cons (Cv.m rfl) (CvL.cons (Cv.m rfl) (CvL.cons Cv.fl (CvL.cons Cv.fl (CvL.cons Cv.fl CvL.nil))))))) (Cv.close (T := [0]) (chHead a1)))) rfl) HasAll.nil)) ?_
     refine ws (Step.allocObj (ls := [(false, 1, Fact.rep [] ((0 : Int) : Int)), (false, 1, Fact.nilv), (false, 1, Fact.nilv), (false, 1, Fact.rep [] ((0 : UInt8) : UInt8)), (false, 1, Fact.rep [] (false : Bool)), (false, 1, Fact.rep [] ((0 : UInt32) : UInt32))]) 61 rfl rfl rfl rfl zl28) ?_
     refine ws (Step.storeObj (ls := [(false, 1, Fact.rep [] x10.Stripe), (false, 1, Fact.ow [58] [59] 36 (x10.Blocks : List (List UInt8))), (false, 1, Fact.ow [60] [] 4 (x10.Dirty : List Bool)), (false, 1, Fact.rep [] x10.Phase), (false, 1, Fact.rep [] x10.Deals), (false, 1, Fact.rep [] x10.Seq)]) rfl ty28 rfl rfl (Has.s rfl) rfl (HasL.flds (Has.s rfl)) rfl) ?_
     refine Walk.nil ?_
     refine Leaf.thenN ?_
     refine CWalk.seqJ (fun p : Int × Int × (List (List UInt8)) × (List Bool) × UInt8 × Bool × UInt32 => [.fact 10 (.isv 49), .fact 11 (.rep [] p.1), .fact 902008 (.cst (u1 8) (Fact.isv 28)), .fact 100050 (.at 50 (.rep [] p.2.1)), .fact 100051 (.at 51 (.ow [58, 68] [59, 70] 36 (p.2.2.1 : List (List UInt8)))), .fact 100052 (.at 52 (.ow [60, 69] [] 4 (p.2.2.2.1 : List Bool))), .fact 100053 (.at 53 (.rep [] p.2.2.2.2.1)), .fact 100054 (.at 54 (.rep [] p.2.2.2.2.2.1)), .fact 100055 (.at 55 (.rep [] p.2.2.2.2.2.2)), .fact 100029 (.at 29 (.rep [] ((0 : Int) : Int))), .fact 100030 (.at 30 (.nilv)), .fact 100031 (.at 31 (.nilv)), .fact 100032 (.at 32 (.rep [] ((0 : UInt8) : UInt8))), .fact 100033 (.at 33 (.rep [] (false : Bool))), .fact 100034 (.at 34 (.rep [] ((0 : UInt32) : UInt32))), .fact 100049 (.obj 49 [(false, 1), (false, 1), (false, 1), (false, 1), (false, 1), (false, 1)]), .fact 100028 (.obj 28 [(false, 1), (false, 1), (false, 1), (false, 1), (false, 1), (false, 1)])]) (fun p : Int × Int × (List (List UInt8)) × (List Bool) × UInt8 × Bool × UInt32 => head_Take_J2 p.1 p.2.1 p.2.2.1 p.2.2.2.1 p.2.2.2.2.1 p.2.2.2.2.2.1 p.2.2.2.2.2.2 = some r) ?_ ?_
     ·rintro ⟨j11, j12, j13, j14, j15, j16, j17⟩ hm
      replace hm : head_Take_J2 j11 j12 j13 j14 j15 j16 j17 = some r := hm
      unfold head_Take_J2 at hm
      show CWalk _ [.fact 10 (.isv 49), .fact 11 (.rep [] (j11 : Int)), .fact 902008 (.cst (u1 8) (Fact.isv 28)), .fact 100050 (.at 50 (.rep [] (j12 : Int))), .fact 100051 (.at 51 (.ow [58, 68] [59, 70] 36 (j13 : List (List UInt8)))), .fact 100052 (.at 52 (.ow [60, 69] [] 4 (j14 : List Bool))), .fact 100053 (.at 53 (.rep [] (j15 : UInt8))), .fact 100054 (.at 54 (.rep [] (j16 : Bool))), .fact 100055 (.at 55 (.rep [] (j17 : UInt32))), .fact 100029 (.at 29 (.rep [] ((0 : Int) : Int))), .fact 100030 (.at 30 (.nilv)), .fact 100031 (.at 31 (.nilv)), .fact 100032 (.at 32 (.rep [] ((0 : UInt8) : UInt8))), .fact 100033 (.at 33 (.rep [] (false : Bool))), .fact 100034 (.at 34 (.rep [] ((0 : UInt32) : UInt32))), .fact 100049 (.obj 49 [(false, 1), (false, 1), (false, 1), (false, 1), (false, 1), (false, 1)]), .fact 100028 (.obj 28 [(false, 1), (false, 1), (false, 1), (false, 1), (false, 1), (false, 1)])] _ _
      refine CWalk.ret ?_
      exact Leaf.in2 (j12, j13, j14, j15, j16, j17, j11) hm rfl rfl (HasR.cv (HasR.obj (ls := [(false, 1, Fact.rep [] (j12 : Int)), (false, 1, Fact.ow [58, 68] [59, 70] 36 (j13 : List (List UInt8))), (false, 1, Fact.ow [60, 69] [] 4 (j14 : List Bool)), (false, 1, Fact.rep [] (j15 : UInt8)), (false, 1, Fact.rep [] (j16 : Bool)), (false, 1, Fact.rep [] (j17 : UInt32))]) ty28 rfl rfl (Has.s rfl) rfl (HasGs.cons (HasG.s rfl) (HasGs.cons (HasG.s rfl) (HasGs.cons (HasG.s rfl) (HasGs.cons (HasG.s rfl) (HasGs.cons (HasG.s rfl) (HasGs.cons (HasG.s rfl) HasGs.nil))))))) (Cv.flds (CvL.cons Cv.fl (CvL.cons (Cv.owM (T := [58, 68]) (te := [59, 70]) rfl rfl) (CvL.cons (Cv.owF (T := [60, 69]) (te := []) rfl) (CvL.cons Cv.fl (CvL.cons Cv.fl (CvL.cons Cv.fl CvL.nil)))))))) (HasR.cv (HasR.tmp (Has.s rfl)) Cv.fl) (ls 902008 (Low.res (lf (lg (lg (lf (lf (lf (lo Low.nil)))))))))
     ·refine CWalk.seq ?_
      refine CWalk.region ?_
      refine mv ?_
      refine Walk.inline (S := Int × (List (List UInt8)) × (List Bool) × UInt8) (fun p : Int × (List (List UInt8)) × (List Bool) × UInt8 => [.fact 10 (.isv 49), .fact 12 (.isv 61), .fact 34 (.rep [] p.1), .fact 902008 (.cst (u1 8) (Fact.isv 28)), .fact 100050 (.at 50 (.rep [] ((0 : Int) : Int))), .fact 100051 (.at 51 (.nilv)), .fact 100052 (.at 52 (.nilv)), .fact 100053 (.at 53 (.rep [] ((0 : UInt8) : UInt8))), .fact 100054 (.at 54 (.rep [] (false : Bool))), .fact 100055 (.at 55 (.rep [] ((0 : UInt32) : UInt32))), .fact 100062 (.at 62 (.rep [] x10.Stripe)), .fact 100063 (.at 63 (.ow [58, 68] [59, 70] 36 (p.2.1 : List (List UInt8)))), .fact 100064 (.at 64 (.ow [60, 69] [] 4 (p.2.2.1 : List Bool))), .fact 100065 (.at 65 (.rep [] p.2.2.2)), .fact 100066 (.at 66 (.rep [] x10.Deals)), .fact 100067 (.at 67 (.rep [] x10.Seq)), .fact 100029 (.at 29 (.rep [] ((0 : Int) : Int))), .fact 100030 (.at 30 (.nilv)), .fact 100031 (.at 31 (.nilv)), .fact 100032 (.at 32 (.rep [] ((0 : UInt8) : UInt8))), .fact 100033 (.at 33 (.rep [] (false : Bool))), .fact 100034 (.at 34 (.rep [] ((0 : UInt32) : UInt32))), .fact 100049 (.obj 49 [(false, 1), (false, 1), (false, 1), (false, 1), (false, 1), (false, 1)]), .fact 100061 (.obj 61 [(false, 1), (false, 1), (false, 1), (false, 1), (false, 1), (false, 1)]), .fact 100028 (.obj 28 [(false, 1), (false, 1), (false, 1), (false, 1), (false, 1), (false, 1)])]) (fun p : Int × (List (List UInt8)) × (List Bool) × UInt8 => head_Take_J3 x10 p.1 p.2.1 p.2.2.1 p.2.2.2 = some r) (fun u2 => [.fact 100011 (.at 11 (.rep [] a0.Id)), .fact 100012 (.at 12 (.rep [] a0.Members)), .fact 100013 (.at 13 (.rep [] a0.Chunk)), .fact 100014 (.at 14 (.rep [] a0.Rows)), .fact 100015 (.at 15 (.rep [] a0.Log)), .fact 100016 (.at 16 (.rep [] a0.Heads)), .fact 100025 (.at 25 (.rep [] (a2 : Int))), .fact 100027 (.at 27 (.rep [0] (a3 : List UInt8))), .fact 100029 (.at 29 (.rep [] ((0 : Int) : Int))), .fact 100030 (.at 30 (.nilv)), .fact 100031 (.at 31 (.nilv)), .fact 100032 (.at 32 (.rep [] ((0 : UInt8) : UInt8))), .fact 100033 (.at 33 (.rep [] (false : Bool))), .fact 100034 (.at 34 (.rep [] ((0 : UInt32) : UInt32))), .fact 100050 (.at 50 (.rep [] ((0 : Int) : Int))), .fact 100051 (.at 51 (.nilv)), .fact 100052 (.at 52 (.nilv)), .fact 100053 (.at 53 (.rep [] ((0 : UInt8) : UInt8))), .fact 100054 (.at 54 (.rep [] (false : Bool))), .fact 100055 (.at 55 (.rep [] ((0 : UInt32) : UInt32))), .fact 100062 (.at 62 (.rep [] x10.Stripe)), .fact 100063 (.at 63 (.ow [58] [59] 36 (x10.Blocks : List (List UInt8)))), .fact 100064 (.at 64 (.ow [60] [] 4 (x10.Dirty : List Bool))), .fact 100065 (.at 65 (.rep [] x10.Phase)), .fact 100066 (.at 66 (.rep [] x10.Deals)), .fact 100067 (.at 67 (.rep [] x10.Seq)), .fact 902008 (.cst (u1 8) (Fact.isv 28)), .fact 904010 (.cst (u2 10) (Fact.isv 49)), .fact 904012 (.cst (u2 12) (Fact.isv 61)), .fact 100010 (.obj 10 [(false, 1), (false, 1), (false, 1), (false, 1), (false, 1), (false, 1)]), .fact 100024 (.obj 24 [(false, 1)]), .fact 100026 (.obj 26 [(false, 1)]), .fact 100028 (.obj 28 [(false, 1), (false, 1), (false, 1), (false, 1), (false, 1), (false, 1)]), .fact 100049 (.obj 49 [(false, 1), (false, 1), (false, 1), (false, 1), (false, 1), (false, 1)]), .fact 100061 (.obj 61 [(false, 1), (false, 1), (false, 1), (false, 1), (false, 1), (false, 1)])]) (FA := [Fact.isv 61, Fact.isv 10, Fact.isv 26, Fact.isv 24]) rfl Try.func48 rfl rfl rfl (CallOk.valE en48 (Has.s rfl) (HasF.cons (Has.s rfl) HasF.nil)) (fun u2 => (ck (ck (ck (ck (ck (ck (ck (ck (ck (ck (ck (ck (ck (ck (ck (ck (ck (ck (ck (ck (ck (ck (ck (ck (ck (ck (ck (cs 904000 10 (cs 904000 12 (ck (ck (ck (ck (ck (ck Carry.nil)))))))))))))))))))))))))))))))))))) (fun u2 => ?_) ?_
      ·refine CWalk.seq ?_
       refine CWalk.region ?_
       refine wo (Spec.assign Has.int) ?_
       refine Walk.nil ?_
       refine Leaf.thenN ?_
       refine CWalk.seq ?_
       refine CWalk.seq ?_
       refine CWalk.region ?_
       refine mv ?_
       refine wo (Spec.nilCheckI (Has.s rfl) rfl) ?_
       refine wo (Spec.fieldAddrO fd28_3 (Has.cv (Has.s rfl) (Cv.isvP rfl))) ?_
       refine wo (Spec.loadF (i := 3) ty5 rfl (Has.s rfl) rfl (HasG.s rfl)) ?_
       refine wo (Spec.gtrN (α := UInt8) (Has.s rfl) (Has.u8 1 rfl)) ?_
       refine Walk.nil ?_
       refine Leaf.thenN ?_
       refine CWalk.cond rfl (fun hb => ?_) (fun hb => ?_)
       ·have hm := cond_t hb hm
        refine CWalk.seq ?_
        refine CWalk.region ?_
        refine wo (Spec.assign Has.int) ?_
        refine Walk.nil ?_
        refine Leaf.thenN ?_
        refine CWalk.ret ?_
        refine Leaf.thenR ?_
        exact Leaf.in1 ((160 : Int), x10.Blocks, x10.Dirty, x10.Phase) hm rfl rfl (HasR.cv (HasR.tmp (Has.s rfl)) Cv.fl) (ls 904010 (ls 904012 (Low.res (lc (lf (lg (lg (lf (lf (lf (lf (Low.keepG (HasG.cv (HasG.s rfl) (Cv.owM (T := [58]) (te := [59]) rfl rfl)) (Low.keepG (HasG.cv (HasG.s rfl) (Cv.owF (T := [60]) (te := []) rfl)) (lf (lf (lf (lf (lg (lg (lf (lf (lf (lo (lo (lo Low.nil)))))))))))))))))))))))))
       ·have hm := cond_f hb hm
        refine CWalk.skip ?_
        refine Leaf.thenN ?_
        refine CWalk.seq ?_
        refine CWalk.region ?_
        refine mv ?_
        refine wo (Spec.nilCheckI (Has.s rfl) rfl) ?_
        refine wo (Spec.fieldAddrO fd28_3 (Has.cv (Has.s rfl) (Cv.isvP rfl))) ?_
        refine ws (Step.storeF (i := 3) (f := Fact.rep [] ((0 : UInt8) : UInt8)) rfl ty5 rfl (Has.s rfl) rfl (Has.u8 0 rfl) (Has.u8 0 rfl) rfl) ?_
        refine Walk.nil ?_
        refine Leaf.thenN ?_
        refine CWalk.seq ?_
        refine CWalk.ad (Ad.owF (i := 63) 68 rfl rfl rfl (ElT.tags rfl) rfl (Cv.owM (T := [58]) (te := [59]) (T' := [58]) (te' := [59]) rfl rfl)) ?_
        obtain ⟨x22, hx22, hm⟩ := bind_some hm
        refine CWalk.drawM [[], [0], [0, 1], [0, 1, 2], [], [4], [4, 5], [0, 1, 2, 3, 4, 5, 6], [0, 1, 2, 3, 4, 5, 6, 7]] [[.fact 14 (.isv 61)], [.fact 15 (.isv 61)], [.fact 16 (.pto 61 1)], [.fact 17 (.isv 68)], [.fact 18 (.pto 10 1)], [.fact 19 (.rep [] a0.Members)], [.fact 20 (.rep [] ((wI (a0.Members - (1 : Int))) : Int))], [.fact 21 (.pto 68 (x22 * Rp.n (List UInt8)))], [.fact 100068 (.own 68 [59] 36 ((x10.Blocks).set x22 ([] : List UInt8) : List (List UInt8))), .kill 68]] mixed (by kernel_rfl) (ao (so (Spec.move (Has.s rfl))) (ao (so (Spec.nilCheckI (Has.s rfl) rfl)) (ao (so (Spec.fieldAddrO fd28_1 (Has.cv (Has.s rfl) (Cv.isvP rfl)))) (ao (so (Spec.loadF (i := 1) ty25 rfl (Has.s rfl) rfl (HasG.s rfl))) (ao (so (Spec.fieldAddrO fd24_1 (Has.cv (Has.s rfl) (Cv.isvP rfl)))) (ao (so (Spec.loadF (i := 1) ty3 rfl (Has.s rfl) rfl (HasG.s rfl))) (ao (so (Spec.subI (Has.s rfl) Has.int)) (ao (so (Spec.idxOwn hx22 ow25 (Has.s rfl) rfl (Has.s rfl))) (ao (StepG.stE (Step.storeOwn (te' := [59]) rfl (bnd_lt hx22 rfl) ty36 (Has.s rfl) rfl (Has.nil UInt8) (ElKeep.tags rfl rfl) (ElKeep.tags rfl rfl))) AllM.nil))))))))) ?_
        refine Leaf.thenN ?_
        refine CWalk.seq ?_
        refine CWalk.ad (Ad.owF (i := 64) 69 rfl rfl rfl ElT.flat rfl (Cv.owF (T := [60]) (te := []) (T' := [60]) (te' := []) rfl)) ?_
        obtain ⟨x23, hx23, hm⟩ := bind_some hm
        obtain ⟨x24, hx24, hm⟩ := bind_some hm
        obtain ⟨x25, hx25, hm⟩ := bind_some hm
        refine CWalk.drawM [[], [0], [0, 1], [0, 1, 2], [], [], [5], [5, 6], [5, 6, 7], [], [], [10], [0, 1, 2, 3, 4, 5, 6, 7, 8, 10, 11], [0, 1, 2, 3, 4, 5, 6, 7, 8, 10, 11, 12], [0, 1, 2, 3, 4, 5, 6, 7, 8, 9, 10, 11, 12, 13], [0, 1, 2, 3, 4, 5, 6, 7, 8, 9, 10, 11, 12, 13, 14]] [[.fact 22 (.isv 61)], [.fact 23 (.isv 61)], [.fact 24 (.pto 61 1)], [.fact 25 (.isv 68)], [.fact 26 (.rep [] (a2 : Int))], [.fact 27 (.isv 61)], [.fact 28 (.isv 61)], [.fact 29 (.pto 61 2)], [.fact 30 (.isv 69)], [.fact 31 (.rep [] (a2 : Int))], [.fact 32 (.rep [0] (a3 : List UInt8))], [.fact 33 (.ow [70] [] 5 (x23 : List UInt8))], [.fact 34 (.pto 68 (x24 * Rp.n (List UInt8)))], [.fact 100068 (.own 68 [59, 70] 36 (((x10.Blocks).set x22 ([] : List UInt8)).set x24 x23 : List (List UInt8))), .kill 68], [.fact 35 (.pto 69 (x25 * Rp.n Bool))], [.fact 100069 (.own 69 [] 4 ((x10.Dirty).set x25 true : List Bool)), .kill 69]] mixed (by kernel_rfl) (ao (so (Spec.move (Has.s rfl))) (ao (so (Spec.nilCheckI (Has.s rfl) rfl)) (ao (so (Spec.fieldAddrO fd28_1 (Has.cv (Has.s rfl) (Cv.isvP rfl)))) (ao (so (Spec.loadF (i := 1) ty25 rfl (Has.s rfl) rfl (HasG.s rfl))) (ao (so (Spec.loadF (i := 0) ty3 rfl (Has.cv (Has.s rfl) (Cv.isvP rfl)) rfl (HasG.s rfl))) (ao (so (Spec.move (Has.s rfl))) (ao (so (Spec.nilCheckI (Has.s rfl) rfl)) (ao (so (Spec.fieldAddrO fd28_2 (Has.cv (Has.s rfl) (Cv.isvP rfl)))) (ao (so (Spec.loadF (i := 2) ty26 rfl (Has.s rfl) rfl (HasG.s rfl))) (ao (so (Spec.loadF (i := 0) ty3 rfl (Has.cv (Has.s rfl) (Cv.isvP rfl)) rfl (HasG.s rfl))) (ao (so (Spec.loadF (i := 0) ty36 rfl (Has.cv (Has.s rfl) (Cv.isvP rfl)) rfl (HasG.s rfl))) (ao (so (Spec.callE [0] 70 rfl en49 (head_block_c a3 hx23) (HasAll.cons (Has.m (Has.s rfl) rfl) HasAll.nil))) (ao (so (Spec.idxOwn hx24 ow25 (Has.s rfl) rfl (Has.s rfl))) (ao (StepG.stE (Step.storeOwn (te' := [59, 70]) rfl (bnd_lt hx24 rfl) ty36 (Has.s rfl) rfl (Has.cv (Has.s rfl) (Cv.trans Cv.owSl (Cv.slRep (T' := [70]) rfl rfl))) (ElKeep.tags rfl rfl) (ElKeep.tags rfl rfl))) (ao (so (Spec.idxOwn hx25 ow26 (Has.s rfl) rfl (Has.s rfl))) (ao (StepG.stE (Step.storeOwn (te' := []) rfl (bnd_lt hx25 rfl) ty4 (Has.s rfl) rfl Has.bool ElKeep.flat ElKeep.flat)) AllM.nil)))))))))))))))) ?_
        refine Leaf.thenN ?_
        refine CWalk.seq ?_
        refine CWalk.region ?_
        refine wo (Spec.assign Has.int) ?_
        refine Walk.nil ?_
        refine Leaf.thenN ?_
        refine CWalk.ret ?_
        exact Leaf.in1 ((0 : Int), ((x10.Blocks).set x22 ([] : List UInt8)).set x24 x23, (x10.Dirty).set x25 true, (0 : UInt8)) hm rfl rfl (HasR.cv (HasR.tmp (Has.s rfl)) Cv.fl) (ls 904010 (ls 904012 (Low.res (lc (lf (lg (lg (lf (lf (lf (lf (Low.keepG (HasG.cv (HasG.s rfl) (Cv.trans (Cv.isvOw rfl) (Cv.owM (T := [68]) (te := [59, 70]) rfl rfl))) (Low.keepG (HasG.cv (HasG.s rfl) (Cv.trans (Cv.isvOw rfl) (Cv.owF (T := [69]) (te := []) rfl))) (lf (lf (lf (lf (lg (lg (lf (lf (lf (lo (lo (lo Low.nil)))))))))))))))))))))))))
      ·rintro ⟨j18, j19, j20, j21⟩ hm
       replace hm : head_Take_J3 x10 j18 j19 j20 j21 = some r := hm
       unfold head_Take_J3 at hm
       show Walk _ _ _ [.fact 10 (.isv 49), .fact 12 (.isv 61), .fact 34 (.rep [] (j18 : Int)), .fact 902008 (.cst (u1 8) (Fact.isv 28)), .fact 100050 (.at 50 (.rep [] ((0 : Int) : Int))), .fact 100051 (.at 51 (.nilv)), .fact 100052 (.at 52 (.nilv)), .fact 100053 (.at 53 (.rep [] ((0 : UInt8) : UInt8))), .fact 100054 (.at 54 (.rep [] (false : Bool))), .fact 100055 (.at 55 (.rep [] ((0 : UInt32) : UInt32))), .fact 100062 (.at 62 (.rep [] x10.Stripe)), .fact 100063 (.at 63 (.ow [58, 68] [59, 70] 36 (j19 : List (List UInt8)))), .fact 100064 (.at 64 (.ow [60, 69] [] 4 (j20 : List Bool))), .fact 100065 (.at 65 (.rep [] (j21 : UInt8))), .fact 100066 (.at 66 (.rep [] x10.Deals)), .fact 100067 (.at 67 (.rep [] x10.Seq)), .fact 100029 (.at 29 (.rep [] ((0 : Int) : Int))), .fact 100030 (.at 30 (.nilv)), .fact 100031 (.at 31 (.nilv)), .fact 100032 (.at 32 (.rep [] ((0 : UInt8) : UInt8))), .fact 100033 (.at 33 (.rep [] (false : Bool))), .fact 100034 (.at 34 (.rep [] ((0 : UInt32) : UInt32))), .fact 100049 (.obj 49 [(false, 1), (false, 1), (false, 1), (false, 1), (false, 1), (false, 1)]), .fact 100061 (.obj 61 [(false, 1), (false, 1), (false, 1), (false, 1), (false, 1), (false, 1)]), .fact 100028 (.obj 28 [(false, 1), (false, 1), (false, 1), (false, 1), (false, 1), (false, 1)])] _
       refine wo (Spec.assign (Has.s rfl)) ?_
       refine Walk.nil ?_
       refine Leaf.thenN ?_
       refine CWalk.seq ?_
       refine CWalk.region ?_
       refine mv ?_
       refine wo (Spec.eqlI (Has.s rfl) Has.int) ?_
       refine Walk.nil ?_
       refine Leaf.thenN ?_
       refine CWalk.cond rfl (fun hb => ?_) (fun hb => ?_)
       ·have hm := cond_t hb hm
        refine CWalk.region ?_
        refine wo (Spec.loadObj (ls := [(false, 1, Fact.rep [] x10.Stripe), (false, 1, Fact.ow [58, 68] [59, 70] 36 (j19 : List (List UInt8))), (false, 1, Fact.ow [60, 69] [] 4 (j20 : List Bool)), (false, 1, Fact.rep [] (j21 : UInt8)), (false, 1, Fact.rep [] x10.Deals), (false, 1, Fact.rep [] x10.Seq)]) ty28 rfl rfl (Has.s rfl) rfl (HasGs.cons (HasG.s rfl) (HasGs.cons (HasG.s rfl) (HasGs.cons (HasG.s rfl) (HasGs.cons (HasG.s rfl) (HasGs.cons (HasG.s rfl) (HasGs.cons (HasG.s rfl) HasGs.nil))))))) ?_
        refine ws (Step.storeObj (ls := [(false, 1, Fact.rep [] x10.Stripe), (false, 1, Fact.ow [58, 68] [59, 70] 36 (j19 : List (List UInt8))), (false, 1, Fact.ow [60, 69] [] 4 (j20 : List Bool)), (false, 1, Fact.rep [] (j21 : UInt8)), (false, 1, Fact.rep [] x10.Deals), (false, 1, Fact.rep [] x10.Seq)]) rfl ty28 rfl rfl (Has.s rfl) rfl (HasL.flds (Has.s rfl)) rfl) ?_
        refine Walk.nil ?_
        exact Leaf.join (j18, x10.Stripe, j19, j20, j21, x10.Deals, x10.Seq) hm (sn (st (sc (sf (Sub.cons (Has.at (HasG.cv (HasG.s rfl) (Cv.owM (T := [58, 68]) (te := [59, 70]) rfl rfl))) (Sub.cons (Has.at (HasG.cv (HasG.s rfl) (Cv.owF (T := [60, 69]) (te := []) rfl))) (sf (sf (sf (sf (sg (sg (sf (sf (sf (sn (sn Sub.nil)))))))))))))))))
       ·have hm := cond_f hb hm
        refine CWalk.skip ?_
        exact Leaf.join (j18, (0 : Int), ([] : List (List UInt8)), ([] : List Bool), (0 : UInt8), false, (0 : UInt32)) hm (sn (st (sc (sf (Sub.cons (Has.at (HasG.cv (HasG.s rfl) (Cv.trans Cv.nilOw (Cv.owM (T := []) (te := []) rfl rfl)))) (Sub.cons (Has.at (HasG.cv (HasG.s rfl) (Cv.trans Cv.nilOw (Cv.owF (T := []) (te := []) rfl)))) (sf (sf (sf (sf (sg (sg (sf (sf (sf (sn (sn Sub.nil)))))))))))))))))
 ·rintro ⟨j1, j2, j3, j4, j5, j6, j7⟩ hm
  replace hm : head_Take_J1 j1 j2 j3 j4 j5 j6 j7 = some r := hm
  unfold head_Take_J1 at hm
  show Walk _ _ _ [.fact 8 (.isv 28), .fact 15 (.tup2 (Fact.flds [(false, 1, Fact.rep [] (j1 : Int)), (false, 1, Fact.ow [58, 68] [59, 70] 36 (j2 : List (List UInt8))), (false, 1, Fact.ow [60, 69] [] 4 (j3 : List Bool)), (false, 1, Fact.rep [] (j4 : UInt8)), (false, 1, Fact.rep [] (j5 : Bool)), (false, 1, Fact.rep [] (j6 : UInt32))]) (Fact.rep [] (j7 : Int))), .fact 100029 (.at 29 (.rep [] ((0 : Int) : Int))), .fact 100030 (.at 30 (.nilv)), .fact 100031 (.at 31 (.nilv)), .fact 100032 (.at 32 (.rep [] ((0 : UInt8) : UInt8))), .fact 100033 (.at 33 (.rep [] (false : Bool))), .fact 100034 (.at 34 (.rep [] ((0 : UInt32) : UInt32))), .fact 100028 (.obj 28 [(false, 1), (false, 1), (false, 1), (false, 1), (false, 1), (false, 1)])] _
  refine wo (Spec.ext0 (Has.s rfl)) ?_
  refine wo (Spec.ext1 (Has.s rfl)) ?_
  refine ws (Step.storeObj (ls := [(false, 1, Fact.rep [] (j1 : Int)), (false, 1, Fact.ow [58, 68] [59, 70] 36 (j2 : List (List UInt8))), (false, 1, Fact.ow [60, 69] [] 4 (j3 : List Bool)), (false, 1, Fact.rep [] (j4 : UInt8)), (false, 1, Fact.rep [] (j5 : Bool)), (false, 1, Fact.rep [] (j6 : UInt32))]) rfl ty28 rfl rfl (Has.s rfl) rfl (HasL.flds (Has.s rfl)) rfl) ?_
  refine wo (Spec.assign (Has.s rfl)) ?_
  refine Walk.nil ?_
  refine Leaf.thenN ?_
  refine CWalk.ret ?_
  obtain rfl := Option.some.inj hm
  exact Leaf.retC2 rfl (HasR.cv (HasR.obj (ls := [(false, 1, Fact.rep [] (j1 : Int)), (false, 1, Fact.ow [58, 68] [59, 70] 36 (j2 : List (List UInt8))), (false, 1, Fact.ow [60, 69] [] 4 (j3 : List Bool)), (false, 1, Fact.rep [] (j4 : UInt8)), (false, 1, Fact.rep [] (j5 : Bool)), (false, 1, Fact.rep [] (j6 : UInt32))]) ty28 rfl rfl (Has.s rfl) rfl (HasGs.cons (HasG.s rfl) (HasGs.cons (HasG.s rfl) (HasGs.cons (HasG.s rfl) (HasGs.cons (HasG.s rfl) (HasGs.cons (HasG.s rfl) (HasGs.cons (HasG.s rfl) HasGs.nil))))))) (Cv.flds (CvL.cons Cv.fl (CvL.cons (Cv.owM (T := [58, 68]) (te := [59, 70]) rfl rfl) (CvL.cons (Cv.owF (T := [60, 69]) (te := []) rfl) (CvL.cons Cv.fl (CvL.cons Cv.fl (CvL.cons Cv.fl CvL.nil)))))))) (HasR.cv (HasR.tmp (Has.s rfl)) Cv.fl)

/-- freeboard/freeboardlaw18.one -/
def law18_one : Option (Head) :=
  Option.bind (law18_three) (fun x1 => Option.bind (head_New x1 (0 : Int)) (fun x2 => Option.bind (law18_three) (fun x3 => Option.bind (law18_full (5 : UInt8)) (fun x4 => Option.bind (head_Take x3 x2.1 (0 : Int) x4) (fun x5 => some x5.1)))))
set_option maxRecDepth 100000 in
set_option maxHeartbeats 2000000 in
theorem law18_one_c {r : Head} (hm : law18_one = some r) : Ctr Try.prog 16 [] (.flds [(false, 1, (.fl r.Stripe)), (false, 1, (.own 0 (some 1) 36 r.Blocks)), (false, 1, (.own 2 none 4 r.Dirty)), (false, 1, (.fl r.Phase)), (false, 1, (.fl r.Deals)), (false, 1, (.fl r.Seq))]) [] := by
 refine ctr_of_walk [[29], [30], [31]] 18 Try.func16 rfl rfl rfl rfl (fun w0 om => ?_)
 unfold law18_one at hm
 refine CWalk.sub (G' := []) (Sub.nil) ?_
 refine CWalk.seq ?_
 refine CWalk.region ?_
 refine ws (Step.allocObj (ls := [(false, 1, Fact.rep [] ((0 : Int) : Int)), (false, 1, Fact.nilv), (false, 1, Fact.nilv), (false, 1, Fact.rep [] ((0 : UInt8) : UInt8)), (false, 1, Fact.rep [] (false : Bool)), (false, 1, Fact.rep [] ((0 : UInt32) : UInt32))]) 10 rfl rfl rfl rfl zl28) ?_
 refine Walk.nil ?_
 refine Leaf.thenN ?_
 refine CWalk.seq ?_
 refine CWalk.region ?_
 obtain ⟨x1, hx1, hm⟩ := bind_some hm
 refine wo (f := Fact.rep [] (x1 : Config)) (Spec.callE [] 17 rfl en15 (law18_three_c  hx1) HasAll.nil) ?_
 obtain ⟨x2, hx2, hm⟩ := bind_some hm
 refine wo (f := Fact.tup2 (Fact.flds [(false, 1, Fact.rep [] x2.1.Stripe), (false, 1, Fact.ow [18] [] 36 (x2.1.Blocks : List (List UInt8))), (false, 1, Fact.ow [19] [] 4 (x2.1.Dirty : List Bool)), (false, 1, Fact.rep [] x2.1.Phase), (false, 1, Fact.rep [] x2.1.Deals), (false, 1, Fact.rep [] x2.1.Seq)]) (Fact.rep [] x2.2)) (Spec.callE [] 18 rfl en17 (head_New_c x1 (0 : Int) hx2) (HasAll.cons (Has.fl (Has.s rfl)) (HasAll.cons (Has.fl Has.int) HasAll.nil))) ?_
 refine mv ?_
 refine wo (Spec.ext0 (Has.s rfl)) ?_
 refine wo (Spec.ext1 (Has.s rfl)) ?_
 refine ws (Step.allocObj (ls := [(false, 1, Fact.rep [] ((0 : Int) : Int)), (false, 1, Fact.nilv), (false, 1, Fact.nilv), (false, 1, Fact.rep [] ((0 : UInt8) : UInt8)), (false, 1, Fact.rep [] (false : Bool)), (false, 1, Fact.rep [] ((0 : UInt32) : UInt32))]) 20 rfl rfl rfl rfl zl28) ?_
 refine ws (Step.storeObj (ls := [(false, 1, Fact.rep [] x2.1.Stripe), (false, 1, Fact.ow [18] [] 36 (x2.1.Blocks : List (List UInt8))), (false, 1, Fact.ow [19] [] 4 (x2.1.Dirty : List Bool)), (false, 1, Fact.rep [] x2.1.Phase), (false, 1, Fact.rep [] x2.1.Deals), (false, 1, Fact.rep [] x2.1.Seq)]) rfl ty28 rfl rfl (Has.s rfl) rfl (HasL.flds (Has.s rfl)) rfl) ?_
 refine wo (Spec.assign (Has.s rfl)) ?_
 refine Walk.nil ?_
 refine Leaf.thenN ?_
 refine CWalk.seq ?_
 obtain ⟨x3, hx3, hm⟩ := bind_some hm
 obtain ⟨x4, hx4, hm⟩ := bind_some hm
 obtain ⟨x5, hx5, hm⟩ := bind_some hm
 refine CWalk.drawM [[], [], [0], [0, 1, 2], [0, 1, 2, 3], [0, 1, 2, 3, 4], [0, 1, 2, 3, 4], [], [0, 1, 2, 3, 4, 5, 7], [0, 1, 2, 3, 4, 5, 6, 7, 8]] [[.fact 11 (.rep [] (x3 : Config))], [.fact 12 (.flds [(false, 1, Fact.rep [] x2.1.Stripe), (false, 1, Fact.ow [18] [] 36 (x2.1.Blocks : List (List UInt8))), (false, 1, Fact.ow [19] [] 4 (x2.1.Dirty : List Bool)), (false, 1, Fact.rep [] x2.1.Phase), (false, 1, Fact.rep [] x2.1.Deals), (false, 1, Fact.rep [] x2.1.Seq)])], [.fact 13 (.ow [28] [] 5 (x4 : List UInt8))], [.fact 14 (.tup2 (Fact.flds [(false, 1, Fact.rep [] x5.1.Stripe), (false, 1, Fact.ow [29] [30] 36 (x5.1.Blocks : List (List UInt8))), (false, 1, Fact.ow [31] [] 4 (x5.1.Dirty : List Bool)), (false, 1, Fact.rep [] x5.1.Phase), (false, 1, Fact.rep [] x5.1.Deals), (false, 1, Fact.rep [] x5.1.Seq)]) (Fact.rep [] x5.2))], [.fact 10 (.tup2 (Fact.flds [(false, 1, Fact.rep [] x5.1.Stripe), (false, 1, Fact.ow [29] [30] 36 (x5.1.Blocks : List (List UInt8))), (false, 1, Fact.ow [31] [] 4 (x5.1.Dirty : List Bool)), (false, 1, Fact.rep [] x5.1.Phase), (false, 1, Fact.rep [] x5.1.Deals), (false, 1, Fact.rep [] x5.1.Seq)]) (Fact.rep [] x5.2))], [.fact 15 (.flds [(false, 1, Fact.rep [] x5.1.Stripe), (false, 1, Fact.ow [29] [30] 36 (x5.1.Blocks : List (List UInt8))), (false, 1, Fact.ow [31] [] 4 (x5.1.Dirty : List Bool)), (false, 1, Fact.rep [] x5.1.Phase), (false, 1, Fact.rep [] x5.1.Deals), (false, 1, Fact.rep [] x5.1.Seq)])], [.fact 16 (.rep [] x5.2)], [.fact 3 (.isv 32), .fact 100032 (.obj 32 [(false, 1), (false, 1), (false, 1), (false, 1), (false, 1), (false, 1)]), .fact 100033 (.at 33 (.rep [] ((0 : Int) : Int))), .fact 100034 (.at 34 (.nilv)), .fact 100035 (.at 35 (.nilv)), .fact 100036 (.at 36 (.rep [] ((0 : UInt8) : UInt8))), .fact 100037 (.at 37 (.rep [] (false : Bool))), .fact 100038 (.at 38 (.rep [] ((0 : UInt32) : UInt32))), .killId 32, .killId 33, .killId 34, .killId 35, .killId 36, .killId 37, .killId 38], [.fact 100032 (.obj 32 [(false, 1), (false, 1), (false, 1), (false, 1), (false, 1), (false, 1)]), .fact 100033 (.at 33 (.rep [] x5.1.Stripe)), .fact 100034 (.at 34 (.ow [29] [30] 36 (x5.1.Blocks : List (List UInt8)))), .fact 100035 (.at 35 (.ow [31] [] 4 (x5.1.Dirty : List Bool))), .fact 100036 (.at 36 (.rep [] x5.1.Phase)), .fact 100037 (.at 37 (.rep [] x5.1.Deals)), .fact 100038 (.at 38 (.rep [] x5.1.Seq)), .kill 32, .killId 33, .killId 34, .killId 35, .killId 36, .killId 37, .killId 38], [.fact 4 (.rep [] x5.2)]] mixed (by kernel_rfl) (ao (so (Spec.callE [] 27 rfl en15 (law18_three_c  hx3) HasAll.nil)) (ao (so (Spec.loadObj (ls := [(false, 1, Fact.rep [] x2.1.Stripe), (false, 1, Fact.ow [18] [] 36 (x2.1.Blocks : List (List UInt8))), (false, 1, Fact.ow [19] [] 4 (x2.1.Dirty : List Bool)), (false, 1, Fact.rep [] x2.1.Phase), (false, 1, Fact.rep [] x2.1.Deals), (false, 1, Fact.rep [] x2.1.Seq)]) ty28 rfl rfl (Has.s rfl) rfl (HasGs.cons (HasG.s rfl) (HasGs.cons (HasG.s rfl) (HasGs.cons (HasG.s rfl) (HasGs.cons (HasG.s rfl) (HasGs.cons (HasG.s rfl) (HasGs.cons (HasG.s rfl) HasGs.nil)))))))) (ao (so (Spec.callE [] 28 rfl en26 (law18_full_c (5 : UInt8) hx4) (HasAll.cons (Has.fl (Has.u8 5 rfl)) HasAll.nil))) (ao (so (Spec.callE [18, 19, 28] 29 rfl en22 (head_Take_c x3 x2.1 (0 : Int) x4 hx5) (HasAll.cons (Has.fl (Has.s rfl)) (HasAll.cons (Has.m (Has.cv (Has.s rfl) (Cv.trans (Cv.flds (CvL.cons Cv.fl (CvL.cons (Cv.trans (Cv.trans Cv.owSl (Cv.slRep (T' := [18]) rfl rfl)) (Cv.m rfl)) (CvL.cons (Cv.trans (Cv.trans Cv.owSl (Cv.slRep (T' := [19]) rfl rfl)) (Cv.m rfl)) (CvL.cons Cv.fl (CvL.cons Cv.fl (CvL.cons Cv.fl CvL.nil))))))) (Cv.close (T := [18, 19]) (chHead x2.1)))) rfl) (HasAll.cons (Has.fl Has.int) (HasAll.cons (Has.m (Has.cv (Has.s rfl) (Cv.trans Cv.owSl (Cv.slRep (T' := [28]) rfl rfl))) rfl) HasAll.nil)))))) (ao (so (Spec.move (Has.s rfl))) (ao (so (Spec.ext0 (Has.s rfl))) (ao (so (Spec.ext1 (Has.s rfl))) (ao (StepG.stE (Step.allocObj (ls := [(false, 1, Fact.rep [] ((0 : Int) : Int)), (false, 1, Fact.nilv), (false, 1, Fact.nilv), (false, 1, Fact.rep [] ((0 : UInt8) : UInt8)), (false, 1, Fact.rep [] (false : Bool)), (false, 1, Fact.rep [] ((0 : UInt32) : UInt32))]) 32 rfl rfl rfl rfl zl28)) (ao (StepG.stE (Step.storeObj (ls := [(false, 1, Fact.rep [] x5.1.Stripe), (false, 1, Fact.ow [29] [30] 36 (x5.1.Blocks : List (List UInt8))), (false, 1, Fact.ow [31] [] 4 (x5.1.Dirty : List Bool)), (false, 1, Fact.rep [] x5.1.Phase), (false, 1, Fact.rep [] x5.1.Deals), (false, 1, Fact.rep [] x5.1.Seq)]) rfl ty28 rfl rfl (Has.s rfl) rfl (HasL.flds (Has.s rfl)) rfl)) (ao (so (Spec.assign (Has.s rfl))) AllM.nil)))))))))) ?_
 refine Leaf.thenN ?_
 refine CWalk.seq ?_
 refine CWalk.region ?_
 refine wo (Spec.loadObj (ls := [(false, 1, Fact.rep [] x5.1.Stripe), (false, 1, Fact.ow [29] [30] 36 (x5.1.Blocks : List (List UInt8))), (false, 1, Fact.ow [31] [] 4 (x5.1.Dirty : List Bool)), (false, 1, Fact.rep [] x5.1.Phase), (false, 1, Fact.rep [] x5.1.Deals), (false, 1, Fact.rep [] x5.1.Seq)]) ty28 rfl rfl (Has.s rfl) rfl (HasGs.cons (HasG.s rfl) (HasGs.cons (HasG.s rfl) (HasGs.cons (HasG.s rfl) (HasGs.cons (HasG.s rfl) (HasGs.cons (HasG.s rfl) (HasGs.cons (HasG.s rfl) HasGs.nil))))))) ?_
 refine ws (Step.storeObj (ls := [(false, 1, Fact.rep [] x5.1.Stripe), (false, 1, Fact.ow [29] [30] 36 (x5.1.Blocks : List (List UInt8))), (false, 1, Fact.ow [31] [] 4 (x5.1.Dirty : List Bool)), (false, 1, Fact.rep [] x5.1.Phase), (false, 1, Fact.rep [] x5.1.Deals), (false, 1, Fact.rep [] x5.1.Seq)]) rfl ty28 rfl rfl (Has.s rfl) rfl (HasL.flds (Has.s rfl)) rfl) ?_
 refine Walk.nil ?_
 refine Leaf.thenN ?_
 refine CWalk.ret ?_
 obtain rfl := Option.some.inj hm
 exact Leaf.retC1 rfl (HasR.cv (HasR.obj (ls := [(false, 1, Fact.rep [] x5.1.Stripe), (false, 1, Fact.ow [29] [30] 36 (x5.1.Blocks : List (List UInt8))), (false, 1, Fact.ow [31] [] 4 (x5.1.Dirty : List Bool)), (false, 1, Fact.rep [] x5.1.Phase), (false, 1, Fact.rep [] x5.1.Deals), (false, 1, Fact.rep [] x5.1.Seq)]) ty28 rfl rfl (Has.s rfl) rfl (HasGs.cons (HasG.s rfl) (HasGs.cons (HasG.s rfl) (HasGs.cons (HasG.s rfl) (HasGs.cons (HasG.s rfl) (HasGs.cons (HasG.s rfl) (HasGs.cons (HasG.s rfl) HasGs.nil))))))) (Cv.flds (CvL.cons Cv.fl (CvL.cons (Cv.owM (T := [29]) (te := [30]) rfl rfl) (CvL.cons (Cv.owF (T := [31]) (te := []) rfl) (CvL.cons Cv.fl (CvL.cons Cv.fl (CvL.cons Cv.fl CvL.nil))))))))

def slices_Index_bool_bool_L1 (a0 : List Bool) (a1 : Bool) (s1 : Int) : Option (Ctl (Int) ((Unit) ⊕ (Int))) :=
  (bif (decide (s1 < ((a0).length : Int))) then Option.bind (idx a0 s1) (fun x3 => (bif (a1 == x3) then some (Ctl.brk (Sum.inr s1)) else some (Ctl.next (wI (s1 + (1 : Int)))))) else some (Ctl.brk (Sum.inl ())))
/-- slices.Index[[]bool,bool] -/
def slices_Index_bool_bool (a0 : List Bool) (a1 : Bool) : Option (Int) :=
  Option.bind (loopM (fun s : Int => slices_Index_bool_bool_L1 a0 a1 s) FUEL (0 : Int)) (fun b4 => Sum.elim (fun b5 => some (-1 : Int)) (fun b6 => some b6) b4)
set_option maxRecDepth 100000 in
set_option maxHeartbeats 2000000 in
theorem slices_Index_bool_bool_c (a0 : List Bool) (a1 : Bool) {r : Int} (hm : slices_Index_bool_bool a0 a1 = some r) : Ctr Try.prog 52 [.rep 0 a0, .rep 0 a1] (.fl r) [] := by
 refine ctr_of_walk [[]] 19 Try.func52 rfl rfl rfl rfl (fun w0 om => ?_)
 unfold slices_Index_bool_bool at hm
 refine CWalk.sub (G' := [.fact 0 (.rep [0] (a0 : List Bool)), .fact 1 (.rep [] (a1 : Bool))]) (sn (Sub.cons (Has.fl (Has.s rfl)) Sub.nil)) ?_
 refine CWalk.seq ?_
 refine CWalk.region ?_
 refine wo (Spec.assign Has.int) ?_
 refine Walk.nil ?_
 refine Leaf.thenN ?_
 refine CWalk.seq ?_
 refine CWalk.seq ?_
 refine CWalk.region ?_
 refine mv ?_
 refine wo (Spec.len (Has.s rfl) Try.underlying26) ?_
 refine wo (Spec.move Has.int) ?_
 refine Walk.nil ?_
 refine Leaf.thenN ?_
 refine CWalk.block ?_
 obtain ⟨b4, hb4, hm⟩ := bind_some hm
 refine CWalk.loop (fun s : Int => [.fact 0 (.rep [0] (a0 : List Bool)), .fact 1 (.rep [] (a1 : Bool)), .fact 7 (.rep [] (((a0).length : Int) : Int)), .fact 8 (.rep [] (s : Int))]) (fun b : (Unit) ⊕ (Int) => Sum.elim (fun b => (Exit.exit 0, [])) (fun b => (Exit.ret, [.fact 4 (.rep [] (b : Int))])) b) hb4 (su (st (st (st Sub.nil)))) ?_ ?_
 ·rintro s1 c2 hm
  replace hm : slices_Index_bool_bool_L1 a0 a1 s1 = some c2 := hm
  unfold slices_Index_bool_bool_L1 at hm
  show CWalk _ [.fact 0 (.rep [0] (a0 : List Bool)), .fact 1 (.rep [] (a1 : Bool)), .fact 7 (.rep [] (((a0).length : Int) : Int)), .fact 8 (.rep [] (s1 : Int))] _ _
  refine CWalk.seq ?_
  refine CWalk.region ?_
  refine wo (Spec.lssI (Has.s rfl) (Has.s rfl)) ?_
  refine Walk.nil ?_
  refine Leaf.thenN ?_
  refine CWalk.seq ?_
  refine CWalk.cond rfl (fun hb => ?_) (fun hb => ?_)
  ·have hm := cond_t hb hm
   refine CWalk.skip ?_
   refine Leaf.thenN ?_
   refine CWalk.seq ?_
   refine CWalk.block ?_
   refine CWalk.seq ?_
   refine CWalk.region ?_
   refine mv ?_
   refine wo (Spec.assign (Has.s rfl)) ?_
   refine Walk.nil ?_
   refine Leaf.thenN ?_
   refine CWalk.seq ?_
   refine CWalk.region ?_
   refine mv ?_
   refine mv ?_
   refine mv ?_
   obtain ⟨x3, hx3, hm⟩ := bind_some hm
   refine wo (Spec.indexAddr hx3 sl26 (Has.s rfl) (Has.s rfl)) ?_
   refine wo ((Spec.load ty4 (Has.s rfl)).flat (T' := [])) ?_
   refine wo (Spec.eqlT (Has.s rfl) (Has.s rfl) Try.underlying4) ?_
   refine Walk.nil ?_
   refine Leaf.thenN ?_
   refine CWalk.cond rfl (fun hb => ?_) (fun hb => ?_)
   ·have hm := cond_t hb hm
    refine CWalk.seq ?_
    refine CWalk.region ?_
    refine mv ?_
    refine wo (Spec.assign (Has.s rfl)) ?_
    refine Walk.nil ?_
    refine Leaf.thenN ?_
    refine CWalk.ret ?_
    refine Leaf.blockR ?_
    refine Leaf.thenR ?_
    exact Leaf.brk hm (fun h => nomatch h) rfl (st Sub.nil)
   ·have hm := cond_f hb hm
    refine CWalk.skip ?_
    refine Leaf.blockN ?_
    refine Leaf.thenN ?_
    refine CWalk.region ?_
    refine wo (Spec.addI (Has.s rfl) Has.int) ?_
    refine mv ?_
    refine Walk.nil ?_
    exact Leaf.next hm (su (st (st (st Sub.nil))))
  ·have hm := cond_f hb hm
   refine CWalk.exit ?_
   refine Leaf.thenE ?_
   exact Leaf.brk hm (fun h => nomatch h) rfl (Sub.nil)
 ·intro _
  rcases b4 with b5 | b6
  ·have hm := selim_l hm
   refine Leaf.blockE ?_
   refine Leaf.thenN ?_
   refine CWalk.seq ?_
   refine CWalk.region ?_
   refine wo (Spec.assign Has.int) ?_
   refine Walk.nil ?_
   refine Leaf.thenN ?_
   refine CWalk.ret ?_
   obtain rfl := Option.some.inj hm
   exact Leaf.retC1 rfl (HasR.cv (HasR.tmp (Has.s rfl)) Cv.fl)
  ·have hm := selim_r hm
   refine Leaf.blockR ?_
   refine Leaf.thenR ?_
   obtain rfl := Option.some.inj hm
   exact Leaf.retC1 rfl (HasR.cv (HasR.tmp (Has.s rfl)) Cv.fl)

/-- slices.Contains[[]bool,bool] -/
def slices_Contains_bool_bool (a0 : List Bool) (a1 : Bool) : Option (Bool) :=
  Option.bind (slices_Index_bool_bool a0 a1) (fun x1 => some (decide (x1 ≥ (0 : Int))))
set_option maxRecDepth 100000 in
set_option maxHeartbeats 2000000 in
theorem slices_Contains_bool_bool_c (a0 : List Bool) (a1 : Bool) {r : Bool} (hm : slices_Contains_bool_bool a0 a1 = some r) : Ctr Try.prog 28 [.rep 0 a0, .rep 0 a1] (.fl r) [] := by
 refine ctr_of_walk [[]] 9 Try.func28 rfl rfl rfl rfl (fun w0 om => ?_)
 unfold slices_Contains_bool_bool at hm
 refine CWalk.sub (G' := [.fact 0 (.rep [0] (a0 : List Bool)), .fact 1 (.rep [] (a1 : Bool))]) (sn (Sub.cons (Has.fl (Has.s rfl)) Sub.nil)) ?_
 refine CWalk.seq ?_
 refine CWalk.region ?_
 refine wo (Spec.assign Has.bool) ?_
 refine Walk.nil ?_
 refine Leaf.thenN ?_
 refine CWalk.seq ?_
 refine CWalk.region ?_
 refine mv ?_
 refine mv ?_
 obtain ⟨x1, hx1, hm⟩ := bind_some hm
 refine wo (f := Fact.rep [] (x1 : Int)) (Spec.callE [0] 10 rfl en52 (slices_Index_bool_bool_c a0 a1 hx1) (HasAll.cons (Has.m (Has.s rfl) rfl) (HasAll.cons (Has.fl (Has.s rfl)) HasAll.nil))) ?_
 refine wo (Spec.geqI (Has.s rfl) Has.int) ?_
 refine wo (Spec.assign (Has.s rfl)) ?_
 refine Walk.nil ?_
 refine Leaf.thenN ?_
 refine CWalk.ret ?_
 obtain rfl := Option.some.inj hm
 exact Leaf.retC1 rfl (HasR.cv (HasR.tmp (Has.s rfl)) Cv.fl)

/-- freeboard/even.right$3 -/
def even_right_3 : Option ((List Int)) :=
  some ([] : List Int)
set_option maxRecDepth 100000 in
set_option maxHeartbeats 2000000 in
theorem even_right_3_c {r : (List Int)} (hm : even_right_3 = some r) : Ctr Try.prog 55 [] (.own 0 none 3 r) [] := by
 refine ctr_of_walk [[]] 1 Try.func55 rfl rfl rfl rfl (fun w0 om => ?_)
 unfold even_right_3 at hm
 refine CWalk.sub (G' := []) (Sub.nil) ?_
 refine CWalk.seq ?_
 refine CWalk.region ?_
 refine wo (Spec.assign Has.nilv) ?_
 refine Walk.nil ?_
 refine Leaf.thenN ?_
 refine CWalk.seq ?_
 refine CWalk.region ?_
 refine wo (Spec.assign Has.nilv) ?_
 refine Walk.nil ?_
 refine Leaf.thenN ?_
 refine CWalk.ret ?_
 obtain rfl := Option.some.inj hm
 exact Leaf.retC1 rfl (HasR.cv (HasR.tmp (Has.s rfl)) (Cv.trans Cv.nilOw (Cv.owF (T := []) (te := []) rfl)))

def even_right_1_J2 (s2 : Int) (j4 : List Int) : Option (Ctl ((List Int) × Int) ((List Int))) :=
  some (Ctl.next (j4, (wI (s2 + (1 : Int)))))
def even_right_1_L1 (a0 : Head) (s1 : List Int) (s2 : Int) : Option (Ctl ((List Int) × Int) ((List Int))) :=
  (bif (decide (s2 < ((a0.Dirty).length : Int))) then Option.bind (idx a0.Blocks s2) (fun x5 => (bif (((x5).length : Int) == (0 : Int)) then Option.bind (app s1 ([s2])) (fun x6 => (even_right_1_J2 s2 x6)) else (even_right_1_J2 s2 s1))) else some (Ctl.brk s1))
/-- freeboard/even.right$1 -/
def even_right_1 (a0 : Head) : Option ((List Int)) :=
  Option.bind (loopM (fun s : (List Int) × Int => even_right_1_L1 a0 s.1 s.2) FUEL (([] : List Int), (0 : Int))) (fun b7 => some b7)
set_option maxRecDepth 100000 in
set_option maxHeartbeats 2000000 in
theorem even_right_1_c (a0 : Head) {r : (List Int)} (hm : even_right_1 a0 = some r) : Ctr Try.prog 53 [.ptr 0 a0] (.own 0 none 3 r) [] := by
 refine ctr_of_walk [[11]] 21 Try.func53 rfl rfl rfl rfl (fun w0 om => ?_)
 unfold even_right_1 at hm
 refine CWalk.sub (G' := [.fact 0 (.ptr [0] (a0 : Head))]) (sn Sub.nil) ?_
 refine CWalk.seq ?_
 refine CWalk.region ?_
 refine wo (Spec.assign Has.nilv) ?_
 refine Walk.nil ?_
 refine Leaf.thenN ?_
 refine CWalk.seq ?_
 refine CWalk.seq ?_
 refine CWalk.region ?_
 refine wo (Spec.fieldAddrP fd28_2 (chHead a0) rfl (Has.s rfl)) ?_
 refine wo (Spec.load ty26 (Has.s rfl)) ?_
 refine wo (Spec.len (Has.s rfl) Try.underlying26) ?_
 refine wo (Spec.move Has.int) ?_
 refine Walk.nil ?_
 refine Leaf.thenN ?_
 refine CWalk.block ?_
 obtain ⟨b7, hb7, hm⟩ := bind_some hm
 refine CWalk.loop (fun s : (List Int) × Int => [.fact 0 (.ptr [0] (a0 : Head)), .fact 1 (.ow [11] [] 3 (s.1 : List Int)), .fact 5 (.rep [] (((a0.Dirty).length : Int) : Int)), .fact 6 (.rep [] s.2)]) (fun b : (List Int) => (Exit.exit 0, [.fact 1 (.ow [11] [] 3 (b : List Int))])) hb7 (sn (Sub.cons (Has.cv (Has.s rfl) (Cv.trans Cv.nilOw (Cv.owF (T := []) (te := []) rfl))) (st (st Sub.nil)))) ?_ ?_
 ·rintro ⟨s1, s2⟩ c3 hm
  replace hm : even_right_1_L1 a0 s1 s2 = some c3 := hm
  unfold even_right_1_L1 at hm
  show CWalk _ [.fact 0 (.ptr [0] (a0 : Head)), .fact 1 (.ow [11] [] 3 (s1 : List Int)), .fact 5 (.rep [] (((a0.Dirty).length : Int) : Int)), .fact 6 (.rep [] (s2 : Int))] _ _
  refine CWalk.seq ?_
  refine CWalk.region ?_
  refine wo (Spec.lssI (Has.s rfl) (Has.s rfl)) ?_
  refine Walk.nil ?_
  refine Leaf.thenN ?_
  refine CWalk.seq ?_
  refine CWalk.cond rfl (fun hb => ?_) (fun hb => ?_)
  ·have hm := cond_t hb hm
   refine CWalk.skip ?_
   refine Leaf.thenN ?_
   refine CWalk.seqJ (fun p : (List Int) => [.fact 0 (.ptr [0] (a0 : Head)), .fact 1 (.ow [11] [] 3 (p : List Int)), .fact 5 (.rep [] (((a0.Dirty).length : Int) : Int)), .fact 6 (.rep [] (s2 : Int))]) (fun p : (List Int) => even_right_1_J2 s2 p = some c3) ?_ ?_
   ·rintro j4 hm
    replace hm : even_right_1_J2 s2 j4 = some c3 := hm
    unfold even_right_1_J2 at hm
    show CWalk _ [.fact 0 (.ptr [0] (a0 : Head)), .fact 1 (.ow [11] [] 3 (j4 : List Int)), .fact 5 (.rep [] (((a0.Dirty).length : Int) : Int)), .fact 6 (.rep [] (s2 : Int))] _ _
    refine CWalk.region ?_
    refine wo (Spec.addI (Has.s rfl) Has.int) ?_
    refine mv ?_
    refine Walk.nil ?_
    exact Leaf.next hm (sn (Sub.cons (Has.cv (Has.s rfl) (Cv.owF (T := [11]) (te := []) rfl)) (st (st Sub.nil))))
   ·refine CWalk.block ?_
    refine CWalk.seq ?_
    refine CWalk.region ?_
    refine mv ?_
    refine wo (Spec.assign (Has.s rfl)) ?_
    refine Walk.nil ?_
    refine Leaf.thenN ?_
    refine CWalk.seq ?_
    refine CWalk.region ?_
    refine wo (Spec.fieldAddrP fd28_1 (chHead a0) rfl (Has.s rfl)) ?_
    refine wo (Spec.load ty25 (Has.s rfl)) ?_
    refine mv ?_
    obtain ⟨x5, hx5, hm⟩ := bind_some hm
    refine wo (Spec.indexAddr hx5 sl25 (Has.s rfl) (Has.s rfl)) ?_
    refine wo (Spec.load ty36 (Has.s rfl)) ?_
    refine wo (Spec.len (Has.s rfl) Try.underlying36) ?_
    refine wo (Spec.eqlI (Has.s rfl) Has.int) ?_
    refine Walk.nil ?_
    refine Leaf.thenN ?_
    refine CWalk.cond rfl (fun hb => ?_) (fun hb => ?_)
    ·have hm := cond_t hb hm
     refine CWalk.region ?_
     refine mv ?_
     refine mv ?_
     refine wo (Spec.lit (xs := [.tmp 17]) (T := []) 10 rfl ow29 rfl rfl rfl rfl (HasEach.cons (Has.fl (Has.s rfl)) HasEach.nil)) ?_
     obtain ⟨x6, hx6, hm⟩ := bind_some hm
     refine ws (Step.appendOw (T := [11]) (te' := []) hx6 rfl rfl rfl ow29 (Has.s rfl) (Has.s rfl) ElKeeps.flat ElKeeps.flat) ?_
     refine wo (Spec.assign (Has.s rfl)) ?_
     refine Walk.nil ?_
     refine Leaf.blockN ?_
     exact Leaf.join x6 hm (sn (Sub.cons (Has.cv (Has.s rfl) (Cv.owF (T := [11]) (te := []) rfl)) (st (st Sub.nil))))
    ·have hm := cond_f hb hm
     refine CWalk.skip ?_
     refine Leaf.blockN ?_
     exact Leaf.join s1 hm (sn (Sub.cons (Has.cv (Has.s rfl) (Cv.owF (T := [11]) (te := []) rfl)) (st (st Sub.nil))))
  ·have hm := cond_f hb hm
   refine CWalk.exit ?_
   refine Leaf.thenE ?_
   exact Leaf.brk hm (fun h => nomatch h) rfl (Sub.cons (Has.cv (Has.s rfl) (Cv.owF (T := [11]) (te := []) rfl)) Sub.nil)
 ·intro _
  refine Leaf.blockE ?_
  refine Leaf.thenN ?_
  refine CWalk.ret ?_
  obtain rfl := Option.some.inj hm
  exact Leaf.retC1 rfl (HasR.cv (HasR.tmp (Has.s rfl)) (Cv.owF (T := [11]) (te := []) rfl))

def even_right_2_J2 (s2 : Int) (j4 : List Int) : Option (Ctl ((List Int) × Int) ((List Int))) :=
  some (Ctl.next (j4, (wI (s2 + (1 : Int)))))
def even_right_2_L1 (a0 : Head) (s1 : List Int) (s2 : Int) : Option (Ctl ((List Int) × Int) ((List Int))) :=
  (bif (decide (s2 < ((a0.Dirty).length : Int))) then Option.bind (idx a0.Dirty s2) (fun x5 => (bif x5 then Option.bind (app s1 ([s2])) (fun x6 => (even_right_2_J2 s2 x6)) else (even_right_2_J2 s2 s1))) else some (Ctl.brk s1))
/-- freeboard/even.right$2 -/
def even_right_2 (a0 : Head) (a1 : Config) : Option ((List Int)) :=
  Option.bind (loopM (fun s : (List Int) × Int => even_right_2_L1 a0 s.1 s.2) FUEL (([] : List Int), (0 : Int))) (fun b7 => Option.bind (app b7 ([(wI (a1.Members - (1 : Int)))])) (fun x8 => some x8))
set_option maxRecDepth 100000 in
set_option maxHeartbeats 2000000 in
theorem even_right_2_c (a0 : Head) (a1 : Config) {r : (List Int)} (hm : even_right_2 a0 a1 = some r) : Ctr Try.prog 54 [.ptr 0 a0, .ptr 0 a1] (.own 0 none 3 r) [] := by
 refine ctr_of_walk [[11]] 25 Try.func54 rfl rfl rfl rfl (fun w0 om => ?_)
 unfold even_right_2 at hm
 refine CWalk.sub (G' := [.fact 0 (.ptr [0] (a0 : Head)), .fact 1 (.ptr [0] (a1 : Config))]) (sn (sn Sub.nil)) ?_
 refine CWalk.seq ?_
 refine CWalk.region ?_
 refine wo (Spec.assign Has.nilv) ?_
 refine Walk.nil ?_
 refine Leaf.thenN ?_
 refine CWalk.seq ?_
 refine CWalk.seq ?_
 refine CWalk.region ?_
 refine wo (Spec.fieldAddrP fd28_2 (chHead a0) rfl (Has.s rfl)) ?_
 refine wo (Spec.load ty26 (Has.s rfl)) ?_
 refine wo (Spec.len (Has.s rfl) Try.underlying26) ?_
 refine wo (Spec.move Has.int) ?_
 refine Walk.nil ?_
 refine Leaf.thenN ?_
 refine CWalk.block ?_
 obtain ⟨b7, hb7, hm⟩ := bind_some hm
 refine CWalk.loop (fun s : (List Int) × Int => [.fact 1 (.ptr [0] (a1 : Config)), .fact 2 (.ow [11] [] 3 (s.1 : List Int)), .fact 6 (.rep [0] a0.Dirty), .fact 7 (.rep [] (((a0.Dirty).length : Int) : Int)), .fact 8 (.rep [] s.2)]) (fun b : (List Int) => (Exit.exit 0, [.fact 1 (.ptr [0] (a1 : Config)), .fact 2 (.ow [11] [] 3 (b : List Int))])) hb7 (sn (Sub.cons (Has.cv (Has.s rfl) (Cv.trans Cv.nilOw (Cv.owF (T := []) (te := []) rfl))) (su (st (st Sub.nil))))) ?_ ?_
 ·rintro ⟨s1, s2⟩ c3 hm
  replace hm : even_right_2_L1 a0 s1 s2 = some c3 := hm
  unfold even_right_2_L1 at hm
  show CWalk _ [.fact 1 (.ptr [0] (a1 : Config)), .fact 2 (.ow [11] [] 3 (s1 : List Int)), .fact 6 (.rep [0] a0.Dirty), .fact 7 (.rep [] (((a0.Dirty).length : Int) : Int)), .fact 8 (.rep [] (s2 : Int))] _ _
  refine CWalk.seq ?_
  refine CWalk.region ?_
  refine wo (Spec.lssI (Has.s rfl) (Has.s rfl)) ?_
  refine Walk.nil ?_
  refine Leaf.thenN ?_
  refine CWalk.seq ?_
  refine CWalk.cond rfl (fun hb => ?_) (fun hb => ?_)
  ·have hm := cond_t hb hm
   refine CWalk.skip ?_
   refine Leaf.thenN ?_
   refine CWalk.seqJ (fun p : (List Int) => [.fact 1 (.ptr [0] (a1 : Config)), .fact 2 (.ow [11] [] 3 (p : List Int)), .fact 6 (.rep [0] a0.Dirty), .fact 7 (.rep [] (((a0.Dirty).length : Int) : Int)), .fact 8 (.rep [] (s2 : Int))]) (fun p : (List Int) => even_right_2_J2 s2 p = some c3) ?_ ?_
   ·rintro j4 hm
    replace hm : even_right_2_J2 s2 j4 = some c3 := hm
    unfold even_right_2_J2 at hm
    show CWalk _ [.fact 1 (.ptr [0] (a1 : Config)), .fact 2 (.ow [11] [] 3 (j4 : List Int)), .fact 6 (.rep [0] a0.Dirty), .fact 7 (.rep [] (((a0.Dirty).length : Int) : Int)), .fact 8 (.rep [] (s2 : Int))] _ _
    refine CWalk.region ?_
    refine wo (Spec.addI (Has.s rfl) Has.int) ?_
    refine mv ?_
    refine Walk.nil ?_
    exact Leaf.next hm (sn (Sub.cons (Has.cv (Has.s rfl) (Cv.owF (T := [11]) (te := []) rfl)) (su (st (st Sub.nil)))))
   ·refine CWalk.block ?_
    refine CWalk.seq ?_
    refine CWalk.region ?_
    refine mv ?_
    obtain ⟨x5, hx5, hm⟩ := bind_some hm
    refine wo (Spec.indexAddr hx5 sl26 (Has.s rfl) (Has.s rfl)) ?_
    refine wo ((Spec.load ty4 (Has.s rfl)).flat (T' := [])) ?_
    refine wo (Spec.assign (Has.s rfl)) ?_
    refine wo (Spec.assign (Has.s rfl)) ?_
    refine Walk.nil ?_
    refine Leaf.thenN ?_
    refine CWalk.seq ?_
    refine CWalk.region ?_
    refine mv ?_
    refine Walk.nil ?_
    refine Leaf.thenN ?_
    refine CWalk.cond rfl (fun hb => ?_) (fun hb => ?_)
    ·have hm := cond_t hb hm
     refine CWalk.region ?_
     refine mv ?_
     refine mv ?_
     refine wo (Spec.lit (xs := [.tmp 15]) (T := []) 10 rfl ow29 rfl rfl rfl rfl (HasEach.cons (Has.fl (Has.s rfl)) HasEach.nil)) ?_
     obtain ⟨x6, hx6, hm⟩ := bind_some hm
     refine ws (Step.appendOw (T := [11]) (te' := []) hx6 rfl rfl rfl ow29 (Has.s rfl) (Has.s rfl) ElKeeps.flat ElKeeps.flat) ?_
     refine wo (Spec.assign (Has.s rfl)) ?_
     refine Walk.nil ?_
     refine Leaf.blockN ?_
     exact Leaf.join x6 hm (sn (Sub.cons (Has.cv (Has.s rfl) (Cv.owF (T := [11]) (te := []) rfl)) (su (st (st Sub.nil)))))
    ·have hm := cond_f hb hm
     refine CWalk.skip ?_
     refine Leaf.blockN ?_
     exact Leaf.join s1 hm (sn (Sub.cons (Has.cv (Has.s rfl) (Cv.owF (T := [11]) (te := []) rfl)) (su (st (st Sub.nil)))))
  ·have hm := cond_f hb hm
   refine CWalk.exit ?_
   refine Leaf.thenE ?_
   exact Leaf.brk hm (fun h => nomatch h) rfl (sn (Sub.cons (Has.cv (Has.s rfl) (Cv.owF (T := [11]) (te := []) rfl)) Sub.nil))
 ·intro _
  refine Leaf.blockE ?_
  refine Leaf.thenN ?_
  refine CWalk.seq ?_
  refine CWalk.region ?_
  refine mv ?_
  refine wo (Spec.fieldAddrP fd24_1 (chConfig a1) rfl (Has.s rfl)) ?_
  refine wo ((Spec.load ty3 (Has.s rfl)).flat (T' := [])) ?_
  refine wo (Spec.subI (Has.s rfl) Has.int) ?_
  refine wo (Spec.lit (xs := [.tmp 22]) (T := []) 12 rfl ow29 rfl rfl rfl rfl (HasEach.cons (Has.fl (Has.s rfl)) HasEach.nil)) ?_
  obtain ⟨x8, hx8, hm⟩ := bind_some hm
  refine ws (Step.appendOw (T := [11]) (te' := []) hx8 rfl rfl rfl ow29 (Has.s rfl) (Has.s rfl) ElKeeps.flat ElKeeps.flat) ?_
  refine wo (Spec.assign (Has.s rfl)) ?_
  refine Walk.nil ?_
  refine Leaf.thenN ?_
  refine CWalk.ret ?_
  obtain rfl := Option.some.inj hm
  exact Leaf.retC1 rfl (HasR.cv (HasR.tmp (Has.s rfl)) (Cv.owF (T := [11]) (te := []) rfl))

def slices_Equal_int_int_L1 (a0 : List Int) (a1 : List Int) (s1 : Int) : Option (Ctl (Int) ((Unit) ⊕ (Unit))) :=
  (bif (decide (s1 < ((a0).length : Int))) then Option.bind (idx a0 s1) (fun x3 => Option.bind (idx a1 s1) (fun x4 => (bif (x3 != x4) then some (Ctl.brk (Sum.inr ())) else some (Ctl.next (wI (s1 + (1 : Int))))))) else some (Ctl.brk (Sum.inl ())))
/-- slices.Equal[[]int,int] -/
def slices_Equal_int_int (a0 : List Int) (a1 : List Int) : Option (Bool) :=
  (bif (((a0).length : Int) != ((a1).length : Int)) then some false else Option.bind (loopM (fun s : Int => slices_Equal_int_int_L1 a0 a1 s) FUEL (0 : Int)) (fun b5 => Sum.elim (fun b6 => some true) (fun b7 => some false) b5))
set_option maxRecDepth 100000 in
set_option maxHeartbeats 2000000 in
theorem slices_Equal_int_int_c (a0 : List Int) (a1 : List Int) {r : Bool} (hm : slices_Equal_int_int a0 a1 = some r) : Ctr Try.prog 30 [.rep 0 a0, .rep 0 a1] (.fl r) [] := by
 refine ctr_of_walk [[]] 26 Try.func30 rfl rfl rfl rfl (fun w0 om => ?_)
 unfold slices_Equal_int_int at hm
 refine CWalk.sub (G' := [.fact 0 (.rep [0] (a0 : List Int)), .fact 1 (.rep [0] (a1 : List Int))]) (sn (sn Sub.nil)) ?_
 refine CWalk.seq ?_
 refine CWalk.region ?_
 refine wo (Spec.assign Has.bool) ?_
 refine Walk.nil ?_
 refine Leaf.thenN ?_
 refine CWalk.seq ?_
 refine CWalk.seq ?_
 refine CWalk.region ?_
 refine mv ?_
 refine wo (Spec.len (Has.s rfl) Try.underlying29) ?_
 refine mv ?_
 refine wo (Spec.len (Has.s rfl) Try.underlying29) ?_
 refine wo (Spec.neqI (Has.s rfl) (Has.s rfl)) ?_
 refine Walk.nil ?_
 refine Leaf.thenN ?_
 refine CWalk.cond rfl (fun hb => ?_) (fun hb => ?_)
 ·have hm := cond_t hb hm
  refine CWalk.seq ?_
  refine CWalk.region ?_
  refine wo (Spec.assign Has.bool) ?_
  refine Walk.nil ?_
  refine Leaf.thenN ?_
  refine CWalk.ret ?_
  refine Leaf.thenR ?_
  obtain rfl := Option.some.inj hm
  exact Leaf.retC1 rfl (HasR.cv (HasR.tmp (Has.s rfl)) Cv.fl)
 ·have hm := cond_f hb hm
  refine CWalk.skip ?_
  refine Leaf.thenN ?_
  refine CWalk.seq ?_
  refine CWalk.seq ?_
  refine CWalk.region ?_
  refine mv ?_
  refine wo (Spec.len (Has.s rfl) Try.underlying29) ?_
  refine wo (Spec.move Has.int) ?_
  refine Walk.nil ?_
  refine Leaf.thenN ?_
  refine CWalk.block ?_
  obtain ⟨b5, hb5, hm⟩ := bind_some hm
  refine CWalk.loop (fun s : Int => [.fact 0 (.rep [0] (a0 : List Int)), .fact 1 (.rep [0] (a1 : List Int)), .fact 12 (.rep [] (((a0).length : Int) : Int)), .fact 13 (.rep [] (s : Int))]) (fun b : (Unit) ⊕ (Unit) => Sum.elim (fun b => (Exit.exit 0, [])) (fun b => (Exit.ret, [.fact 4 (.rep [] (false : Bool))])) b) hb5 (su (su (st (st Sub.nil)))) ?_ ?_
  ·rintro s1 c2 hm
   replace hm : slices_Equal_int_int_L1 a0 a1 s1 = some c2 := hm
   unfold slices_Equal_int_int_L1 at hm
   show CWalk _ [.fact 0 (.rep [0] (a0 : List Int)), .fact 1 (.rep [0] (a1 : List Int)), .fact 12 (.rep [] (((a0).length : Int) : Int)), .fact 13 (.rep [] (s1 : Int))] _ _
   refine CWalk.seq ?_
   refine CWalk.region ?_
   refine wo (Spec.lssI (Has.s rfl) (Has.s rfl)) ?_
   refine Walk.nil ?_
   refine Leaf.thenN ?_
   refine CWalk.seq ?_
   refine CWalk.cond rfl (fun hb => ?_) (fun hb => ?_)
   ·have hm := cond_t hb hm
    refine CWalk.skip ?_
    refine Leaf.thenN ?_
    refine CWalk.seq ?_
    refine CWalk.block ?_
    refine CWalk.seq ?_
    refine CWalk.region ?_
    refine mv ?_
    refine wo (Spec.assign (Has.s rfl)) ?_
    refine Walk.nil ?_
    refine Leaf.thenN ?_
    refine CWalk.seq ?_
    obtain ⟨x3, hx3, hm⟩ := bind_some hm
    obtain ⟨x4, hx4, hm⟩ := bind_some hm
    refine CWalk.drawM [[], [], [0, 1], [0, 1, 2], [], [], [4, 5], [4, 5, 6], [0, 1, 2, 3, 4, 5, 6, 7]] [[.fact 16 (.rep [0] (a0 : List Int))], [.fact 17 (.rep [] (s1 : Int))], [.fact 18 (.ptr [0] (x3 : Int))], [.fact 19 (.rep [] (x3 : Int))], [.fact 20 (.rep [0] (a1 : List Int))], [.fact 21 (.rep [] (s1 : Int))], [.fact 22 (.ptr [0] (x4 : Int))], [.fact 23 (.rep [] (x4 : Int))], [.fact 24 (.rep [] ((x3 != x4) : Bool))]] mixed (by kernel_rfl) (ao (so (Spec.move (Has.s rfl))) (ao (so (Spec.move (Has.s rfl))) (ao (so (Spec.indexAddr hx3 sl29 (Has.s rfl) (Has.s rfl))) (ao (so ((Spec.load ty3 (Has.s rfl)).flat (T' := []))) (ao (so (Spec.move (Has.s rfl))) (ao (so (Spec.move (Has.s rfl))) (ao (so (Spec.indexAddr hx4 sl29 (Has.s rfl) (Has.s rfl))) (ao (so ((Spec.load ty3 (Has.s rfl)).flat (T' := []))) (ao (so (Spec.neqI (Has.s rfl) (Has.s rfl))) AllM.nil))))))))) ?_
    refine Leaf.thenN ?_
    refine CWalk.cond rfl (fun hb => ?_) (fun hb => ?_)
    ·have hm := cond_t hb hm
     refine CWalk.seq ?_
     refine CWalk.region ?_
     refine wo (Spec.assign Has.bool) ?_
     refine Walk.nil ?_
     refine Leaf.thenN ?_
     refine CWalk.ret ?_
     refine Leaf.blockR ?_
     refine Leaf.thenR ?_
     exact Leaf.brk hm (fun h => nomatch h) rfl (st Sub.nil)
    ·have hm := cond_f hb hm
     refine CWalk.skip ?_
     refine Leaf.blockN ?_
     refine Leaf.thenN ?_
     refine CWalk.region ?_
     refine wo (Spec.addI (Has.s rfl) Has.int) ?_
     refine mv ?_
     refine Walk.nil ?_
     exact Leaf.next hm (su (su (st (st Sub.nil))))
   ·have hm := cond_f hb hm
    refine CWalk.exit ?_
    refine Leaf.thenE ?_
    exact Leaf.brk hm (fun h => nomatch h) rfl (Sub.nil)
  ·intro _
   rcases b5 with b6 | b7
   ·have hm := selim_l hm
    refine Leaf.blockE ?_
    refine Leaf.thenN ?_
    refine CWalk.seq ?_
    refine CWalk.region ?_
    refine wo (Spec.assign Has.bool) ?_
    refine Walk.nil ?_
    refine Leaf.thenN ?_
    refine CWalk.ret ?_
    obtain rfl := Option.some.inj hm
    exact Leaf.retC1 rfl (HasR.cv (HasR.tmp (Has.s rfl)) Cv.fl)
   ·have hm := selim_r hm
    refine Leaf.blockR ?_
    refine Leaf.thenR ?_
    obtain rfl := Option.some.inj hm
    exact Leaf.retC1 rfl (HasR.cv (HasR.tmp (Has.s rfl)) Cv.fl)

/-- freeboard/even.Parity$1 -/
def even_Parity_1 (a0 : List UInt8) : Option (Bool) :=
  some ((((a0).length : Int) != (0 : Int)) && (((a0).length : Int) != (128 : Int)))
set_option maxRecDepth 100000 in
set_option maxHeartbeats 2000000 in
theorem even_Parity_1_c (a0 : List UInt8) {r : Bool} (hm : even_Parity_1 a0 = some r) : Ctr Try.prog 32 [.rep 0 a0] (.fl r) [] := by
 refine ctr_of_walk [[]] 11 Try.func32 rfl rfl rfl rfl (fun w0 om => ?_)
 unfold even_Parity_1 at hm
 refine CWalk.sub (G' := [.fact 0 (.rep [0] (a0 : List UInt8))]) (sn Sub.nil) ?_
 refine CWalk.seq ?_
 refine CWalk.region ?_
 refine wo (Spec.assign Has.bool) ?_
 refine Walk.nil ?_
 refine Leaf.thenN ?_
 refine CWalk.seq ?_
 refine CWalk.region ?_
 refine mv ?_
 refine wo (Spec.len (Has.s rfl) Try.underlying36) ?_
 refine wo (Spec.neqI (Has.s rfl) Has.int) ?_
 refine mv ?_
 refine wg rfl rfl (fun hb => Spec.move (Has.s rfl)) ?_
 refine wg rfl rfl (fun hb => Spec.len (Has.u rfl hb) Try.underlying36) ?_
 refine wg rfl rfl (fun hb => Spec.neqI (Has.u rfl hb) Has.int) ?_
 refine wo (Spec.and (Has.s rfl) (fun h => Has.u rfl h)) ?_
 refine wo (Spec.assign (Has.s rfl)) ?_
 refine Walk.nil ?_
 refine Leaf.thenN ?_
 refine CWalk.ret ?_
 obtain rfl := Option.some.inj hm
 exact Leaf.retC1 rfl (HasR.cv (HasR.tmp (Has.s rfl)) Cv.fl)

def fold_Fold_J2 (s1 : Int) (j4 : List UInt8) : Option (Ctl (Int × (List UInt8)) (Int × (List UInt8))) :=
  some (Ctl.next ((wI (s1 + (1 : Int))), j4))
def fold_Fold_L3 (x5 : List UInt8) (s6 : Int) (s7 : List UInt8) : Option (Ctl (Int × (List UInt8)) ((List UInt8))) :=
  (bif (decide (s6 < ((x5).length : Int))) then Option.bind (idx x5 s6) (fun x9 => Option.bind (bnd 128 s6) (fun x10 => Option.bind ((s7)[x10]?) (fun x11 => Option.bind (bnd 128 s6) (fun x12 => some (Ctl.next ((wI (s6 + (1 : Int))), (s7).set x12 (x11 ^^^ x9))))))) else some (Ctl.brk s7))
def fold_Fold_L1 (a0 : List (List UInt8)) (s1 : Int) (s2 : List UInt8) : Option (Ctl (Int × (List UInt8)) (Int × (List UInt8))) :=
  (bif (decide (s1 < ((a0).length : Int))) then Option.bind (idx a0 s1) (fun x5 => (bif (((x5).length : Int) == (0 : Int)) then (fold_Fold_J2 s1 s2) else (bif (((x5).length : Int) == (128 : Int)) then Option.bind (loopM (fun s : Int × (List UInt8) => fold_Fold_L3 x5 s.1 s.2) FUEL ((0 : Int), s2)) (fun b13 => (fold_Fold_J2 s1 b13)) else some (Ctl.brk ((3 : Int), s2))))) else some (Ctl.brk ((0 : Int), s2)))
/-- freeboard/fold.Fold -/
def fold_Fold (a0 : List (List UInt8)) : Option ((List UInt8) × Int) :=
  (bif (decide (((a0).length : Int) > (16 : Int))) then some (([] : List UInt8), (4 : Int)) else Option.bind (loopM (fun s : Int × (List UInt8) => fold_Fold_L1 a0 s.1 s.2) FUEL ((0 : Int), List.replicate 128 (0 : UInt8))) (fun b14 => (bif (b14.1 != (0 : Int)) then some (([] : List UInt8), b14.1) else some (b14.2, (0 : Int)))))
set_option maxRecDepth 100000 in
set_option maxHeartbeats 2000000 in
theorem fold_Fold_c (a0 : List (List UInt8)) {r : (List UInt8) × Int} (hm : fold_Fold a0 = some r) : Ctr Try.prog 21 [.rep 0 a0] (.tup2 (.sl 0 none r.1) (.fl r.2)) [] := by
 refine ctr_of_walk [[10]] 44 Try.func21 rfl rfl rfl rfl (fun w0 om => ?_)
 unfold fold_Fold at hm
 refine CWalk.sub (G' := [.fact 0 (.rep [0] (a0 : List (List UInt8)))]) (sn Sub.nil) ?_
 refine CWalk.seq ?_
 refine CWalk.region ?_
 refine wo (Spec.assign Has.nilv) ?_
 refine wo (Spec.assign Has.int) ?_
 refine Walk.nil ?_
 refine Leaf.thenN ?_
 refine CWalk.scope ?_
 refine CWalk.seq ?_
 refine CWalk.seq ?_
 refine CWalk.region ?_
 refine mv ?_
 refine wo (Spec.len (Has.s rfl) Try.underlying25) ?_
 refine wo (Spec.gtrI (Has.s rfl) Has.int) ?_
 refine Walk.nil ?_
 refine Leaf.thenN ?_
 refine CWalk.cond rfl (fun hb => ?_) (fun hb => ?_)
 ·have hm := cond_t hb hm
  refine CWalk.seq ?_
  refine CWalk.region ?_
  refine wo (Spec.assign Has.nilv) ?_
  refine wo (Spec.assign Has.int) ?_
  refine Walk.nil ?_
  refine Leaf.thenN ?_
  refine CWalk.ret ?_
  refine Leaf.thenR ?_
  refine Leaf.scR ?_
  obtain rfl := Option.some.inj hm
  exact Leaf.retC2 rfl (HasR.cv (HasR.tmp (Has.s rfl)) (Cv.trans Cv.nilSl (Cv.slF (T := []) (te := []) rfl))) (HasR.cv (HasR.tmp (Has.s rfl)) Cv.fl)
 ·have hm := cond_f hb hm
  refine CWalk.skip ?_
  refine Leaf.thenN ?_
  refine CWalk.seq ?_
  refine CWalk.region ?_
  refine ws (Step.allocArr 10 rfl rfl ar87) ?_
  refine Walk.nil ?_
  refine Leaf.thenN ?_
  refine CWalk.seq ?_
  refine CWalk.region ?_
  refine wo (Spec.assign Has.int) ?_
  refine Walk.nil ?_
  refine Leaf.thenN ?_
  refine CWalk.seq ?_
  refine CWalk.label ?_
  refine Leaf.thenN ?_
  refine CWalk.seq ?_
  refine CWalk.seq ?_
  refine CWalk.region ?_
  refine mv ?_
  refine wo (Spec.len (Has.s rfl) Try.underlying25) ?_
  refine wo (Spec.move Has.int) ?_
  refine Walk.nil ?_
  refine Leaf.thenN ?_
  refine CWalk.block ?_
  obtain ⟨b14, hb14, hm⟩ := bind_some hm
  refine CWalk.loop (fun s : Int × (List UInt8) => [.fact 4 (.isv 10), .fact 5 (.rep [] ((0 : Int) : Int)), .fact 13 (.rep [0] (a0 : List (List UInt8))), .fact 14 (.rep [] (((a0).length : Int) : Int)), .fact 15 (.rep [] s.1), .fact 100010 (.arr 10 [] 128 (s.2 : List UInt8))]) (fun b : Int × (List UInt8) => (Exit.exit 0, [.fact 4 (.isv 10), .fact 5 (.rep [] b.1), .fact 100010 (.arr 10 [] 128 (b.2 : List UInt8))])) hb14 (sn (st (su (st (st (Sub.cons (Has.arrM (Has.s rfl) rfl) Sub.nil)))))) ?_ ?_
  ·rintro ⟨s1, s2⟩ c3 hm
   replace hm : fold_Fold_L1 a0 s1 s2 = some c3 := hm
   unfold fold_Fold_L1 at hm
   show CWalk _ [.fact 4 (.isv 10), .fact 5 (.rep [] ((0 : Int) : Int)), .fact 13 (.rep [0] (a0 : List (List UInt8))), .fact 14 (.rep [] (((a0).length : Int) : Int)), .fact 15 (.rep [] (s1 : Int)), .fact 100010 (.arr 10 [] 128 (s2 : List UInt8))] _ _
   refine CWalk.seq ?_
   refine CWalk.region ?_
   refine wo (Spec.lssI (Has.s rfl) (Has.s rfl)) ?_
   refine Walk.nil ?_
   refine Leaf.thenN ?_
   refine CWalk.seq ?_
   refine CWalk.cond rfl (fun hb => ?_) (fun hb => ?_)
   ·have hm := cond_t hb hm
    refine CWalk.skip ?_
    refine Leaf.thenN ?_
    refine CWalk.seqJ (fun p : (List UInt8) => [.fact 4 (.isv 10), .fact 5 (.rep [] ((0 : Int) : Int)), .fact 13 (.rep [0] (a0 : List (List UInt8))), .fact 14 (.rep [] (((a0).length : Int) : Int)), .fact 15 (.rep [] (s1 : Int)), .fact 100010 (.arr 10 [] 128 (p : List UInt8))]) (fun p : (List UInt8) => fold_Fold_J2 s1 p = some c3) ?_ ?_
    ·rintro j4 hm
     replace hm : fold_Fold_J2 s1 j4 = some c3 := hm
     unfold fold_Fold_J2 at hm
     show CWalk _ [.fact 4 (.isv 10), .fact 5 (.rep [] ((0 : Int) : Int)), .fact 13 (.rep [0] (a0 : List (List UInt8))), .fact 14 (.rep [] (((a0).length : Int) : Int)), .fact 15 (.rep [] (s1 : Int)), .fact 100010 (.arr 10 [] 128 (j4 : List UInt8))] _ _
     refine CWalk.region ?_
     refine wo (Spec.addI (Has.s rfl) Has.int) ?_
     refine mv ?_
     refine Walk.nil ?_
     exact Leaf.next hm (sn (st (su (st (st (Sub.cons (Has.arrM (Has.s rfl) rfl) Sub.nil))))))
    ·refine CWalk.block ?_
     refine CWalk.seq ?_
     refine CWalk.region ?_
     obtain ⟨x5, hx5, hm⟩ := bind_some hm
     refine wo (Spec.indexAddr hx5 sl25 (Has.s rfl) (Has.s rfl)) ?_
     refine wo (Spec.load ty36 (Has.s rfl)) ?_
     refine wo (Spec.assign (Has.s rfl)) ?_
     refine Walk.nil ?_
     refine Leaf.thenN ?_
     refine CWalk.seq ?_
     refine CWalk.region ?_
     refine mv ?_
     refine wo (Spec.len (Has.s rfl) Try.underlying36) ?_
     refine Walk.nil ?_
     refine Leaf.thenN ?_
     refine CWalk.block ?_
     refine CWalk.seq ?_
     refine CWalk.region ?_
     refine wo (Spec.eqlI (Has.s rfl) Has.int) ?_
     refine wo (Spec.assign (Has.s rfl)) ?_
     refine Walk.nil ?_
     refine Leaf.thenN ?_
     refine CWalk.cond rfl (fun hb => ?_) (fun hb => ?_)
     ·have hm := cond_t hb hm
      refine CWalk.exit ?_
      refine Leaf.blockO rfl ?_
      refine Leaf.blockE ?_
      exact Leaf.join s2 hm (sn (st (su (st (st (Sub.cons (Has.arrM (Has.s rfl) rfl) Sub.nil))))))
     ·have hm := cond_f hb hm
      refine CWalk.seq ?_
      refine CWalk.region ?_
      refine wo (Spec.eqlI (Has.s rfl) Has.int) ?_
      refine wo (Spec.assign (Has.s rfl)) ?_
      refine Walk.nil ?_
      refine Leaf.thenN ?_
      refine CWalk.cond rfl (fun hb => ?_) (fun hb => ?_)
      ·have hm := cond_t hb hm
       refine CWalk.seq ?_
       refine CWalk.region ?_
       refine mv ?_
       refine wo (Spec.len (Has.s rfl) Try.underlying36) ?_
       refine wo (Spec.move Has.int) ?_
       refine Walk.nil ?_
       refine Leaf.thenN ?_
       refine CWalk.block ?_
       obtain ⟨b13, hb13, hm⟩ := bind_some hm
       refine CWalk.loop (fun s : Int × (List UInt8) => [.fact 4 (.isv 10), .fact 5 (.rep [] ((0 : Int) : Int)), .fact 13 (.rep [0] (a0 : List (List UInt8))), .fact 14 (.rep [] (((a0).length : Int) : Int)), .fact 15 (.rep [] (s1 : Int)), .fact 25 (.rep [0] (x5 : List UInt8)), .fact 26 (.rep [] (((x5).length : Int) : Int)), .fact 27 (.rep [] s.1), .fact 100010 (.arr 10 [] 128 (s.2 : List UInt8))]) (fun b : (List UInt8) => (Exit.exit 3, [.fact 4 (.isv 10), .fact 5 (.rep [] ((0 : Int) : Int)), .fact 13 (.rep [0] (a0 : List (List UInt8))), .fact 14 (.rep [] (((a0).length : Int) : Int)), .fact 15 (.rep [] (s1 : Int)), .fact 100010 (.arr 10 [] 128 (b : List UInt8))])) hb13 (sn (st (su (st (st (su (st (st (Sub.cons (Has.arrM (Has.s rfl) rfl) Sub.nil))))))))) ?_ ?_
       ·rintro ⟨s6, s7⟩ c8 hm
        replace hm : fold_Fold_L3 x5 s6 s7 = some c8 := hm
        unfold fold_Fold_L3 at hm
        show CWalk _ [.fact 4 (.isv 10), .fact 5 (.rep [] ((0 : Int) : Int)), .fact 13 (.rep [0] (a0 : List (List UInt8))), .fact 14 (.rep [] (((a0).length : Int) : Int)), .fact 15 (.rep [] (s1 : Int)), .fact 25 (.rep [0] (x5 : List UInt8)), .fact 26 (.rep [] (((x5).length : Int) : Int)), .fact 27 (.rep [] (s6 : Int)), .fact 100010 (.arr 10 [] 128 (s7 : List UInt8))] _ _
        refine CWalk.seq ?_
        refine CWalk.region ?_
        refine wo (Spec.lssI (Has.s rfl) (Has.s rfl)) ?_
        refine Walk.nil ?_
        refine Leaf.thenN ?_
        refine CWalk.seq ?_
        refine CWalk.cond rfl (fun hb => ?_) (fun hb => ?_)
        ·have hm := cond_t hb hm
         refine CWalk.skip ?_
         refine Leaf.thenN ?_
         refine CWalk.seq ?_
         refine CWalk.block ?_
         refine CWalk.seq ?_
         refine CWalk.region ?_
         refine mv ?_
         obtain ⟨x9, hx9, hm⟩ := bind_some hm
         refine wo (Spec.indexAddr hx9 sl36 (Has.s rfl) (Has.s rfl)) ?_
         refine wo ((Spec.load ty5 (Has.s rfl)).flat (T' := [])) ?_
         refine wo (Spec.assign (Has.s rfl)) ?_
         refine wo (Spec.assign (Has.s rfl)) ?_
         refine Walk.nil ?_
         refine Leaf.thenN ?_
         refine CWalk.region ?_
         refine mv ?_
         obtain ⟨x10, hx10, hm⟩ := bind_some hm
         refine wo (Spec.idxArr hx10 ar87 (Has.s rfl) rfl (Has.s rfl)) ?_
         obtain ⟨x11, hx11, hm⟩ := bind_some hm
         refine wo ((Spec.loadArr hx11 ty5 (Has.s rfl) rfl).flat (T' := [])) ?_
         refine mv ?_
         refine wo (Spec.xorB (Has.s rfl) (Has.s rfl)) ?_
         obtain ⟨x12, hx12, hm⟩ := bind_some hm
         refine wo (Spec.idxArr hx12 ar87 (Has.s rfl) rfl (Has.s rfl)) ?_
         refine ws (Step.storeArr (te' := []) rfl (bnd_lt hx12 rfl) ty5 (Has.s rfl) rfl (Has.s rfl) ElKeep.flat ElKeep.flat) ?_
         refine Walk.nil ?_
         refine Leaf.blockN ?_
         refine Leaf.thenN ?_
         refine CWalk.region ?_
         refine wo (Spec.addI (Has.s rfl) Has.int) ?_
         refine mv ?_
         refine Walk.nil ?_
         exact Leaf.next hm (sn (st (su (st (st (su (st (st (Sub.cons (Has.arrM (Has.s rfl) rfl) Sub.nil)))))))))
        ·have hm := cond_f hb hm
         refine CWalk.exit ?_
         refine Leaf.thenE ?_
         exact Leaf.brk hm (fun h => nomatch h) rfl (sn (st (su (st (st (Sub.cons (Has.arrM (Has.s rfl) rfl) Sub.nil))))))
       ·intro _
        refine Leaf.blockE ?_
        refine Leaf.blockN ?_
        refine Leaf.blockN ?_
        exact Leaf.join b13 hm (sn (st (su (st (st (Sub.cons (Has.arrM (Has.s rfl) rfl) Sub.nil))))))
      ·have hm := cond_f hb hm
       refine CWalk.seq ?_
       refine CWalk.region ?_
       refine wo (Spec.assign Has.int) ?_
       refine Walk.nil ?_
       refine Leaf.thenN ?_
       refine CWalk.exit ?_
       refine Leaf.blockO rfl ?_
       refine Leaf.blockO rfl ?_
       refine Leaf.thenE ?_
       exact Leaf.brk hm (fun h => nomatch h) rfl (sn (st (Sub.cons (Has.arrM (Has.s rfl) rfl) Sub.nil)))
   ·have hm := cond_f hb hm
    refine CWalk.exit ?_
    refine Leaf.thenE ?_
    exact Leaf.brk hm (fun h => nomatch h) rfl (sn (st (Sub.cons (Has.arrM (Has.s rfl) rfl) Sub.nil)))
  ·intro _
   refine Leaf.blockE ?_
   refine Leaf.thenN ?_
   refine CWalk.seq ?_
   refine CWalk.seq ?_
   refine CWalk.region ?_
   refine mv ?_
   refine wo (Spec.neqI (Has.s rfl) Has.int) ?_
   refine Walk.nil ?_
   refine Leaf.thenN ?_
   refine CWalk.cond rfl (fun hb => ?_) (fun hb => ?_)
   ·have hm := cond_t hb hm
    refine CWalk.seq ?_
    refine CWalk.region ?_
    refine mv ?_
    refine wo (Spec.assign Has.nilv) ?_
    refine wo (Spec.assign (Has.s rfl)) ?_
    refine Walk.nil ?_
    refine Leaf.thenN ?_
    refine CWalk.ret ?_
    refine Leaf.thenR ?_
    refine Leaf.scR ?_
    obtain rfl := Option.some.inj hm
    exact Leaf.retC2 rfl (HasR.cv (HasR.tmp (Has.s rfl)) (Cv.trans Cv.nilSl (Cv.slF (T := []) (te := []) rfl))) (HasR.cv (HasR.tmp (Has.s rfl)) Cv.fl)
   ·have hm := cond_f hb hm
    refine CWalk.skip ?_
    refine Leaf.thenN ?_
    refine CWalk.seq ?_
    refine CWalk.region ?_
    refine wo (Spec.sliceArrS ar87 (Has.s rfl) rfl) ?_
    refine wo (Spec.assign (Has.s rfl)) ?_
    refine wo (Spec.assign Has.int) ?_
    refine Walk.nil ?_
    refine Leaf.thenN ?_
    refine CWalk.ret ?_
    refine Leaf.scR ?_
    obtain rfl := Option.some.inj hm
    exact Leaf.retC2 rfl (HasR.cv (HasR.tmp (Has.s rfl)) (Cv.slF (T := [10]) (te := []) rfl)) (HasR.cv (HasR.tmp (Has.s rfl)) Cv.fl)

def even_Parity_L4 (a1 : Head) (a2 : Plan) (s8 : Int) (s9 : List (List UInt8)) : Option (Ctl (Int × (List (List UInt8))) ((List (List UInt8)))) :=
  (bif (decide (s8 < ((a1.Dirty).length : Int))) then Option.bind (idx a1.Dirty s8) (fun x11 => Option.bind (gO ((x11 || (!(a2.Kind == (3 : UInt8))))) (idx a1.Blocks s8)) (fun x12 => Option.bind (gO (((x11 || (!(a2.Kind == (3 : UInt8)))) && (decide (((x12).length : Int) > (0 : Int))))) (idx a1.Blocks s8)) (fun x13 => (bif ((x11 || (!(a2.Kind == (3 : UInt8)))) && (decide (((x12).length : Int) > (0 : Int)))) then Option.bind (app s9 ([x13])) (fun x15 => some (Ctl.next ((wI (s8 + (1 : Int))), x15))) else some (Ctl.next ((wI (s8 + (1 : Int))), s9)))))) else some (Ctl.brk s9))
def even_Parity_J3 (a1 : Head) (a2 : Plan) (a3 : List (List UInt8)) : Option ((List UInt8) × Int) :=
  Option.bind (loopM (fun s : Int × (List (List UInt8)) => even_Parity_L4 a1 a2 s.1 s.2) FUEL ((0 : Int), ([] : List (List UInt8)))) (fun b16 => Option.bind (fold_Fold a3) (fun x17 => Option.bind (fold_Fold b16) (fun x18 => Option.bind (fold_Fold ([x17.1, x18.1])) (fun x19 => some (x19.1, x19.2)))))
def even_Parity_J2 (a1 : Head) (a2 : Plan) (a3 : List (List UInt8)) (j6 : Bool) : Option ((List UInt8) × Int) :=
  (bif j6 then some (([] : List UInt8), (2 : Int)) else (bif (((a3).length : Int) != ((a2.Reads).length : Int)) then some (([] : List UInt8), (4 : Int)) else Option.bind (slices_ContainsFunc_byte_byte a3 (fun y => even_Parity_1 y)) (fun x7 => (bif x7 then some (([] : List UInt8), (3 : Int)) else (even_Parity_J3 a1 a2 a3)))))
def even_Parity_J1 (a1 : Head) (a2 : Plan) (a3 : List (List UInt8)) (j3 : Option (Option (List Int))) (j4 : Option (Option (List Int))) (j5 : Option (Option (List Int))) : Option ((List UInt8) × Int) :=
  (bif (decide ((wI (a2.Kind.toNat : Int)) ≥ (4 : Int))) then (even_Parity_J2 a1 a2 a3 (decide ((wI (a2.Kind.toNat : Int)) ≥ (4 : Int)))) else Option.bind (bnd 4 (a2.Kind.toNat : Int)) (fun x20 => Option.bind ((([(none : Option (Option (List Int))), j3, j4, j5] : List (Option (Option (List Int)))))[x20]?) (fun x21 => (bif (x21).isNone then (even_Parity_J2 a1 a2 a3 ((x21).isNone)) else Option.bind (bnd 4 (a2.Kind.toNat : Int)) (fun x22 => Option.bind ((([(none : Option (Option (List Int))), j3, j4, j5] : List (Option (Option (List Int)))))[x22]?) (fun x23 => Option.bind (Option.bind x23 id) (fun x24 => Option.bind (slices_Equal_int_int x24 a2.Reads) (fun x25 => (even_Parity_J2 a1 a2 a3 (!x25))))))))))
def even_Parity_J5 (a0 : Config) (a1 : Head) (a2 : Plan) (a3 : List (List UInt8)) (j26 : List Int) : Option ((List UInt8) × Int) :=
  (bif (((j26).length : Int) == (0 : Int)) then (even_Parity_J1 a1 a2 a3 (some (even_right_3)) (none : Option (Option (List Int))) (none : Option (Option (List Int)))) else (even_Parity_J1 a1 a2 a3 (none : Option (Option (List Int))) (some (even_right_1 a1)) (some (even_right_2 a1 a0))))
def even_Parity_J7 (s28 : Int) (j30 : List Int) : Option (Ctl ((List Int) × Int) ((List Int))) :=
  some (Ctl.next (j30, (wI (s28 + (1 : Int)))))
def even_Parity_L6 (a1 : Head) (s27 : List Int) (s28 : Int) : Option (Ctl ((List Int) × Int) ((List Int))) :=
  (bif (decide (s28 < ((a1.Dirty).length : Int))) then Option.bind (idx a1.Blocks s28) (fun x31 => (bif (((x31).length : Int) == (0 : Int)) then Option.bind (app s27 ([s28])) (fun x32 => (even_Parity_J7 s28 x32)) else (even_Parity_J7 s28 s27))) else some (Ctl.brk s27))
/-- freeboard/even.Parity -/
def even_Parity (a0 : Config) (a1 : Head) (a2 : Plan) (a3 : List (List UInt8)) : Option ((List UInt8) × Int) :=
  Option.bind (head_Check a0 a1) (fun x1 => (bif (x1 != (0 : Int)) then some (([] : List UInt8), x1) else Option.bind (gO (!(a1.Phase != (0 : UInt8))) (slices_Contains_bool_bool a1.Dirty true)) (fun x2 => (bif ((a1.Phase != (0 : UInt8)) || (!x2)) then some (([] : List UInt8), (6 : Int)) else Option.bind (loopM (fun s : (List Int) × Int => even_Parity_L6 a1 s.1 s.2) FUEL (([] : List Int), (0 : Int))) (fun b33 => (even_Parity_J5 a0 a1 a2 a3 b33))))))
set_option maxRecDepth 100000 in
set_option maxHeartbeats 2000000 in
theorem even_Parity_c (a0 : Config) (a1 : Head) (a2 : Plan) (a3 : List (List UInt8)) {r : (List UInt8) × Int} (hm : even_Parity a0 a1 a2 a3 = some r) : Ctr Try.prog 11 [.rep 0 a0, .rep 0 a1, .rep 0 a2, .rep 0 a3] (.tup2 (.sl 0 none r.1) (.fl r.2)) [] := by
 refine ctr_of_walkM [[76]] 91 Try.func11 rfl rfl rfl rfl (fun w0 om => ?_)
 unfold even_Parity at hm
 refine CWalk.sub (G' := [.fact 0 (.rep [] (a0 : Config)), .fact 1 (.rep [0] (a1 : Head)), .fact 2 (.rep [0] (a2 : Plan)), .fact 3 (.rep [0] (a3 : List (List UInt8)))]) (Sub.cons (Has.fl (Has.s rfl)) (sn (sn (sn Sub.nil)))) ?_
 refine CWalk.seq ?_
 refine CWalk.region ?_
 refine ws (Step.boxObj (ls := [(false, 1, Fact.rep [] a0.Id), (false, 1, Fact.rep [] a0.Members), (false, 1, Fact.rep [] a0.Chunk), (false, 1, Fact.rep [] a0.Rows), (false, 1, Fact.rep [] a0.Log), (false, 1, Fact.rep [] a0.Heads)]) 10 rfl rfl rfl rfl (HasL.flds (Has.cv (Has.s rfl) (Cv.trans (Cv.opens (chConfig a0)) (Cv.flds (CvL.cons Cv.fl (CvL.cons Cv.fl (CvL.cons Cv.fl (CvL.cons Cv.fl (CvL.cons Cv.fl (CvL.cons Cv.fl CvL.nil))))))))))) ?_
 refine ws (Step.boxObj (ls := [(false, 1, Fact.rep [] a1.Stripe), (false, 1, Fact.rep [0] a1.Blocks), (false, 1, Fact.rep [0] a1.Dirty), (false, 1, Fact.rep [] a1.Phase), (false, 1, Fact.rep [] a1.Deals), (false, 1, Fact.rep [] a1.Seq)]) 17 rfl rfl rfl rfl (HasL.flds (Has.cv (Has.s rfl) (Cv.trans (Cv.opens (chHead a1)) (Cv.flds (CvL.cons Cv.fl (CvL.cons Cv.refl (CvL.cons Cv.refl (CvL.cons Cv.fl (CvL.cons Cv.fl (CvL.cons Cv.fl CvL.nil))))))))))) ?_
 refine ws (Step.boxObj (ls := [(false, 1, Fact.rep [] a2.Kind), (false, 1, Fact.rep [0] a2.Reads)]) 24 rfl rfl rfl rfl (HasL.flds (Has.cv (Has.s rfl) (Cv.trans (Cv.opens (chPlan a2)) (Cv.flds (CvL.cons Cv.fl (CvL.cons Cv.refl CvL.nil))))))) ?_
 refine wo (Spec.assign Has.nilv) ?_
 refine wo (Spec.assign Has.int) ?_
 refine Walk.nil ?_
 refine Leaf.thenN ?_
 refine CWalk.seq ?_
 refine CWalk.seq ?_
 refine CWalk.region ?_
 refine wo (Spec.loadObj (ls := [(false, 1, Fact.rep [] a0.Id), (false, 1, Fact.rep [] a0.Members), (false, 1, Fact.rep [] a0.Chunk), (false, 1, Fact.rep [] a0.Rows), (false, 1, Fact.rep [] a0.Log), (false, 1, Fact.rep [] a0.Heads)]) ty24 rfl rfl (Has.s rfl) rfl (HasGs.cons (HasG.s rfl) (HasGs.cons (HasG.s rfl) (HasGs.cons (HasG.s rfl) (HasGs.cons (HasG.s rfl) (HasGs.cons (HasG.s rfl) (HasGs.cons (HasG.s rfl) HasGs.nil))))))) ?_
 refine wo (Spec.loadObj (ls := [(false, 1, Fact.rep [] a1.Stripe), (false, 1, Fact.rep [0] a1.Blocks), (false, 1, Fact.rep [0] a1.Dirty), (false, 1, Fact.rep [] a1.Phase), (false, 1, Fact.rep [] a1.Deals), (false, 1, Fact.rep [] a1.Seq)]) ty28 rfl rfl (Has.s rfl) rfl (HasGs.cons (HasG.s rfl) (HasGs.cons (HasG.s rfl) (HasGs.cons (HasG.s rfl) (HasGs.cons (HasG.s rfl) (HasGs.cons (HasG.s rfl) (HasGs.cons (HasG.s rfl) HasGs.nil))))))) ?_
 obtain ⟨x1, hx1, hm⟩ := bind_some hm
 refine wo (f := Fact.rep [] (x1 : Int)) (Spec.callE [0] 27 rfl en27 (head_Check_c a0 a1 hx1) (HasAll.cons (Has.fl (Has.cv (Has.s rfl) (Cv.trans (Cv.flds (CvL.cons Cv.fl (CvL.cons Cv.fl (CvL.cons Cv.fl (CvL.cons Cv.fl (CvL.cons Cv.fl (CvL.cons Cv.fl CvL.nil))))))) (Cv.close (T := []) (chConfig a0))))) (HasAll.cons (Has.m (Has.cv (Has.s rfl) (Cv.trans (Cv.flds (CvL.cons Cv.fl (CvL.cons (Cv.m rfl) (CvL.cons (Cv.m rfl) (CvL.cons Cv.fl (CvL.cons Cv.fl (CvL.cons Cv.fl CvL.nil))))))) (Cv.close (T := [0]) (chHead a1)))) rfl) HasAll.nil))) ?_
 refine wo (Spec.assign (Has.s rfl)) ?_
 refine Walk.nil ?_
 refine Leaf.thenN ?_
 refine CWalk.seq ?_
 refine CWalk.region ?_
 refine mv ?_
 refine wo (Spec.neqI (Has.s rfl) Has.int) ?_
 refine Walk.nil ?_
 refine Leaf.thenN ?_
 refine CWalk.cond rfl (fun hb => ?_) (fun hb => ?_)
 ·have hm := cond_t hb hm
  refine CWalk.seq ?_
  refine CWalk.region ?_
  refine mv ?_
  refine wo (Spec.assign Has.nilv) ?_
  refine wo (Spec.assign (Has.s rfl)) ?_
  refine Walk.nil ?_
  refine Leaf.thenN ?_
  refine CWalk.ret ?_
  refine Leaf.thenR ?_
  obtain rfl := Option.some.inj hm
  exact Leaf.retM (Leaf.retC2 rfl (HasR.cv (HasR.tmp (Has.s rfl)) (Cv.trans Cv.nilSl (Cv.slF (T := []) (te := []) rfl))) (HasR.cv (HasR.tmp (Has.s rfl)) Cv.fl))
 ·have hm := cond_f hb hm
  refine CWalk.skip ?_
  refine Leaf.thenN ?_
  refine CWalk.seq ?_
  refine CWalk.seq ?_
  refine CWalk.region ?_
  refine wo (Spec.fieldAddrO fd28_3 (Has.cv (Has.s rfl) (Cv.isvP rfl))) ?_
  refine wo (Spec.loadF (i := 3) ty5 rfl (Has.s rfl) rfl (HasG.s rfl)) ?_
  refine wo (Spec.neqB (Has.s rfl) (Has.u8 0 rfl)) ?_
  refine mv ?_
  refine wg rfl rfl (fun hb => Spec.fieldAddrO fd28_2 (Has.cv (Has.s rfl) (Cv.isvP rfl))) ?_
  refine wg rfl rfl (fun hb => Spec.loadF (i := 2) ty26 rfl (Has.u rfl hb) rfl (HasG.s rfl)) ?_
  obtain ⟨x2, hx2, hm⟩ := bind_some hm
  refine wg (f := Fact.rep [] (x2 : Bool)) rfl rfl (fun hb => Spec.callE [0] 28 rfl en28 (slices_Contains_bool_bool_c a1.Dirty true (gO_t hx2 (not_t hb))) (HasAll.cons (Has.m (Has.u rfl hb) rfl) (HasAll.cons (Has.fl Has.bool) HasAll.nil))) ?_
  refine wg rfl rfl (fun hb => Spec.not (Has.u rfl hb)) ?_
  refine wo (Spec.or (Has.s rfl) (fun h => Has.u rfl h)) ?_
  refine Walk.nil ?_
  refine Leaf.thenN ?_
  refine CWalk.cond rfl (fun hb => ?_) (fun hb => ?_)
  ·have hm := cond_t hb hm
   refine CWalk.seq ?_
   refine CWalk.region ?_
   refine wo (Spec.assign Has.nilv) ?_
   refine wo (Spec.assign Has.int) ?_
   refine Walk.nil ?_
   refine Leaf.thenN ?_
   refine CWalk.ret ?_
   refine Leaf.thenR ?_
   obtain rfl := Option.some.inj hm
   exact Leaf.retM (Leaf.retC2 rfl (HasR.cv (HasR.tmp (Has.s rfl)) (Cv.trans Cv.nilSl (Cv.slF (T := []) (te := []) rfl))) (HasR.cv (HasR.tmp (Has.s rfl)) Cv.fl))
  ·have hm := cond_f hb hm
   refine CWalk.skip ?_
   refine Leaf.thenN ?_
   refine CWalk.seq ?_
   refine CWalk.region ?_
   refine wo (Spec.loadObj (ls := [(false, 1, Fact.rep [] a0.Id), (false, 1, Fact.rep [] a0.Members), (false, 1, Fact.rep [] a0.Chunk), (false, 1, Fact.rep [] a0.Rows), (false, 1, Fact.rep [] a0.Log), (false, 1, Fact.rep [] a0.Heads)]) ty24 rfl rfl (Has.s rfl) rfl (HasGs.cons (HasG.s rfl) (HasGs.cons (HasG.s rfl) (HasGs.cons (HasG.s rfl) (HasGs.cons (HasG.s rfl) (HasGs.cons (HasG.s rfl) (HasGs.cons (HasG.s rfl) HasGs.nil))))))) ?_
   refine wo (Spec.loadObj (ls := [(false, 1, Fact.rep [] a1.Stripe), (false, 1, Fact.rep [0] a1.Blocks), (false, 1, Fact.rep [0] a1.Dirty), (false, 1, Fact.rep [] a1.Phase), (false, 1, Fact.rep [] a1.Deals), (false, 1, Fact.rep [] a1.Seq)]) ty28 rfl rfl (Has.s rfl) rfl (HasGs.cons (HasG.s rfl) (HasGs.cons (HasG.s rfl) (HasGs.cons (HasG.s rfl) (HasGs.cons (HasG.s rfl) (HasGs.cons (HasG.s rfl) (HasGs.cons (HasG.s rfl) HasGs.nil))))))) ?_
   refine Walk.inline (S := (Option (Option (List Int))) × (Option (Option (List Int))) × (Option (Option (List Int)))) (fun p : (Option (Option (List Int))) × (Option (Option (List Int))) × (Option (Option (List Int))) => [.fact 3 (.rep [0] (a3 : List (List UInt8))), .fact 5 (.isv 17), .fact 6 (.isv 24), .fact 35 (.flds [(false, 1, Fact.fz Try.prog [] ((none : Option (Option (List Int))) : Option (Option (List Int)))), (false, 1, Fact.fz Try.prog [] (p.1 : Option (Option (List Int)))), (false, 1, Fact.fz Try.prog [0, 36] (p.2.1 : Option (Option (List Int)))), (false, 1, Fact.fz Try.prog [0, 29, 36] (p.2.2 : Option (Option (List Int))))]), .fact 100018 (.at 18 (.rep [] a1.Stripe)), .fact 100019 (.at 19 (.rep [0] a1.Blocks)), .fact 100020 (.at 20 (.rep [0] a1.Dirty)), .fact 100021 (.at 21 (.rep [] a1.Phase)), .fact 100022 (.at 22 (.rep [] a1.Deals)), .fact 100023 (.at 23 (.rep [] a1.Seq)), .fact 100025 (.at 25 (.rep [] a2.Kind)), .fact 100026 (.at 26 (.rep [0] a2.Reads)), .fact 100017 (.obj 17 [(false, 1), (false, 1), (false, 1), (false, 1), (false, 1), (false, 1)]), .fact 100024 (.obj 24 [(false, 1), (false, 1)])]) (fun p : (Option (Option (List Int))) × (Option (Option (List Int))) × (Option (Option (List Int))) => even_Parity_J1 a1 a2 a3 p.1 p.2.1 p.2.2 = some r) (fun u1 => [.fact 100018 (.at 18 (.rep [] a1.Stripe)), .fact 100019 (.at 19 (.rep [0] a1.Blocks)), .fact 100020 (.at 20 (.rep [0] a1.Dirty)), .fact 100021 (.at 21 (.rep [] a1.Phase)), .fact 100022 (.at 22 (.rep [] a1.Deals)), .fact 100023 (.at 23 (.rep [] a1.Seq)), .fact 100025 (.at 25 (.rep [] a2.Kind)), .fact 100026 (.at 26 (.rep [0] a2.Reads)), .fact 902003 (.cst (u1 3) (Fact.rep [0] (a3 : List (List UInt8)))), .fact 902005 (.cst (u1 5) (Fact.isv 17)), .fact 902006 (.cst (u1 6) (Fact.isv 24)), .fact 100017 (.obj 17 [(false, 1), (false, 1), (false, 1), (false, 1), (false, 1), (false, 1)]), .fact 100024 (.obj 24 [(false, 1), (false, 1)])]) (FA := [Fact.flds [(false, 1, Fact.rep [] a0.Id), (false, 1, Fact.rep [] a0.Members), (false, 1, Fact.rep [] a0.Chunk), (false, 1, Fact.rep [] a0.Rows), (false, 1, Fact.rep [] a0.Log), (false, 1, Fact.rep [] a0.Heads)], Fact.flds [(false, 1, Fact.rep [] a1.Stripe), (false, 1, Fact.rep [0] a1.Blocks), (false, 1, Fact.rep [0] a1.Dirty), (false, 1, Fact.rep [] a1.Phase), (false, 1, Fact.rep [] a1.Deals), (false, 1, Fact.rep [] a1.Seq)]]) rfl Try.func29 rfl rfl rfl (CallOk.fn en29 (HasF.cons (Has.s rfl) (HasF.cons (Has.s rfl) HasF.nil))) (fun u1 => (ck (ck (ck (ck (ck (ck (ck (ck (cs 902000 3 (cs 902000 5 (cs 902000 6 (ck (ck Carry.nil)))))))))))))) (fun u1 => ?_) ?_
   ·refine CWalk.seq ?_
    refine CWalk.region ?_
    refine ws (Step.boxObj (ls := [(false, 1, Fact.rep [] a0.Id), (false, 1, Fact.rep [] a0.Members), (false, 1, Fact.rep [] a0.Chunk), (false, 1, Fact.rep [] a0.Rows), (false, 1, Fact.rep [] a0.Log), (false, 1, Fact.rep [] a0.Heads)]) 29 rfl rfl rfl rfl (HasL.flds (Has.s rfl))) ?_
    refine ws (Step.boxObj (ls := [(false, 1, Fact.rep [] a1.Stripe), (false, 1, Fact.rep [0] a1.Blocks), (false, 1, Fact.rep [0] a1.Dirty), (false, 1, Fact.rep [] a1.Phase), (false, 1, Fact.rep [] a1.Deals), (false, 1, Fact.rep [] a1.Seq)]) 36 rfl rfl rfl rfl (HasL.flds (Has.s rfl))) ?_
    refine ws (Step.allocObj (ls := [(false, 1, Fact.fz Try.prog [] ((none : Option (Option (List Int))) : Option (Option (List Int)))), (false, 1, Fact.fz Try.prog [] ((none : Option (Option (List Int))) : Option (Option (List Int)))), (false, 1, Fact.fz Try.prog [] ((none : Option (Option (List Int))) : Option (Option (List Int)))), (false, 1, Fact.fz Try.prog [] ((none : Option (Option (List Int))) : Option (Option (List Int))))]) 43 rfl rfl rfl rfl zl63) ?_
    refine Walk.nil ?_
    refine Leaf.thenN ?_
    refine CWalk.seq ?_
    refine CWalk.region ?_
    refine wo (Spec.makeFunc (xs := []) (ys := [.tmp 3]) rfl rfl HasF.nil (HasF.cons (Has.s rfl) HasF.nil) (fun _ _ _ => rfl)) ?_
    refine wo (Spec.assign (Has.s rfl)) ?_
    refine Walk.nil ?_
    refine Leaf.thenN ?_
    refine CWalk.seq ?_
    refine CWalk.region ?_
    refine wo (Spec.makeFunc (xs := []) (ys := [.tmp 3, .tmp 2]) rfl rfl HasF.nil (HasF.cons (Has.s rfl) (HasF.cons (Has.s rfl) HasF.nil)) (fun _ _ _ => rfl)) ?_
    refine wo (Spec.assign (Has.s rfl)) ?_
    refine Walk.nil ?_
    refine Leaf.thenN ?_
    refine CWalk.seq ?_
    refine CWalk.region ?_
    refine wo (Spec.assign Has.func) ?_
    refine Walk.nil ?_
    refine Leaf.thenN ?_
    refine CWalk.seq ?_
    refine CWalk.seq ?_
    refine CWalk.region ?_
    refine mv ?_
    refine Walk.inline (S := (List Int)) (fun p : (List Int) => [.fact 4 (.isv 43), .fact 5 (.fnv 53 [] [Fact.isv 36]), .fact 6 (.fnv 54 [] [Fact.isv 36, Fact.isv 29]), .fact 7 (.fnv 55 [] []), .fact 11 (.ow [49] [] 3 (p : List Int)), .fact 902003 (.cst (u1 3) (Fact.rep [0] (a3 : List (List UInt8)))), .fact 902005 (.cst (u1 5) (Fact.isv 17)), .fact 902006 (.cst (u1 6) (Fact.isv 24)), .fact 100044 (.at 44 (.fz Try.prog [] ((none : Option (Option (List Int))) : Option (Option (List Int))))), .fact 100045 (.at 45 (.fz Try.prog [] ((none : Option (Option (List Int))) : Option (Option (List Int))))), .fact 100046 (.at 46 (.fz Try.prog [] ((none : Option (Option (List Int))) : Option (Option (List Int))))), .fact 100047 (.at 47 (.fz Try.prog [] ((none : Option (Option (List Int))) : Option (Option (List Int))))), .fact 100037 (.at 37 (.rep [] a1.Stripe)), .fact 100038 (.at 38 (.rep [0] a1.Blocks)), .fact 100039 (.at 39 (.rep [0] a1.Dirty)), .fact 100040 (.at 40 (.rep [] a1.Phase)), .fact 100041 (.at 41 (.rep [] a1.Deals)), .fact 100042 (.at 42 (.rep [] a1.Seq)), .fact 100030 (.at 30 (.rep [] a0.Id)), .fact 100031 (.at 31 (.rep [] a0.Members)), .fact 100032 (.at 32 (.rep [] a0.Chunk)), .fact 100033 (.at 33 (.rep [] a0.Rows)), .fact 100034 (.at 34 (.rep [] a0.Log)), .fact 100035 (.at 35 (.rep [] a0.Heads)), .fact 100018 (.at 18 (.rep [] a1.Stripe)), .fact 100019 (.at 19 (.rep [0] a1.Blocks)), .fact 100020 (.at 20 (.rep [0] a1.Dirty)), .fact 100021 (.at 21 (.rep [] a1.Phase)), .fact 100022 (.at 22 (.rep [] a1.Deals)), .fact 100023 (.at 23 (.rep [] a1.Seq)), .fact 100025 (.at 25 (.rep [] a2.Kind)), .fact 100026 (.at 26 (.rep [0] a2.Reads)), .fact 100043 (.obj 43 [(false, 1), (false, 1), (false, 1), (false, 1)]), .fact 100036 (.obj 36 [(false, 1), (false, 1), (false, 1), (false, 1), (false, 1), (false, 1)]), .fact 100029 (.obj 29 [(false, 1), (false, 1), (false, 1), (false, 1), (false, 1), (false, 1)]), .fact 100017 (.obj 17 [(false, 1), (false, 1), (false, 1), (false, 1), (false, 1), (false, 1)]), .fact 100024 (.obj 24 [(false, 1), (false, 1)])]) (fun p : (List Int) => even_Parity_J5 a0 a1 a2 a3 p = some r) (fun u2 => [.fact 100018 (.at 18 (.rep [] a1.Stripe)), .fact 100019 (.at 19 (.rep [0] a1.Blocks)), .fact 100020 (.at 20 (.rep [0] a1.Dirty)), .fact 100021 (.at 21 (.rep [] a1.Phase)), .fact 100022 (.at 22 (.rep [] a1.Deals)), .fact 100023 (.at 23 (.rep [] a1.Seq)), .fact 100025 (.at 25 (.rep [] a2.Kind)), .fact 100026 (.at 26 (.rep [0] a2.Reads)), .fact 100030 (.at 30 (.rep [] a0.Id)), .fact 100031 (.at 31 (.rep [] a0.Members)), .fact 100032 (.at 32 (.rep [] a0.Chunk)), .fact 100033 (.at 33 (.rep [] a0.Rows)), .fact 100034 (.at 34 (.rep [] a0.Log)), .fact 100035 (.at 35 (.rep [] a0.Heads)), .fact 100037 (.at 37 (.rep [] a1.Stripe)), .fact 100038 (.at 38 (.rep [0] a1.Blocks)), .fact 100039 (.at 39 (.rep [0] a1.Dirty)), .fact 100040 (.at 40 (.rep [] a1.Phase)), .fact 100041 (.at 41 (.rep [] a1.Deals)), .fact 100042 (.at 42 (.rep [] a1.Seq)), .fact 100044 (.at 44 (.fz Try.prog [] ((none : Option (Option (List Int))) : Option (Option (List Int))))), .fact 100045 (.at 45 (.fz Try.prog [] ((none : Option (Option (List Int))) : Option (Option (List Int))))), .fact 100046 (.at 46 (.fz Try.prog [] ((none : Option (Option (List Int))) : Option (Option (List Int))))), .fact 100047 (.at 47 (.fz Try.prog [] ((none : Option (Option (List Int))) : Option (Option (List Int))))), .fact 902003 (.cst (u1 3) (Fact.rep [0] (a3 : List (List UInt8)))), .fact 902005 (.cst (u1 5) (Fact.isv 17)), .fact 902006 (.cst (u1 6) (Fact.isv 24)), .fact 904004 (.cst (u2 4) (Fact.isv 43)), .fact 904005 (.cst (u2 5) (Fact.fnv 53 [] [Fact.isv 36])), .fact 904006 (.cst (u2 6) (Fact.fnv 54 [] [Fact.isv 36, Fact.isv 29])), .fact 904007 (.cst (u2 7) (Fact.fnv 55 [] [])), .fact 100017 (.obj 17 [(false, 1), (false, 1), (false, 1), (false, 1), (false, 1), (false, 1)]), .fact 100024 (.obj 24 [(false, 1), (false, 1)]), .fact 100029 (.obj 29 [(false, 1), (false, 1), (false, 1), (false, 1), (false, 1), (false, 1)]), .fact 100036 (.obj 36 [(false, 1), (false, 1), (false, 1), (false, 1), (false, 1), (false, 1)]), .fact 100043 (.obj 43 [(false, 1), (false, 1), (false, 1), (false, 1)])]) (FA := [Fact.isv 36]) rfl Try.func53 rfl rfl rfl (CallOk.valE en53 (Has.s rfl) HasF.nil) (fun u2 => (ck (ck (ck (ck (ck (ck (ck (ck (ck (ck (ck (ck (ck (ck (ck (ck (ck (ck (ck (ck (ck (ck (ck (ck (ck (ck (ck (cs 904000 4 (cs 904000 5 (cs 904000 6 (cs 904000 7 (ck (ck (ck (ck (ck Carry.nil))))))))))))))))))))))))))))))))))))) (fun u2 => ?_) ?_
    ·refine CWalk.seq ?_
     refine CWalk.region ?_
     refine wo (Spec.assign Has.nilv) ?_
     refine Walk.nil ?_
     refine Leaf.thenN ?_
     refine CWalk.seq ?_
     refine CWalk.seq ?_
     refine CWalk.region ?_
     refine wo (Spec.fieldAddrO fd28_2 (Has.cv (Has.s rfl) (Cv.isvP rfl))) ?_
     refine wo (Spec.loadF (i := 2) ty26 rfl (Has.s rfl) rfl (HasG.s rfl)) ?_
     refine wo (Spec.len (Has.s rfl) Try.underlying26) ?_
     refine wo (Spec.move Has.int) ?_
     refine Walk.nil ?_
     refine Leaf.thenN ?_
     refine CWalk.block ?_
     obtain ⟨b33, hb33, hm⟩ := bind_some hm
     refine CWalk.loop (fun s : (List Int) × Int => [.fact 0 (.isv 36), .fact 1 (.ow [49] [] 3 (s.1 : List Int)), .fact 5 (.rep [] (((a1.Dirty).length : Int) : Int)), .fact 6 (.rep [] s.2), .fact 902003 (.cst (u1 3) (Fact.rep [0] (a3 : List (List UInt8)))), .fact 902005 (.cst (u1 5) (Fact.isv 17)), .fact 902006 (.cst (u1 6) (Fact.isv 24)), .fact 904004 (.cst (u2 4) (Fact.isv 43)), .fact 904005 (.cst (u2 5) (Fact.fnv 53 [] [Fact.isv 36])), .fact 904006 (.cst (u2 6) (Fact.fnv 54 [] [Fact.isv 36, Fact.isv 29])), .fact 904007 (.cst (u2 7) (Fact.fnv 55 [] [])), .fact 100037 (.at 37 (.rep [] a1.Stripe)), .fact 100038 (.at 38 (.rep [0] a1.Blocks)), .fact 100039 (.at 39 (.rep [0] a1.Dirty)), .fact 100040 (.at 40 (.rep [] a1.Phase)), .fact 100041 (.at 41 (.rep [] a1.Deals)), .fact 100042 (.at 42 (.rep [] a1.Seq)), .fact 100018 (.at 18 (.rep [] a1.Stripe)), .fact 100019 (.at 19 (.rep [0] a1.Blocks)), .fact 100020 (.at 20 (.rep [0] a1.Dirty)), .fact 100021 (.at 21 (.rep [] a1.Phase)), .fact 100022 (.at 22 (.rep [] a1.Deals)), .fact 100023 (.at 23 (.rep [] a1.Seq)), .fact 100025 (.at 25 (.rep [] a2.Kind)), .fact 100026 (.at 26 (.rep [0] a2.Reads)), .fact 100044 (.at 44 (.fz Try.prog [] ((none : Option (Option (List Int))) : Option (Option (List Int))))), .fact 100045 (.at 45 (.fz Try.prog [] ((none : Option (Option (List Int))) : Option (Option (List Int))))), .fact 100046 (.at 46 (.fz Try.prog [] ((none : Option (Option (List Int))) : Option (Option (List Int))))), .fact 100047 (.at 47 (.fz Try.prog [] ((none : Option (Option (List Int))) : Option (Option (List Int))))), .fact 100030 (.at 30 (.rep [] a0.Id)), .fact 100031 (.at 31 (.rep [] a0.Members)), .fact 100032 (.at 32 (.rep [] a0.Chunk)), .fact 100033 (.at 33 (.rep [] a0.Rows)), .fact 100034 (.at 34 (.rep [] a0.Log)), .fact 100035 (.at 35 (.rep [] a0.Heads)), .fact 100036 (.obj 36 [(false, 1), (false, 1), (false, 1), (false, 1), (false, 1), (false, 1)]), .fact 100017 (.obj 17 [(false, 1), (false, 1), (false, 1), (false, 1), (false, 1), (false, 1)]), .fact 100024 (.obj 24 [(false, 1), (false, 1)]), .fact 100043 (.obj 43 [(false, 1), (false, 1), (false, 1), (false, 1)]), .fact 100029 (.obj 29 [(false, 1), (false, 1), (false, 1), (false, 1), (false, 1), (false, 1)])]) (fun b : (List Int) => (Exit.exit 0, [.fact 1 (.ow [49] [] 3 (b : List Int)), .fact 902003 (.cst (u1 3) (Fact.rep [0] (a3 : List (List UInt8)))), .fact 902005 (.cst (u1 5) (Fact.isv 17)), .fact 902006 (.cst (u1 6) (Fact.isv 24)), .fact 904004 (.cst (u2 4) (Fact.isv 43)), .fact 904005 (.cst (u2 5) (Fact.fnv 53 [] [Fact.isv 36])), .fact 904006 (.cst (u2 6) (Fact.fnv 54 [] [Fact.isv 36, Fact.isv 29])), .fact 904007 (.cst (u2 7) (Fact.fnv 55 [] [])), .fact 100018 (.at 18 (.rep [] a1.Stripe)), .fact 100019 (.at 19 (.rep [0] a1.Blocks)), .fact 100020 (.at 20 (.rep [0] a1.Dirty)), .fact 100021 (.at 21 (.rep [] a1.Phase)), .fact 100022 (.at 22 (.rep [] a1.Deals)), .fact 100023 (.at 23 (.rep [] a1.Seq)), .fact 100025 (.at 25 (.rep [] a2.Kind)), .fact 100026 (.at 26 (.rep [0] a2.Reads)), .fact 100044 (.at 44 (.fz Try.prog [] ((none : Option (Option (List Int))) : Option (Option (List Int))))), .fact 100045 (.at 45 (.fz Try.prog [] ((none : Option (Option (List Int))) : Option (Option (List Int))))), .fact 100046 (.at 46 (.fz Try.prog [] ((none : Option (Option (List Int))) : Option (Option (List Int))))), .fact 100047 (.at 47 (.fz Try.prog [] ((none : Option (Option (List Int))) : Option (Option (List Int))))), .fact 100037 (.at 37 (.rep [] a1.Stripe)), .fact 100038 (.at 38 (.rep [0] a1.Blocks)), .fact 100039 (.at 39 (.rep [0] a1.Dirty)), .fact 100040 (.at 40 (.rep [] a1.Phase)), .fact 100041 (.at 41 (.rep [] a1.Deals)), .fact 100042 (.at 42 (.rep [] a1.Seq)), .fact 100030 (.at 30 (.rep [] a0.Id)), .fact 100031 (.at 31 (.rep [] a0.Members)), .fact 100032 (.at 32 (.rep [] a0.Chunk)), .fact 100033 (.at 33 (.rep [] a0.Rows)), .fact 100034 (.at 34 (.rep [] a0.Log)), .fact 100035 (.at 35 (.rep [] a0.Heads)), .fact 100017 (.obj 17 [(false, 1), (false, 1), (false, 1), (false, 1), (false, 1), (false, 1)]), .fact 100024 (.obj 24 [(false, 1), (false, 1)]), .fact 100043 (.obj 43 [(false, 1), (false, 1), (false, 1), (false, 1)]), .fact 100036 (.obj 36 [(false, 1), (false, 1), (false, 1), (false, 1), (false, 1), (false, 1)]), .fact 100029 (.obj 29 [(false, 1), (false, 1), (false, 1), (false, 1), (false, 1), (false, 1)])])) hb33 (sn (Sub.cons (Has.cv (Has.s rfl) (Cv.trans Cv.nilOw (Cv.owF (T := []) (te := []) rfl))) (st (st (Sub.cons (Has.cst (HasC.cv (HasC.s (s := 902003) rfl) (Cv.m rfl))) (sc (sc (sc (sc (sc (sc (sf (sm (sm (sf (sf (sf (sf (sm (sm (sf (sf (sf (sf (sm (Sub.cons (Has.at (HasG.cv (HasG.s rfl) (Cv.fzM rfl))) (Sub.cons (Has.at (HasG.cv (HasG.s rfl) (Cv.fzM rfl))) (Sub.cons (Has.at (HasG.cv (HasG.s rfl) (Cv.fzM rfl))) (Sub.cons (Has.at (HasG.cv (HasG.s rfl) (Cv.fzM rfl))) (sf (sf (sf (sf (sf (sf (sn (sn (sn (sn (sn Sub.nil)))))))))))))))))))))))))))))))))))))))) ?_ ?_
     ·rintro ⟨s27, s28⟩ c29 hm
      replace hm : even_Parity_L6 a1 s27 s28 = some c29 := hm
      unfold even_Parity_L6 at hm
      show CWalk _ [.fact 0 (.isv 36), .fact 1 (.ow [49] [] 3 (s27 : List Int)), .fact 5 (.rep [] (((a1.Dirty).length : Int) : Int)), .fact 6 (.rep [] (s28 : Int)), .fact 902003 (.cst (u1 3) (Fact.rep [0] (a3 : List (List UInt8)))), .fact 902005 (.cst (u1 5) (Fact.isv 17)), .fact 902006 (.cst (u1 6) (Fact.isv 24)), .fact 904004 (.cst (u2 4) (Fact.isv 43)), .fact 904005 (.cst (u2 5) (Fact.fnv 53 [] [Fact.isv 36])), .fact 904006 (.cst (u2 6) (Fact.fnv 54 [] [Fact.isv 36, Fact.isv 29])), .fact 904007 (.cst (u2 7) (Fact.fnv 55 [] [])), .fact 100037 (.at 37 (.rep [] a1.Stripe)), .fact 100038 (.at 38 (.rep [0] a1.Blocks)), .fact 100039 (.at 39 (.rep [0] a1.Dirty)), .fact 100040 (.at 40 (.rep [] a1.Phase)), .fact 100041 (.at 41 (.rep [] a1.Deals)), .fact 100042 (.at 42 (.rep [] a1.Seq)), .fact 100018 (.at 18 (.rep [] a1.Stripe)), .fact 100019 (.at 19 (.rep [0] a1.Blocks)), .fact 100020 (.at 20 (.rep [0] a1.Dirty)), .fact 100021 (.at 21 (.rep [] a1.Phase)), .fact 100022 (.at 22 (.rep [] a1.Deals)), .fact 100023 (.at 23 (.rep [] a1.Seq)), .fact 100025 (.at 25 (.rep [] a2.Kind)), .fact 100026 (.at 26 (.rep [0] a2.Reads)), .fact 100044 (.at 44 (.fz Try.prog [] ((none : Option (Option (List Int))) : Option (Option (List Int))))), .fact 100045 (.at 45 (.fz Try.prog [] ((none : Option (Option (List Int))) : Option (Option (List Int))))), .fact 100046 (.at 46 (.fz Try.prog [] ((none : Option (Option (List Int))) : Option (Option (List Int))))), .fact 100047 (.at 47 (.fz Try.prog [] ((none : Option (Option (List Int))) : Option (Option (List Int))))), .fact 100030 (.at 30 (.rep [] a0.Id)), .fact 100031 (.at 31 (.rep [] a0.Members)), .fact 100032 (.at 32 (.rep [] a0.Chunk)), .fact 100033 (.at 33 (.rep [] a0.Rows)), .fact 100034 (.at 34 (.rep [] a0.Log)), .fact 100035 (.at 35 (.rep [] a0.Heads)), .fact 100036 (.obj 36 [(false, 1), (false, 1), (false, 1), (false, 1), (false, 1), (false, 1)]), .fact 100017 (.obj 17 [(false, 1), (false, 1), (false, 1), (false, 1), (false, 1), (false, 1)]), .fact 100024 (.obj 24 [(false, 1), (false, 1)]), .fact 100043 (.obj 43 [(false, 1), (false, 1), (false, 1), (false, 1)]), .fact 100029 (.obj 29 [(false, 1), (false, 1), (false, 1), (false, 1), (false, 1), (false, 1)])] _ _
      refine CWalk.seq ?_
      refine CWalk.region ?_
      refine wo (Spec.lssI (Has.s rfl) (Has.s rfl)) ?_
      refine Walk.nil ?_
      refine Leaf.thenN ?_
      refine CWalk.seq ?_
      refine CWalk.cond rfl (fun hb => ?_) (fun hb => ?_)
      ·have hm := cond_t hb hm
       refine CWalk.skip ?_
       refine Leaf.thenN ?_
       refine CWalk.seqJ (fun p : (List Int) => [.fact 0 (.isv 36), .fact 1 (.ow [49] [] 3 (p : List Int)), .fact 5 (.rep [] (((a1.Dirty).length : Int) : Int)), .fact 6 (.rep [] (s28 : Int)), .fact 902003 (.cst (u1 3) (Fact.rep [0] (a3 : List (List UInt8)))), .fact 902005 (.cst (u1 5) (Fact.isv 17)), .fact 902006 (.cst (u1 6) (Fact.isv 24)), .fact 904004 (.cst (u2 4) (Fact.isv 43)), .fact 904005 (.cst (u2 5) (Fact.fnv 53 [] [Fact.isv 36])), .fact 904006 (.cst (u2 6) (Fact.fnv 54 [] [Fact.isv 36, Fact.isv 29])), .fact 904007 (.cst (u2 7) (Fact.fnv 55 [] [])), .fact 100037 (.at 37 (.rep [] a1.Stripe)), .fact 100038 (.at 38 (.rep [0] a1.Blocks)), .fact 100039 (.at 39 (.rep [0] a1.Dirty)), .fact 100040 (.at 40 (.rep [] a1.Phase)), .fact 100041 (.at 41 (.rep [] a1.Deals)), .fact 100042 (.at 42 (.rep [] a1.Seq)), .fact 100018 (.at 18 (.rep [] a1.Stripe)), .fact 100019 (.at 19 (.rep [0] a1.Blocks)), .fact 100020 (.at 20 (.rep [0] a1.Dirty)), .fact 100021 (.at 21 (.rep [] a1.Phase)), .fact 100022 (.at 22 (.rep [] a1.Deals)), .fact 100023 (.at 23 (.rep [] a1.Seq)), .fact 100025 (.at 25 (.rep [] a2.Kind)), .fact 100026 (.at 26 (.rep [0] a2.Reads)), .fact 100044 (.at 44 (.fz Try.prog [] ((none : Option (Option (List Int))) : Option (Option (List Int))))), .fact 100045 (.at 45 (.fz Try.prog [] ((none : Option (Option (List Int))) : Option (Option (List Int))))), .fact 100046 (.at 46 (.fz Try.prog [] ((none : Option (Option (List Int))) : Option (Option (List Int))))), .fact 100047 (.at 47 (.fz Try.prog [] ((none : Option (Option (List Int))) : Option (Option (List Int))))), .fact 100030 (.at 30 (.rep [] a0.Id)), .fact 100031 (.at 31 (.rep [] a0.Members)), .fact 100032 (.at 32 (.rep [] a0.Chunk)), .fact 100033 (.at 33 (.rep [] a0.Rows)), .fact 100034 (.at 34 (.rep [] a0.Log)), .fact 100035 (.at 35 (.rep [] a0.Heads)), .fact 100036 (.obj 36 [(false, 1), (false, 1), (false, 1), (false, 1), (false, 1), (false, 1)]), .fact 100017 (.obj 17 [(false, 1), (false, 1), (false, 1), (false, 1), (false, 1), (false, 1)]), .fact 100024 (.obj 24 [(false, 1), (false, 1)]), .fact 100043 (.obj 43 [(false, 1), (false, 1), (false, 1), (false, 1)]), .fact 100029 (.obj 29 [(false, 1), (false, 1), (false, 1), (false, 1), (false, 1), (false, 1)])]) (fun p : (List Int) => even_Parity_J7 s28 p = some c29) ?_ ?_
       ·rintro j30 hm
        replace hm : even_Parity_J7 s28 j30 = some c29 := hm
        unfold even_Parity_J7 at hm
        show CWalk _ [.fact 0 (.isv 36), .fact 1 (.ow [49] [] 3 (j30 : List Int)), .fact 5 (.rep [] (((a1.Dirty).length : Int) : Int)), .fact 6 (.rep [] (s28 : Int)), .fact 902003 (.cst (u1 3) (Fact.rep [0] (a3 : List (List UInt8)))), .fact 902005 (.cst (u1 5) (Fact.isv 17)), .fact 902006 (.cst (u1 6) (Fact.isv 24)), .fact 904004 (.cst (u2 4) (Fact.isv 43)), .fact 904005 (.cst (u2 5) (Fact.fnv 53 [] [Fact.isv 36])), .fact 904006 (.cst (u2 6) (Fact.fnv 54 [] [Fact.isv 36, Fact.isv 29])), .fact 904007 (.cst (u2 7) (Fact.fnv 55 [] [])), .fact 100037 (.at 37 (.rep [] a1.Stripe)), .fact 100038 (.at 38 (.rep [0] a1.Blocks)), .fact 100039 (.at 39 (.rep [0] a1.Dirty)), .fact 100040 (.at 40 (.rep [] a1.Phase)), .fact 100041 (.at 41 (.rep [] a1.Deals)), .fact 100042 (.at 42 (.rep [] a1.Seq)), .fact 100018 (.at 18 (.rep [] a1.Stripe)), .fact 100019 (.at 19 (.rep [0] a1.Blocks)), .fact 100020 (.at 20 (.rep [0] a1.Dirty)), .fact 100021 (.at 21 (.rep [] a1.Phase)), .fact 100022 (.at 22 (.rep [] a1.Deals)), .fact 100023 (.at 23 (.rep [] a1.Seq)), .fact 100025 (.at 25 (.rep [] a2.Kind)), .fact 100026 (.at 26 (.rep [0] a2.Reads)), .fact 100044 (.at 44 (.fz Try.prog [] ((none : Option (Option (List Int))) : Option (Option (List Int))))), .fact 100045 (.at 45 (.fz Try.prog [] ((none : Option (Option (List Int))) : Option (Option (List Int))))), .fact 100046 (.at 46 (.fz Try.prog [] ((none : Option (Option (List Int))) : Option (Option (List Int))))), .fact 100047 (.at 47 (.fz Try.prog [] ((none : Option (Option (List Int))) : Option (Option (List Int))))), .fact 100030 (.at 30 (.rep [] a0.Id)), .fact 100031 (.at 31 (.rep [] a0.Members)), .fact 100032 (.at 32 (.rep [] a0.Chunk)), .fact 100033 (.at 33 (.rep [] a0.Rows)), .fact 100034 (.at 34 (.rep [] a0.Log)), .fact 100035 (.at 35 (.rep [] a0.Heads)), .fact 100036 (.obj 36 [(false, 1), (false, 1), (false, 1), (false, 1), (false, 1), (false, 1)]), .fact 100017 (.obj 17 [(false, 1), (false, 1), (false, 1), (false, 1), (false, 1), (false, 1)]), .fact 100024 (.obj 24 [(false, 1), (false, 1)]), .fact 100043 (.obj 43 [(false, 1), (false, 1), (false, 1), (false, 1)]), .fact 100029 (.obj 29 [(false, 1), (false, 1), (false, 1), (false, 1), (false, 1), (false, 1)])] _ _
        refine CWalk.region ?_
        refine wo (Spec.addI (Has.s rfl) Has.int) ?_
        refine mv ?_
        refine Walk.nil ?_
        exact Leaf.next hm (sn (Sub.cons (Has.cv (Has.s rfl) (Cv.owF (T := [49]) (te := []) rfl)) (st (st (Sub.cons (Has.cst (HasC.cv (HasC.s (s := 902003) rfl) (Cv.m rfl))) (sc (sc (sc (sc (sc (sc (sf (sm (sm (sf (sf (sf (sf (sm (sm (sf (sf (sf (sf (sm (Sub.cons (Has.at (HasG.cv (HasG.s rfl) (Cv.fzM rfl))) (Sub.cons (Has.at (HasG.cv (HasG.s rfl) (Cv.fzM rfl))) (Sub.cons (Has.at (HasG.cv (HasG.s rfl) (Cv.fzM rfl))) (Sub.cons (Has.at (HasG.cv (HasG.s rfl) (Cv.fzM rfl))) (sf (sf (sf (sf (sf (sf (sn (sn (sn (sn (sn Sub.nil))))))))))))))))))))))))))))))))))))))))
       ·refine CWalk.block ?_
        refine CWalk.seq ?_
        refine CWalk.region ?_
        refine mv ?_
        refine wo (Spec.assign (Has.s rfl)) ?_
        refine Walk.nil ?_
        refine Leaf.thenN ?_
        refine CWalk.seq ?_
        refine CWalk.region ?_
        refine wo (Spec.fieldAddrO fd28_1 (Has.cv (Has.s rfl) (Cv.isvP rfl))) ?_
        refine wo (Spec.loadF (i := 1) ty25 rfl (Has.s rfl) rfl (HasG.s rfl)) ?_
        refine mv ?_
        obtain ⟨x31, hx31, hm⟩ := bind_some hm
        refine wo (Spec.indexAddr hx31 sl25 (Has.s rfl) (Has.s rfl)) ?_
        refine wo (Spec.load ty36 (Has.s rfl)) ?_
        refine wo (Spec.len (Has.s rfl) Try.underlying36) ?_
        refine wo (Spec.eqlI (Has.s rfl) Has.int) ?_
        refine Walk.nil ?_
        refine Leaf.thenN ?_
        refine CWalk.cond rfl (fun hb => ?_) (fun hb => ?_)
        ·have hm := cond_t hb hm
         refine CWalk.region ?_
         refine mv ?_
         refine mv ?_
         refine wo (Spec.lit (xs := [.tmp 17]) (T := []) 48 rfl ow29 rfl rfl rfl rfl (HasEach.cons (Has.fl (Has.s rfl)) HasEach.nil)) ?_
         obtain ⟨x32, hx32, hm⟩ := bind_some hm
         refine ws (Step.appendOw (T := [49]) (te' := []) hx32 rfl rfl rfl ow29 (Has.s rfl) (Has.s rfl) ElKeeps.flat ElKeeps.flat) ?_
         refine wo (Spec.assign (Has.s rfl)) ?_
         refine Walk.nil ?_
         refine Leaf.blockN ?_
         exact Leaf.join x32 hm (sn (Sub.cons (Has.cv (Has.s rfl) (Cv.owF (T := [49]) (te := []) rfl)) (st (st (Sub.cons (Has.cst (HasC.cv (HasC.s (s := 902003) rfl) (Cv.m rfl))) (sc (sc (sc (sc (sc (sc (sf (sm (sm (sf (sf (sf (sf (sm (sm (sf (sf (sf (sf (sm (Sub.cons (Has.at (HasG.cv (HasG.s rfl) (Cv.fzM rfl))) (Sub.cons (Has.at (HasG.cv (HasG.s rfl) (Cv.fzM rfl))) (Sub.cons (Has.at (HasG.cv (HasG.s rfl) (Cv.fzM rfl))) (Sub.cons (Has.at (HasG.cv (HasG.s rfl) (Cv.fzM rfl))) (sf (sf (sf (sf (sf (sf (sn (sn (sn (sn (sn Sub.nil))))))))))))))))))))))))))))))))))))))))
        ·have hm := cond_f hb hm
         refine CWalk.skip ?_
         refine Leaf.blockN ?_
         exact Leaf.join s27 hm (sn (Sub.cons (Has.cv (Has.s rfl) (Cv.owF (T := [49]) (te := []) rfl)) (st (st (Sub.cons (Has.cst (HasC.cv (HasC.s (s := 902003) rfl) (Cv.m rfl))) (sc (sc (sc (sc (sc (sc (sf (sm (sm (sf (sf (sf (sf (sm (sm (sf (sf (sf (sf (sm (Sub.cons (Has.at (HasG.cv (HasG.s rfl) (Cv.fzM rfl))) (Sub.cons (Has.at (HasG.cv (HasG.s rfl) (Cv.fzM rfl))) (Sub.cons (Has.at (HasG.cv (HasG.s rfl) (Cv.fzM rfl))) (Sub.cons (Has.at (HasG.cv (HasG.s rfl) (Cv.fzM rfl))) (sf (sf (sf (sf (sf (sf (sn (sn (sn (sn (sn Sub.nil))))))))))))))))))))))))))))))))))))))))
      ·have hm := cond_f hb hm
       refine CWalk.exit ?_
       refine Leaf.thenE ?_
       exact Leaf.brk hm (fun h => nomatch h) rfl (Sub.cons (Has.cv (Has.s rfl) (Cv.owF (T := [49]) (te := []) rfl)) (Sub.cons (Has.cst (HasC.cv (HasC.s (s := 902003) rfl) (Cv.m rfl))) (sc (sc (sc (sc (sc (sc (sf (sm (sm (sf (sf (sf (sf (sm (Sub.cons (Has.at (HasG.cv (HasG.s rfl) (Cv.fzM rfl))) (Sub.cons (Has.at (HasG.cv (HasG.s rfl) (Cv.fzM rfl))) (Sub.cons (Has.at (HasG.cv (HasG.s rfl) (Cv.fzM rfl))) (Sub.cons (Has.at (HasG.cv (HasG.s rfl) (Cv.fzM rfl))) (sf (sm (sm (sf (sf (sf (sf (sf (sf (sf (sf (sf (sn (sn (sn (sn (sn Sub.nil)))))))))))))))))))))))))))))))))))))
     ·intro _
      refine Leaf.blockE ?_
      refine Leaf.thenN ?_
      refine CWalk.ret ?_
      exact Leaf.in1 b33 hm rfl rfl (HasR.cv (HasR.tmp (Has.s rfl)) (Cv.owF (T := [49]) (te := []) rfl)) (ls 904004 (ls 904005 (ls 904006 (ls 904007 (Low.res (Low.keepC (HasC.cv (HasC.s (s := 902003) rfl) (Cv.m rfl)) (lc (lc (Low.keepG (HasG.cv (HasG.s rfl) (Cv.fzM rfl)) (Low.keepG (HasG.cv (HasG.s rfl) (Cv.fzM rfl)) (Low.keepG (HasG.cv (HasG.s rfl) (Cv.fzM rfl)) (Low.keepG (HasG.cv (HasG.s rfl) (Cv.fzM rfl)) (lf (lm (lm (lf (lf (lf (lf (lf (lf (lf (lf (lf (lf (lm (lm (lf (lf (lf (lf (lm (lo (lo (lo (lo (lo Low.nil)))))))))))))))))))))))))))))))))))))
    ·rintro j26 hm
     replace hm : even_Parity_J5 a0 a1 a2 a3 j26 = some r := hm
     unfold even_Parity_J5 at hm
     show Walk _ _ _ [.fact 4 (.isv 43), .fact 5 (.fnv 53 [] [Fact.isv 36]), .fact 6 (.fnv 54 [] [Fact.isv 36, Fact.isv 29]), .fact 7 (.fnv 55 [] []), .fact 11 (.ow [49] [] 3 (j26 : List Int)), .fact 902003 (.cst (u1 3) (Fact.rep [0] (a3 : List (List UInt8)))), .fact 902005 (.cst (u1 5) (Fact.isv 17)), .fact 902006 (.cst (u1 6) (Fact.isv 24)), .fact 100044 (.at 44 (.fz Try.prog [] ((none : Option (Option (List Int))) : Option (Option (List Int))))), .fact 100045 (.at 45 (.fz Try.prog [] ((none : Option (Option (List Int))) : Option (Option (List Int))))), .fact 100046 (.at 46 (.fz Try.prog [] ((none : Option (Option (List Int))) : Option (Option (List Int))))), .fact 100047 (.at 47 (.fz Try.prog [] ((none : Option (Option (List Int))) : Option (Option (List Int))))), .fact 100037 (.at 37 (.rep [] a1.Stripe)), .fact 100038 (.at 38 (.rep [0] a1.Blocks)), .fact 100039 (.at 39 (.rep [0] a1.Dirty)), .fact 100040 (.at 40 (.rep [] a1.Phase)), .fact 100041 (.at 41 (.rep [] a1.Deals)), .fact 100042 (.at 42 (.rep [] a1.Seq)), .fact 100030 (.at 30 (.rep [] a0.Id)), .fact 100031 (.at 31 (.rep [] a0.Members)), .fact 100032 (.at 32 (.rep [] a0.Chunk)), .fact 100033 (.at 33 (.rep [] a0.Rows)), .fact 100034 (.at 34 (.rep [] a0.Log)), .fact 100035 (.at 35 (.rep [] a0.Heads)), .fact 100018 (.at 18 (.rep [] a1.Stripe)), .fact 100019 (.at 19 (.rep [0] a1.Blocks)), .fact 100020 (.at 20 (.rep [0] a1.Dirty)), .fact 100021 (.at 21 (.rep [] a1.Phase)), .fact 100022 (.at 22 (.rep [] a1.Deals)), .fact 100023 (.at 23 (.rep [] a1.Seq)), .fact 100025 (.at 25 (.rep [] a2.Kind)), .fact 100026 (.at 26 (.rep [0] a2.Reads)), .fact 100043 (.obj 43 [(false, 1), (false, 1), (false, 1), (false, 1)]), .fact 100036 (.obj 36 [(false, 1), (false, 1), (false, 1), (false, 1), (false, 1), (false, 1)]), .fact 100029 (.obj 29 [(false, 1), (false, 1), (false, 1), (false, 1), (false, 1), (false, 1)]), .fact 100017 (.obj 17 [(false, 1), (false, 1), (false, 1), (false, 1), (false, 1), (false, 1)]), .fact 100024 (.obj 24 [(false, 1), (false, 1)])] _
     refine wo (Spec.len (Has.cv (Has.s rfl) (Cv.trans Cv.owSl (Cv.slRep (T' := [49]) rfl rfl))) Try.underlying29) ?_
     refine wo (Spec.eqlI (Has.s rfl) Has.int) ?_
     refine Walk.nil ?_
     refine Leaf.thenN ?_
     refine CWalk.cond rfl (fun hb => ?_) (fun hb => ?_)
     ·have hm := cond_t hb hm
      refine CWalk.seq ?_
      refine CWalk.region ?_
      refine mv ?_
      refine wo (Spec.buildA (us := [(1, .tmp 14)]) (ls' := [(false, 1, Fact.fz Try.prog [] ((none : Option (Option (List Int))) : Option (Option (List Int)))), (false, 1, Fact.fz Try.prog [] ((some (even_right_3)) : Option (Option (List Int)))), (false, 1, Fact.fz Try.prog [] ((none : Option (Option (List Int))) : Option (Option (List Int)))), (false, 1, Fact.fz Try.prog [] ((none : Option (Option (List Int))) : Option (Option (List Int))))]) bd63 rfl (BP.consF rfl rfl OneC.fz (Has.cv (Has.s rfl) (Cv.fz (T := []) (pc := []) (out := fun r => (.own 0 none 3 r)) en55 CvF.nil OutRep.own (fun r h => even_right_3_c  h))) BP.nil)) ?_
      refine ws (Step.storeObj (ls := [(false, 1, Fact.fz Try.prog [] ((none : Option (Option (List Int))) : Option (Option (List Int)))), (false, 1, Fact.fz Try.prog [] ((some (even_right_3)) : Option (Option (List Int)))), (false, 1, Fact.fz Try.prog [] ((none : Option (Option (List Int))) : Option (Option (List Int)))), (false, 1, Fact.fz Try.prog [] ((none : Option (Option (List Int))) : Option (Option (List Int))))]) rfl ty63 rfl rfl (Has.s rfl) rfl (HasL.flds (Has.s rfl)) rfl) ?_
      refine Walk.nil ?_
      refine Leaf.thenN ?_
      refine CWalk.ret ?_
      refine Leaf.thenR ?_
      exact Leaf.in1 ((some (even_right_3)), (none : Option (Option (List Int))), (none : Option (Option (List Int)))) hm rfl rfl (HasR.cv (HasR.obj (ls := [(false, 1, Fact.fz Try.prog [] ((none : Option (Option (List Int))) : Option (Option (List Int)))), (false, 1, Fact.fz Try.prog [] ((some (even_right_3)) : Option (Option (List Int)))), (false, 1, Fact.fz Try.prog [] ((none : Option (Option (List Int))) : Option (Option (List Int)))), (false, 1, Fact.fz Try.prog [] ((none : Option (Option (List Int))) : Option (Option (List Int))))]) ty63 rfl rfl (Has.s rfl) rfl (HasGs.cons (HasG.s rfl) (HasGs.cons (HasG.s rfl) (HasGs.cons (HasG.s rfl) (HasGs.cons (HasG.s rfl) HasGs.nil))))) (Cv.flds (CvL.cons (Cv.fzM rfl) (CvL.cons (Cv.fzM rfl) (CvL.cons (Cv.fzM rfl) (CvL.cons (Cv.fzM rfl) CvL.nil)))))) (Low.slot rfl (HasC.cv (HasC.s (s := 902003) rfl) (Cv.m rfl)) (ls 902005 (ls 902006 (Low.res (lf (lm (lm (lf (lf (lf (lf (lm (lo (lo Low.nil))))))))))))))
     ·have hm := cond_f hb hm
      refine CWalk.skip ?_
      refine Leaf.thenN ?_
      refine CWalk.seq ?_
      refine CWalk.region ?_
      refine mv ?_
      refine mv ?_
      refine wo (Spec.buildA (us := [(2, .tmp 16), (3, .tmp 17)]) (ls' := [(false, 1, Fact.fz Try.prog [] ((none : Option (Option (List Int))) : Option (Option (List Int)))), (false, 1, Fact.fz Try.prog [] ((none : Option (Option (List Int))) : Option (Option (List Int)))), (false, 1, Fact.fz Try.prog [0, 36] ((some (even_right_1 a1)) : Option (Option (List Int)))), (false, 1, Fact.fz Try.prog [0, 29, 36] ((some (even_right_2 a1 a0)) : Option (Option (List Int))))]) bd63 rfl (BP.consF rfl rfl OneC.fz (Has.cv (Has.s rfl) (Cv.fz (T := [0, 36]) (pc := [.ptr 0 a1]) (out := fun r => (.own 0 none 3 r)) en53 (CvF.cons (Cv.trans (Cv.objPtr (ls := [(false, 1, Fact.rep [] a1.Stripe), (false, 1, Fact.rep [0] a1.Blocks), (false, 1, Fact.rep [0] a1.Dirty), (false, 1, Fact.rep [] a1.Phase), (false, 1, Fact.rep [] a1.Deals), (false, 1, Fact.rep [] a1.Seq)]) rfl rfl (HasGs.cons (HasG.s rfl) (HasGs.cons (HasG.s rfl) (HasGs.cons (HasG.s rfl) (HasGs.cons (HasG.s rfl) (HasGs.cons (HasG.s rfl) (HasGs.cons (HasG.s rfl) HasGs.nil)))))) (Cv.trans (Cv.flds (CvL.cons Cv.fl (CvL.cons (Cv.m rfl) (CvL.cons (Cv.m rfl) (CvL.cons Cv.fl (CvL.cons Cv.fl (CvL.cons Cv.fl CvL.nil))))))) (Cv.close (T := [0]) (chHead a1)))) (Cv.ptrM rfl)) CvF.nil) OutRep.own (fun r h => even_right_1_c a1 h))) (BP.consF rfl rfl OneC.fz (Has.cv (Has.s rfl) (Cv.fz (T := [0, 29, 36]) (pc := [.ptr 0 a1, .ptr 0 a0]) (out := fun r => (.own 0 none 3 r)) en54 (CvF.cons (Cv.trans (Cv.objPtr (ls := [(false, 1, Fact.rep [] a1.Stripe), (false, 1, Fact.rep [0] a1.Blocks), (false, 1, Fact.rep [0] a1.Dirty), (false, 1, Fact.rep [] a1.Phase), (false, 1, Fact.rep [] a1.Deals), (false, 1, Fact.rep [] a1.Seq)]) rfl rfl (HasGs.cons (HasG.s rfl) (HasGs.cons (HasG.s rfl) (HasGs.cons (HasG.s rfl) (HasGs.cons (HasG.s rfl) (HasGs.cons (HasG.s rfl) (HasGs.cons (HasG.s rfl) HasGs.nil)))))) (Cv.trans (Cv.flds (CvL.cons Cv.fl (CvL.cons (Cv.m rfl) (CvL.cons (Cv.m rfl) (CvL.cons Cv.fl (CvL.cons Cv.fl (CvL.cons Cv.fl CvL.nil))))))) (Cv.close (T := [0]) (chHead a1)))) (Cv.ptrM rfl)) (CvF.cons (Cv.trans (Cv.objPtr (ls := [(false, 1, Fact.rep [] a0.Id), (false, 1, Fact.rep [] a0.Members), (false, 1, Fact.rep [] a0.Chunk), (false, 1, Fact.rep [] a0.Rows), (false, 1, Fact.rep [] a0.Log), (false, 1, Fact.rep [] a0.Heads)]) rfl rfl (HasGs.cons (HasG.s rfl) (HasGs.cons (HasG.s rfl) (HasGs.cons (HasG.s rfl) (HasGs.cons (HasG.s rfl) (HasGs.cons (HasG.s rfl) (HasGs.cons (HasG.s rfl) HasGs.nil)))))) (Cv.trans (Cv.flds (CvL.cons Cv.fl (CvL.cons Cv.fl (CvL.cons Cv.fl (CvL.cons Cv.fl (CvL.cons Cv.fl (CvL.cons Cv.fl CvL.nil))))))) (Cv.close (T := []) (chConfig a0)))) (Cv.ptrM rfl)) CvF.nil)) OutRep.own (fun r h => even_right_2_c a1 a0 h))) BP.nil))) ?_
      refine ws (Step.storeObj (ls := [(false, 1, Fact.fz Try.prog [] ((none : Option (Option (List Int))) : Option (Option (List Int)))), (false, 1, Fact.fz Try.prog [] ((none : Option (Option (List Int))) : Option (Option (List Int)))), (false, 1, Fact.fz Try.prog [0, 36] ((some (even_right_1 a1)) : Option (Option (List Int)))), (false, 1, Fact.fz Try.prog [0, 29, 36] ((some (even_right_2 a1 a0)) : Option (Option (List Int))))]) rfl ty63 rfl rfl (Has.s rfl) rfl (HasL.flds (Has.s rfl)) rfl) ?_
      refine Walk.nil ?_
      refine Leaf.thenN ?_
      refine CWalk.ret ?_
      exact Leaf.in1 ((none : Option (Option (List Int))), (some (even_right_1 a1)), (some (even_right_2 a1 a0))) hm rfl rfl (HasR.cv (HasR.obj (ls := [(false, 1, Fact.fz Try.prog [] ((none : Option (Option (List Int))) : Option (Option (List Int)))), (false, 1, Fact.fz Try.prog [] ((none : Option (Option (List Int))) : Option (Option (List Int)))), (false, 1, Fact.fz Try.prog [0, 36] ((some (even_right_1 a1)) : Option (Option (List Int)))), (false, 1, Fact.fz Try.prog [0, 29, 36] ((some (even_right_2 a1 a0)) : Option (Option (List Int))))]) ty63 rfl rfl (Has.s rfl) rfl (HasGs.cons (HasG.s rfl) (HasGs.cons (HasG.s rfl) (HasGs.cons (HasG.s rfl) (HasGs.cons (HasG.s rfl) HasGs.nil))))) (Cv.flds (CvL.cons (Cv.fzM rfl) (CvL.cons (Cv.fzM rfl) (CvL.cons (Cv.fzM rfl) (CvL.cons (Cv.fzM rfl) CvL.nil)))))) (Low.slot rfl (HasC.cv (HasC.s (s := 902003) rfl) (Cv.m rfl)) (ls 902005 (ls 902006 (Low.res (lf (lm (lm (lf (lf (lf (lf (lm (lo (lo Low.nil))))))))))))))
   ·rintro ⟨j3, j4, j5⟩ hm
    replace hm : even_Parity_J1 a1 a2 a3 j3 j4 j5 = some r := hm
    unfold even_Parity_J1 at hm
    show Walk _ _ _ [.fact 3 (.rep [0] (a3 : List (List UInt8))), .fact 5 (.isv 17), .fact 6 (.isv 24), .fact 35 (.flds [(false, 1, Fact.fz Try.prog [] ((none : Option (Option (List Int))) : Option (Option (List Int)))), (false, 1, Fact.fz Try.prog [] (j3 : Option (Option (List Int)))), (false, 1, Fact.fz Try.prog [0, 36] (j4 : Option (Option (List Int)))), (false, 1, Fact.fz Try.prog [0, 29, 36] (j5 : Option (Option (List Int))))]), .fact 100018 (.at 18 (.rep [] a1.Stripe)), .fact 100019 (.at 19 (.rep [0] a1.Blocks)), .fact 100020 (.at 20 (.rep [0] a1.Dirty)), .fact 100021 (.at 21 (.rep [] a1.Phase)), .fact 100022 (.at 22 (.rep [] a1.Deals)), .fact 100023 (.at 23 (.rep [] a1.Seq)), .fact 100025 (.at 25 (.rep [] a2.Kind)), .fact 100026 (.at 26 (.rep [0] a2.Reads)), .fact 100017 (.obj 17 [(false, 1), (false, 1), (false, 1), (false, 1), (false, 1), (false, 1)]), .fact 100024 (.obj 24 [(false, 1), (false, 1)])] _
    refine ws (Step.allocObj (ls := [(false, 1, Fact.fz Try.prog [] ((none : Option (Option (List Int))) : Option (Option (List Int)))), (false, 1, Fact.fz Try.prog [] ((none : Option (Option (List Int))) : Option (Option (List Int)))), (false, 1, Fact.fz Try.prog [] ((none : Option (Option (List Int))) : Option (Option (List Int)))), (false, 1, Fact.fz Try.prog [] ((none : Option (Option (List Int))) : Option (Option (List Int))))]) 50 rfl rfl rfl rfl zl63) ?_
    refine ws (Step.storeObj (ls := [(false, 1, Fact.fz Try.prog [] ((none : Option (Option (List Int))) : Option (Option (List Int)))), (false, 1, Fact.fz Try.prog [] (j3 : Option (Option (List Int)))), (false, 1, Fact.fz Try.prog [0, 36] (j4 : Option (Option (List Int)))), (false, 1, Fact.fz Try.prog [0, 29, 36] (j5 : Option (Option (List Int))))]) rfl ty63 rfl rfl (Has.s rfl) rfl (HasL.flds (Has.s rfl)) rfl) ?_
    refine Walk.nil ?_
    refine Leaf.thenN ?_
    refine CWalk.seq ?_
    refine CWalk.block ?_
    refine CWalk.seqJ (fun p : Bool => [.fact 3 (.rep [0] (a3 : List (List UInt8))), .fact 5 (.isv 17), .fact 6 (.isv 24), .fact 36 (.rep [] (p : Bool)), .fact 100018 (.at 18 (.rep [] a1.Stripe)), .fact 100019 (.at 19 (.rep [0] a1.Blocks)), .fact 100020 (.at 20 (.rep [0] a1.Dirty)), .fact 100021 (.at 21 (.rep [] a1.Phase)), .fact 100022 (.at 22 (.rep [] a1.Deals)), .fact 100023 (.at 23 (.rep [] a1.Seq)), .fact 100025 (.at 25 (.rep [] a2.Kind)), .fact 100026 (.at 26 (.rep [0] a2.Reads)), .fact 100017 (.obj 17 [(false, 1), (false, 1), (false, 1), (false, 1), (false, 1), (false, 1)]), .fact 100024 (.obj 24 [(false, 1), (false, 1)])]) (fun p : Bool => even_Parity_J2 a1 a2 a3 p = some r) ?_ ?_
    ·rintro j6 hm
     replace hm : even_Parity_J2 a1 a2 a3 j6 = some r := hm
     unfold even_Parity_J2 at hm
     show CWalk _ [.fact 3 (.rep [0] (a3 : List (List UInt8))), .fact 5 (.isv 17), .fact 6 (.isv 24), .fact 36 (.rep [] (j6 : Bool)), .fact 100018 (.at 18 (.rep [] a1.Stripe)), .fact 100019 (.at 19 (.rep [0] a1.Blocks)), .fact 100020 (.at 20 (.rep [0] a1.Dirty)), .fact 100021 (.at 21 (.rep [] a1.Phase)), .fact 100022 (.at 22 (.rep [] a1.Deals)), .fact 100023 (.at 23 (.rep [] a1.Seq)), .fact 100025 (.at 25 (.rep [] a2.Kind)), .fact 100026 (.at 26 (.rep [0] a2.Reads)), .fact 100017 (.obj 17 [(false, 1), (false, 1), (false, 1), (false, 1), (false, 1), (false, 1)]), .fact 100024 (.obj 24 [(false, 1), (false, 1)])] _ _
     refine CWalk.cond rfl (fun hb => ?_) (fun hb => ?_)
     ·have hm := cond_t hb hm
      refine CWalk.seq ?_
      refine CWalk.region ?_
      refine wo (Spec.assign Has.nilv) ?_
      refine wo (Spec.assign Has.int) ?_
      refine Walk.nil ?_
      refine Leaf.thenN ?_
      refine CWalk.ret ?_
      refine Leaf.blockR ?_
      refine Leaf.thenR ?_
      obtain rfl := Option.some.inj hm
      exact Leaf.retM (Leaf.retC2 rfl (HasR.cv (HasR.tmp (Has.s rfl)) (Cv.trans Cv.nilSl (Cv.slF (T := []) (te := []) rfl))) (HasR.cv (HasR.tmp (Has.s rfl)) Cv.fl))
     ·have hm := cond_f hb hm
      refine CWalk.seq ?_
      refine CWalk.region ?_
      refine mv ?_
      refine wo (Spec.len (Has.s rfl) Try.underlying25) ?_
      refine wo (Spec.fieldAddrO fd31_1 (Has.cv (Has.s rfl) (Cv.isvP rfl))) ?_
      refine wo (Spec.loadF (i := 1) ty29 rfl (Has.s rfl) rfl (HasG.s rfl)) ?_
      refine wo (Spec.len (Has.s rfl) Try.underlying29) ?_
      refine wo (Spec.neqI (Has.s rfl) (Has.s rfl)) ?_
      refine wo (Spec.assign (Has.s rfl)) ?_
      refine Walk.nil ?_
      refine Leaf.thenN ?_
      refine CWalk.cond rfl (fun hb => ?_) (fun hb => ?_)
      ·have hm := cond_t hb hm
       refine CWalk.seq ?_
       refine CWalk.region ?_
       refine wo (Spec.assign Has.nilv) ?_
       refine wo (Spec.assign Has.int) ?_
       refine Walk.nil ?_
       refine Leaf.thenN ?_
       refine CWalk.ret ?_
       refine Leaf.blockR ?_
       refine Leaf.thenR ?_
       obtain rfl := Option.some.inj hm
       exact Leaf.retM (Leaf.retC2 rfl (HasR.cv (HasR.tmp (Has.s rfl)) (Cv.trans Cv.nilSl (Cv.slF (T := []) (te := []) rfl))) (HasR.cv (HasR.tmp (Has.s rfl)) Cv.fl))
      ·have hm := cond_f hb hm
       refine CWalk.seq ?_
       refine CWalk.region ?_
       refine mv ?_
       obtain ⟨x7, hx7, hm⟩ := bind_some hm
       refine wo (f := Fact.rep [] (x7 : Bool)) (Spec.callE [0] 57 rfl en31 (slices_ContainsFunc_byte_byte_c a3 (fun y => even_Parity_1 y) hx7) (HasAll.cons (Has.m (Has.s rfl) rfl) (HasAll.cons (Has.cv Has.func (Cv.fn (pu := []) (pc := []) (shc := []) en32 CvF.nil CvF.nil (fun y r h => even_Parity_1_c y h))) HasAll.nil))) ?_
       refine wo (Spec.assign (Has.s rfl)) ?_
       refine Walk.nil ?_
       refine Leaf.thenN ?_
       refine CWalk.cond rfl (fun hb => ?_) (fun hb => ?_)
       ·have hm := cond_t hb hm
        refine CWalk.seq ?_
        refine CWalk.region ?_
        refine wo (Spec.assign Has.nilv) ?_
        refine wo (Spec.assign Has.int) ?_
        refine Walk.nil ?_
        refine Leaf.thenN ?_
        refine CWalk.ret ?_
        refine Leaf.blockR ?_
        refine Leaf.thenR ?_
        obtain rfl := Option.some.inj hm
        exact Leaf.retM (Leaf.retC2 rfl (HasR.cv (HasR.tmp (Has.s rfl)) (Cv.trans Cv.nilSl (Cv.slF (T := []) (te := []) rfl))) (HasR.cv (HasR.tmp (Has.s rfl)) Cv.fl))
       ·have hm := cond_f hb hm
        refine CWalk.skip ?_
        refine Leaf.blockN ?_
        refine Leaf.thenN ?_
        refine CWalk.seq ?_
        refine CWalk.region ?_
        refine ws (Step.allocObj (ls := [(false, 1, Fact.nilv)]) 58 rfl rfl rfl rfl zl25) ?_
        refine Walk.nil ?_
        refine Leaf.thenN ?_
        refine CWalk.seq ?_
        refine CWalk.seq ?_
        refine CWalk.region ?_
        refine wo (Spec.loadObj (ls := [(false, 1, Fact.rep [] a1.Stripe), (false, 1, Fact.rep [0] a1.Blocks), (false, 1, Fact.rep [0] a1.Dirty), (false, 1, Fact.rep [] a1.Phase), (false, 1, Fact.rep [] a1.Deals), (false, 1, Fact.rep [] a1.Seq)]) ty28 rfl rfl (Has.s rfl) rfl (HasGs.cons (HasG.s rfl) (HasGs.cons (HasG.s rfl) (HasGs.cons (HasG.s rfl) (HasGs.cons (HasG.s rfl) (HasGs.cons (HasG.s rfl) (HasGs.cons (HasG.s rfl) HasGs.nil))))))) ?_
        refine wo (Spec.fieldAddrO fd31_0 (Has.cv (Has.s rfl) (Cv.isvP rfl))) ?_
        refine wo (Spec.loadF (i := 0) ty5 rfl (Has.s rfl) rfl (HasG.s rfl)) ?_
        refine wo (Spec.eqlB (Has.s rfl) (Has.u8 3 rfl)) ?_
        refine Walk.inline (S := Unit) (fun p : Unit => [.fact 3 (.rep [0] (a3 : List (List UInt8))), .fact 12 (.isv 58), .fact 69 (.fnv 57 [] [Fact.isv 60, Fact.isv 67]), .fact 100059 (.at 59 (.nilv)), .fact 100061 (.at 61 (.rep [] a1.Stripe)), .fact 100062 (.at 62 (.rep [0] a1.Blocks)), .fact 100063 (.at 63 (.rep [0] a1.Dirty)), .fact 100064 (.at 64 (.rep [] a1.Phase)), .fact 100065 (.at 65 (.rep [] a1.Deals)), .fact 100066 (.at 66 (.rep [] a1.Seq)), .fact 100068 (.at 68 (.rep [] ((a2.Kind == (3 : UInt8)) : Bool))), .fact 100058 (.obj 58 [(false, 1)]), .fact 100060 (.obj 60 [(false, 1), (false, 1), (false, 1), (false, 1), (false, 1), (false, 1)]), .fact 100067 (.obj 67 [(false, 1)])]) (fun p : Unit => even_Parity_J3 a1 a2 a3 = some r) (fun u1 => [.fact 100059 (.at 59 (.nilv)), .fact 902003 (.cst (u1 3) (Fact.rep [0] (a3 : List (List UInt8)))), .fact 902012 (.cst (u1 12) (Fact.isv 58)), .fact 100058 (.obj 58 [(false, 1)])]) (FA := [Fact.flds [(false, 1, Fact.rep [] a1.Stripe), (false, 1, Fact.rep [0] a1.Blocks), (false, 1, Fact.rep [0] a1.Dirty), (false, 1, Fact.rep [] a1.Phase), (false, 1, Fact.rep [] a1.Deals), (false, 1, Fact.rep [] a1.Seq)], Fact.rep [] ((a2.Kind == (3 : UInt8)) : Bool)]) rfl Try.func33 rfl rfl rfl (CallOk.fn en33 (HasF.cons (Has.s rfl) (HasF.cons (Has.s rfl) HasF.nil))) (fun u1 => (ck (cs 902000 3 (cs 902000 12 (ck Carry.nil))))) (fun u1 => ?_) ?_
        ·refine CWalk.seq ?_
         refine CWalk.region ?_
         refine ws (Step.boxObj (ls := [(false, 1, Fact.rep [] a1.Stripe), (false, 1, Fact.rep [0] a1.Blocks), (false, 1, Fact.rep [0] a1.Dirty), (false, 1, Fact.rep [] a1.Phase), (false, 1, Fact.rep [] a1.Deals), (false, 1, Fact.rep [] a1.Seq)]) 60 rfl rfl rfl rfl (HasL.flds (Has.s rfl))) ?_
         refine ws (Step.boxObj (ls := [(false, 1, Fact.rep [] ((a2.Kind == (3 : UInt8)) : Bool))]) 67 rfl rfl rfl rfl (HasL.one (Has.s rfl) rfl (Has.s rfl))) ?_
         refine wo (Spec.assign Has.top) ?_
         refine Walk.nil ?_
         refine Leaf.thenN ?_
         refine CWalk.seq ?_
         refine CWalk.region ?_
         refine wo (Spec.makeFunc (xs := []) (ys := [.tmp 2, .tmp 3]) rfl rfl HasF.nil (HasF.cons (Has.s rfl) (HasF.cons (Has.s rfl) HasF.nil)) (fun _ _ _ => rfl)) ?_
         refine wo (Spec.assign (Has.s rfl)) ?_
         refine Walk.nil ?_
         refine Leaf.thenN ?_
         refine CWalk.ret ?_
         exact Leaf.in1 () hm rfl rfl (HasR.tmp (Has.s rfl)) (Low.slot rfl (HasC.cv (HasC.s (s := 902003) rfl) (Cv.m rfl)) (ls 902012 (Low.res (lg (lf (lm (lm (lf (lf (lf (lf (lo (lo (lo Low.nil))))))))))))))
        ·rintro _ hm
         replace hm : even_Parity_J3 a1 a2 a3 = some r := hm
         unfold even_Parity_J3 at hm
         show Walk _ _ _ [.fact 3 (.rep [0] (a3 : List (List UInt8))), .fact 12 (.isv 58), .fact 69 (.fnv 57 [] [Fact.isv 60, Fact.isv 67]), .fact 100059 (.at 59 (.nilv)), .fact 100061 (.at 61 (.rep [] a1.Stripe)), .fact 100062 (.at 62 (.rep [0] a1.Blocks)), .fact 100063 (.at 63 (.rep [0] a1.Dirty)), .fact 100064 (.at 64 (.rep [] a1.Phase)), .fact 100065 (.at 65 (.rep [] a1.Deals)), .fact 100066 (.at 66 (.rep [] a1.Seq)), .fact 100068 (.at 68 (.rep [] ((a2.Kind == (3 : UInt8)) : Bool))), .fact 100058 (.obj 58 [(false, 1)]), .fact 100060 (.obj 60 [(false, 1), (false, 1), (false, 1), (false, 1), (false, 1), (false, 1)]), .fact 100067 (.obj 67 [(false, 1)])] _
         refine Walk.nil ?_
         refine Leaf.thenN ?_
         refine CWalk.block ?_
         refine CWalk.rangeFunc (cs := [Fact.isv 60, Fact.isv 67]) 69 (fun u1 => [.fact 902003 (.cst (u1 3) (Fact.rep [0] (a3 : List (List UInt8)))), .fact 902012 (.cst (u1 12) (Fact.isv 58)), .fact 902069 (.cst (u1 69) (Fact.fnv 57 [] [Fact.isv 60, Fact.isv 67])), .fact 100059 (.at 59 (.nilv)), .fact 100061 (.at 61 (.rep [] a1.Stripe)), .fact 100062 (.at 62 (.rep [0] a1.Blocks)), .fact 100063 (.at 63 (.rep [0] a1.Dirty)), .fact 100064 (.at 64 (.rep [] a1.Phase)), .fact 100065 (.at 65 (.rep [] a1.Deals)), .fact 100066 (.at 66 (.rep [] a1.Seq)), .fact 100068 (.at 68 (.rep [] ((a2.Kind == (3 : UInt8)) : Bool))), .fact 100058 (.obj 58 [(false, 1)]), .fact 100060 (.obj 60 [(false, 1), (false, 1), (false, 1), (false, 1), (false, 1), (false, 1)]), .fact 100067 (.obj 67 [(false, 1)])]) rfl rfl rfl rfl Try.func57 rfl rfl en57 rfl (fun u1 => (cs 902000 3 (cs 902000 12 (cs 902000 69 (ck (ck (ck (ck (ck (ck (ck (ck (ck (ck (ck Carry.nil))))))))))))))) (fun u1 rr1 hrr1 => ?_)
         refine CWalk.seq ?_
         refine CWalk.region ?_
         refine wo (Spec.fieldAddrO fd28_2 (Has.cv (Has.s rfl) (Cv.isvP rfl))) ?_
         refine wo (Spec.loadF (i := 2) ty26 rfl (Has.s rfl) rfl (HasG.s rfl)) ?_
         refine wo (Spec.len (Has.s rfl) Try.underlying26) ?_
         refine wo (Spec.move Has.int) ?_
         refine Walk.nil ?_
         refine Leaf.thenN ?_
         refine CWalk.block ?_
         obtain ⟨b16, hb16, hm⟩ := bind_some hm
         refine CWalk.loop (fun s : Int × (List (List UInt8)) => [.fact 0 (.yv rr1.l), .fact 1 (.isv 60), .fact 2 (.isv 67), .fact 7 (.rep [0] a1.Dirty), .fact 8 (.rep [] (((a1.Dirty).length : Int) : Int)), .fact 9 (.rep [] s.1), .fact 902003 (.cst (u1 3) (Fact.rep [0] (a3 : List (List UInt8)))), .fact 902012 (.cst (u1 12) (Fact.isv 58)), .fact 902069 (.cst (u1 69) (Fact.fnv 57 [] [Fact.isv 60, Fact.isv 67])), .fact 100061 (.at 61 (.rep [] a1.Stripe)), .fact 100062 (.at 62 (.rep [0] a1.Blocks)), .fact 100063 (.at 63 (.rep [0] a1.Dirty)), .fact 100064 (.at 64 (.rep [] a1.Phase)), .fact 100065 (.at 65 (.rep [] a1.Deals)), .fact 100066 (.at 66 (.rep [] a1.Seq)), .fact 100068 (.at 68 (.rep [] ((a2.Kind == (3 : UInt8)) : Bool))), .fact 100059 (.at 59 (.ow [72] [0, 71] 36 (s.2 : List (List UInt8)))), .fact 100060 (.obj 60 [(false, 1), (false, 1), (false, 1), (false, 1), (false, 1), (false, 1)]), .fact 100067 (.obj 67 [(false, 1)]), .fact 100058 (.obj 58 [(false, 1)]), .fact 100069 (.rc 69 rr1 .ready none), .fact 100070 (.dm 70 rr1.D)]) (fun b : (List (List UInt8)) => (Exit.exit 0, [.fact 902003 (.cst (u1 3) (Fact.rep [0] (a3 : List (List UInt8)))), .fact 902012 (.cst (u1 12) (Fact.isv 58)), .fact 902069 (.cst (u1 69) (Fact.fnv 57 [] [Fact.isv 60, Fact.isv 67])), .fact 100059 (.at 59 (.ow [72] [0, 71] 36 (b : List (List UInt8)))), .fact 100061 (.at 61 (.rep [] a1.Stripe)), .fact 100062 (.at 62 (.rep [0] a1.Blocks)), .fact 100063 (.at 63 (.rep [0] a1.Dirty)), .fact 100064 (.at 64 (.rep [] a1.Phase)), .fact 100065 (.at 65 (.rep [] a1.Deals)), .fact 100066 (.at 66 (.rep [] a1.Seq)), .fact 100068 (.at 68 (.rep [] ((a2.Kind == (3 : UInt8)) : Bool))), .fact 100058 (.obj 58 [(false, 1)]), .fact 100060 (.obj 60 [(false, 1), (false, 1), (false, 1), (false, 1), (false, 1), (false, 1)]), .fact 100067 (.obj 67 [(false, 1)]), .fact 100069 (.rc 69 rr1 .ready none), .fact 100070 (.dm 70 rr1.D)])) hb16 (sn (sn (sn (su (st (st (Sub.cons (Has.cst (HasC.cv (HasC.s (s := 902003) rfl) (Cv.m rfl))) (sc (sc (sf (sm (sm (sf (sf (sf (sf (Sub.cons (Has.at (HasG.cv (HasG.s rfl) (Cv.trans Cv.nilOw (Cv.owM (T := []) (te := []) rfl rfl)))) (sn (sn (sn (sn (sn Sub.nil)))))))))))))))))))))) ?_ ?_
         ·rintro ⟨s8, s9⟩ c10 hm
          replace hm : even_Parity_L4 a1 a2 s8 s9 = some c10 := hm
          unfold even_Parity_L4 at hm
          show CWalk _ [.fact 0 (.yv rr1.l), .fact 1 (.isv 60), .fact 2 (.isv 67), .fact 7 (.rep [0] a1.Dirty), .fact 8 (.rep [] (((a1.Dirty).length : Int) : Int)), .fact 9 (.rep [] (s8 : Int)), .fact 902003 (.cst (u1 3) (Fact.rep [0] (a3 : List (List UInt8)))), .fact 902012 (.cst (u1 12) (Fact.isv 58)), .fact 902069 (.cst (u1 69) (Fact.fnv 57 [] [Fact.isv 60, Fact.isv 67])), .fact 100061 (.at 61 (.rep [] a1.Stripe)), .fact 100062 (.at 62 (.rep [0] a1.Blocks)), .fact 100063 (.at 63 (.rep [0] a1.Dirty)), .fact 100064 (.at 64 (.rep [] a1.Phase)), .fact 100065 (.at 65 (.rep [] a1.Deals)), .fact 100066 (.at 66 (.rep [] a1.Seq)), .fact 100068 (.at 68 (.rep [] ((a2.Kind == (3 : UInt8)) : Bool))), .fact 100059 (.at 59 (.ow [72] [0, 71] 36 (s9 : List (List UInt8)))), .fact 100060 (.obj 60 [(false, 1), (false, 1), (false, 1), (false, 1), (false, 1), (false, 1)]), .fact 100067 (.obj 67 [(false, 1)]), .fact 100058 (.obj 58 [(false, 1)]), .fact 100069 (.rc 69 rr1 .ready none), .fact 100070 (.dm 70 rr1.D)] _ _
          refine CWalk.seq ?_
          refine CWalk.region ?_
          refine wo (Spec.lssI (Has.s rfl) (Has.s rfl)) ?_
          refine Walk.nil ?_
          refine Leaf.thenN ?_
          refine CWalk.seq ?_
          refine CWalk.cond rfl (fun hb => ?_) (fun hb => ?_)
          ·have hm := cond_t hb hm
           refine CWalk.skip ?_
           refine Leaf.thenN ?_
           refine CWalk.seq ?_
           refine CWalk.block ?_
           refine CWalk.seq ?_
           refine CWalk.region ?_
           refine mv ?_
           obtain ⟨x11, hx11, hm⟩ := bind_some hm
           refine wo (Spec.indexAddr hx11 sl26 (Has.s rfl) (Has.s rfl)) ?_
           refine wo ((Spec.load ty4 (Has.s rfl)).flat (T' := [])) ?_
           refine wo (Spec.assign (Has.s rfl)) ?_
           refine wo (Spec.assign (Has.s rfl)) ?_
           refine Walk.nil ?_
           refine Leaf.thenN ?_
           refine CWalk.seq ?_
           refine CWalk.region ?_
           refine mv ?_
           refine mv ?_
           refine wg rfl rfl (fun hb => Spec.loadF (i := 0) ty4 rfl (Has.cv (Has.s rfl) (Cv.isvP rfl)) rfl (HasG.s rfl)) ?_
           refine wg rfl rfl (fun hb => Spec.not (Has.u rfl hb)) ?_
           refine wo (Spec.or (Has.s rfl) (fun h => Has.u rfl h)) ?_
           refine mv ?_
           refine wg rfl rfl (fun hb => Spec.fieldAddrO fd28_1 (Has.cv (Has.s rfl) (Cv.isvP rfl))) ?_
           refine wg rfl rfl (fun hb => Spec.loadF (i := 1) ty25 rfl (Has.u rfl hb) rfl (HasG.s rfl)) ?_
           refine wg rfl rfl (fun hb => Spec.move (Has.s rfl)) ?_
           obtain ⟨x12, hx12, hm⟩ := bind_some hm
           refine wg rfl rfl (fun hb => Spec.indexAddr (gO_t hx12 hb) sl25 (Has.u rfl hb) (Has.u rfl hb)) ?_
           refine wg rfl rfl (fun hb => Spec.load ty36 (Has.u rfl hb)) ?_
           refine wg rfl rfl (fun hb => Spec.len (Has.u rfl hb) Try.underlying36) ?_
           refine wg rfl rfl (fun hb => Spec.gtrI (Has.u rfl hb) Has.int) ?_
           refine wo (Spec.and (Has.s rfl) (fun h => Has.u rfl h)) ?_
           refine mv ?_
           refine wg rfl rfl (fun hb => Spec.move (Has.s rfl)) ?_
           refine wg rfl rfl (fun hb => Spec.fieldAddrO fd28_1 (Has.cv (Has.s rfl) (Cv.isvP rfl))) ?_
           refine wg rfl rfl (fun hb => Spec.loadF (i := 1) ty25 rfl (Has.u rfl hb) rfl (HasG.s rfl)) ?_
           refine wg rfl rfl (fun hb => Spec.move (Has.s rfl)) ?_
           obtain ⟨x13, hx13, hm⟩ := bind_some hm
           refine wg rfl rfl (fun hb => Spec.indexAddr (gO_t hx13 hb) sl25 (Has.u rfl hb) (Has.u rfl hb)) ?_
           refine wg rfl rfl (fun hb => Spec.load ty36 (Has.u rfl hb)) ?_
           refine Walk.gsplitU (gp := (((x11 || (!(a2.Kind == (3 : UInt8)))) && (decide (((x12).length : Int) > (0 : Int)))) = true)) (Fact.rep [] (true : Bool)) rfl (GOk.one rfl rfl) (fun hg14 => ?_) (fun hg14 => ?_)
           ·have hm := cond_t hg14 hm
            refine Walk.yieldH (t := 69) (fs := [Fact.rep [0] (x13 : List UInt8)]) (fun u2 => [.fact 904000 (.cst (u2 0) (Fact.yv rr1.l)), .fact 904001 (.cst (u2 1) (Fact.isv 60)), .fact 904002 (.cst (u2 2) (Fact.isv 67)), .fact 904007 (.cst (u2 7) (Fact.rep [0] a1.Dirty)), .fact 904008 (.cst (u2 8) (Fact.rep [] (((a1.Dirty).length : Int) : Int))), .fact 904009 (.cst (u2 9) (Fact.rep [] (s8 : Int))), .fact 904028 (.cst (u2 28) (Fact.rep [] (((x11 || (!(a2.Kind == (3 : UInt8)))) && (decide (((x12).length : Int) > (0 : Int)))) : Bool))), .fact 100059 (.at 59 (.ow [72] [0, 71] 36 (s9 : List (List UInt8)))), .fact 100061 (.at 61 (.rep [] a1.Stripe)), .fact 100062 (.at 62 (.rep [0] a1.Blocks)), .fact 100063 (.at 63 (.rep [0] a1.Dirty)), .fact 100064 (.at 64 (.rep [] a1.Phase)), .fact 100065 (.at 65 (.rep [] a1.Deals)), .fact 100066 (.at 66 (.rep [] a1.Seq)), .fact 100068 (.at 68 (.rep [] ((a2.Kind == (3 : UInt8)) : Bool))), .fact 902003 (.cst (u1 3) (Fact.rep [0] (a3 : List (List UInt8)))), .fact 902012 (.cst (u1 12) (Fact.isv 58)), .fact 902069 (.cst (u1 69) (Fact.fnv 57 [] [Fact.isv 60, Fact.isv 67])), .fact 3 (.rep [0] (a3 : List (List UInt8))), .fact 12 (.isv 58), .fact 69 (.fnv 57 [] [Fact.isv 60, Fact.isv 67]), .fact 100058 (.obj 58 [(false, 1)]), .fact 100060 (.obj 60 [(false, 1), (false, 1), (false, 1), (false, 1), (false, 1), (false, 1)]), .fact 100067 (.obj 67 [(false, 1)]), .fact 100069 (.rc 69 rr1 .ready none), .fact 100070 (.dm 70 rr1.D)]) hrr1 rfl rfl (Has.u rfl hg14) rfl rfl (HasF.cons (Has.u rfl hg14) HasF.nil) rfl rfl (fun u2 => (Carry2.slot 904000 0 (Carry2.slot 904000 1 (Carry2.slot 904000 2 (Carry2.slot 904000 7 (Carry2.slot 904000 8 (Carry2.slot 904000 9 (Carry2.slot 904000 28 (Carry2.keep (Carry2.keep (Carry2.keep (Carry2.keep (Carry2.keep (Carry2.keep (Carry2.keep (Carry2.keep (Carry2.keep (Carry2.keep (Carry2.keep (Carry2.low 902003 3 (Carry2.low 902012 12 (Carry2.low 902069 69 (Carry2.keep (Carry2.keep (Carry2.keep (Carry2.keep (Carry2.keep Carry2.nil))))))))))))))))))))))))))) (fun u2 => ?_)
            refine CWalk.region ?_
            refine wo (Spec.assign (Has.s rfl)) ?_
            refine Walk.nil ?_
            refine Leaf.begin (t := 69) rfl rfl ?_
            refine CWalk.block ?_
            refine CWalk.region ?_
            refine wo (Spec.loadF (i := 0) ty25 rfl (Has.cv (Has.s rfl) (Cv.isvP rfl)) rfl (HasG.s rfl)) ?_
            refine mv ?_
            refine wo (Spec.lit (xs := [.tmp 72]) (T := [0]) 71 rfl ow25 rfl rfl rfl rfl (HasEach.cons (Has.m (Has.s rfl) rfl) HasEach.nil)) ?_
            obtain ⟨x15, hx15, hm⟩ := bind_some hm
            refine ws (Step.appendOw (T := [72]) (te' := [0, 71]) hx15 rfl rfl rfl ow25 (Has.s rfl) (Has.s rfl) (ElKeeps.tags rfl rfl) (ElKeeps.tags rfl rfl)) ?_
            refine ws (Step.storeF (i := 0) (f := Fact.ow [72] [0, 71] 36 (x15 : List (List UInt8))) rfl ty25 rfl (Has.cv (Has.s rfl) (Cv.isvP rfl)) rfl (Has.cv (Has.s rfl) (Cv.trans Cv.owSl (Cv.slRep (T' := [0, 71, 72]) rfl rfl))) (Has.s rfl) rfl) ?_
            refine Walk.nil ?_
            refine Leaf.blockN ?_
            refine Leaf.rdN (t := 69) (J := [.fact 35 (.rep [] (true : Bool)), .fact 100059 (.at 59 (.ow [72] [0, 71] 36 (x15 : List (List UInt8)))), .fact 100061 (.at 61 (.rep [] a1.Stripe)), .fact 100062 (.at 62 (.rep [0] a1.Blocks)), .fact 100063 (.at 63 (.rep [0] a1.Dirty)), .fact 100064 (.at 64 (.rep [] a1.Phase)), .fact 100065 (.at 65 (.rep [] a1.Deals)), .fact 100066 (.at 66 (.rep [] a1.Seq)), .fact 100068 (.at 68 (.rep [] ((a2.Kind == (3 : UInt8)) : Bool))), .fact 902003 (.cst (u1 3) (Fact.rep [0] (a3 : List (List UInt8)))), .fact 902012 (.cst (u1 12) (Fact.isv 58)), .fact 902069 (.cst (u1 69) (Fact.fnv 57 [] [Fact.isv 60, Fact.isv 67])), .fact 0 (.yv rr1.l), .fact 1 (.isv 60), .fact 2 (.isv 67), .fact 7 (.rep [0] a1.Dirty), .fact 8 (.rep [] (((a1.Dirty).length : Int) : Int)), .fact 9 (.rep [] (s8 : Int)), .fact 28 (.rep [] (((x11 || (!(a2.Kind == (3 : UInt8)))) && (decide (((x12).length : Int) > (0 : Int)))) : Bool)), .fact 100058 (.obj 58 [(false, 1)]), .fact 100060 (.obj 60 [(false, 1), (false, 1), (false, 1), (false, 1), (false, 1), (false, 1)]), .fact 100067 (.obj 67 [(false, 1)]), .fact 100070 (.dm 70 rr1.D)]) rfl rfl rfl (Low.res (lg (lg (lg (lg (lg (lg (lg (lg (lc (lc (lc (ls 904000 (ls 904001 (ls 904002 (ls 904007 (ls 904008 (ls 904009 (ls 904028 (lo (lo (lo (lk Low.nil))))))))))))))))))))))) ?_
            refine wg rfl rfl (fun hb => Spec.not (Has.s rfl)) ?_
            refine wo (Spec.andT hg14 (Spec.and (Has.s rfl) (fun h => Has.u rfl h))) ?_
            refine Walk.nil ?_
            refine Leaf.thenN ?_
            refine CWalk.cond rfl (fun hb => ?_) (fun hb => ?_)
            ·exact absurd hb (by decide)
            ·skip
             refine CWalk.skip ?_
             refine Leaf.blockN ?_
             refine Leaf.thenN ?_
             refine CWalk.region ?_
             refine wo (Spec.addI (Has.s rfl) Has.int) ?_
             refine mv ?_
             refine Walk.nil ?_
             exact Leaf.next hm (sn (sn (sn (su (st (st (Sub.cons (Has.cst (HasC.cv (HasC.s (s := 902003) rfl) (Cv.m rfl))) (sc (sc (sf (sm (sm (sf (sf (sf (sf (Sub.cons (Has.at (HasG.cv (HasG.s rfl) (Cv.owM (T := [72]) (te := [0, 71]) rfl rfl))) (sn (sn (sn (sn (sn Sub.nil))))))))))))))))))))))
           ·have hm := cond_f (ne_f hg14) hm
            refine wg rfl rfl (fun hb => Spec.not (Has.u rfl hb)) ?_
            refine wo (Spec.andF (ne_f hg14) (Spec.and (Has.s rfl) (fun h => Has.u rfl h))) ?_
            refine Walk.nil ?_
            refine Leaf.thenN ?_
            refine CWalk.cond rfl (fun hb => ?_) (fun hb => ?_)
            ·exact absurd hb (by decide)
            ·skip
             refine CWalk.skip ?_
             refine Leaf.blockN ?_
             refine Leaf.thenN ?_
             refine CWalk.region ?_
             refine wo (Spec.addI (Has.s rfl) Has.int) ?_
             refine mv ?_
             refine Walk.nil ?_
             exact Leaf.next hm (sn (sn (sn (su (st (st (Sub.cons (Has.cst (HasC.cv (HasC.s (s := 902003) rfl) (Cv.m rfl))) (sc (sc (sf (sm (sm (sf (sf (sf (sf (Sub.cons (Has.at (HasG.cv (HasG.s rfl) (Cv.owM (T := [72]) (te := [0, 71]) rfl rfl))) (sn (sn (sn (sn (sn Sub.nil))))))))))))))))))))))
          ·have hm := cond_f hb hm
           refine CWalk.exit ?_
           refine Leaf.thenE ?_
           exact Leaf.brk hm (fun h => nomatch h) rfl (Sub.cons (Has.cst (HasC.cv (HasC.s (s := 902003) rfl) (Cv.m rfl))) (sc (sc (Sub.cons (Has.at (HasG.cv (HasG.s rfl) (Cv.owM (T := [72]) (te := [0, 71]) rfl rfl))) (sf (sm (sm (sf (sf (sf (sf (sn (sn (sn (sn (sn Sub.nil))))))))))))))))
         ·intro _
          refine Leaf.blockE ?_
          refine Leaf.rfe ?_
          refine Leaf.rfN (t := 69) (st := .ready) (J := [.fact 100059 (.at 59 (.ow [72] [0, 71] 36 (b16 : List (List UInt8)))), .fact 100061 (.at 61 (.rep [] a1.Stripe)), .fact 100062 (.at 62 (.rep [0] a1.Blocks)), .fact 100063 (.at 63 (.rep [0] a1.Dirty)), .fact 100064 (.at 64 (.rep [] a1.Phase)), .fact 100065 (.at 65 (.rep [] a1.Deals)), .fact 100066 (.at 66 (.rep [] a1.Seq)), .fact 100068 (.at 68 (.rep [] ((a2.Kind == (3 : UInt8)) : Bool))), .fact 3 (.rep [0] (a3 : List (List UInt8))), .fact 12 (.isv 58), .fact 69 (.fnv 57 [] [Fact.isv 60, Fact.isv 67]), .fact 100058 (.obj 58 [(false, 1)]), .fact 100060 (.obj 60 [(false, 1), (false, 1), (false, 1), (false, 1), (false, 1), (false, 1)]), .fact 100067 (.obj 67 [(false, 1)]), .fact 100070 (.dm 70 rr1.D)]) rfl rfl rfl (fun h => nomatch h) (lg (lg (lg (lg (lg (lg (lg (lg (ls 902003 (ls 902012 (ls 902069 (lo (lo (lo (lk Low.nil))))))))))))))) ?_
          refine Leaf.blockN ?_
          refine Leaf.thenN ?_
          refine CWalk.seq ?_
          refine CWalk.region ?_
          refine mv ?_
          obtain ⟨x17, hx17, hm⟩ := bind_some hm
          refine wo (f := Fact.tup2 (Fact.sl [73] [] (x17.1 : List UInt8)) (Fact.rep [] x17.2)) (Spec.callE [0] 73 rfl en21 (fold_Fold_c a3 hx17) (HasAll.cons (Has.m (Has.s rfl) rfl) HasAll.nil)) ?_
          refine mv ?_
          refine wo (Spec.ext0 (Has.s rfl)) ?_
          refine wo (Spec.ext1 (Has.s rfl)) ?_
          refine wo (Spec.assign (Has.s rfl)) ?_
          refine wo (Spec.assign (Has.s rfl)) ?_
          refine Walk.nil ?_
          refine Leaf.thenN ?_
          refine CWalk.seq ?_
          refine CWalk.region ?_
          refine wo (Spec.loadF (i := 0) ty25 rfl (Has.cv (Has.s rfl) (Cv.isvP rfl)) rfl (HasG.s rfl)) ?_
          obtain ⟨x18, hx18, hm⟩ := bind_some hm
          refine wo (f := Fact.tup2 (Fact.sl [74] [] (x18.1 : List UInt8)) (Fact.rep [] x18.2)) (Spec.callE [0, 71, 72] 74 rfl en21 (fold_Fold_c b16 hx18) (HasAll.cons (Has.m (Has.cv (Has.s rfl) (Cv.trans Cv.owSl (Cv.slRep (T' := [0, 71, 72]) rfl rfl))) rfl) HasAll.nil)) ?_
          refine mv ?_
          refine wo (Spec.ext0 (Has.s rfl)) ?_
          refine wo (Spec.ext1 (Has.s rfl)) ?_
          refine wo (Spec.assign (Has.s rfl)) ?_
          refine wo (Spec.assign (Has.s rfl)) ?_
          refine Walk.nil ?_
          refine Leaf.thenN ?_
          refine CWalk.seq ?_
          refine CWalk.region ?_
          refine mv ?_
          refine mv ?_
          refine wo (Spec.lit (xs := [.tmp 85, .tmp 86]) (T := [73, 74]) 75 rfl ow25 rfl rfl rfl rfl (HasEach.cons (Has.m (Has.cv (Has.s rfl) (Cv.slRep (T' := [73]) rfl rfl)) rfl) (HasEach.cons (Has.m (Has.cv (Has.s rfl) (Cv.slRep (T' := [74]) rfl rfl)) rfl) HasEach.nil))) ?_
          obtain ⟨x19, hx19, hm⟩ := bind_some hm
          refine wo (f := Fact.tup2 (Fact.sl [76] [] (x19.1 : List UInt8)) (Fact.rep [] x19.2)) (Spec.callE [73, 74, 75] 76 rfl en21 (fold_Fold_c ([x17.1, x18.1]) hx19) (HasAll.cons (Has.m (Has.s rfl) rfl) HasAll.nil)) ?_
          refine wo (Spec.ext0 (Has.s rfl)) ?_
          refine wo (Spec.ext1 (Has.s rfl)) ?_
          refine wo (Spec.assign (Has.s rfl)) ?_
          refine wo (Spec.assign (Has.s rfl)) ?_
          refine Walk.nil ?_
          refine Leaf.thenN ?_
          refine CWalk.ret ?_
          obtain rfl := Option.some.inj hm
          exact Leaf.unmark (t := 70) rfl rfl (Leaf.retC2 rfl (HasR.cv (HasR.tmp (Has.s rfl)) (Cv.slF (T := [76]) (te := []) rfl)) (HasR.cv (HasR.tmp (Has.s rfl)) Cv.fl))
    ·refine CWalk.seq ?_
     refine CWalk.region ?_
     refine wo (Spec.fieldAddrO fd31_0 (Has.cv (Has.s rfl) (Cv.isvP rfl))) ?_
     refine wo (Spec.loadF (i := 0) ty5 rfl (Has.s rfl) rfl (HasG.s rfl)) ?_
     refine wo (Spec.conv (α := UInt8) (β := Int) Try.underlying5 Try.underlying3 (Has.s rfl)) ?_
     refine wo (Spec.geqI (Has.s rfl) Has.int) ?_
     refine wo (Spec.assign (Has.s rfl)) ?_
     refine Walk.nil ?_
     refine Leaf.thenN ?_
     refine CWalk.cond rfl (fun hb => ?_) (fun hb => ?_)
     ·have hm := cond_t hb hm
      refine CWalk.skip ?_
      exact Leaf.join (decide ((wI (a2.Kind.toNat : Int)) ≥ (4 : Int))) hm (su (sn (sn (st (sf (sm (sm (sf (sf (sf (sf (sm (sn (sn Sub.nil))))))))))))))
     ·have hm := cond_f hb hm
      refine CWalk.seq ?_
      refine CWalk.region ?_
      refine wo (Spec.fieldAddrO fd31_0 (Has.cv (Has.s rfl) (Cv.isvP rfl))) ?_
      refine wo (Spec.loadF (i := 0) ty5 rfl (Has.s rfl) rfl (HasG.s rfl)) ?_
      obtain ⟨x20, hx20, hm⟩ := bind_some hm
      refine wo (Spec.idxVar8 hx20 sm63 (Has.cv (Has.s rfl) (Cv.isvP rfl)) (Has.s rfl)) ?_
      obtain ⟨x21, hx21, hm⟩ := bind_some hm
      refine wo (Spec.loadZ (T := [0, 29, 36]) (l := ([(none : Option (Option (List Int))), j3, j4, j5] : List (Option (Option (List Int))))) hx21 ty62 rfl (Has.s rfl) rfl (HasZs.cons (HasG.cv (HasG.s rfl) (Cv.fzM rfl)) (HasZs.cons (HasG.cv (HasG.s rfl) (Cv.fzM rfl)) (HasZs.cons (HasG.cv (HasG.s rfl) (Cv.fzM rfl)) (HasZs.cons (HasG.cv (HasG.s rfl) (Cv.fzM rfl)) HasZs.nil))))) ?_
      refine wo (Spec.eqlFz Try.underlying62 (Has.s rfl)) ?_
      refine wo (Spec.assign (Has.s rfl)) ?_
      refine Walk.nil ?_
      refine Leaf.thenN ?_
      refine CWalk.cond rfl (fun hb => ?_) (fun hb => ?_)
      ·have hm := cond_t hb hm
       refine CWalk.skip ?_
       exact Leaf.join ((x21).isNone) hm (su (sn (sn (st (sf (sm (sm (sf (sf (sf (sf (sm (sn (sn Sub.nil))))))))))))))
      ·have hm := cond_f hb hm
       obtain ⟨x22, hx22, hm⟩ := bind_some hm
       obtain ⟨x23, hx23, hm⟩ := bind_some hm
       obtain ⟨x24, hx24, hm⟩ := bind_some hm
       obtain ⟨x25, hx25, hm⟩ := bind_some hm
       refine CWalk.drawM [[], [0], [0, 1], [0, 1, 2], [0, 1, 2, 3], [], [5], [0, 1, 2, 3, 4, 5, 6], [0, 1, 2, 3, 4, 5, 6, 7], [0, 1, 2, 3, 4, 5, 6, 7, 8]] [[.fact 46 (.pto 24 0)], [.fact 47 (.rep [] a2.Kind)], [.fact 48 (.pto 50 x22)], [.fact 49 (.fz Try.prog [0, 29, 36] (x23 : Option (Option (List Int))))], [.fact 50 (.rep [55] (x24 : List Int))], [.fact 51 (.pto 24 1)], [.fact 52 (.rep [0] a2.Reads)], [.fact 53 (.rep [] (x25 : Bool))], [.fact 54 (.rep [] ((!x25) : Bool))], [.fact 36 (.rep [] ((!x25) : Bool))]] mixed (by kernel_rfl) (ao (so (Spec.fieldAddrO fd31_0 (Has.cv (Has.s rfl) (Cv.isvP rfl)))) (ao (so (Spec.loadF (i := 0) ty5 rfl (Has.s rfl) rfl (HasG.s rfl))) (ao (so (Spec.idxVar8 hx22 sm63 (Has.cv (Has.s rfl) (Cv.isvP rfl)) (Has.s rfl))) (ao (so (Spec.loadZ (T := [0, 29, 36]) (l := ([(none : Option (Option (List Int))), j3, j4, j5] : List (Option (Option (List Int))))) hx23 ty62 rfl (Has.s rfl) rfl (HasZs.cons (HasG.cv (HasG.s rfl) (Cv.fzM rfl)) (HasZs.cons (HasG.cv (HasG.s rfl) (Cv.fzM rfl)) (HasZs.cons (HasG.cv (HasG.s rfl) (Cv.fzM rfl)) (HasZs.cons (HasG.cv (HasG.s rfl) (Cv.fzM rfl)) HasZs.nil)))))) (ao (so (Spec.callFz 55 rfl hx24 (Has.s rfl))) (ao (so (Spec.fieldAddrO fd31_1 (Has.cv (Has.s rfl) (Cv.isvP rfl)))) (ao (so (Spec.loadF (i := 1) ty29 rfl (Has.s rfl) rfl (HasG.s rfl))) (ao (so (Spec.callE [0, 55] 56 rfl en30 (slices_Equal_int_int_c x24 a2.Reads hx25) (HasAll.cons (Has.m (Has.s rfl) rfl) (HasAll.cons (Has.m (Has.s rfl) rfl) HasAll.nil)))) (ao (so (Spec.not (Has.s rfl))) (ao (so (Spec.assign (Has.s rfl))) AllM.nil)))))))))) ?_
       exact Leaf.join (!x25) hm (su (sn (sn (st (sf (sm (sm (sf (sf (sf (sf (sm (sn (sn Sub.nil))))))))))))))

/-- freeboard/freeboardlaw18.is -/
def law18_is (a0 : Plan) (a1 : UInt8) (a2 : List (List UInt8)) : Option (Bool) :=
  Option.bind (law18_three) (fun x1 => Option.bind (law18_one) (fun x2 => Option.bind (even_Parity x1 x2 a0 a2) (fun x3 => Option.bind (gO ((x3.2 == (0 : Int))) (law18_full a1)) (fun x4 => some ((x3.2 == (0 : Int)) && ((Str.mk x3.1).s == (Str.mk x4).s))))))
set_option maxRecDepth 100000 in
set_option maxHeartbeats 2000000 in
theorem law18_is_c (a0 : Plan) (a1 : UInt8) (a2 : List (List UInt8)) {r : Bool} (hm : law18_is a0 a1 a2 = some r) : Ctr Try.prog 39 [.rep 0 a0, .rep 0 a1, .rep 0 a2] (.fl r) [] := by
 refine ctr_of_walk [[]] 27 Try.func39 rfl rfl rfl rfl (fun w0 om => ?_)
 unfold law18_is at hm
 refine CWalk.sub (G' := [.fact 0 (.rep [0] (a0 : Plan)), .fact 1 (.rep [] (a1 : UInt8)), .fact 2 (.rep [0] (a2 : List (List UInt8)))]) (sn (Sub.cons (Has.fl (Has.s rfl)) (sn Sub.nil))) ?_
 refine CWalk.seq ?_
 refine CWalk.region ?_
 refine ws (Step.boxObj (ls := [(false, 1, Fact.rep [] a0.Kind), (false, 1, Fact.rep [0] a0.Reads)]) 10 rfl rfl rfl rfl (HasL.flds (Has.cv (Has.s rfl) (Cv.trans (Cv.opens (chPlan a0)) (Cv.flds (CvL.cons Cv.fl (CvL.cons Cv.refl CvL.nil))))))) ?_
 refine wo (Spec.assign Has.bool) ?_
 refine Walk.nil ?_
 refine Leaf.thenN ?_
 refine CWalk.seq ?_
 obtain ⟨x1, hx1, hm⟩ := bind_some hm
 obtain ⟨x2, hx2, hm⟩ := bind_some hm
 obtain ⟨x3, hx3, hm⟩ := bind_some hm
 refine CWalk.drawM [[], [0], [], [], [0, 1, 2, 3], [0, 1, 2, 3, 4], [0, 1, 2, 3, 4, 5], [0, 1, 2, 3, 4, 5], [0, 1, 2, 3, 4, 5, 6], [0, 1, 2, 3, 4, 5, 6, 7, 8]] [[.fact 10 (.rep [] (x1 : Config))], [.fact 11 (.flds [(false, 1, Fact.rep [] x2.Stripe), (false, 1, Fact.ow [14] [15] 36 (x2.Blocks : List (List UInt8))), (false, 1, Fact.ow [16] [] 4 (x2.Dirty : List Bool)), (false, 1, Fact.rep [] x2.Phase), (false, 1, Fact.rep [] x2.Deals), (false, 1, Fact.rep [] x2.Seq)])], [.fact 12 (.flds [(false, 1, Fact.rep [] a0.Kind), (false, 1, Fact.rep [0] a0.Reads)])], [.fact 13 (.rep [0] (a2 : List (List UInt8)))], [.fact 14 (.tup2 (Fact.sl [17] [] (x3.1 : List UInt8)) (Fact.rep [] x3.2))], [.fact 9 (.tup2 (Fact.sl [17] [] (x3.1 : List UInt8)) (Fact.rep [] x3.2))], [.fact 15 (.sl [17] [] (x3.1 : List UInt8))], [.fact 16 (.rep [] x3.2)], [.fact 7 (.sl [17] [] (x3.1 : List UInt8))], [.fact 8 (.rep [] x3.2)]] mixed (by kernel_rfl) (ao (so (Spec.callE [] 13 rfl en15 (law18_three_c  hx1) HasAll.nil)) (ao (so (Spec.callE [] 14 rfl en16 (law18_one_c  hx2) HasAll.nil)) (ao (so (Spec.loadObj (ls := [(false, 1, Fact.rep [] a0.Kind), (false, 1, Fact.rep [0] a0.Reads)]) ty31 rfl rfl (Has.s rfl) rfl (HasGs.cons (HasG.s rfl) (HasGs.cons (HasG.s rfl) HasGs.nil)))) (ao (so (Spec.move (Has.s rfl))) (ao (so (Spec.callE [0, 14, 15, 16] 17 rfl en11 (even_Parity_c x1 x2 a0 a2 hx3) (HasAll.cons (Has.fl (Has.s rfl)) (HasAll.cons (Has.m (Has.cv (Has.s rfl) (Cv.trans (Cv.flds (CvL.cons Cv.fl (CvL.cons (Cv.trans (Cv.trans Cv.owSl (Cv.slRep (T' := [14, 15]) rfl rfl)) (Cv.m rfl)) (CvL.cons (Cv.trans (Cv.trans Cv.owSl (Cv.slRep (T' := [16]) rfl rfl)) (Cv.m rfl)) (CvL.cons Cv.fl (CvL.cons Cv.fl (CvL.cons Cv.fl CvL.nil))))))) (Cv.close (T := [14, 15, 16]) (chHead x2)))) rfl) (HasAll.cons (Has.m (Has.cv (Has.s rfl) (Cv.trans (Cv.flds (CvL.cons Cv.fl (CvL.cons (Cv.m rfl) CvL.nil))) (Cv.close (T := [0]) (chPlan a0)))) rfl) (HasAll.cons (Has.m (Has.s rfl) rfl) HasAll.nil)))))) (ao (so (Spec.move (Has.s rfl))) (ao (so (Spec.ext0 (Has.s rfl))) (ao (so (Spec.ext1 (Has.s rfl))) (ao (so (Spec.assign (Has.s rfl))) (ao (so (Spec.assign (Has.s rfl))) AllM.nil)))))))))) ?_
 refine Leaf.thenN ?_
 refine CWalk.seq ?_
 obtain ⟨x4, hx4, hm⟩ := bind_some hm
 refine CWalk.drawM [[], [0], [0, 1], [0, 1, 2], [0, 1, 2, 3], [0, 1, 2], [0, 1, 2, 5], [0, 1, 2, 5, 6], [0, 1, 2, 3, 4, 5, 6, 7], [0, 1, 2, 3, 4, 5, 6, 7, 8], [0, 1, 2, 3, 4, 5, 6, 7, 8, 9]] [[.fact 17 (.rep [] x3.2)], [.fact 18 (.rep [] ((x3.2 == (0 : Int)) : Bool))], [.fact 19 (.rep [] ((x3.2 == (0 : Int)) : Bool))], [.fact 20 (.under ((x3.2 == (0 : Int)) = true) (.sl [17] [] (x3.1 : List UInt8)))], [.fact 21 (.under ((x3.2 == (0 : Int)) = true) (.rep [] ((Str.mk x3.1) : Str)))], [.fact 22 (.under ((x3.2 == (0 : Int)) = true) (.rep [] (a1 : UInt8)))], [.fact 23 (.under ((x3.2 == (0 : Int)) = true) (.ow [18] [] 5 (x4 : List UInt8)))], [.fact 24 (.under ((x3.2 == (0 : Int)) = true) (.rep [] ((Str.mk x4) : Str)))], [.fact 25 (.under ((x3.2 == (0 : Int)) = true) (.rep [] (((Str.mk x3.1).s == (Str.mk x4).s) : Bool)))], [.fact 26 (.rep [] (((x3.2 == (0 : Int)) && ((Str.mk x3.1).s == (Str.mk x4).s)) : Bool))], [.fact 6 (.rep [] (((x3.2 == (0 : Int)) && ((Str.mk x3.1).s == (Str.mk x4).s)) : Bool))]] mixed (by kernel_rfl) (ao (so (Spec.move (Has.s rfl))) (ao (so (Spec.eqlI (Has.s rfl) Has.int)) (ao (so (Spec.move (Has.s rfl))) (ao (StepG.opg rfl rfl rfl (fun hb => Spec.move (Has.s rfl))) (ao (StepG.opg rfl rfl rfl (fun hb => Spec.toStr Try.underlying36 Try.underlying5 Try.underlying9 (Has.cv (Has.u rfl hb) (Cv.slRep (T' := [17]) rfl rfl)))) (ao (StepG.opg rfl rfl rfl (fun hb => Spec.move (Has.s rfl))) (ao (StepG.opg rfl rfl rfl (fun hb => Spec.callE [] 18 rfl en26 (law18_full_c a1 (gO_t hx4 hb)) (HasAll.cons (Has.fl (Has.u rfl hb)) HasAll.nil))) (ao (StepG.opg rfl rfl rfl (fun hb => Spec.toStr Try.underlying36 Try.underlying5 Try.underlying9 (Has.cv (Has.u rfl hb) (Cv.trans Cv.owSl (Cv.slRep (T' := [18]) rfl rfl))))) (ao (StepG.opg rfl rfl rfl (fun hb => Spec.eqlS (Has.u rfl hb) (Has.u rfl hb))) (ao (so (Spec.and (Has.s rfl) (fun h => Has.u rfl h))) (ao (so (Spec.assign (Has.s rfl))) AllM.nil))))))))))) ?_
 refine Leaf.thenN ?_
 refine CWalk.ret ?_
 obtain rfl := Option.some.inj hm
 exact Leaf.retC1 rfl (HasR.cv (HasR.tmp (Has.s rfl)) Cv.fl)

/-- freeboard/freeboardlaw18.alive -/
def law18_alive : Option (Bool) :=
  Option.bind (law18_full (3 : UInt8)) (fun x1 => Option.bind (law18_is (Plan.mk (2 : UInt8) ([(1 : Int)])) (6 : UInt8) ([x1])) (fun x2 => Option.bind (gO (x2) (law18_full (6 : UInt8))) (fun x3 => Option.bind (gO (x2) (law18_full (3 : UInt8))) (fun x4 => Option.bind (gO (x2) (law18_is (Plan.mk (3 : UInt8) ([(0 : Int), (2 : Int)])) (0 : UInt8) ([x3, x4]))) (fun x5 => some (x2 && x5))))))
set_option maxRecDepth 100000 in
set_option maxHeartbeats 2000000 in
theorem law18_alive_c {r : Bool} (hm : law18_alive = some r) : Ctr Try.prog 18 [] (.fl r) [] := by
 refine ctr_of_walk [[]] 14 Try.func18 rfl rfl rfl rfl (fun w0 om => ?_)
 unfold law18_alive at hm
 refine CWalk.sub (G' := []) (Sub.nil) ?_
 refine CWalk.seq ?_
 refine CWalk.region ?_
 refine wo (Spec.assign Has.bool) ?_
 refine Walk.nil ?_
 refine Leaf.thenN ?_
 refine CWalk.seq ?_
 refine CWalk.region ?_
 refine wo (Spec.lit (xs := [.const (.int .i64 1)]) (T := []) 10 rfl ow29 rfl rfl rfl rfl (HasEach.cons (Has.fl Has.int) HasEach.nil)) ?_
 refine wo (Spec.build (us := [(0, .const (.int .u8 2)), (1, .tmp 1)]) (ls' := [(false, 1, Fact.rep [] ((2 : UInt8) : UInt8)), (false, 1, Fact.rep [10] ([(1 : Int)] : List Int))]) bd31 rfl (BP.cons rfl rfl (Has.u8 2 rfl) (Has.u8 2 rfl) (BP.cons rfl rfl (Has.s rfl) (Has.s rfl) BP.nil))) ?_
 obtain ⟨x1, hx1, hm⟩ := bind_some hm
 refine wo (f := Fact.ow [11] [] 5 (x1 : List UInt8)) (Spec.callE [] 11 rfl en26 (law18_full_c (3 : UInt8) hx1) (HasAll.cons (Has.fl (Has.u8 3 rfl)) HasAll.nil)) ?_
 refine wo (Spec.lit (xs := [.tmp 3]) (T := [11]) 12 rfl ow25 rfl rfl rfl rfl (HasEach.cons (Has.m (Has.cv (Has.s rfl) (Cv.trans Cv.owSl (Cv.slRep (T' := [11]) rfl rfl))) rfl) HasEach.nil)) ?_
 obtain ⟨x2, hx2, hm⟩ := bind_some hm
 refine wo (f := Fact.rep [] (x2 : Bool)) (Spec.callE [10, 11, 12] 13 rfl en39 (law18_is_c (Plan.mk (2 : UInt8) ([(1 : Int)])) (6 : UInt8) ([x1]) hx2) (HasAll.cons (Has.m (Has.cv (Has.s rfl) (Cv.trans (Cv.flds (CvL.cons Cv.fl (CvL.cons (Cv.m rfl) CvL.nil))) (Cv.close (T := [10]) (chPlan (Plan.mk (2 : UInt8) ([(1 : Int)])))))) rfl) (HasAll.cons (Has.fl (Has.u8 6 rfl)) (HasAll.cons (Has.m (Has.s rfl) rfl) HasAll.nil)))) ?_
 refine mv ?_
 refine wg rfl rfl (fun hb => Spec.lit (xs := [.const (.int .i64 0), .const (.int .i64 2)]) (T := []) 14 rfl ow29 rfl rfl rfl rfl (HasEach.cons (Has.fl Has.int) (HasEach.cons (Has.fl Has.int) HasEach.nil))) ?_
 refine wg rfl rfl (fun hb => Spec.build (us := [(0, .const (.int .u8 3)), (1, .tmp 7)]) (ls' := [(false, 1, Fact.rep [] ((3 : UInt8) : UInt8)), (false, 1, Fact.rep [14] ([(0 : Int), (2 : Int)] : List Int))]) bd31 rfl (BP.cons rfl rfl (Has.u8 3 rfl) (Has.u8 3 rfl) (BP.cons rfl rfl (Has.u rfl hb) (Has.u rfl hb) BP.nil))) ?_
 obtain ⟨x3, hx3, hm⟩ := bind_some hm
 refine wg (f := Fact.ow [15] [] 5 (x3 : List UInt8)) rfl rfl (fun hb => Spec.callE [] 15 rfl en26 (law18_full_c (6 : UInt8) (gO_t hx3 hb)) (HasAll.cons (Has.fl (Has.u8 6 rfl)) HasAll.nil)) ?_
 obtain ⟨x4, hx4, hm⟩ := bind_some hm
 refine wg (f := Fact.ow [16] [] 5 (x4 : List UInt8)) rfl rfl (fun hb => Spec.callE [] 16 rfl en26 (law18_full_c (3 : UInt8) (gO_t hx4 hb)) (HasAll.cons (Has.fl (Has.u8 3 rfl)) HasAll.nil)) ?_
 refine wg rfl rfl (fun hb => Spec.lit (xs := [.tmp 9, .tmp 10]) (T := [15, 16]) 17 rfl ow25 rfl rfl rfl rfl (HasEach.cons (Has.m (Has.cv (Has.u rfl hb) (Cv.trans Cv.owSl (Cv.slRep (T' := [15]) rfl rfl))) rfl) (HasEach.cons (Has.m (Has.cv (Has.u rfl hb) (Cv.trans Cv.owSl (Cv.slRep (T' := [16]) rfl rfl))) rfl) HasEach.nil))) ?_
 obtain ⟨x5, hx5, hm⟩ := bind_some hm
 refine wg (f := Fact.rep [] (x5 : Bool)) rfl rfl (fun hb => Spec.callE [14, 15, 16, 17] 18 rfl en39 (law18_is_c (Plan.mk (3 : UInt8) ([(0 : Int), (2 : Int)])) (0 : UInt8) ([x3, x4]) (gO_t hx5 hb)) (HasAll.cons (Has.m (Has.cv (Has.u rfl hb) (Cv.trans (Cv.flds (CvL.cons Cv.fl (CvL.cons (Cv.m rfl) CvL.nil))) (Cv.close (T := [14]) (chPlan (Plan.mk (3 : UInt8) ([(0 : Int), (2 : Int)])))))) rfl) (HasAll.cons (Has.fl (Has.u8 0 rfl)) (HasAll.cons (Has.m (Has.u rfl hb) rfl) HasAll.nil)))) ?_
 refine wo (Spec.and (Has.s rfl) (fun h => Has.u rfl h)) ?_
 refine wo (Spec.assign (Has.s rfl)) ?_
 refine Walk.nil ?_
 refine Leaf.thenN ?_
 refine CWalk.ret ?_
 obtain rfl := Option.some.inj hm
 exact Leaf.retC1 rfl (HasR.cv (HasR.tmp (Has.s rfl)) Cv.fl)

end Go.Proofs.Ytbedfodlofannaa
