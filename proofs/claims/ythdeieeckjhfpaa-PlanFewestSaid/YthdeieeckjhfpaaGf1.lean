/- Printed by a program of ours: models of functions, and that calls do what they say. -/
import Derived.Test.YthdeieeckjhfpaaProg
import Derived.Test.YthdeieeckjhfpaaCore32
import Derived.KernelRfl
namespace Go.Proofs.Ythdeieeckjhfpaa
open Go GL
set_option linter.unusedVariables false

structure Config where
  Id : UInt32
  Members : Int
  Chunk : Int
  Rows : Int
  Log : Int
  Heads : Int
  deriving Inhabited, DecidableEq
instance : Rp Config := Rp.via (inferInstance : Rp (UInt32 × Int × Int × Int × Int × Int)) (fun x => (x.Id, x.Members, x.Chunk, x.Rows, x.Log, x.Heads))
theorem chConfig (x : Config) : Ch x [⟨inferInstance, x.Id⟩, ⟨inferInstance, x.Members⟩, ⟨inferInstance, x.Chunk⟩, ⟨inferInstance, x.Rows⟩, ⟨inferInstance, x.Log⟩, ⟨inferInstance, x.Heads⟩] := Ch.via (ChT.cons (ChT.cons (ChT.cons (ChT.cons (ChT.cons (ChT.one _))))))
instance : Lo Config := Lo.via (inferInstance : Rp (UInt32 × Int × Int × Int × Int × Int)) inferInstance (fun x : Config => (x.Id, x.Members, x.Chunk, x.Rows, x.Log, x.Heads))
theorem loConfig_0 (x : Config) : LoAt x 0 x.Id := fun F cs w h => (LoAt.fst : LoAt ((x.Id, x.Members, x.Chunk, x.Rows, x.Log, x.Heads)) 0 x.Id) F cs w h
theorem loConfig_1 (x : Config) : LoAt x 1 x.Members := fun F cs w h => ((LoAt.snd LoAt.fst) : LoAt ((x.Id, x.Members, x.Chunk, x.Rows, x.Log, x.Heads)) 1 x.Members) F cs w h
theorem loConfig_2 (x : Config) : LoAt x 2 x.Chunk := fun F cs w h => ((LoAt.snd (LoAt.snd LoAt.fst)) : LoAt ((x.Id, x.Members, x.Chunk, x.Rows, x.Log, x.Heads)) 2 x.Chunk) F cs w h
theorem loConfig_3 (x : Config) : LoAt x 3 x.Rows := fun F cs w h => ((LoAt.snd (LoAt.snd (LoAt.snd LoAt.fst))) : LoAt ((x.Id, x.Members, x.Chunk, x.Rows, x.Log, x.Heads)) 3 x.Rows) F cs w h
theorem loConfig_4 (x : Config) : LoAt x 4 x.Log := fun F cs w h => ((LoAt.snd (LoAt.snd (LoAt.snd (LoAt.snd LoAt.fst)))) : LoAt ((x.Id, x.Members, x.Chunk, x.Rows, x.Log, x.Heads)) 4 x.Log) F cs w h
theorem loConfig_5 (x : Config) : LoAt x 5 x.Heads := fun F cs w h => ((LoAt.snd (LoAt.snd (LoAt.snd (LoAt.snd (LoAt.snd LoAt.self))))) : LoAt ((x.Id, x.Members, x.Chunk, x.Rows, x.Log, x.Heads)) 5 x.Heads) F cs w h
instance : Flat Config := ⟨fun F F' x cs w w' h => Flat.flat (α := UInt32 × Int × Int × Int × Int × Int) F F' ((x.Id, x.Members, x.Chunk, x.Rows, x.Log, x.Heads)) cs w w' h⟩

structure Head where
  Stripe : Int
  Blocks : List (List UInt8)
  Dirty : List Bool
  Phase : UInt8
  Deals : Bool
  Seq : UInt32
  deriving Inhabited, DecidableEq
instance : Rp Head := Rp.via (inferInstance : Rp (Int × (List (List UInt8)) × (List Bool) × UInt8 × Bool × UInt32)) (fun x => (x.Stripe, x.Blocks, x.Dirty, x.Phase, x.Deals, x.Seq))
theorem chHead (x : Head) : Ch x [⟨inferInstance, x.Stripe⟩, ⟨inferInstance, x.Blocks⟩, ⟨inferInstance, x.Dirty⟩, ⟨inferInstance, x.Phase⟩, ⟨inferInstance, x.Deals⟩, ⟨inferInstance, x.Seq⟩] := Ch.via (ChT.cons (ChT.cons (ChT.cons (ChT.cons (ChT.cons (ChT.one _))))))
instance : Lo Head := Lo.via (inferInstance : Rp (Int × (List (List UInt8)) × (List Bool) × UInt8 × Bool × UInt32)) inferInstance (fun x : Head => (x.Stripe, x.Blocks, x.Dirty, x.Phase, x.Deals, x.Seq))
theorem loHead_0 (x : Head) : LoAt x 0 x.Stripe := fun F cs w h => (LoAt.fst : LoAt ((x.Stripe, x.Blocks, x.Dirty, x.Phase, x.Deals, x.Seq)) 0 x.Stripe) F cs w h
theorem loHead_1 (x : Head) : LoAt x 1 x.Blocks := fun F cs w h => ((LoAt.snd LoAt.fst) : LoAt ((x.Stripe, x.Blocks, x.Dirty, x.Phase, x.Deals, x.Seq)) 1 x.Blocks) F cs w h
theorem loHead_2 (x : Head) : LoAt x 2 x.Dirty := fun F cs w h => ((LoAt.snd (LoAt.snd LoAt.fst)) : LoAt ((x.Stripe, x.Blocks, x.Dirty, x.Phase, x.Deals, x.Seq)) 2 x.Dirty) F cs w h
theorem loHead_3 (x : Head) : LoAt x 3 x.Phase := fun F cs w h => ((LoAt.snd (LoAt.snd (LoAt.snd LoAt.fst))) : LoAt ((x.Stripe, x.Blocks, x.Dirty, x.Phase, x.Deals, x.Seq)) 3 x.Phase) F cs w h
theorem loHead_4 (x : Head) : LoAt x 4 x.Deals := fun F cs w h => ((LoAt.snd (LoAt.snd (LoAt.snd (LoAt.snd LoAt.fst)))) : LoAt ((x.Stripe, x.Blocks, x.Dirty, x.Phase, x.Deals, x.Seq)) 4 x.Deals) F cs w h
theorem loHead_5 (x : Head) : LoAt x 5 x.Seq := fun F cs w h => ((LoAt.snd (LoAt.snd (LoAt.snd (LoAt.snd (LoAt.snd LoAt.self))))) : LoAt ((x.Stripe, x.Blocks, x.Dirty, x.Phase, x.Deals, x.Seq)) 5 x.Seq) F cs w h

structure Arr3_Int where
  e0 : Int
  e1 : Int
  e2 : Int
  deriving Inhabited, DecidableEq
instance : Rp Arr3_Int := Rp.via (inferInstance : Rp (Int × Int × Int)) (fun x => (x.e0, x.e1, x.e2))
theorem chArr3_Int (x : Arr3_Int) : Ch x [⟨inferInstance, x.e0⟩, ⟨inferInstance, x.e1⟩, ⟨inferInstance, x.e2⟩] := Ch.via (ChT.cons (ChT.cons (ChT.one _)))
instance : Lo Arr3_Int := Lo.via (inferInstance : Rp (Int × Int × Int)) inferInstance (fun x : Arr3_Int => (x.e0, x.e1, x.e2))
theorem loArr3_Int_0 (x : Arr3_Int) : LoAt x 0 x.e0 := fun F cs w h => (LoAt.fst : LoAt ((x.e0, x.e1, x.e2)) 0 x.e0) F cs w h
theorem loArr3_Int_1 (x : Arr3_Int) : LoAt x 1 x.e1 := fun F cs w h => ((LoAt.snd LoAt.fst) : LoAt ((x.e0, x.e1, x.e2)) 1 x.e1) F cs w h
theorem loArr3_Int_2 (x : Arr3_Int) : LoAt x 2 x.e2 := fun F cs w h => ((LoAt.snd (LoAt.snd LoAt.self)) : LoAt ((x.e0, x.e1, x.e2)) 2 x.e2) F cs w h
instance : Flat Arr3_Int := ⟨fun F F' x cs w w' h => Flat.flat (α := Int × Int × Int) F F' ((x.e0, x.e1, x.e2)) cs w w' h⟩

structure Plan where
  Kind : UInt8
  Reads : List Int
  deriving Inhabited, DecidableEq
instance : Rp Plan := Rp.via (inferInstance : Rp (UInt8 × (List Int))) (fun x => (x.Kind, x.Reads))
theorem chPlan (x : Plan) : Ch x [⟨inferInstance, x.Kind⟩, ⟨inferInstance, x.Reads⟩] := Ch.via (ChT.cons (ChT.one _))
instance : Lo Plan := Lo.via (inferInstance : Rp (UInt8 × (List Int))) inferInstance (fun x : Plan => (x.Kind, x.Reads))
theorem loPlan_0 (x : Plan) : LoAt x 0 x.Kind := fun F cs w h => (LoAt.fst : LoAt ((x.Kind, x.Reads)) 0 x.Kind) F cs w h
theorem loPlan_1 (x : Plan) : LoAt x 1 x.Reads := fun F cs w h => ((LoAt.snd LoAt.self) : LoAt ((x.Kind, x.Reads)) 1 x.Reads) F cs w h

structure Row where
  Config : Config
  n : Int
  deriving Inhabited, DecidableEq
instance : Rp Row := Rp.via (inferInstance : Rp (Config × Int)) (fun x => (x.Config, x.n))
theorem chRow (x : Row) : Ch x [⟨inferInstance, x.Config⟩, ⟨inferInstance, x.n⟩] := Ch.via (ChT.cons (ChT.one _))
instance : Lo Row := Lo.via (inferInstance : Rp (Config × Int)) inferInstance (fun x : Row => (x.Config, x.n))
theorem loRow_0 (x : Row) : LoAt x 0 x.Config := fun F cs w h => (LoAt.fst : LoAt ((x.Config, x.n)) 0 x.Config) F cs w h
theorem loRow_1 (x : Row) : LoAt x 6 x.n := fun F cs w h => ((LoAt.snd LoAt.self) : LoAt ((x.Config, x.n)) 6 x.n) F cs w h
instance : Flat Row := ⟨fun F F' x cs w w' h => Flat.flat (α := Config × Int) F F' ((x.Config, x.n)) cs w w' h⟩

theorem zl28 : ZeroLs Try.prog 28 [(false, 1, Fact.rep [] ((0 : Int) : Int)), (false, 1, Fact.nilv), (false, 1, Fact.nilv), (false, 1, Fact.rep [] ((0 : UInt8) : UInt8)), (false, 1, Fact.rep [] (false : Bool)), (false, 1, Fact.rep [] ((0 : UInt32) : UInt32))] := ⟨⟨[.int .i64 0, .slice none 0 0, .slice none 0 0, .int .u8 0, .bool false, .int .u32 0], by kernel_rfl, fun g w => FldRel.zr (fun _ _ => rfl) (FldRel.zn (FldRel.zn (FldRel.zr (fun _ _ => rfl) (FldRel.zr (fun _ _ => rfl) (FldRel.zr (fun _ _ => rfl) (rfl))))))⟩⟩
theorem zl24 : ZeroLs Try.prog 24 [(false, 1, Fact.rep [] ((0 : UInt32) : UInt32)), (false, 1, Fact.rep [] ((0 : Int) : Int)), (false, 1, Fact.rep [] ((0 : Int) : Int)), (false, 1, Fact.rep [] ((0 : Int) : Int)), (false, 1, Fact.rep [] ((0 : Int) : Int)), (false, 1, Fact.rep [] ((0 : Int) : Int))] := ⟨⟨[.int .u32 0, .int .i64 0, .int .i64 0, .int .i64 0, .int .i64 0, .int .i64 0], by kernel_rfl, fun g w => FldRel.zr (fun _ _ => rfl) (FldRel.zr (fun _ _ => rfl) (FldRel.zr (fun _ _ => rfl) (FldRel.zr (fun _ _ => rfl) (FldRel.zr (fun _ _ => rfl) (FldRel.zr (fun _ _ => rfl) (rfl))))))⟩⟩
theorem bd24 : BuildTy Try.prog 24 [(0, 1), (1, 1), (2, 1), (3, 1), (4, 1), (5, 1)] [(false, 1, Fact.rep [] ((0 : UInt32) : UInt32)), (false, 1, Fact.rep [] ((0 : Int) : Int)), (false, 1, Fact.rep [] ((0 : Int) : Int)), (false, 1, Fact.rep [] ((0 : Int) : Int)), (false, 1, Fact.rep [] ((0 : Int) : Int)), (false, 1, Fact.rep [] ((0 : Int) : Int))] := ⟨⟨_, [.int .u32 0, .int .i64 0, .int .i64 0, .int .i64 0, .int .i64 0, .int .i64 0], by kernel_rfl, Try.underlying24, (fun g w => FldRel.zr (fun _ _ => rfl) (FldRel.zr (fun _ _ => rfl) (FldRel.zr (fun _ _ => rfl) (FldRel.zr (fun _ _ => rfl) (FldRel.zr (fun _ _ => rfl) (FldRel.zr (fun _ _ => rfl) (rfl))))))), by kernel_rfl⟩⟩
theorem ty24 : Ty Try.prog 24 (Config) := Ty.of (by kernel_rfl)
theorem en13 : enters Try.prog 13 = true := by kernel_rfl
theorem fd24_2 : FieldTy Try.prog 24 2 2 1 := FieldTy.of Try.underlying24 (by kernel_rfl) rfl
theorem ty3 : Ty Try.prog 3 (Int) := Ty.of (by kernel_rfl)
theorem fd24_3 : FieldTy Try.prog 24 3 3 1 := FieldTy.of Try.underlying24 (by kernel_rfl) rfl
theorem fd24_1 : FieldTy Try.prog 24 1 1 1 := FieldTy.of Try.underlying24 (by kernel_rfl) rfl
theorem bd92 : BuildTyA Try.prog 92 [(0, 1), (1, 1), (2, 1)] [(false, 1, Fact.rep [] ((0 : Int) : Int)), (false, 1, Fact.rep [] ((0 : Int) : Int)), (false, 1, Fact.rep [] ((0 : Int) : Int))] := ⟨⟨_, _, 1, [.int .i64 0, .int .i64 0, .int .i64 0], by kernel_rfl, Try.underlying92, by kernel_rfl, (fun g w => FldRel.zr (fun _ _ => rfl) (FldRel.zr (fun _ _ => rfl) (FldRel.zr (fun _ _ => rfl) (rfl)))), rfl⟩⟩
theorem fd24_5 : FieldTy Try.prog 24 5 5 1 := FieldTy.of Try.underlying24 (by kernel_rfl) rfl
theorem ow93 : OwnTy Try.prog 93 92 (Arr3_Int) := OwnTy.of Try.underlying93 (by kernel_rfl) rfl (by kernel_rfl)
theorem sl93 : SlTy Try.prog 93 92 (Arr3_Int) := SlTy.of Try.underlying93 (by kernel_rfl) rfl
theorem ty92 : Ty Try.prog 92 (Arr3_Int) := Ty.of (by kernel_rfl)
theorem zl92 : ZeroLs Try.prog 92 [(false, 1, Fact.rep [] ((0 : Int) : Int)), (false, 1, Fact.rep [] ((0 : Int) : Int)), (false, 1, Fact.rep [] ((0 : Int) : Int))] := ⟨⟨[.int .i64 0, .int .i64 0, .int .i64 0], by kernel_rfl, fun g w => FldRel.zr (fun _ _ => rfl) (FldRel.zr (fun _ _ => rfl) (FldRel.zr (fun _ _ => rfl) (rfl)))⟩⟩
theorem sm92 : SmTy Try.prog 92 3 3 1 := ⟨Try.underlying92, by kernel_rfl⟩
theorem en64 : enters Try.prog 64 = true := by kernel_rfl
theorem fd24_4 : FieldTy Try.prog 24 4 4 1 := FieldTy.of Try.underlying24 (by kernel_rfl) rfl
theorem en62 : enters Try.prog 62 = true := by kernel_rfl
theorem en49 : enters Try.prog 49 = true := by kernel_rfl
theorem en31 : enters Try.prog 31 = true := by kernel_rfl
theorem bd28 : BuildTy Try.prog 28 [(0, 1), (1, 1), (2, 1), (3, 1), (4, 1), (5, 1)] [(false, 1, Fact.rep [] ((0 : Int) : Int)), (false, 1, Fact.nilv), (false, 1, Fact.nilv), (false, 1, Fact.rep [] ((0 : UInt8) : UInt8)), (false, 1, Fact.rep [] (false : Bool)), (false, 1, Fact.rep [] ((0 : UInt32) : UInt32))] := ⟨⟨_, [.int .i64 0, .slice none 0 0, .slice none 0 0, .int .u8 0, .bool false, .int .u32 0], by kernel_rfl, Try.underlying28, (fun g w => FldRel.zr (fun _ _ => rfl) (FldRel.zn (FldRel.zn (FldRel.zr (fun _ _ => rfl) (FldRel.zr (fun _ _ => rfl) (FldRel.zr (fun _ _ => rfl) (rfl))))))), by kernel_rfl⟩⟩
theorem ty28 : Ty Try.prog 28 (Head) := Ty.of (by kernel_rfl)
theorem ow25 : OwnTy Try.prog 25 46 (List UInt8) := OwnTy.of Try.underlying25 (by kernel_rfl) rfl (by kernel_rfl)
theorem zt46 : ZeroTy Try.prog 46 ([] : List UInt8) := ⟨.slice none 0 0, by kernel_rfl, fun _ => nil_rel⟩
theorem ow26 : OwnTy Try.prog 26 4 (Bool) := OwnTy.of Try.underlying26 (by kernel_rfl) rfl (by kernel_rfl)
theorem zt4 : ZeroTy Try.prog 4 false := ⟨.bool false, by kernel_rfl, fun _ => rfl⟩
theorem mixed : Try.prog.follows .mixedOrders = true := by kernel_rfl
theorem en28 : enters Try.prog 28 = true := by kernel_rfl
theorem ty46 : Ty Try.prog 46 (List UInt8) := Ty.of (by kernel_rfl)
theorem en45 : enters Try.prog 45 = true := by kernel_rfl
theorem fd28_0 : FieldTy Try.prog 28 0 0 1 := FieldTy.of Try.underlying28 (by kernel_rfl) rfl
theorem fd28_1 : FieldTy Try.prog 28 1 1 1 := FieldTy.of Try.underlying28 (by kernel_rfl) rfl
theorem ty25 : Ty Try.prog 25 (List (List UInt8)) := Ty.of (by kernel_rfl)
theorem fd28_2 : FieldTy Try.prog 28 2 2 1 := FieldTy.of Try.underlying28 (by kernel_rfl) rfl
theorem ty26 : Ty Try.prog 26 (List Bool) := Ty.of (by kernel_rfl)
theorem fd28_3 : FieldTy Try.prog 28 3 3 1 := FieldTy.of Try.underlying28 (by kernel_rfl) rfl
theorem ty5 : Ty Try.prog 5 (UInt8) := Ty.of (by kernel_rfl)
theorem sl25 : SlTy Try.prog 25 46 (List UInt8) := SlTy.of Try.underlying25 (by kernel_rfl) rfl
theorem en50 : enters Try.prog 50 = true := by kernel_rfl
theorem en33 : enters Try.prog 33 = true := by kernel_rfl
theorem en32 : enters Try.prog 32 = true := by kernel_rfl
theorem sl26 : SlTy Try.prog 26 4 (Bool) := SlTy.of Try.underlying26 (by kernel_rfl) rfl
theorem ty4 : Ty Try.prog 4 (Bool) := Ty.of (by kernel_rfl)
theorem fd28_5 : FieldTy Try.prog 28 5 5 1 := FieldTy.of Try.underlying28 (by kernel_rfl) rfl
theorem ty22 : Ty Try.prog 22 (UInt32) := Ty.of (by kernel_rfl)
theorem fd28_4 : FieldTy Try.prog 28 4 4 1 := FieldTy.of Try.underlying28 (by kernel_rfl) rfl
theorem en17 : enters Try.prog 17 = true := by kernel_rfl
theorem en63 : enters Try.prog 63 = true := by kernel_rfl
theorem ow46 : OwnTy Try.prog 46 5 (UInt8) := OwnTy.of Try.underlying46 (by kernel_rfl) rfl (by kernel_rfl)
theorem en61 : enters Try.prog 61 = true := by kernel_rfl
theorem en60 : enters Try.prog 60 = true := by kernel_rfl
theorem en46 : enters Try.prog 46 = true := by kernel_rfl
theorem zt5 : ZeroTy Try.prog 5 (0 : UInt8) := ⟨.int .u8 0, by kernel_rfl, fun _ => rfl⟩
theorem en47 : enters Try.prog 47 = true := by kernel_rfl
theorem en29 : enters Try.prog 29 = true := by kernel_rfl
theorem en48 : enters Try.prog 48 = true := by kernel_rfl
theorem en30 : enters Try.prog 30 = true := by kernel_rfl
theorem en14 : enters Try.prog 14 = true := by kernel_rfl
theorem zl33 : ZeroLs Try.prog 33 [(false, 1, Fact.rep [] ((0 : UInt8) : UInt8)), (false, 1, Fact.nilv)] := ⟨⟨[.int .u8 0, .slice none 0 0], by kernel_rfl, fun g w => FldRel.zr (fun _ _ => rfl) (FldRel.zn (rfl))⟩⟩
theorem bd33 : BuildTy Try.prog 33 [(0, 1), (1, 1)] [(false, 1, Fact.rep [] ((0 : UInt8) : UInt8)), (false, 1, Fact.nilv)] := ⟨⟨_, [.int .u8 0, .slice none 0 0], by kernel_rfl, Try.underlying33, (fun g w => FldRel.zr (fun _ _ => rfl) (FldRel.zn (rfl))), by kernel_rfl⟩⟩
theorem ty33 : Ty Try.prog 33 (Plan) := Ty.of (by kernel_rfl)
theorem en36 : enters Try.prog 36 = true := by kernel_rfl
theorem en20 : enters Try.prog 20 = true := by kernel_rfl
theorem fd33_1 : FieldTy Try.prog 33 1 1 1 := FieldTy.of Try.underlying33 (by kernel_rfl) rfl
theorem ty31 : Ty Try.prog 31 (List Int) := Ty.of (by kernel_rfl)
theorem ow31 : OwnTy Try.prog 31 3 (Int) := OwnTy.of Try.underlying31 (by kernel_rfl) rfl (by kernel_rfl)
theorem zl66 : ZeroLs Try.prog 66 [(false, 1, Fact.rep [] ((0 : UInt32) : UInt32)), (false, 1, Fact.rep [] ((0 : Int) : Int)), (false, 1, Fact.rep [] ((0 : Int) : Int)), (false, 1, Fact.rep [] ((0 : Int) : Int)), (false, 1, Fact.rep [] ((0 : Int) : Int)), (false, 1, Fact.rep [] ((0 : Int) : Int)), (false, 1, Fact.rep [] ((0 : Int) : Int))] := ⟨⟨[.int .u32 0, .int .i64 0, .int .i64 0, .int .i64 0, .int .i64 0, .int .i64 0, .int .i64 0], by kernel_rfl, fun g w => FldRel.zr (fun _ _ => rfl) (FldRel.zr (fun _ _ => rfl) (FldRel.zr (fun _ _ => rfl) (FldRel.zr (fun _ _ => rfl) (FldRel.zr (fun _ _ => rfl) (FldRel.zr (fun _ _ => rfl) (FldRel.zr (fun _ _ => rfl) (rfl)))))))⟩⟩
theorem bd66 : BuildTy Try.prog 66 [(0, 6), (6, 1)] [(true, 6, Fact.flds [(false, 1, Fact.rep [] ((0 : UInt32) : UInt32)), (false, 1, Fact.rep [] ((0 : Int) : Int)), (false, 1, Fact.rep [] ((0 : Int) : Int)), (false, 1, Fact.rep [] ((0 : Int) : Int)), (false, 1, Fact.rep [] ((0 : Int) : Int)), (false, 1, Fact.rep [] ((0 : Int) : Int))]), (false, 1, Fact.rep [] ((0 : Int) : Int))] := ⟨⟨_, [.int .u32 0, .int .i64 0, .int .i64 0, .int .i64 0, .int .i64 0, .int .i64 0, .int .i64 0], by kernel_rfl, Try.underlying66, (fun g w => FldRel.zs (c1 := [.int .u32 0, .int .i64 0, .int .i64 0, .int .i64 0, .int .i64 0, .int .i64 0]) (FldRel.zr (fun _ _ => rfl) (FldRel.zr (fun _ _ => rfl) (FldRel.zr (fun _ _ => rfl) (FldRel.zr (fun _ _ => rfl) (FldRel.zr (fun _ _ => rfl) (FldRel.zr (fun _ _ => rfl) (rfl))))))) (FldRel.zr (fun _ _ => rfl) (rfl))), by kernel_rfl⟩⟩
theorem ty66 : Ty Try.prog 66 (Row) := Ty.of (by kernel_rfl)
theorem en51 : enters Try.prog 51 = true := by kernel_rfl
theorem en34 : enters Try.prog 34 = true := by kernel_rfl
theorem fd66_0 : FieldTy Try.prog 66 0 0 6 := FieldTy.of Try.underlying66 (by kernel_rfl) rfl
theorem fd66_1 : FieldTy Try.prog 66 1 6 1 := FieldTy.of Try.underlying66 (by kernel_rfl) rfl
theorem en52 : enters Try.prog 52 = true := by kernel_rfl
theorem en54 : enters Try.prog 54 = true := by kernel_rfl
theorem en38 : enters Try.prog 38 = true := by kernel_rfl
theorem en23 : enters Try.prog 23 = true := by kernel_rfl
theorem ow52 : OwnTy Try.prog 52 33 (Plan) := OwnTy.of Try.underlying52 (by kernel_rfl) rfl (by kernel_rfl)
theorem sl52 : SlTy Try.prog 52 33 (Plan) := SlTy.of Try.underlying52 (by kernel_rfl) rfl
theorem sl31 : SlTy Try.prog 31 3 (Int) := SlTy.of Try.underlying31 (by kernel_rfl) rfl
theorem en53 : enters Try.prog 53 = true := by kernel_rfl
theorem en37 : enters Try.prog 37 = true := by kernel_rfl
theorem en22 : enters Try.prog 22 = true := by kernel_rfl
theorem en39 : enters Try.prog 39 = true := by kernel_rfl
theorem en25 : enters Try.prog 25 = true := by kernel_rfl
theorem en24 : enters Try.prog 24 = true := by kernel_rfl
theorem en21 : enters Try.prog 21 = true := by kernel_rfl
theorem en9 : enters Try.prog 9 = true := by kernel_rfl
theorem fd33_0 : FieldTy Try.prog 33 0 0 1 := FieldTy.of Try.underlying33 (by kernel_rfl) rfl
theorem en11 : enters Try.prog 11 = true := by kernel_rfl
theorem en16 : enters Try.prog 16 = true := by kernel_rfl
theorem en15 : enters Try.prog 15 = true := by kernel_rfl
theorem en7 : enters Try.prog 7 = true := by kernel_rfl

/-- freeboard/freeboardlaw17.five -/
def law17_five : Option (Config) :=
  some (Config.mk (0 : UInt32) (5 : Int) (1 : Int) (2 : Int) (18 : Int) (2 : Int))
set_option maxRecDepth 100000 in
set_option maxHeartbeats 2000000 in
theorem law17_five_c {r : Config} (hm : law17_five = some r) : Ctr Try.prog 13 [] (.fl r) [] := by
 refine ctr_of_walk [[]] 2 Try.func13 rfl rfl rfl rfl (fun w0 om => ?_)
 unfold law17_five at hm
 refine CWalk.sub (G' := []) (Sub.nil) ?_
 refine CWalk.seq ?_
 refine CWalk.region ?_
 refine ws (Step.allocObj (ls := [(false, 1, Fact.rep [] ((0 : UInt32) : UInt32)), (false, 1, Fact.rep [] ((0 : Int) : Int)), (false, 1, Fact.rep [] ((0 : Int) : Int)), (false, 1, Fact.rep [] ((0 : Int) : Int)), (false, 1, Fact.rep [] ((0 : Int) : Int)), (false, 1, Fact.rep [] ((0 : Int) : Int))]) 10 rfl rfl rfl rfl zl24) ?_
 refine Walk.nil ?_
 refine Leaf.thenN ?_
 refine CWalk.seq ?_
 refine CWalk.region ?_
 refine wo (Spec.build (us := [(1, .const (.int .i64 5)), (2, .const (.int .i64 1)), (3, .const (.int .i64 2)), (4, .const (.int .i64 18)), (5, .const (.int .i64 2))]) (ls' := [(false, 1, Fact.rep [] ((0 : UInt32) : UInt32)), (false, 1, Fact.rep [] ((5 : Int) : Int)), (false, 1, Fact.rep [] ((1 : Int) : Int)), (false, 1, Fact.rep [] ((2 : Int) : Int)), (false, 1, Fact.rep [] ((18 : Int) : Int)), (false, 1, Fact.rep [] ((2 : Int) : Int))]) bd24 rfl (BP.cons rfl rfl Has.int Has.int (BP.cons rfl rfl Has.int Has.int (BP.cons rfl rfl Has.int Has.int (BP.cons rfl rfl Has.int Has.int (BP.cons rfl rfl Has.int Has.int BP.nil)))))) ?_
 refine ws (Step.storeObj (ls := [(false, 1, Fact.rep [] ((0 : UInt32) : UInt32)), (false, 1, Fact.rep [] ((5 : Int) : Int)), (false, 1, Fact.rep [] ((1 : Int) : Int)), (false, 1, Fact.rep [] ((2 : Int) : Int)), (false, 1, Fact.rep [] ((18 : Int) : Int)), (false, 1, Fact.rep [] ((2 : Int) : Int))]) rfl ty24 rfl rfl (Has.s rfl) rfl (HasL.flds (Has.s rfl)) rfl) ?_
 refine Walk.nil ?_
 refine Leaf.thenN ?_
 refine CWalk.ret ?_
 obtain rfl := Option.some.inj hm
 exact Leaf.retC1 rfl (HasR.cv (HasR.obj (ls := [(false, 1, Fact.rep [] ((0 : UInt32) : UInt32)), (false, 1, Fact.rep [] ((5 : Int) : Int)), (false, 1, Fact.rep [] ((1 : Int) : Int)), (false, 1, Fact.rep [] ((2 : Int) : Int)), (false, 1, Fact.rep [] ((18 : Int) : Int)), (false, 1, Fact.rep [] ((2 : Int) : Int))]) ty24 rfl rfl (Has.s rfl) rfl (HasGs.cons (HasG.s rfl) (HasGs.cons (HasG.s rfl) (HasGs.cons (HasG.s rfl) (HasGs.cons (HasG.s rfl) (HasGs.cons (HasG.s rfl) (HasGs.cons (HasG.s rfl) HasGs.nil))))))) (Cv.trans (Cv.trans (Cv.flds (CvL.cons Cv.fl (CvL.cons Cv.fl (CvL.cons Cv.fl (CvL.cons Cv.fl (CvL.cons Cv.fl (CvL.cons Cv.fl CvL.nil))))))) (Cv.close (T := []) (chConfig (Config.mk (0 : UInt32) (5 : Int) (1 : Int) (2 : Int) (18 : Int) (2 : Int))))) Cv.fl))

def shape_bounds_L1 (a0 : List Arr3_Int) (s1 : Int) : Option (Ctl (Int) ((Unit) ⊕ (Unit))) :=
  (bif (decide (s1 < ((a0).length : Int))) then Option.bind (idx a0 s1) (fun x3 => (bif ((decide (x3.e0 < x3.e1)) || (decide (x3.e0 > x3.e2))) then some (Ctl.brk (Sum.inr ())) else some (Ctl.next (wI (s1 + (1 : Int)))))) else some (Ctl.brk (Sum.inl ())))
/-- freeboard/shape.bounds -/
def shape_bounds (a0 : List Arr3_Int) : Option (Bool) :=
  Option.bind (loopM (fun s : Int => shape_bounds_L1 a0 s) FUEL (0 : Int)) (fun b4 => Sum.elim (fun b5 => some true) (fun b6 => some false) b4)
set_option maxRecDepth 100000 in
set_option maxHeartbeats 2000000 in
theorem shape_bounds_c (a0 : List Arr3_Int) {r : Bool} (hm : shape_bounds a0 = some r) : Ctr Try.prog 64 [.rep 0 a0] (.fl r) [] := by
 refine ctr_of_walk [[]] 24 Try.func64 rfl rfl rfl rfl (fun w0 om => ?_)
 unfold shape_bounds at hm
 refine CWalk.sub (G' := [.fact 0 (Fact.rep [0] (a0 : List Arr3_Int))]) (sn Sub.nil) ?_
 refine CWalk.seq ?_
 refine CWalk.region ?_
 refine wo (Spec.assign Has.bool) ?_
 refine Walk.nil ?_
 refine Leaf.thenN ?_
 refine CWalk.seq ?_
 refine CWalk.seq ?_
 refine CWalk.region ?_
 refine mv ?_
 refine wo (Spec.len (Has.s rfl) Try.underlying93) ?_
 refine wo (Spec.move Has.int) ?_
 refine Walk.nil ?_
 refine Leaf.thenN ?_
 refine CWalk.block ?_
 obtain ⟨b4, hb4, hm⟩ := bind_some hm
 refine CWalk.loop (fun s : Int => [.fact 5 (Fact.rep [0] (a0 : List Arr3_Int)), .fact 6 (Fact.rep [] (((a0).length : Int) : Int)), .fact 7 (Fact.rep [] (s : Int))]) (fun b : (Unit) ⊕ (Unit) => Sum.elim (fun b => (Exit.exit 0, [])) (fun b => (Exit.ret, [.fact 2 (Fact.rep [] (false : Bool))])) b) hb4 (su (st (st Sub.nil))) ?_ ?_
 ·rintro s1 c2 hm
  replace hm : shape_bounds_L1 a0 s1 = some c2 := hm
  unfold shape_bounds_L1 at hm
  show CWalk _ [.fact 5 (Fact.rep [0] (a0 : List Arr3_Int)), .fact 6 (Fact.rep [] (((a0).length : Int) : Int)), .fact 7 (Fact.rep [] (s1 : Int))] _ _
  refine CWalk.seq ?_
  refine CWalk.region ?_
  refine wo (Spec.lssI (Has.s rfl) (Has.s rfl)) ?_
  refine Walk.nil ?_
  refine Leaf.thenN ?_
  refine CWalk.seq ?_
  refine CWalk.cond rfl (fun hb => ?_) (fun hb => ?_)
  ·have hm := cond_t hb hm
   refine CWalk.skip ?_
   refine Leaf.thenN ?_
   refine CWalk.seq ?_
   refine CWalk.block ?_
   refine CWalk.seq ?_
   refine CWalk.region ?_
   obtain ⟨x3, hx3, hm⟩ := bind_some hm
   refine wo (Spec.indexAddr hx3 sl93 (Has.s rfl) (Has.s rfl)) ?_
   refine wo ((Spec.load ty92 (Has.s rfl)).flat (T' := [])) ?_
   refine ws (Step.allocObj (ls := [(false, 1, Fact.rep [] ((0 : Int) : Int)), (false, 1, Fact.rep [] ((0 : Int) : Int)), (false, 1, Fact.rep [] ((0 : Int) : Int))]) 10 rfl rfl rfl rfl zl92) ?_
   refine ws (Step.storeObj (ls := [(false, 1, Fact.rep [] (x3.e0 : Int)), (false, 1, Fact.rep [] (x3.e1 : Int)), (false, 1, Fact.rep [] (x3.e2 : Int))]) rfl ty92 rfl rfl (Has.s rfl) rfl (HasL.flds (Has.cv (Has.s rfl) (Cv.trans (Cv.opens (chArr3_Int x3)) (Cv.flds (CvL.cons Cv.fl (CvL.cons Cv.fl (CvL.cons Cv.fl CvL.nil))))))) rfl) ?_
   refine Walk.nil ?_
   refine Leaf.thenN ?_
   refine CWalk.seq ?_
   refine CWalk.region ?_
   refine wo (Spec.idxC (i := 0) sm92 rfl (Has.cv (Has.s rfl) (Cv.isvP rfl))) ?_
   refine wo (Spec.loadF (i := 0) ty3 rfl (Has.s rfl) rfl (HasG.s rfl)) ?_
   refine wo (Spec.idxC (i := 1) sm92 rfl (Has.cv (Has.s rfl) (Cv.isvP rfl))) ?_
   refine wo (Spec.loadF (i := 1) ty3 rfl (Has.s rfl) rfl (HasG.s rfl)) ?_
   refine wo (Spec.lssI (Has.s rfl) (Has.s rfl)) ?_
   refine mv ?_
   refine wg rfl rfl (fun hb => Spec.idxC (i := 0) sm92 rfl (Has.cv (Has.s rfl) (Cv.isvP rfl))) ?_
   refine wg rfl rfl (fun hb => Spec.loadF (i := 0) ty3 rfl (Has.u rfl hb) rfl (HasG.s rfl)) ?_
   refine wg rfl rfl (fun hb => Spec.idxC (i := 2) sm92 rfl (Has.cv (Has.s rfl) (Cv.isvP rfl))) ?_
   refine wg rfl rfl (fun hb => Spec.loadF (i := 2) ty3 rfl (Has.u rfl hb) rfl (HasG.s rfl)) ?_
   refine wg rfl rfl (fun hb => Spec.gtrI (Has.u rfl hb) (Has.u rfl hb)) ?_
   refine wo (Spec.or (Has.s rfl) (fun h => Has.u rfl h)) ?_
   refine Walk.nil ?_
   refine Leaf.thenN ?_
   refine CWalk.cond rfl (fun hb => ?_) (fun hb => ?_)
   ·have hm := cond_t hb hm
    refine CWalk.seq ?_
    refine CWalk.region ?_
    refine wo (Spec.assign Has.bool) ?_
    refine Walk.nil ?_
    refine Leaf.thenN ?_
    refine CWalk.ret ?_
    refine Leaf.blockR ?_
    refine Leaf.thenR ?_
    exact Leaf.brk hm (fun h => nomatch h) rfl (st Sub.nil)
   ·have hm := cond_f hb hm
    refine CWalk.skip ?_
    refine Leaf.blockN ?_
    refine Leaf.thenN ?_
    refine CWalk.region ?_
    refine wo (Spec.addI (Has.s rfl) Has.int) ?_
    refine mv ?_
    refine Walk.nil ?_
    exact Leaf.next hm (su (st (st Sub.nil)))
  ·have hm := cond_f hb hm
   refine CWalk.exit ?_
   refine Leaf.thenE ?_
   exact Leaf.brk hm (fun h => nomatch h) rfl (Sub.nil)
 ·intro _
  rcases b4 with b5 | b6
  ·have hm := selim_l hm
   refine Leaf.blockE ?_
   refine Leaf.thenN ?_
   refine CWalk.seq ?_
   refine CWalk.region ?_
   refine wo (Spec.assign Has.bool) ?_
   refine Walk.nil ?_
   refine Leaf.thenN ?_
   refine CWalk.ret ?_
   obtain rfl := Option.some.inj hm
   exact Leaf.retC1 rfl (HasR.cv (HasR.tmp (Has.s rfl)) Cv.fl)
  ·have hm := selim_r hm
   refine Leaf.blockR ?_
   refine Leaf.thenR ?_
   obtain rfl := Option.some.inj hm
   exact Leaf.retC1 rfl (HasR.cv (HasR.tmp (Has.s rfl)) Cv.fl)

/-- freeboard/shape.Check -/
def shape_Check (a0 : Config) : Option (Int) :=
  Option.bind (shape_bounds ([(Arr3_Int.mk a0.Members (3 : Int) (16 : Int)), (Arr3_Int.mk a0.Chunk (1 : Int) (8 : Int)), (Arr3_Int.mk a0.Rows (1 : Int) (8 : Int)), (Arr3_Int.mk a0.Heads (2 : Int) (8 : Int))])) (fun x1 => Option.bind (gO (!(!x1)) (shape_bounds ([(Arr3_Int.mk a0.Log (wI ((wI (a0.Members + (1 : Int))) * (wI (a0.Heads + (1 : Int))))) (255 : Int))]))) (fun x2 => (bif ((!x1) || (!x2)) then some (8 : Int) else some (0 : Int))))
set_option maxRecDepth 100000 in
set_option maxHeartbeats 2000000 in
theorem shape_Check_c (a0 : Config) {r : Int} (hm : shape_Check a0 = some r) : Ctr Try.prog 62 [.rep 0 a0] (.fl r) [] := by
 refine ctr_of_walk [[]] 35 Try.func62 rfl rfl rfl rfl (fun w0 om => ?_)
 unfold shape_Check at hm
 refine CWalk.sub (G' := [.fact 0 (Fact.rep [] (a0 : Config))]) (Sub.cons (Has.fl (Has.s rfl)) Sub.nil) ?_
 refine CWalk.seq ?_
 refine CWalk.region ?_
 refine ws (Step.boxObj (ls := [(false, 1, Fact.rep [] (a0.Id : UInt32)), (false, 1, Fact.rep [] (a0.Members : Int)), (false, 1, Fact.rep [] (a0.Chunk : Int)), (false, 1, Fact.rep [] (a0.Rows : Int)), (false, 1, Fact.rep [] (a0.Log : Int)), (false, 1, Fact.rep [] (a0.Heads : Int))]) 10 rfl rfl rfl rfl (HasL.flds (Has.cv (Has.s rfl) (Cv.trans (Cv.opens (chConfig a0)) (Cv.flds (CvL.cons Cv.fl (CvL.cons Cv.fl (CvL.cons Cv.fl (CvL.cons Cv.fl (CvL.cons Cv.fl (CvL.cons Cv.fl CvL.nil))))))))))) ?_
 refine wo (Spec.assign Has.int) ?_
 refine Walk.nil ?_
 refine Leaf.thenN ?_
 refine CWalk.seq ?_
 refine CWalk.region ?_
 refine wo (Spec.fieldAddrO fd24_1 (Has.cv (Has.s rfl) (Cv.isvP rfl))) ?_
 refine wo (Spec.loadF (i := 1) ty3 rfl (Has.s rfl) rfl (HasG.s rfl)) ?_
 refine wo (Spec.buildA (us := [(0, .tmp 5), (1, .const (.int .i64 3)), (2, .const (.int .i64 16))]) (ls' := [(false, 1, Fact.rep [] (a0.Members : Int)), (false, 1, Fact.rep [] ((3 : Int) : Int)), (false, 1, Fact.rep [] ((16 : Int) : Int))]) bd92 rfl (BP.cons rfl rfl (Has.s rfl) (Has.s rfl) (BP.cons rfl rfl Has.int Has.int (BP.cons rfl rfl Has.int Has.int BP.nil)))) ?_
 refine wo (Spec.fieldAddrO fd24_2 (Has.cv (Has.s rfl) (Cv.isvP rfl))) ?_
 refine wo (Spec.loadF (i := 2) ty3 rfl (Has.s rfl) rfl (HasG.s rfl)) ?_
 refine wo (Spec.buildA (us := [(0, .tmp 8), (1, .const (.int .i64 1)), (2, .const (.int .i64 8))]) (ls' := [(false, 1, Fact.rep [] (a0.Chunk : Int)), (false, 1, Fact.rep [] ((1 : Int) : Int)), (false, 1, Fact.rep [] ((8 : Int) : Int))]) bd92 rfl (BP.cons rfl rfl (Has.s rfl) (Has.s rfl) (BP.cons rfl rfl Has.int Has.int (BP.cons rfl rfl Has.int Has.int BP.nil)))) ?_
 refine wo (Spec.fieldAddrO fd24_3 (Has.cv (Has.s rfl) (Cv.isvP rfl))) ?_
 refine wo (Spec.loadF (i := 3) ty3 rfl (Has.s rfl) rfl (HasG.s rfl)) ?_
 refine wo (Spec.buildA (us := [(0, .tmp 11), (1, .const (.int .i64 1)), (2, .const (.int .i64 8))]) (ls' := [(false, 1, Fact.rep [] (a0.Rows : Int)), (false, 1, Fact.rep [] ((1 : Int) : Int)), (false, 1, Fact.rep [] ((8 : Int) : Int))]) bd92 rfl (BP.cons rfl rfl (Has.s rfl) (Has.s rfl) (BP.cons rfl rfl Has.int Has.int (BP.cons rfl rfl Has.int Has.int BP.nil)))) ?_
 refine wo (Spec.fieldAddrO fd24_5 (Has.cv (Has.s rfl) (Cv.isvP rfl))) ?_
 refine wo (Spec.loadF (i := 5) ty3 rfl (Has.s rfl) rfl (HasG.s rfl)) ?_
 refine wo (Spec.buildA (us := [(0, .tmp 14), (1, .const (.int .i64 2)), (2, .const (.int .i64 8))]) (ls' := [(false, 1, Fact.rep [] (a0.Heads : Int)), (false, 1, Fact.rep [] ((2 : Int) : Int)), (false, 1, Fact.rep [] ((8 : Int) : Int))]) bd92 rfl (BP.cons rfl rfl (Has.s rfl) (Has.s rfl) (BP.cons rfl rfl Has.int Has.int (BP.cons rfl rfl Has.int Has.int BP.nil)))) ?_
 refine wo (Spec.lit (xs := [.tmp 6, .tmp 9, .tmp 12, .tmp 15]) (T := []) 17 rfl ow93 rfl rfl rfl rfl (HasEach.cons (Has.fl (Has.cv (Has.s rfl) (Cv.trans (Cv.flds (CvL.cons Cv.fl (CvL.cons Cv.fl (CvL.cons Cv.fl CvL.nil)))) (Cv.close (T := []) (chArr3_Int (Arr3_Int.mk a0.Members (3 : Int) (16 : Int))))))) (HasEach.cons (Has.fl (Has.cv (Has.s rfl) (Cv.trans (Cv.flds (CvL.cons Cv.fl (CvL.cons Cv.fl (CvL.cons Cv.fl CvL.nil)))) (Cv.close (T := []) (chArr3_Int (Arr3_Int.mk a0.Chunk (1 : Int) (8 : Int))))))) (HasEach.cons (Has.fl (Has.cv (Has.s rfl) (Cv.trans (Cv.flds (CvL.cons Cv.fl (CvL.cons Cv.fl (CvL.cons Cv.fl CvL.nil)))) (Cv.close (T := []) (chArr3_Int (Arr3_Int.mk a0.Rows (1 : Int) (8 : Int))))))) (HasEach.cons (Has.fl (Has.cv (Has.s rfl) (Cv.trans (Cv.flds (CvL.cons Cv.fl (CvL.cons Cv.fl (CvL.cons Cv.fl CvL.nil)))) (Cv.close (T := []) (chArr3_Int (Arr3_Int.mk a0.Heads (2 : Int) (8 : Int))))))) HasEach.nil))))) ?_
 obtain ⟨x1, hx1, hm⟩ := bind_some hm
 refine wo (f := Fact.rep [] (x1 : Bool)) (Spec.callE [17] 18 rfl en64 (shape_bounds_c ([(Arr3_Int.mk a0.Members (3 : Int) (16 : Int)), (Arr3_Int.mk a0.Chunk (1 : Int) (8 : Int)), (Arr3_Int.mk a0.Rows (1 : Int) (8 : Int)), (Arr3_Int.mk a0.Heads (2 : Int) (8 : Int))]) hx1) (HasAll.cons (Has.m (Has.s rfl) rfl) HasAll.nil)) ?_
 refine wo (Spec.assign (Has.s rfl)) ?_
 refine Walk.nil ?_
 refine Leaf.thenN ?_
 refine CWalk.seq ?_
 refine CWalk.seq ?_
 refine CWalk.region ?_
 refine mv ?_
 refine wo (Spec.not (Has.s rfl)) ?_
 refine mv ?_
 refine wg rfl rfl (fun hb => Spec.fieldAddrO fd24_4 (Has.cv (Has.s rfl) (Cv.isvP rfl))) ?_
 refine wg rfl rfl (fun hb => Spec.loadF (i := 4) ty3 rfl (Has.u rfl hb) rfl (HasG.s rfl)) ?_
 refine wg rfl rfl (fun hb => Spec.fieldAddrO fd24_1 (Has.cv (Has.s rfl) (Cv.isvP rfl))) ?_
 refine wg rfl rfl (fun hb => Spec.loadF (i := 1) ty3 rfl (Has.u rfl hb) rfl (HasG.s rfl)) ?_
 refine wg rfl rfl (fun hb => Spec.addI (Has.u rfl hb) Has.int) ?_
 refine wg rfl rfl (fun hb => Spec.fieldAddrO fd24_5 (Has.cv (Has.s rfl) (Cv.isvP rfl))) ?_
 refine wg rfl rfl (fun hb => Spec.loadF (i := 5) ty3 rfl (Has.u rfl hb) rfl (HasG.s rfl)) ?_
 refine wg rfl rfl (fun hb => Spec.addI (Has.u rfl hb) Has.int) ?_
 refine wg rfl rfl (fun hb => Spec.mulI (Has.u rfl hb) (Has.u rfl hb)) ?_
 refine wg rfl rfl (fun hb => Spec.buildA (us := [(0, .tmp 22), (1, .tmp 29), (2, .const (.int .i64 255))]) (ls' := [(false, 1, Fact.rep [] (a0.Log : Int)), (false, 1, Fact.rep [] ((wI ((wI (a0.Members + (1 : Int))) * (wI (a0.Heads + (1 : Int))))) : Int)), (false, 1, Fact.rep [] ((255 : Int) : Int))]) bd92 rfl (BP.cons rfl rfl (Has.u rfl hb) (Has.u rfl hb) (BP.cons rfl rfl (Has.u rfl hb) (Has.u rfl hb) (BP.cons rfl rfl Has.int Has.int BP.nil)))) ?_
 refine wg rfl rfl (fun hb => Spec.lit (xs := [.tmp 30]) (T := []) 19 rfl ow93 rfl rfl rfl rfl (HasEach.cons (Has.fl (Has.cv (Has.u rfl hb) (Cv.trans (Cv.flds (CvL.cons Cv.fl (CvL.cons Cv.fl (CvL.cons Cv.fl CvL.nil)))) (Cv.close (T := []) (chArr3_Int (Arr3_Int.mk a0.Log (wI ((wI (a0.Members + (1 : Int))) * (wI (a0.Heads + (1 : Int))))) (255 : Int))))))) HasEach.nil)) ?_
 obtain ⟨x2, hx2, hm⟩ := bind_some hm
 refine wg (f := Fact.rep [] (x2 : Bool)) rfl rfl (fun hb => Spec.callE [19] 20 rfl en64 (shape_bounds_c ([(Arr3_Int.mk a0.Log (wI ((wI (a0.Members + (1 : Int))) * (wI (a0.Heads + (1 : Int))))) (255 : Int))]) (gO_t hx2 (not_t hb))) (HasAll.cons (Has.m (Has.u rfl hb) rfl) HasAll.nil)) ?_
 refine wg rfl rfl (fun hb => Spec.not (Has.u rfl hb)) ?_
 refine wo (Spec.or (Has.s rfl) (fun h => Has.u rfl h)) ?_
 refine Walk.nil ?_
 refine Leaf.thenN ?_
 refine CWalk.cond rfl (fun hb => ?_) (fun hb => ?_)
 ·have hm := cond_t hb hm
  refine CWalk.seq ?_
  refine CWalk.region ?_
  refine wo (Spec.assign Has.int) ?_
  refine Walk.nil ?_
  refine Leaf.thenN ?_
  refine CWalk.ret ?_
  refine Leaf.thenR ?_
  obtain rfl := Option.some.inj hm
  exact Leaf.retC1 rfl (HasR.cv (HasR.tmp (Has.s rfl)) Cv.fl)
 ·have hm := cond_f hb hm
  refine CWalk.skip ?_
  refine Leaf.thenN ?_
  refine CWalk.seq ?_
  refine CWalk.region ?_
  refine wo (Spec.assign Has.int) ?_
  refine Walk.nil ?_
  refine Leaf.thenN ?_
  refine CWalk.ret ?_
  obtain rfl := Option.some.inj hm
  exact Leaf.retC1 rfl (HasR.cv (HasR.tmp (Has.s rfl)) Cv.fl)

/-- freeboard/shape.told -/
def shape_told (a0 : Config) (a1 : Int) : Option (Int × Int) :=
  Option.bind (shape_Check a0) (fun x1 => (bif (x1 != (0 : Int)) then some ((0 : Int), x1) else some (a1, (0 : Int))))
set_option maxRecDepth 100000 in
set_option maxHeartbeats 2000000 in
theorem shape_told_c (a0 : Config) (a1 : Int) {r : Int × Int} (hm : shape_told a0 a1 = some r) : Ctr Try.prog 49 [.rep 0 a0, .rep 0 a1] (.tup2 (.fl r.1) (.fl r.2)) [] := by
 refine ctr_of_walk [[]] 13 Try.func49 rfl rfl rfl rfl (fun w0 om => ?_)
 unfold shape_told at hm
 refine CWalk.sub (G' := [.fact 0 (Fact.rep [] (a0 : Config)), .fact 1 (Fact.rep [] (a1 : Int))]) (Sub.cons (Has.fl (Has.s rfl)) (Sub.cons (Has.fl (Has.s rfl)) Sub.nil)) ?_
 refine CWalk.seq ?_
 refine CWalk.region ?_
 refine ws (Step.boxObj (ls := [(false, 1, Fact.rep [] (a0.Id : UInt32)), (false, 1, Fact.rep [] (a0.Members : Int)), (false, 1, Fact.rep [] (a0.Chunk : Int)), (false, 1, Fact.rep [] (a0.Rows : Int)), (false, 1, Fact.rep [] (a0.Log : Int)), (false, 1, Fact.rep [] (a0.Heads : Int))]) 10 rfl rfl rfl rfl (HasL.flds (Has.cv (Has.s rfl) (Cv.trans (Cv.opens (chConfig a0)) (Cv.flds (CvL.cons Cv.fl (CvL.cons Cv.fl (CvL.cons Cv.fl (CvL.cons Cv.fl (CvL.cons Cv.fl (CvL.cons Cv.fl CvL.nil))))))))))) ?_
 refine wo (Spec.assign Has.int) ?_
 refine wo (Spec.assign Has.int) ?_
 refine Walk.nil ?_
 refine Leaf.thenN ?_
 refine CWalk.seq ?_
 refine CWalk.seq ?_
 refine CWalk.region ?_
 refine wo (Spec.loadObj (ls := [(false, 1, Fact.rep [] (a0.Id : UInt32)), (false, 1, Fact.rep [] (a0.Members : Int)), (false, 1, Fact.rep [] (a0.Chunk : Int)), (false, 1, Fact.rep [] (a0.Rows : Int)), (false, 1, Fact.rep [] (a0.Log : Int)), (false, 1, Fact.rep [] (a0.Heads : Int))]) ty24 rfl rfl (Has.s rfl) rfl (HasGs.cons (HasG.s rfl) (HasGs.cons (HasG.s rfl) (HasGs.cons (HasG.s rfl) (HasGs.cons (HasG.s rfl) (HasGs.cons (HasG.s rfl) (HasGs.cons (HasG.s rfl) HasGs.nil))))))) ?_
 obtain ⟨x1, hx1, hm⟩ := bind_some hm
 refine wo (f := Fact.rep [] (x1 : Int)) (Spec.callE [] 17 rfl en62 (shape_Check_c a0 hx1) (HasAll.cons (Has.fl (Has.cv (Has.s rfl) (Cv.trans (Cv.flds (CvL.cons Cv.fl (CvL.cons Cv.fl (CvL.cons Cv.fl (CvL.cons Cv.fl (CvL.cons Cv.fl (CvL.cons Cv.fl CvL.nil))))))) (Cv.close (T := []) (chConfig a0))))) HasAll.nil)) ?_
 refine wo (Spec.assign (Has.s rfl)) ?_
 refine Walk.nil ?_
 refine Leaf.thenN ?_
 refine CWalk.seq ?_
 refine CWalk.region ?_
 refine mv ?_
 refine wo (Spec.neqI (Has.s rfl) Has.int) ?_
 refine Walk.nil ?_
 refine Leaf.thenN ?_
 refine CWalk.cond rfl (fun hb => ?_) (fun hb => ?_)
 ·have hm := cond_t hb hm
  refine CWalk.seq ?_
  refine CWalk.region ?_
  refine mv ?_
  refine wo (Spec.assign Has.int) ?_
  refine wo (Spec.assign (Has.s rfl)) ?_
  refine Walk.nil ?_
  refine Leaf.thenN ?_
  refine CWalk.ret ?_
  refine Leaf.thenR ?_
  obtain rfl := Option.some.inj hm
  exact Leaf.retC2 rfl (HasR.cv (HasR.tmp (Has.s rfl)) Cv.fl) (HasR.cv (HasR.tmp (Has.s rfl)) Cv.fl)
 ·have hm := cond_f hb hm
  refine CWalk.skip ?_
  refine Leaf.thenN ?_
  refine CWalk.seq ?_
  refine CWalk.region ?_
  refine mv ?_
  refine wo (Spec.assign (Has.s rfl)) ?_
  refine wo (Spec.assign Has.int) ?_
  refine Walk.nil ?_
  refine Leaf.thenN ?_
  refine CWalk.ret ?_
  obtain rfl := Option.some.inj hm
  exact Leaf.retC2 rfl (HasR.cv (HasR.tmp (Has.s rfl)) Cv.fl) (HasR.cv (HasR.tmp (Has.s rfl)) Cv.fl)

/-- freeboard/shape.Stripes -/
def shape_Stripes (a0 : Config) : Option (Int × Int) :=
  Option.bind (shape_told a0 (wI (a0.Chunk * a0.Rows))) (fun x1 => some (x1.1, x1.2))
set_option maxRecDepth 100000 in
set_option maxHeartbeats 2000000 in
theorem shape_Stripes_c (a0 : Config) {r : Int × Int} (hm : shape_Stripes a0 = some r) : Ctr Try.prog 31 [.rep 0 a0] (.tup2 (.fl r.1) (.fl r.2)) [] := by
 refine ctr_of_walk [[]] 13 Try.func31 rfl rfl rfl rfl (fun w0 om => ?_)
 unfold shape_Stripes at hm
 refine CWalk.sub (G' := [.fact 0 (Fact.rep [] (a0 : Config))]) (Sub.cons (Has.fl (Has.s rfl)) Sub.nil) ?_
 refine CWalk.seq ?_
 refine CWalk.region ?_
 refine ws (Step.boxObj (ls := [(false, 1, Fact.rep [] (a0.Id : UInt32)), (false, 1, Fact.rep [] (a0.Members : Int)), (false, 1, Fact.rep [] (a0.Chunk : Int)), (false, 1, Fact.rep [] (a0.Rows : Int)), (false, 1, Fact.rep [] (a0.Log : Int)), (false, 1, Fact.rep [] (a0.Heads : Int))]) 10 rfl rfl rfl rfl (HasL.flds (Has.cv (Has.s rfl) (Cv.trans (Cv.opens (chConfig a0)) (Cv.flds (CvL.cons Cv.fl (CvL.cons Cv.fl (CvL.cons Cv.fl (CvL.cons Cv.fl (CvL.cons Cv.fl (CvL.cons Cv.fl CvL.nil))))))))))) ?_
 refine wo (Spec.assign Has.int) ?_
 refine wo (Spec.assign Has.int) ?_
 refine Walk.nil ?_
 refine Leaf.thenN ?_
 refine CWalk.seq ?_
 refine CWalk.region ?_
 refine wo (Spec.loadObj (ls := [(false, 1, Fact.rep [] (a0.Id : UInt32)), (false, 1, Fact.rep [] (a0.Members : Int)), (false, 1, Fact.rep [] (a0.Chunk : Int)), (false, 1, Fact.rep [] (a0.Rows : Int)), (false, 1, Fact.rep [] (a0.Log : Int)), (false, 1, Fact.rep [] (a0.Heads : Int))]) ty24 rfl rfl (Has.s rfl) rfl (HasGs.cons (HasG.s rfl) (HasGs.cons (HasG.s rfl) (HasGs.cons (HasG.s rfl) (HasGs.cons (HasG.s rfl) (HasGs.cons (HasG.s rfl) (HasGs.cons (HasG.s rfl) HasGs.nil))))))) ?_
 refine wo (Spec.fieldAddrO fd24_2 (Has.cv (Has.s rfl) (Cv.isvP rfl))) ?_
 refine wo (Spec.loadF (i := 2) ty3 rfl (Has.s rfl) rfl (HasG.s rfl)) ?_
 refine wo (Spec.fieldAddrO fd24_3 (Has.cv (Has.s rfl) (Cv.isvP rfl))) ?_
 refine wo (Spec.loadF (i := 3) ty3 rfl (Has.s rfl) rfl (HasG.s rfl)) ?_
 refine wo (Spec.mulI (Has.s rfl) (Has.s rfl)) ?_
 obtain ⟨x1, hx1, hm⟩ := bind_some hm
 refine wo (f := Fact.tup2 (Fact.rep [] (x1.1 : Int)) (Fact.rep [] (x1.2 : Int))) (Spec.callE [] 17 rfl en49 (shape_told_c a0 (wI (a0.Chunk * a0.Rows)) hx1) (HasAll.cons (Has.fl (Has.cv (Has.s rfl) (Cv.trans (Cv.flds (CvL.cons Cv.fl (CvL.cons Cv.fl (CvL.cons Cv.fl (CvL.cons Cv.fl (CvL.cons Cv.fl (CvL.cons Cv.fl CvL.nil))))))) (Cv.close (T := []) (chConfig a0))))) (HasAll.cons (Has.fl (Has.s rfl)) HasAll.nil))) ?_
 refine wo (Spec.ext0 (Has.s rfl)) ?_
 refine wo (Spec.ext1 (Has.s rfl)) ?_
 refine wo (Spec.assign (Has.s rfl)) ?_
 refine wo (Spec.assign (Has.s rfl)) ?_
 refine Walk.nil ?_
 refine Leaf.thenN ?_
 refine CWalk.ret ?_
 obtain rfl := Option.some.inj hm
 exact Leaf.retC2 rfl (HasR.cv (HasR.tmp (Has.s rfl)) Cv.fl) (HasR.cv (HasR.tmp (Has.s rfl)) Cv.fl)

def head_New_J1 (a0 : Config) (a1 : Int) (j2 : Bool) : Option (Head × Int) :=
  (bif j2 then some ((Head.mk (0 : Int) ([] : List (List UInt8)) ([] : List Bool) (0 : UInt8) false (0 : UInt32)), (2 : Int)) else Option.bind (makeL ([] : List UInt8) a0.Members) (fun x3 => Option.bind (makeL false (wI (a0.Members - (1 : Int)))) (fun x4 => some ((Head.mk a1 x3 x4 (0 : UInt8) false (0 : UInt32)), (0 : Int)))))
/-- freeboard/head.New -/
def head_New (a0 : Config) (a1 : Int) : Option (Head × Int) :=
  Option.bind (shape_Stripes a0) (fun x1 => (bif (x1.2 != (0 : Int)) then some ((Head.mk (0 : Int) ([] : List (List UInt8)) ([] : List Bool) (0 : UInt8) false (0 : UInt32)), x1.2) else (bif (decide (a1 < (0 : Int))) then (head_New_J1 a0 a1 (decide (a1 < (0 : Int)))) else (head_New_J1 a0 a1 (decide (a1 ≥ x1.1))))))
set_option maxRecDepth 100000 in
set_option maxHeartbeats 2000000 in
theorem head_New_c (a0 : Config) (a1 : Int) {r : Head × Int} (hm : head_New a0 a1 = some r) : Ctr Try.prog 28 [.rep 0 a0, .rep 0 a1] (.tup2 (.flds [(false, 1, (.fl r.1.Stripe)), (false, 1, (.own 0 none 46 r.1.Blocks)), (false, 1, (.own 1 none 4 r.1.Dirty)), (false, 1, (.fl r.1.Phase)), (false, 1, (.fl r.1.Deals)), (false, 1, (.fl r.1.Seq))]) (.fl r.2)) [] := by
 refine ctr_of_walk [[25], [26]] 34 Try.func28 rfl rfl rfl rfl (fun w0 om => ?_)
 unfold head_New at hm
 refine CWalk.sub (G' := [.fact 0 (Fact.rep [] (a0 : Config)), .fact 1 (Fact.rep [] (a1 : Int))]) (Sub.cons (Has.fl (Has.s rfl)) (Sub.cons (Has.fl (Has.s rfl)) Sub.nil)) ?_
 refine CWalk.seq ?_
 refine CWalk.region ?_
 refine ws (Step.boxObj (ls := [(false, 1, Fact.rep [] (a0.Id : UInt32)), (false, 1, Fact.rep [] (a0.Members : Int)), (false, 1, Fact.rep [] (a0.Chunk : Int)), (false, 1, Fact.rep [] (a0.Rows : Int)), (false, 1, Fact.rep [] (a0.Log : Int)), (false, 1, Fact.rep [] (a0.Heads : Int))]) 10 rfl rfl rfl rfl (HasL.flds (Has.cv (Has.s rfl) (Cv.trans (Cv.opens (chConfig a0)) (Cv.flds (CvL.cons Cv.fl (CvL.cons Cv.fl (CvL.cons Cv.fl (CvL.cons Cv.fl (CvL.cons Cv.fl (CvL.cons Cv.fl CvL.nil))))))))))) ?_
 refine ws (Step.allocObj (ls := [(false, 1, Fact.rep [] ((0 : Int) : Int)), (false, 1, Fact.nilv), (false, 1, Fact.nilv), (false, 1, Fact.rep [] ((0 : UInt8) : UInt8)), (false, 1, Fact.rep [] (false : Bool)), (false, 1, Fact.rep [] ((0 : UInt32) : UInt32))]) 17 rfl rfl rfl rfl zl28) ?_
 refine wo (Spec.assign Has.int) ?_
 refine Walk.nil ?_
 refine Leaf.thenN ?_
 refine CWalk.seq ?_
 refine CWalk.region ?_
 refine wo (Spec.loadObj (ls := [(false, 1, Fact.rep [] (a0.Id : UInt32)), (false, 1, Fact.rep [] (a0.Members : Int)), (false, 1, Fact.rep [] (a0.Chunk : Int)), (false, 1, Fact.rep [] (a0.Rows : Int)), (false, 1, Fact.rep [] (a0.Log : Int)), (false, 1, Fact.rep [] (a0.Heads : Int))]) ty24 rfl rfl (Has.s rfl) rfl (HasGs.cons (HasG.s rfl) (HasGs.cons (HasG.s rfl) (HasGs.cons (HasG.s rfl) (HasGs.cons (HasG.s rfl) (HasGs.cons (HasG.s rfl) (HasGs.cons (HasG.s rfl) HasGs.nil))))))) ?_
 obtain ⟨x1, hx1, hm⟩ := bind_some hm
 refine wo (f := Fact.tup2 (Fact.rep [] (x1.1 : Int)) (Fact.rep [] (x1.2 : Int))) (Spec.callE [] 24 rfl en31 (shape_Stripes_c a0 hx1) (HasAll.cons (Has.fl (Has.cv (Has.s rfl) (Cv.trans (Cv.flds (CvL.cons Cv.fl (CvL.cons Cv.fl (CvL.cons Cv.fl (CvL.cons Cv.fl (CvL.cons Cv.fl (CvL.cons Cv.fl CvL.nil))))))) (Cv.close (T := []) (chConfig a0))))) HasAll.nil)) ?_
 refine mv ?_
 refine wo (Spec.ext0 (Has.s rfl)) ?_
 refine wo (Spec.ext1 (Has.s rfl)) ?_
 refine wo (Spec.assign (Has.s rfl)) ?_
 refine wo (Spec.assign (Has.s rfl)) ?_
 refine Walk.nil ?_
 refine Leaf.thenN ?_
 refine CWalk.seq ?_
 refine CWalk.block ?_
 refine CWalk.seq ?_
 refine CWalk.region ?_
 refine mv ?_
 refine wo (Spec.neqI (Has.s rfl) Has.int) ?_
 refine wo (Spec.assign (Has.s rfl)) ?_
 refine Walk.nil ?_
 refine Leaf.thenN ?_
 refine CWalk.cond rfl (fun hb => ?_) (fun hb => ?_)
 ·have hm := cond_t hb hm
  refine CWalk.seq ?_
  refine CWalk.region ?_
  refine wo (Spec.build (us := []) (ls' := [(false, 1, Fact.rep [] ((0 : Int) : Int)), (false, 1, Fact.nilv), (false, 1, Fact.nilv), (false, 1, Fact.rep [] ((0 : UInt8) : UInt8)), (false, 1, Fact.rep [] (false : Bool)), (false, 1, Fact.rep [] ((0 : UInt32) : UInt32))]) bd28 rfl BP.nil) ?_
  refine mv ?_
  refine ws (Step.storeObj (ls := [(false, 1, Fact.rep [] ((0 : Int) : Int)), (false, 1, Fact.nilv), (false, 1, Fact.nilv), (false, 1, Fact.rep [] ((0 : UInt8) : UInt8)), (false, 1, Fact.rep [] (false : Bool)), (false, 1, Fact.rep [] ((0 : UInt32) : UInt32))]) rfl ty28 rfl rfl (Has.s rfl) rfl (HasL.flds (Has.s rfl)) rfl) ?_
  refine wo (Spec.assign (Has.s rfl)) ?_
  refine Walk.nil ?_
  refine Leaf.thenN ?_
  refine CWalk.ret ?_
  refine Leaf.blockR ?_
  refine Leaf.thenR ?_
  obtain rfl := Option.some.inj hm
  exact Leaf.retC2 rfl (HasR.cv (HasR.obj (ls := [(false, 1, Fact.rep [] ((0 : Int) : Int)), (false, 1, Fact.nilv), (false, 1, Fact.nilv), (false, 1, Fact.rep [] ((0 : UInt8) : UInt8)), (false, 1, Fact.rep [] (false : Bool)), (false, 1, Fact.rep [] ((0 : UInt32) : UInt32))]) ty28 rfl rfl (Has.s rfl) rfl (HasGs.cons (HasG.s rfl) (HasGs.cons (HasG.s rfl) (HasGs.cons (HasG.s rfl) (HasGs.cons (HasG.s rfl) (HasGs.cons (HasG.s rfl) (HasGs.cons (HasG.s rfl) HasGs.nil))))))) (Cv.flds (CvL.cons Cv.fl (CvL.cons (Cv.trans Cv.nilOw (Cv.owM (T := []) (te := []) rfl rfl)) (CvL.cons (Cv.trans Cv.nilOw (Cv.owF (T := []) (te := []) rfl)) (CvL.cons Cv.fl (CvL.cons Cv.fl (CvL.cons Cv.fl CvL.nil)))))))) (HasR.cv (HasR.tmp (Has.s rfl)) Cv.fl)
 ·have hm := cond_f hb hm
  refine CWalk.seqJ (fun p : Bool => [.fact 1 (Fact.rep [] (a1 : Int)), .fact 2 (Fact.isv 10), .fact 4 (Fact.isv 17), .fact 18 (Fact.rep [] (p : Bool)), .fact 100011 (Fact.at 11 (Fact.rep [] (a0.Id : UInt32))), .fact 100012 (Fact.at 12 (Fact.rep [] (a0.Members : Int))), .fact 100013 (Fact.at 13 (Fact.rep [] (a0.Chunk : Int))), .fact 100014 (Fact.at 14 (Fact.rep [] (a0.Rows : Int))), .fact 100015 (Fact.at 15 (Fact.rep [] (a0.Log : Int))), .fact 100016 (Fact.at 16 (Fact.rep [] (a0.Heads : Int))), .fact 100018 (Fact.at 18 (Fact.rep [] ((0 : Int) : Int))), .fact 100019 (Fact.at 19 (Fact.nilv)), .fact 100020 (Fact.at 20 (Fact.nilv)), .fact 100021 (Fact.at 21 (Fact.rep [] ((0 : UInt8) : UInt8))), .fact 100022 (Fact.at 22 (Fact.rep [] (false : Bool))), .fact 100023 (Fact.at 23 (Fact.rep [] ((0 : UInt32) : UInt32))), .fact 100010 (Fact.obj 10 [(false, 1), (false, 1), (false, 1), (false, 1), (false, 1), (false, 1)]), .fact 100017 (Fact.obj 17 [(false, 1), (false, 1), (false, 1), (false, 1), (false, 1), (false, 1)])]) (fun p : Bool => head_New_J1 a0 a1 p = some r) ?_ ?_
  ·rintro j2 hm
   replace hm : head_New_J1 a0 a1 j2 = some r := hm
   unfold head_New_J1 at hm
   show CWalk _ [.fact 1 (Fact.rep [] (a1 : Int)), .fact 2 (Fact.isv 10), .fact 4 (Fact.isv 17), .fact 18 (Fact.rep [] (j2 : Bool)), .fact 100011 (Fact.at 11 (Fact.rep [] (a0.Id : UInt32))), .fact 100012 (Fact.at 12 (Fact.rep [] (a0.Members : Int))), .fact 100013 (Fact.at 13 (Fact.rep [] (a0.Chunk : Int))), .fact 100014 (Fact.at 14 (Fact.rep [] (a0.Rows : Int))), .fact 100015 (Fact.at 15 (Fact.rep [] (a0.Log : Int))), .fact 100016 (Fact.at 16 (Fact.rep [] (a0.Heads : Int))), .fact 100018 (Fact.at 18 (Fact.rep [] ((0 : Int) : Int))), .fact 100019 (Fact.at 19 (Fact.nilv)), .fact 100020 (Fact.at 20 (Fact.nilv)), .fact 100021 (Fact.at 21 (Fact.rep [] ((0 : UInt8) : UInt8))), .fact 100022 (Fact.at 22 (Fact.rep [] (false : Bool))), .fact 100023 (Fact.at 23 (Fact.rep [] ((0 : UInt32) : UInt32))), .fact 100010 (Fact.obj 10 [(false, 1), (false, 1), (false, 1), (false, 1), (false, 1), (false, 1)]), .fact 100017 (Fact.obj 17 [(false, 1), (false, 1), (false, 1), (false, 1), (false, 1), (false, 1)])] _ _
   refine CWalk.cond rfl (fun hb => ?_) (fun hb => ?_)
   ·have hm := cond_t hb hm
    refine CWalk.seq ?_
    refine CWalk.region ?_
    refine wo (Spec.build (us := []) (ls' := [(false, 1, Fact.rep [] ((0 : Int) : Int)), (false, 1, Fact.nilv), (false, 1, Fact.nilv), (false, 1, Fact.rep [] ((0 : UInt8) : UInt8)), (false, 1, Fact.rep [] (false : Bool)), (false, 1, Fact.rep [] ((0 : UInt32) : UInt32))]) bd28 rfl BP.nil) ?_
    refine ws (Step.storeObj (ls := [(false, 1, Fact.rep [] ((0 : Int) : Int)), (false, 1, Fact.nilv), (false, 1, Fact.nilv), (false, 1, Fact.rep [] ((0 : UInt8) : UInt8)), (false, 1, Fact.rep [] (false : Bool)), (false, 1, Fact.rep [] ((0 : UInt32) : UInt32))]) rfl ty28 rfl rfl (Has.s rfl) rfl (HasL.flds (Has.s rfl)) rfl) ?_
    refine wo (Spec.assign Has.int) ?_
    refine Walk.nil ?_
    refine Leaf.thenN ?_
    refine CWalk.ret ?_
    refine Leaf.blockR ?_
    refine Leaf.thenR ?_
    obtain rfl := Option.some.inj hm
    exact Leaf.retC2 rfl (HasR.cv (HasR.obj (ls := [(false, 1, Fact.rep [] ((0 : Int) : Int)), (false, 1, Fact.nilv), (false, 1, Fact.nilv), (false, 1, Fact.rep [] ((0 : UInt8) : UInt8)), (false, 1, Fact.rep [] (false : Bool)), (false, 1, Fact.rep [] ((0 : UInt32) : UInt32))]) ty28 rfl rfl (Has.s rfl) rfl (HasGs.cons (HasG.s rfl) (HasGs.cons (HasG.s rfl) (HasGs.cons (HasG.s rfl) (HasGs.cons (HasG.s rfl) (HasGs.cons (HasG.s rfl) (HasGs.cons (HasG.s rfl) HasGs.nil))))))) (Cv.flds (CvL.cons Cv.fl (CvL.cons (Cv.trans Cv.nilOw (Cv.owM (T := []) (te := []) rfl rfl)) (CvL.cons (Cv.trans Cv.nilOw (Cv.owF (T := []) (te := []) rfl)) (CvL.cons Cv.fl (CvL.cons Cv.fl (CvL.cons Cv.fl CvL.nil)))))))) (HasR.cv (HasR.tmp (Has.s rfl)) Cv.fl)
   ·have hm := cond_f hb hm
    refine CWalk.skip ?_
    refine Leaf.blockN ?_
    refine Leaf.thenN ?_
    refine CWalk.seq ?_
    obtain ⟨x3, hx3, hm⟩ := bind_some hm
    obtain ⟨x4, hx4, hm⟩ := bind_some hm
    refine CWalk.drawM [[], [], [1], [1, 2], [], [4], [4, 5], [4, 5, 6], [0, 1, 2, 3, 4, 5, 6, 7], [0, 1, 2, 3, 4, 5, 6, 7, 8], [0, 1, 2, 3, 4, 5, 6, 7, 8, 9]] [[.fact 25 (Fact.rep [] (a1 : Int))], [.fact 26 (Fact.pto 10 1)], [.fact 27 (Fact.rep [] (a0.Members : Int))], [.fact 28 (.isv 25), .fact 100025 (Fact.own 25 [] 46 (x3 : List (List UInt8))), .killId 25], [.fact 29 (Fact.pto 10 1)], [.fact 30 (Fact.rep [] (a0.Members : Int))], [.fact 31 (Fact.rep [] ((wI (a0.Members - (1 : Int))) : Int))], [.fact 32 (.isv 26), .fact 100026 (Fact.own 26 [] 4 (x4 : List Bool)), .killId 26], [.fact 33 (Fact.flds [(false, 1, Fact.rep [] (a1 : Int)), (false, 1, Fact.isv 25), (false, 1, Fact.isv 26), (false, 1, Fact.rep [] ((0 : UInt8) : UInt8)), (false, 1, Fact.rep [] (false : Bool)), (false, 1, Fact.rep [] ((0 : UInt32) : UInt32))])], [.fact 100017 (Fact.obj 17 [(false, 1), (false, 1), (false, 1), (false, 1), (false, 1), (false, 1)]), .fact 100018 (Fact.at 18 (Fact.rep [] (a1 : Int))), .fact 100019 (Fact.at 19 (Fact.isv 25)), .fact 100020 (Fact.at 20 (Fact.isv 26)), .fact 100021 (Fact.at 21 (Fact.rep [] ((0 : UInt8) : UInt8))), .fact 100022 (Fact.at 22 (Fact.rep [] (false : Bool))), .fact 100023 (Fact.at 23 (Fact.rep [] ((0 : UInt32) : UInt32))), .kill 17, .killId 18, .killId 19, .killId 20, .killId 21, .killId 22, .killId 23], [.fact 5 (Fact.rep [] ((0 : Int) : Int))]] mixed (by kernel_rfl) (ao (so (Spec.move (Has.s rfl))) (ao (so (Spec.fieldAddrO fd24_1 (Has.cv (Has.s rfl) (Cv.isvP rfl)))) (ao (so (Spec.loadF (i := 1) ty3 rfl (Has.s rfl) rfl (HasG.s rfl))) (ao (StepG.stE (Step.makeOwn 25 hx3 rfl rfl ow25 zt46 (Has.s rfl))) (ao (so (Spec.fieldAddrO fd24_1 (Has.cv (Has.s rfl) (Cv.isvP rfl)))) (ao (so (Spec.loadF (i := 1) ty3 rfl (Has.s rfl) rfl (HasG.s rfl))) (ao (so (Spec.subI (Has.s rfl) Has.int)) (ao (StepG.stE (Step.makeOwn 26 hx4 rfl rfl ow26 zt4 (Has.s rfl))) (ao (so (Spec.build (us := [(0, .tmp 25), (1, .tmp 28), (2, .tmp 32)]) (ls' := [(false, 1, Fact.rep [] (a1 : Int)), (false, 1, Fact.isv 25), (false, 1, Fact.isv 26), (false, 1, Fact.rep [] ((0 : UInt8) : UInt8)), (false, 1, Fact.rep [] (false : Bool)), (false, 1, Fact.rep [] ((0 : UInt32) : UInt32))]) bd28 rfl (BP.cons rfl rfl (Has.s rfl) (Has.s rfl) (BP.cons rfl rfl (Has.cv (Has.s rfl) (Cv.own rfl)) (Has.s rfl) (BP.cons rfl rfl (Has.cv (Has.s rfl) (Cv.own rfl)) (Has.s rfl) BP.nil))))) (ao (StepG.stE (Step.storeObj (ls := [(false, 1, Fact.rep [] (a1 : Int)), (false, 1, Fact.isv 25), (false, 1, Fact.isv 26), (false, 1, Fact.rep [] ((0 : UInt8) : UInt8)), (false, 1, Fact.rep [] (false : Bool)), (false, 1, Fact.rep [] ((0 : UInt32) : UInt32))]) rfl ty28 rfl rfl (Has.s rfl) rfl (HasL.flds (Has.s rfl)) rfl)) (ao (so (Spec.assign Has.int)) AllM.nil))))))))))) ?_
    refine Leaf.thenN ?_
    refine CWalk.ret ?_
    obtain rfl := Option.some.inj hm
    exact Leaf.retC2 rfl (HasR.cv (HasR.obj (ls := [(false, 1, Fact.rep [] (a1 : Int)), (false, 1, Fact.isv 25), (false, 1, Fact.isv 26), (false, 1, Fact.rep [] ((0 : UInt8) : UInt8)), (false, 1, Fact.rep [] (false : Bool)), (false, 1, Fact.rep [] ((0 : UInt32) : UInt32))]) ty28 rfl rfl (Has.s rfl) rfl (HasGs.cons (HasG.s rfl) (HasGs.cons (HasG.s rfl) (HasGs.cons (HasG.s rfl) (HasGs.cons (HasG.s rfl) (HasGs.cons (HasG.s rfl) (HasGs.cons (HasG.s rfl) HasGs.nil))))))) (Cv.flds (CvL.cons Cv.fl (CvL.cons (Cv.trans (Cv.isvOw rfl) (Cv.owM (T := [25]) (te := []) rfl rfl)) (CvL.cons (Cv.trans (Cv.isvOw rfl) (Cv.owF (T := [26]) (te := []) rfl)) (CvL.cons Cv.fl (CvL.cons Cv.fl (CvL.cons Cv.fl CvL.nil)))))))) (HasR.cv (HasR.tmp (Has.s rfl)) Cv.fl)
  ·refine CWalk.seq ?_
   refine CWalk.region ?_
   refine mv ?_
   refine wo (Spec.lssI (Has.s rfl) Has.int) ?_
   refine wo (Spec.assign (Has.s rfl)) ?_
   refine Walk.nil ?_
   refine Leaf.thenN ?_
   refine CWalk.cond rfl (fun hb => ?_) (fun hb => ?_)
   ·have hm := cond_t hb hm
    refine CWalk.skip ?_
    exact Leaf.join (decide (a1 < (0 : Int))) hm (st (sn (sn (st (sf (sf (sf (sf (sf (sf (sf (sg (sg (sf (sf (sf (sn (sn Sub.nil))))))))))))))))))
   ·have hm := cond_f hb hm
    refine CWalk.region ?_
    refine mv ?_
    refine mv ?_
    refine wo (Spec.geqI (Has.s rfl) (Has.s rfl)) ?_
    refine wo (Spec.assign (Has.s rfl)) ?_
    refine Walk.nil ?_
    exact Leaf.join (decide (a1 ≥ x1.1)) hm (st (sn (sn (st (sf (sf (sf (sf (sf (sf (sf (sg (sg (sf (sf (sf (sn (sn Sub.nil))))))))))))))))))

def slices_IndexFunc_byte_byte_L1 (a0 : List (List UInt8)) (a1 : (List UInt8) → Option Bool) (s1 : Int) : Option (Ctl (Int) ((Unit) ⊕ (Int))) :=
  (bif (decide (s1 < ((a0).length : Int))) then Option.bind (idx a0 s1) (fun x3 => Option.bind (a1 x3) (fun x4 => (bif x4 then some (Ctl.brk (Sum.inr s1)) else some (Ctl.next (wI (s1 + (1 : Int))))))) else some (Ctl.brk (Sum.inl ())))
/-- slices.IndexFunc[[][]byte,[]byte] -/
def slices_IndexFunc_byte_byte (a0 : List (List UInt8)) (a1 : (List UInt8) → Option Bool) : Option (Int) :=
  Option.bind (loopM (fun s : Int => slices_IndexFunc_byte_byte_L1 a0 a1 s) FUEL (0 : Int)) (fun b5 => Sum.elim (fun b6 => some (-1 : Int)) (fun b7 => some b7) b5)
set_option maxRecDepth 100000 in
set_option maxHeartbeats 2000000 in
theorem slices_IndexFunc_byte_byte_c (a0 : List (List UInt8)) (a1 : (List UInt8) → Option Bool) {r : Int} (hm : slices_IndexFunc_byte_byte a0 a1 = some r) : Ctr Try.prog 50 [.rep 0 a0, .fn Try.prog pre1 0 a1] (.fl r) [] := by
 refine ctr_of_walk [[]] 19 Try.func50 rfl rfl rfl rfl (fun w0 om => ?_)
 unfold slices_IndexFunc_byte_byte at hm
 refine CWalk.sub (G' := [.fact 0 (Fact.rep [0] (a0 : List (List UInt8))), .fact 1 (Fact.fn Try.prog pre1 [0] (a1))]) (sn (sn Sub.nil)) ?_
 refine CWalk.seq ?_
 refine CWalk.region ?_
 refine wo (Spec.assign Has.int) ?_
 refine Walk.nil ?_
 refine Leaf.thenN ?_
 refine CWalk.seq ?_
 refine CWalk.seq ?_
 refine CWalk.region ?_
 refine mv ?_
 refine wo (Spec.len (Has.s rfl) Try.underlying25) ?_
 refine wo (Spec.move Has.int) ?_
 refine Walk.nil ?_
 refine Leaf.thenN ?_
 refine CWalk.block ?_
 obtain ⟨b5, hb5, hm⟩ := bind_some hm
 refine CWalk.loop (fun s : Int => [.fact 0 (Fact.rep [0] (a0 : List (List UInt8))), .fact 1 (Fact.fn Try.prog pre1 [0] (a1)), .fact 7 (Fact.rep [] (((a0).length : Int) : Int)), .fact 8 (Fact.rep [] (s : Int))]) (fun b : (Unit) ⊕ (Int) => Sum.elim (fun b => (Exit.exit 0, [])) (fun b => (Exit.ret, [.fact 4 (Fact.rep [] (b : Int))])) b) hb5 (su (sn (st (st Sub.nil)))) ?_ ?_
 ·rintro s1 c2 hm
  replace hm : slices_IndexFunc_byte_byte_L1 a0 a1 s1 = some c2 := hm
  unfold slices_IndexFunc_byte_byte_L1 at hm
  show CWalk _ [.fact 0 (Fact.rep [0] (a0 : List (List UInt8))), .fact 1 (Fact.fn Try.prog pre1 [0] (a1)), .fact 7 (Fact.rep [] (((a0).length : Int) : Int)), .fact 8 (Fact.rep [] (s1 : Int))] _ _
  refine CWalk.seq ?_
  refine CWalk.region ?_
  refine wo (Spec.lssI (Has.s rfl) (Has.s rfl)) ?_
  refine Walk.nil ?_
  refine Leaf.thenN ?_
  refine CWalk.seq ?_
  refine CWalk.cond rfl (fun hb => ?_) (fun hb => ?_)
  ·have hm := cond_t hb hm
   refine CWalk.skip ?_
   refine Leaf.thenN ?_
   refine CWalk.seq ?_
   refine CWalk.block ?_
   refine CWalk.seq ?_
   refine CWalk.region ?_
   refine mv ?_
   refine wo (Spec.assign (Has.s rfl)) ?_
   refine Walk.nil ?_
   refine Leaf.thenN ?_
   refine CWalk.seq ?_
   refine CWalk.region ?_
   refine mv ?_
   refine mv ?_
   refine mv ?_
   obtain ⟨x3, hx3, hm⟩ := bind_some hm
   refine wo (Spec.indexAddr hx3 sl25 (Has.s rfl) (Has.s rfl)) ?_
   refine wo (Spec.load ty46 (Has.s rfl)) ?_
   obtain ⟨x4, hx4, hm⟩ := bind_some hm
   refine wo (Spec.callFn (xs := [.tmp 15]) (x := x3) [0] 10 rfl hx4 (Has.s rfl) (HasAll.cons (Has.m (Has.s rfl) rfl) HasAll.nil)) ?_
   refine Walk.nil ?_
   refine Leaf.thenN ?_
   refine CWalk.cond rfl (fun hb => ?_) (fun hb => ?_)
   ·have hm := cond_t hb hm
    refine CWalk.seq ?_
    refine CWalk.region ?_
    refine mv ?_
    refine wo (Spec.assign (Has.s rfl)) ?_
    refine Walk.nil ?_
    refine Leaf.thenN ?_
    refine CWalk.ret ?_
    refine Leaf.blockR ?_
    refine Leaf.thenR ?_
    exact Leaf.brk hm (fun h => nomatch h) rfl (st Sub.nil)
   ·have hm := cond_f hb hm
    refine CWalk.skip ?_
    refine Leaf.blockN ?_
    refine Leaf.thenN ?_
    refine CWalk.region ?_
    refine wo (Spec.addI (Has.s rfl) Has.int) ?_
    refine mv ?_
    refine Walk.nil ?_
    exact Leaf.next hm (su (sn (st (st Sub.nil))))
  ·have hm := cond_f hb hm
   refine CWalk.exit ?_
   refine Leaf.thenE ?_
   exact Leaf.brk hm (fun h => nomatch h) rfl (Sub.nil)
 ·intro _
  rcases b5 with b6 | b7
  ·have hm := selim_l hm
   refine Leaf.blockE ?_
   refine Leaf.thenN ?_
   refine CWalk.seq ?_
   refine CWalk.region ?_
   refine wo (Spec.assign Has.int) ?_
   refine Walk.nil ?_
   refine Leaf.thenN ?_
   refine CWalk.ret ?_
   obtain rfl := Option.some.inj hm
   exact Leaf.retC1 rfl (HasR.cv (HasR.tmp (Has.s rfl)) Cv.fl)
  ·have hm := selim_r hm
   refine Leaf.blockR ?_
   refine Leaf.thenR ?_
   obtain rfl := Option.some.inj hm
   exact Leaf.retC1 rfl (HasR.cv (HasR.tmp (Has.s rfl)) Cv.fl)

/-- slices.ContainsFunc[[][]byte,[]byte] -/
def slices_ContainsFunc_byte_byte (a0 : List (List UInt8)) (a1 : (List UInt8) → Option Bool) : Option (Bool) :=
  Option.bind (slices_IndexFunc_byte_byte a0 a1) (fun x1 => some (decide (x1 ≥ (0 : Int))))
set_option maxRecDepth 100000 in
set_option maxHeartbeats 2000000 in
theorem slices_ContainsFunc_byte_byte_c (a0 : List (List UInt8)) (a1 : (List UInt8) → Option Bool) {r : Bool} (hm : slices_ContainsFunc_byte_byte a0 a1 = some r) : Ctr Try.prog 32 [.rep 0 a0, .fn Try.prog pre1 0 a1] (.fl r) [] := by
 refine ctr_of_walk [[]] 9 Try.func32 rfl rfl rfl rfl (fun w0 om => ?_)
 unfold slices_ContainsFunc_byte_byte at hm
 refine CWalk.sub (G' := [.fact 0 (Fact.rep [0] (a0 : List (List UInt8))), .fact 1 (Fact.fn Try.prog pre1 [0] (a1))]) (sn (sn Sub.nil)) ?_
 refine CWalk.seq ?_
 refine CWalk.region ?_
 refine wo (Spec.assign Has.bool) ?_
 refine Walk.nil ?_
 refine Leaf.thenN ?_
 refine CWalk.seq ?_
 refine CWalk.region ?_
 refine mv ?_
 refine mv ?_
 obtain ⟨x1, hx1, hm⟩ := bind_some hm
 refine wo (f := Fact.rep [] (x1 : Int)) (Spec.callE [0] 10 rfl en50 (slices_IndexFunc_byte_byte_c a0 a1 hx1) (HasAll.cons (Has.m (Has.s rfl) rfl) (HasAll.cons (Has.cv (Has.s rfl) (Cv.fnM rfl)) HasAll.nil))) ?_
 refine wo (Spec.geqI (Has.s rfl) Has.int) ?_
 refine wo (Spec.assign (Has.s rfl)) ?_
 refine Walk.nil ?_
 refine Leaf.thenN ?_
 refine CWalk.ret ?_
 obtain rfl := Option.some.inj hm
 exact Leaf.retC1 rfl (HasR.cv (HasR.tmp (Has.s rfl)) Cv.fl)

/-- freeboard/head.odd -/
def head_odd (a0 : List UInt8) : Option (Bool) :=
  some ((((a0).length : Int) != (0 : Int)) && (((a0).length : Int) != (128 : Int)))
set_option maxRecDepth 100000 in
set_option maxHeartbeats 2000000 in
theorem head_odd_c (a0 : List UInt8) {r : Bool} (hm : head_odd a0 = some r) : Ctr Try.prog 33 [.rep 0 a0] (.fl r) [] := by
 refine ctr_of_walk [[]] 11 Try.func33 rfl rfl rfl rfl (fun w0 om => ?_)
 unfold head_odd at hm
 refine CWalk.sub (G' := [.fact 0 (Fact.rep [0] (a0 : List UInt8))]) (sn Sub.nil) ?_
 refine CWalk.seq ?_
 refine CWalk.region ?_
 refine wo (Spec.assign Has.bool) ?_
 refine Walk.nil ?_
 refine Leaf.thenN ?_
 refine CWalk.seq ?_
 refine CWalk.region ?_
 refine mv ?_
 refine wo (Spec.len (Has.s rfl) Try.underlying46) ?_
 refine wo (Spec.neqI (Has.s rfl) Has.int) ?_
 refine mv ?_
 refine wg rfl rfl (fun hb => Spec.move (Has.s rfl)) ?_
 refine wg rfl rfl (fun hb => Spec.len (Has.u rfl hb) Try.underlying46) ?_
 refine wg rfl rfl (fun hb => Spec.neqI (Has.u rfl hb) Has.int) ?_
 refine wo (Spec.and (Has.s rfl) (fun h => Has.u rfl h)) ?_
 refine wo (Spec.assign (Has.s rfl)) ?_
 refine Walk.nil ?_
 refine Leaf.thenN ?_
 refine CWalk.ret ?_
 obtain rfl := Option.some.inj hm
 exact Leaf.retC1 rfl (HasR.cv (HasR.tmp (Has.s rfl)) Cv.fl)

def head_Check_L1 (a1 : Head) (s3 : Bool) (s4 : Int) : Option (Ctl (Bool × Int) ((Bool) ⊕ (Unit))) :=
  (bif (decide (s4 < ((a1.Dirty).length : Int))) then Option.bind (idx a1.Dirty s4) (fun x6 => Option.bind (gO (x6) (idx a1.Blocks s4)) (fun x7 => (bif (x6 && (((x7).length : Int) == (0 : Int))) then some (Ctl.brk (Sum.inr ())) else some (Ctl.next ((s3 || x6), (wI (s4 + (1 : Int)))))))) else some (Ctl.brk (Sum.inl s3)))
/-- freeboard/head.Check -/
def head_Check (a0 : Config) (a1 : Head) : Option (Int) :=
  Option.bind (shape_Stripes a0) (fun x1 => Option.bind (gO (!((((((x1.2 != (0 : Int)) || (decide (a1.Stripe < (0 : Int)))) || (decide (a1.Stripe ≥ x1.1))) || (((a1.Blocks).length : Int) != a0.Members)) || (((a1.Dirty).length : Int) != (wI (a0.Members - (1 : Int))))) || (decide ((a1.Phase.toNat : Int) > ((4 : UInt8).toNat : Int))))) (slices_ContainsFunc_byte_byte a1.Blocks (fun y => head_odd y))) (fun x2 => (bif (((((((x1.2 != (0 : Int)) || (decide (a1.Stripe < (0 : Int)))) || (decide (a1.Stripe ≥ x1.1))) || (((a1.Blocks).length : Int) != a0.Members)) || (((a1.Dirty).length : Int) != (wI (a0.Members - (1 : Int))))) || (decide ((a1.Phase.toNat : Int) > ((4 : UInt8).toNat : Int)))) || x2) then some (8 : Int) else Option.bind (loopM (fun s : Bool × Int => head_Check_L1 a1 s.1 s.2) FUEL (false, (0 : Int))) (fun b8 => Sum.elim (fun b9 => Option.bind (idx a1.Blocks (wI (a0.Members - (1 : Int)))) (fun x10 => (bif (((((a1.Phase == (0 : UInt8)) == (decide (((x10).length : Int) > (0 : Int)))) || ((!(a1.Phase == (0 : UInt8))) && (!b9))) || ((decide ((a1.Phase.toNat : Int) ≤ ((1 : UInt8).toNat : Int))) && ((a1.Seq.toNat : Int) != ((0 : UInt32).toNat : Int)))) || (a1.Deals && ((!b9) || (decide ((a1.Phase.toNat : Int) > ((1 : UInt8).toNat : Int)))))) then some (8 : Int) else some (0 : Int)))) (fun b11 => some (8 : Int)) b8))))
set_option maxRecDepth 100000 in
set_option maxHeartbeats 2000000 in
theorem head_Check_c (a0 : Config) (a1 : Head) {r : Int} (hm : head_Check a0 a1 = some r) : Ctr Try.prog 17 [.rep 0 a0, .rep 0 a1] (.fl r) [] := by
 refine ctr_of_walk [[]] 126 Try.func17 rfl rfl rfl rfl (fun w0 om => ?_)
 unfold head_Check at hm
 refine CWalk.sub (G' := [.fact 0 (Fact.rep [] (a0 : Config)), .fact 1 (Fact.rep [0] (a1 : Head))]) (Sub.cons (Has.fl (Has.s rfl)) (sn Sub.nil)) ?_
 refine CWalk.seq ?_
 refine CWalk.region ?_
 refine ws (Step.boxObj (ls := [(false, 1, Fact.rep [] (a0.Id : UInt32)), (false, 1, Fact.rep [] (a0.Members : Int)), (false, 1, Fact.rep [] (a0.Chunk : Int)), (false, 1, Fact.rep [] (a0.Rows : Int)), (false, 1, Fact.rep [] (a0.Log : Int)), (false, 1, Fact.rep [] (a0.Heads : Int))]) 10 rfl rfl rfl rfl (HasL.flds (Has.cv (Has.s rfl) (Cv.trans (Cv.opens (chConfig a0)) (Cv.flds (CvL.cons Cv.fl (CvL.cons Cv.fl (CvL.cons Cv.fl (CvL.cons Cv.fl (CvL.cons Cv.fl (CvL.cons Cv.fl CvL.nil))))))))))) ?_
 refine ws (Step.boxObj (ls := [(false, 1, Fact.rep [] (a1.Stripe : Int)), (false, 1, Fact.rep [0] (a1.Blocks : List (List UInt8))), (false, 1, Fact.rep [0] (a1.Dirty : List Bool)), (false, 1, Fact.rep [] (a1.Phase : UInt8)), (false, 1, Fact.rep [] (a1.Deals : Bool)), (false, 1, Fact.rep [] (a1.Seq : UInt32))]) 17 rfl rfl rfl rfl (HasL.flds (Has.cv (Has.s rfl) (Cv.trans (Cv.opens (chHead a1)) (Cv.flds (CvL.cons Cv.fl (CvL.cons Cv.refl (CvL.cons Cv.refl (CvL.cons Cv.fl (CvL.cons Cv.fl (CvL.cons Cv.fl CvL.nil))))))))))) ?_
 refine wo (Spec.assign Has.int) ?_
 refine Walk.nil ?_
 refine Leaf.thenN ?_
 refine CWalk.seq ?_
 refine CWalk.region ?_
 refine wo (Spec.loadObj (ls := [(false, 1, Fact.rep [] (a0.Id : UInt32)), (false, 1, Fact.rep [] (a0.Members : Int)), (false, 1, Fact.rep [] (a0.Chunk : Int)), (false, 1, Fact.rep [] (a0.Rows : Int)), (false, 1, Fact.rep [] (a0.Log : Int)), (false, 1, Fact.rep [] (a0.Heads : Int))]) ty24 rfl rfl (Has.s rfl) rfl (HasGs.cons (HasG.s rfl) (HasGs.cons (HasG.s rfl) (HasGs.cons (HasG.s rfl) (HasGs.cons (HasG.s rfl) (HasGs.cons (HasG.s rfl) (HasGs.cons (HasG.s rfl) HasGs.nil))))))) ?_
 obtain ⟨x1, hx1, hm⟩ := bind_some hm
 refine wo (f := Fact.tup2 (Fact.rep [] (x1.1 : Int)) (Fact.rep [] (x1.2 : Int))) (Spec.callE [] 24 rfl en31 (shape_Stripes_c a0 hx1) (HasAll.cons (Has.fl (Has.cv (Has.s rfl) (Cv.trans (Cv.flds (CvL.cons Cv.fl (CvL.cons Cv.fl (CvL.cons Cv.fl (CvL.cons Cv.fl (CvL.cons Cv.fl (CvL.cons Cv.fl CvL.nil))))))) (Cv.close (T := []) (chConfig a0))))) HasAll.nil)) ?_
 refine mv ?_
 refine wo (Spec.ext0 (Has.s rfl)) ?_
 refine wo (Spec.ext1 (Has.s rfl)) ?_
 refine wo (Spec.assign (Has.s rfl)) ?_
 refine wo (Spec.assign (Has.s rfl)) ?_
 refine Walk.nil ?_
 refine Leaf.thenN ?_
 refine CWalk.seq ?_
 refine CWalk.seq ?_
 refine CWalk.region ?_
 refine mv ?_
 refine wo (Spec.neqI (Has.s rfl) Has.int) ?_
 refine mv ?_
 refine wg rfl rfl (fun hb => Spec.fieldAddrO fd28_0 (Has.cv (Has.s rfl) (Cv.isvP rfl))) ?_
 refine wg rfl rfl (fun hb => Spec.loadF (i := 0) ty3 rfl (Has.u rfl hb) rfl (HasG.s rfl)) ?_
 refine wg rfl rfl (fun hb => Spec.lssI (Has.u rfl hb) Has.int) ?_
 refine wo (Spec.or (Has.s rfl) (fun h => Has.u rfl h)) ?_
 refine mv ?_
 refine wg rfl rfl (fun hb => Spec.fieldAddrO fd28_0 (Has.cv (Has.s rfl) (Cv.isvP rfl))) ?_
 refine wg rfl rfl (fun hb => Spec.loadF (i := 0) ty3 rfl (Has.u rfl hb) rfl (HasG.s rfl)) ?_
 refine wg rfl rfl (fun hb => Spec.move (Has.s rfl)) ?_
 refine wg rfl rfl (fun hb => Spec.geqI (Has.u rfl hb) (Has.u rfl hb)) ?_
 refine wo (Spec.or (Has.s rfl) (fun h => Has.u rfl h)) ?_
 refine mv ?_
 refine wg rfl rfl (fun hb => Spec.fieldAddrO fd28_1 (Has.cv (Has.s rfl) (Cv.isvP rfl))) ?_
 refine wg rfl rfl (fun hb => Spec.loadF (i := 1) ty25 rfl (Has.u rfl hb) rfl (HasG.s rfl)) ?_
 refine wg rfl rfl (fun hb => Spec.len (Has.u rfl hb) Try.underlying25) ?_
 refine wg rfl rfl (fun hb => Spec.fieldAddrO fd24_1 (Has.cv (Has.s rfl) (Cv.isvP rfl))) ?_
 refine wg rfl rfl (fun hb => Spec.loadF (i := 1) ty3 rfl (Has.u rfl hb) rfl (HasG.s rfl)) ?_
 refine wg rfl rfl (fun hb => Spec.neqI (Has.u rfl hb) (Has.u rfl hb)) ?_
 refine wo (Spec.or (Has.s rfl) (fun h => Has.u rfl h)) ?_
 refine mv ?_
 refine wg rfl rfl (fun hb => Spec.fieldAddrO fd28_2 (Has.cv (Has.s rfl) (Cv.isvP rfl))) ?_
 refine wg rfl rfl (fun hb => Spec.loadF (i := 2) ty26 rfl (Has.u rfl hb) rfl (HasG.s rfl)) ?_
 refine wg rfl rfl (fun hb => Spec.len (Has.u rfl hb) Try.underlying26) ?_
 refine wg rfl rfl (fun hb => Spec.fieldAddrO fd24_1 (Has.cv (Has.s rfl) (Cv.isvP rfl))) ?_
 refine wg rfl rfl (fun hb => Spec.loadF (i := 1) ty3 rfl (Has.u rfl hb) rfl (HasG.s rfl)) ?_
 refine wg rfl rfl (fun hb => Spec.subI (Has.u rfl hb) Has.int) ?_
 refine wg rfl rfl (fun hb => Spec.neqI (Has.u rfl hb) (Has.u rfl hb)) ?_
 refine wo (Spec.or (Has.s rfl) (fun h => Has.u rfl h)) ?_
 refine mv ?_
 refine wg rfl rfl (fun hb => Spec.fieldAddrO fd28_3 (Has.cv (Has.s rfl) (Cv.isvP rfl))) ?_
 refine wg rfl rfl (fun hb => Spec.loadF (i := 3) ty5 rfl (Has.u rfl hb) rfl (HasG.s rfl)) ?_
 refine wg rfl rfl (fun hb => Spec.gtrN (α := UInt8) (Has.u rfl hb) (Has.u8 4 rfl)) ?_
 refine wo (Spec.or (Has.s rfl) (fun h => Has.u rfl h)) ?_
 refine mv ?_
 refine wg rfl rfl (fun hb => Spec.fieldAddrO fd28_1 (Has.cv (Has.s rfl) (Cv.isvP rfl))) ?_
 refine wg rfl rfl (fun hb => Spec.loadF (i := 1) ty25 rfl (Has.u rfl hb) rfl (HasG.s rfl)) ?_
 obtain ⟨x2, hx2, hm⟩ := bind_some hm
 refine wg (f := Fact.rep [] (x2 : Bool)) rfl rfl (fun hb => Spec.callE [0] 25 rfl en32 (slices_ContainsFunc_byte_byte_c a1.Blocks (fun y => head_odd y) (gO_t hx2 (not_t hb))) (HasAll.cons (Has.m (Has.u rfl hb) rfl) (HasAll.cons (Has.cv Has.func (Cv.fn (pu := []) (pc := []) (shc := []) en33 CvF.nil CvF.nil (fun y r h => head_odd_c y h))) HasAll.nil))) ?_
 refine wo (Spec.or (Has.s rfl) (fun h => Has.u rfl h)) ?_
 refine Walk.nil ?_
 refine Leaf.thenN ?_
 refine CWalk.cond rfl (fun hb => ?_) (fun hb => ?_)
 ·have hm := cond_t hb hm
  refine CWalk.seq ?_
  refine CWalk.region ?_
  refine wo (Spec.assign Has.int) ?_
  refine Walk.nil ?_
  refine Leaf.thenN ?_
  refine CWalk.ret ?_
  refine Leaf.thenR ?_
  obtain rfl := Option.some.inj hm
  exact Leaf.retC1 rfl (HasR.cv (HasR.tmp (Has.s rfl)) Cv.fl)
 ·have hm := cond_f hb hm
  refine CWalk.skip ?_
  refine Leaf.thenN ?_
  refine CWalk.seq ?_
  refine CWalk.region ?_
  refine wo (Spec.assign Has.bool) ?_
  refine Walk.nil ?_
  refine Leaf.thenN ?_
  refine CWalk.seq ?_
  refine CWalk.seq ?_
  refine CWalk.region ?_
  refine wo (Spec.fieldAddrO fd28_2 (Has.cv (Has.s rfl) (Cv.isvP rfl))) ?_
  refine wo (Spec.loadF (i := 2) ty26 rfl (Has.s rfl) rfl (HasG.s rfl)) ?_
  refine wo (Spec.len (Has.s rfl) Try.underlying26) ?_
  refine wo (Spec.move Has.int) ?_
  refine Walk.nil ?_
  refine Leaf.thenN ?_
  refine CWalk.block ?_
  obtain ⟨b8, hb8, hm⟩ := bind_some hm
  refine CWalk.loop (fun s : Bool × Int => [.fact 2 (Fact.isv 10), .fact 3 (Fact.isv 17), .fact 7 (Fact.rep [] (s.1 : Bool)), .fact 58 (Fact.rep [0] (a1.Dirty : List Bool)), .fact 59 (Fact.rep [] (((a1.Dirty).length : Int) : Int)), .fact 60 (Fact.rep [] (s.2 : Int)), .fact 100011 (Fact.at 11 (Fact.rep [] (a0.Id : UInt32))), .fact 100012 (Fact.at 12 (Fact.rep [] (a0.Members : Int))), .fact 100013 (Fact.at 13 (Fact.rep [] (a0.Chunk : Int))), .fact 100014 (Fact.at 14 (Fact.rep [] (a0.Rows : Int))), .fact 100015 (Fact.at 15 (Fact.rep [] (a0.Log : Int))), .fact 100016 (Fact.at 16 (Fact.rep [] (a0.Heads : Int))), .fact 100018 (Fact.at 18 (Fact.rep [] (a1.Stripe : Int))), .fact 100019 (Fact.at 19 (Fact.rep [0] (a1.Blocks : List (List UInt8)))), .fact 100020 (Fact.at 20 (Fact.rep [0] (a1.Dirty : List Bool))), .fact 100021 (Fact.at 21 (Fact.rep [] (a1.Phase : UInt8))), .fact 100022 (Fact.at 22 (Fact.rep [] (a1.Deals : Bool))), .fact 100023 (Fact.at 23 (Fact.rep [] (a1.Seq : UInt32))), .fact 100010 (Fact.obj 10 [(false, 1), (false, 1), (false, 1), (false, 1), (false, 1), (false, 1)]), .fact 100017 (Fact.obj 17 [(false, 1), (false, 1), (false, 1), (false, 1), (false, 1), (false, 1)])]) (fun b : (Bool) ⊕ (Unit) => Sum.elim (fun b => (Exit.exit 0, [.fact 2 (Fact.isv 10), .fact 3 (Fact.isv 17), .fact 7 (Fact.rep [] (b : Bool)), .fact 100011 (Fact.at 11 (Fact.rep [] (a0.Id : UInt32))), .fact 100012 (Fact.at 12 (Fact.rep [] (a0.Members : Int))), .fact 100013 (Fact.at 13 (Fact.rep [] (a0.Chunk : Int))), .fact 100014 (Fact.at 14 (Fact.rep [] (a0.Rows : Int))), .fact 100015 (Fact.at 15 (Fact.rep [] (a0.Log : Int))), .fact 100016 (Fact.at 16 (Fact.rep [] (a0.Heads : Int))), .fact 100018 (Fact.at 18 (Fact.rep [] (a1.Stripe : Int))), .fact 100019 (Fact.at 19 (Fact.rep [0] (a1.Blocks : List (List UInt8)))), .fact 100020 (Fact.at 20 (Fact.rep [0] (a1.Dirty : List Bool))), .fact 100021 (Fact.at 21 (Fact.rep [] (a1.Phase : UInt8))), .fact 100022 (Fact.at 22 (Fact.rep [] (a1.Deals : Bool))), .fact 100023 (Fact.at 23 (Fact.rep [] (a1.Seq : UInt32))), .fact 100010 (Fact.obj 10 [(false, 1), (false, 1), (false, 1), (false, 1), (false, 1), (false, 1)]), .fact 100017 (Fact.obj 17 [(false, 1), (false, 1), (false, 1), (false, 1), (false, 1), (false, 1)])])) (fun b => (Exit.ret, [.fact 4 (Fact.rep [] ((8 : Int) : Int))])) b) hb8 (sn (sn (st (su (st (st (sf (sf (sf (sf (sf (sf (sf (sm (sm (sf (sf (sf (sn (sn Sub.nil)))))))))))))))))))) ?_ ?_
  ·rintro ⟨s3, s4⟩ c5 hm
   replace hm : head_Check_L1 a1 s3 s4 = some c5 := hm
   unfold head_Check_L1 at hm
   show CWalk _ [.fact 2 (Fact.isv 10), .fact 3 (Fact.isv 17), .fact 7 (Fact.rep [] (s3 : Bool)), .fact 58 (Fact.rep [0] (a1.Dirty : List Bool)), .fact 59 (Fact.rep [] (((a1.Dirty).length : Int) : Int)), .fact 60 (Fact.rep [] (s4 : Int)), .fact 100011 (Fact.at 11 (Fact.rep [] (a0.Id : UInt32))), .fact 100012 (Fact.at 12 (Fact.rep [] (a0.Members : Int))), .fact 100013 (Fact.at 13 (Fact.rep [] (a0.Chunk : Int))), .fact 100014 (Fact.at 14 (Fact.rep [] (a0.Rows : Int))), .fact 100015 (Fact.at 15 (Fact.rep [] (a0.Log : Int))), .fact 100016 (Fact.at 16 (Fact.rep [] (a0.Heads : Int))), .fact 100018 (Fact.at 18 (Fact.rep [] (a1.Stripe : Int))), .fact 100019 (Fact.at 19 (Fact.rep [0] (a1.Blocks : List (List UInt8)))), .fact 100020 (Fact.at 20 (Fact.rep [0] (a1.Dirty : List Bool))), .fact 100021 (Fact.at 21 (Fact.rep [] (a1.Phase : UInt8))), .fact 100022 (Fact.at 22 (Fact.rep [] (a1.Deals : Bool))), .fact 100023 (Fact.at 23 (Fact.rep [] (a1.Seq : UInt32))), .fact 100010 (Fact.obj 10 [(false, 1), (false, 1), (false, 1), (false, 1), (false, 1), (false, 1)]), .fact 100017 (Fact.obj 17 [(false, 1), (false, 1), (false, 1), (false, 1), (false, 1), (false, 1)])] _ _
   refine CWalk.seq ?_
   refine CWalk.region ?_
   refine wo (Spec.lssI (Has.s rfl) (Has.s rfl)) ?_
   refine Walk.nil ?_
   refine Leaf.thenN ?_
   refine CWalk.seq ?_
   refine CWalk.cond rfl (fun hb => ?_) (fun hb => ?_)
   ·have hm := cond_t hb hm
    refine CWalk.skip ?_
    refine Leaf.thenN ?_
    refine CWalk.seq ?_
    refine CWalk.block ?_
    refine CWalk.seq ?_
    refine CWalk.region ?_
    refine mv ?_
    obtain ⟨x6, hx6, hm⟩ := bind_some hm
    refine wo (Spec.indexAddr hx6 sl26 (Has.s rfl) (Has.s rfl)) ?_
    refine wo ((Spec.load ty4 (Has.s rfl)).flat (T' := [])) ?_
    refine wo (Spec.assign (Has.s rfl)) ?_
    refine wo (Spec.assign (Has.s rfl)) ?_
    refine Walk.nil ?_
    refine Leaf.thenN ?_
    refine CWalk.seq ?_
    refine CWalk.seq ?_
    refine CWalk.region ?_
    refine mv ?_
    refine mv ?_
    refine wg rfl rfl (fun hb => Spec.fieldAddrO fd28_1 (Has.cv (Has.s rfl) (Cv.isvP rfl))) ?_
    refine wg rfl rfl (fun hb => Spec.loadF (i := 1) ty25 rfl (Has.u rfl hb) rfl (HasG.s rfl)) ?_
    refine wg rfl rfl (fun hb => Spec.move (Has.s rfl)) ?_
    obtain ⟨x7, hx7, hm⟩ := bind_some hm
    refine wg rfl rfl (fun hb => Spec.indexAddr (gO_t hx7 hb) sl25 (Has.u rfl hb) (Has.u rfl hb)) ?_
    refine wg rfl rfl (fun hb => Spec.load ty46 (Has.u rfl hb)) ?_
    refine wg rfl rfl (fun hb => Spec.len (Has.u rfl hb) Try.underlying46) ?_
    refine wg rfl rfl (fun hb => Spec.eqlI (Has.u rfl hb) Has.int) ?_
    refine wo (Spec.and (Has.s rfl) (fun h => Has.u rfl h)) ?_
    refine Walk.nil ?_
    refine Leaf.thenN ?_
    refine CWalk.cond rfl (fun hb => ?_) (fun hb => ?_)
    ·have hm := cond_t hb hm
     refine CWalk.seq ?_
     refine CWalk.region ?_
     refine wo (Spec.assign Has.int) ?_
     refine Walk.nil ?_
     refine Leaf.thenN ?_
     refine CWalk.ret ?_
     refine Leaf.thenR ?_
     refine Leaf.blockR ?_
     refine Leaf.thenR ?_
     exact Leaf.brk hm (fun h => nomatch h) rfl (st Sub.nil)
    ·have hm := cond_f hb hm
     refine CWalk.skip ?_
     refine Leaf.thenN ?_
     refine CWalk.region ?_
     refine mv ?_
     refine mv ?_
     refine wg rfl rfl (fun hb => Spec.move (Has.s rfl)) ?_
     refine wo (Spec.or (Has.s rfl) (fun h => Has.u rfl h)) ?_
     refine wo (Spec.assign (Has.s rfl)) ?_
     refine Walk.nil ?_
     refine Leaf.blockN ?_
     refine Leaf.thenN ?_
     refine CWalk.region ?_
     refine wo (Spec.addI (Has.s rfl) Has.int) ?_
     refine mv ?_
     refine Walk.nil ?_
     exact Leaf.next hm (sn (sn (st (su (st (st (sf (sf (sf (sf (sf (sf (sf (sm (sm (sf (sf (sf (sn (sn Sub.nil))))))))))))))))))))
   ·have hm := cond_f hb hm
    refine CWalk.exit ?_
    refine Leaf.thenE ?_
    exact Leaf.brk hm (fun h => nomatch h) rfl (sn (sn (st (sf (sf (sf (sf (sf (sf (sf (sm (sm (sf (sf (sf (sn (sn Sub.nil)))))))))))))))))
  ·intro _
   rcases b8 with b9 | b11
   ·have hm := selim_l hm
    refine Leaf.blockE ?_
    refine Leaf.thenN ?_
    refine CWalk.seq ?_
    obtain ⟨x10, hx10, hm⟩ := bind_some hm
    refine CWalk.drawM [[], [0], [0, 1], [], [3], [], [5], [5, 6], [3, 4, 5, 6, 7], [3, 4, 5, 6, 7, 8], [3, 4, 5, 6, 7, 8, 9], [3, 4, 5, 6, 7, 8, 9, 10], [0, 1, 2], [0, 1, 2, 3, 4, 5, 6, 7, 8, 9, 10, 11, 12]] [[.fact 80 (Fact.pto 17 3)], [.fact 81 (Fact.rep [] (a1.Phase : UInt8))], [.fact 82 (Fact.rep [] ((a1.Phase == (0 : UInt8)) : Bool))], [.fact 83 (Fact.pto 17 1)], [.fact 84 (Fact.rep [0] (a1.Blocks : List (List UInt8)))], [.fact 85 (Fact.pto 10 1)], [.fact 86 (Fact.rep [] (a0.Members : Int))], [.fact 87 (Fact.rep [] ((wI (a0.Members - (1 : Int))) : Int))], [.fact 88 (Fact.ptr [0] (x10 : List UInt8))], [.fact 89 (Fact.rep [0] (x10 : List UInt8))], [.fact 90 (Fact.rep [] (((x10).length : Int) : Int))], [.fact 91 (Fact.rep [] ((decide (((x10).length : Int) > (0 : Int))) : Bool))], [.fact 10 (Fact.rep [] ((a1.Phase == (0 : UInt8)) : Bool))], [.fact 11 (Fact.rep [] ((decide (((x10).length : Int) > (0 : Int))) : Bool))]] mixed (by kernel_rfl) (ao (so (Spec.fieldAddrO fd28_3 (Has.cv (Has.s rfl) (Cv.isvP rfl)))) (ao (so (Spec.loadF (i := 3) ty5 rfl (Has.s rfl) rfl (HasG.s rfl))) (ao (so (Spec.eqlB (Has.s rfl) (Has.u8 0 rfl))) (ao (so (Spec.fieldAddrO fd28_1 (Has.cv (Has.s rfl) (Cv.isvP rfl)))) (ao (so (Spec.loadF (i := 1) ty25 rfl (Has.s rfl) rfl (HasG.s rfl))) (ao (so (Spec.fieldAddrO fd24_1 (Has.cv (Has.s rfl) (Cv.isvP rfl)))) (ao (so (Spec.loadF (i := 1) ty3 rfl (Has.s rfl) rfl (HasG.s rfl))) (ao (so (Spec.subI (Has.s rfl) Has.int)) (ao (so (Spec.indexAddr hx10 sl25 (Has.s rfl) (Has.s rfl))) (ao (so (Spec.load ty46 (Has.s rfl))) (ao (so (Spec.len (Has.s rfl) Try.underlying46)) (ao (so (Spec.gtrI (Has.s rfl) Has.int)) (ao (so (Spec.assign (Has.s rfl))) (ao (so (Spec.assign (Has.s rfl))) AllM.nil)))))))))))))) ?_
    refine Leaf.thenN ?_
    refine CWalk.seq ?_
    refine CWalk.seq ?_
    refine CWalk.region ?_
    refine mv ?_
    refine mv ?_
    refine wo (Spec.eqlT (Has.s rfl) (Has.s rfl) Try.underlying4) ?_
    refine mv ?_
    refine wg rfl rfl (fun hb => Spec.move (Has.s rfl)) ?_
    refine wg rfl rfl (fun hb => Spec.not (Has.u rfl hb)) ?_
    refine wg rfl rfl (fun hb => Spec.move (Has.u rfl hb)) ?_
    refine Walk.opgu rfl rfl rfl (fun hb => Spec.move (Has.s rfl)) ?_
    refine Walk.opgu rfl rfl rfl (fun hb => Spec.not (Has.u rfl hb)) ?_
    refine wg rfl rfl (fun hb => Spec.and (Has.u rfl hb) (fun h => Has.u rfl ⟨hb, h⟩)) ?_
    refine wo (Spec.or (Has.s rfl) (fun h => Has.u rfl h)) ?_
    refine mv ?_
    refine wg rfl rfl (fun hb => Spec.fieldAddrO fd28_3 (Has.cv (Has.s rfl) (Cv.isvP rfl))) ?_
    refine wg rfl rfl (fun hb => Spec.loadF (i := 3) ty5 rfl (Has.u rfl hb) rfl (HasG.s rfl)) ?_
    refine wg rfl rfl (fun hb => Spec.leqN (α := UInt8) (Has.u rfl hb) (Has.u8 1 rfl)) ?_
    refine wg rfl rfl (fun hb => Spec.move (Has.u rfl hb)) ?_
    refine Walk.opgu rfl rfl rfl (fun hb => Spec.fieldAddrO fd28_5 (Has.cv (Has.s rfl) (Cv.isvP rfl))) ?_
    refine Walk.opgu rfl rfl rfl (fun hb => Spec.loadF (i := 5) ty22 rfl (Has.u rfl hb) rfl (HasG.s rfl)) ?_
    refine Walk.opgu rfl rfl rfl (fun hb => Spec.neqN (α := UInt32) (Has.u rfl hb) (Has.u32 0 rfl)) ?_
    refine wg rfl rfl (fun hb => Spec.and (Has.u rfl hb) (fun h => Has.u rfl ⟨hb, h⟩)) ?_
    refine wo (Spec.or (Has.s rfl) (fun h => Has.u rfl h)) ?_
    refine mv ?_
    refine wg rfl rfl (fun hb => Spec.fieldAddrO fd28_4 (Has.cv (Has.s rfl) (Cv.isvP rfl))) ?_
    refine wg rfl rfl (fun hb => Spec.loadF (i := 4) ty4 rfl (Has.u rfl hb) rfl (HasG.s rfl)) ?_
    refine wg rfl rfl (fun hb => Spec.move (Has.u rfl hb)) ?_
    refine Walk.opgu rfl rfl rfl (fun hb => Spec.move (Has.s rfl)) ?_
    refine Walk.opgu rfl rfl rfl (fun hb => Spec.not (Has.u rfl hb)) ?_
    refine Walk.opgu rfl rfl rfl (fun hb => Spec.move (Has.u rfl hb)) ?_
    refine Walk.opgu rfl rfl rfl (fun hb => Spec.fieldAddrO fd28_3 (Has.cv (Has.s rfl) (Cv.isvP rfl))) ?_
    refine Walk.opgu rfl rfl rfl (fun hb => Spec.loadF (i := 3) ty5 rfl (Has.u rfl hb) rfl (HasG.s rfl)) ?_
    refine Walk.opgu rfl rfl rfl (fun hb => Spec.gtrN (α := UInt8) (Has.u rfl hb) (Has.u8 1 rfl)) ?_
    refine Walk.opgu rfl rfl rfl (fun hb => Spec.or (Has.u rfl hb) (fun h => Has.u rfl ⟨hb, h⟩)) ?_
    refine wg rfl rfl (fun hb => Spec.and (Has.u rfl hb) (fun h => Has.u rfl ⟨hb, h⟩)) ?_
    refine wo (Spec.or (Has.s rfl) (fun h => Has.u rfl h)) ?_
    refine Walk.nil ?_
    refine Leaf.thenN ?_
    refine CWalk.cond rfl (fun hb => ?_) (fun hb => ?_)
    ·have hm := cond_t hb hm
     refine CWalk.seq ?_
     refine CWalk.region ?_
     refine wo (Spec.assign Has.int) ?_
     refine Walk.nil ?_
     refine Leaf.thenN ?_
     refine CWalk.ret ?_
     refine Leaf.thenR ?_
     obtain rfl := Option.some.inj hm
     exact Leaf.retC1 rfl (HasR.cv (HasR.tmp (Has.s rfl)) Cv.fl)
    ·have hm := cond_f hb hm
     refine CWalk.skip ?_
     refine Leaf.thenN ?_
     refine CWalk.seq ?_
     refine CWalk.region ?_
     refine wo (Spec.assign Has.int) ?_
     refine Walk.nil ?_
     refine Leaf.thenN ?_
     refine CWalk.ret ?_
     obtain rfl := Option.some.inj hm
     exact Leaf.retC1 rfl (HasR.cv (HasR.tmp (Has.s rfl)) Cv.fl)
   ·have hm := selim_r hm
    refine Leaf.blockR ?_
    refine Leaf.thenR ?_
    obtain rfl := Option.some.inj hm
    exact Leaf.retC1 rfl (HasR.cv (HasR.tmp (Has.s rfl)) Cv.fl)

/-- slices.Clone[[]bool,bool] -/
def slices_Clone_bool_bool (a0 : List Bool) : Option ((List Bool)) :=
  Option.bind (app ([] : List Bool) a0) (fun x1 => some x1)
set_option maxRecDepth 100000 in
set_option maxHeartbeats 2000000 in
theorem slices_Clone_bool_bool_c (a0 : List Bool) {r : (List Bool)} (hm : slices_Clone_bool_bool a0 = some r) : Ctr Try.prog 63 [.rep 0 a0] (.own 0 none 4 r) [] := by
 refine ctr_of_walk [[10]] 8 Try.func63 rfl rfl rfl rfl (fun w0 om => ?_)
 unfold slices_Clone_bool_bool at hm
 refine CWalk.sub (G' := [.fact 0 (Fact.rep [0] (a0 : List Bool))]) (sn Sub.nil) ?_
 refine CWalk.seq ?_
 refine CWalk.region ?_
 refine wo (Spec.assign Has.nilv) ?_
 refine Walk.nil ?_
 refine Leaf.thenN ?_
 refine CWalk.seq ?_
 refine CWalk.seq ?_
 refine CWalk.region ?_
 refine mv ?_
 refine wo (Spec.eqlNil Try.underlying26 (Has.s rfl)) ?_
 refine Walk.nil ?_
 refine Leaf.thenN ?_
 refine CWalk.condNil rfl (fun hb => ?_) ?_
 ·have hm : some ([] : List Bool) = some r := by first | simpa [app, hb] using hm | simpa [hb] using hm
  refine CWalk.seq ?_
  refine CWalk.region ?_
  refine wo (Spec.assign Has.nilv) ?_
  refine Walk.nil ?_
  refine Leaf.thenN ?_
  refine CWalk.ret ?_
  refine Leaf.thenR ?_
  obtain rfl := Option.some.inj hm
  exact Leaf.retC1 rfl (HasR.cv (HasR.tmp (Has.s rfl)) (Cv.trans Cv.nilOw (Cv.owF (T := []) (te := []) rfl)))
 ·skip
  refine CWalk.skip ?_
  refine Leaf.thenN ?_
  refine CWalk.seq ?_
  refine CWalk.region ?_
  refine ws (Step.lit0 (α := Bool) 10 rfl rfl ow26) ?_
  refine mv ?_
  obtain ⟨x1, hx1, hm⟩ := bind_some hm
  refine ws (Step.append (te' := []) 10 hx1 rfl rfl ow26 (Has.s rfl) rfl (Has.s rfl) ElKeep.flat ElKeep.flat) ?_
  refine wo (Spec.assign (Has.s rfl)) ?_
  refine Walk.nil ?_
  refine Leaf.thenN ?_
  refine CWalk.ret ?_
  obtain rfl := Option.some.inj hm
  exact Leaf.retC1 rfl (HasR.cv (HasR.tmp (Has.s rfl)) (Cv.trans (Cv.isvOw rfl) (Cv.owF (T := [10]) (te := []) rfl)))

/-- slices.Clone[[]byte,byte] -/
def slices_Clone_byte_byte (a0 : List UInt8) : Option ((List UInt8)) :=
  Option.bind (app ([] : List UInt8) a0) (fun x1 => some x1)
set_option maxRecDepth 100000 in
set_option maxHeartbeats 2000000 in
theorem slices_Clone_byte_byte_c (a0 : List UInt8) {r : (List UInt8)} (hm : slices_Clone_byte_byte a0 = some r) : Ctr Try.prog 61 [.rep 0 a0] (.own 0 none 5 r) [] := by
 refine ctr_of_walk [[10]] 8 Try.func61 rfl rfl rfl rfl (fun w0 om => ?_)
 unfold slices_Clone_byte_byte at hm
 refine CWalk.sub (G' := [.fact 0 (Fact.rep [0] (a0 : List UInt8))]) (sn Sub.nil) ?_
 refine CWalk.seq ?_
 refine CWalk.region ?_
 refine wo (Spec.assign Has.nilv) ?_
 refine Walk.nil ?_
 refine Leaf.thenN ?_
 refine CWalk.seq ?_
 refine CWalk.seq ?_
 refine CWalk.region ?_
 refine mv ?_
 refine wo (Spec.eqlNil Try.underlying46 (Has.s rfl)) ?_
 refine Walk.nil ?_
 refine Leaf.thenN ?_
 refine CWalk.condNil rfl (fun hb => ?_) ?_
 ·have hm : some ([] : List UInt8) = some r := by first | simpa [app, hb] using hm | simpa [hb] using hm
  refine CWalk.seq ?_
  refine CWalk.region ?_
  refine wo (Spec.assign Has.nilv) ?_
  refine Walk.nil ?_
  refine Leaf.thenN ?_
  refine CWalk.ret ?_
  refine Leaf.thenR ?_
  obtain rfl := Option.some.inj hm
  exact Leaf.retC1 rfl (HasR.cv (HasR.tmp (Has.s rfl)) (Cv.trans Cv.nilOw (Cv.owF (T := []) (te := []) rfl)))
 ·skip
  refine CWalk.skip ?_
  refine Leaf.thenN ?_
  refine CWalk.seq ?_
  refine CWalk.region ?_
  refine ws (Step.lit0 (α := UInt8) 10 rfl rfl ow46) ?_
  refine mv ?_
  obtain ⟨x1, hx1, hm⟩ := bind_some hm
  refine ws (Step.append (te' := []) 10 hx1 rfl rfl ow46 (Has.s rfl) rfl (Has.s rfl) ElKeep.flat ElKeep.flat) ?_
  refine wo (Spec.assign (Has.s rfl)) ?_
  refine Walk.nil ?_
  refine Leaf.thenN ?_
  refine CWalk.ret ?_
  obtain rfl := Option.some.inj hm
  exact Leaf.retC1 rfl (HasR.cv (HasR.tmp (Has.s rfl)) (Cv.trans (Cv.isvOw rfl) (Cv.owF (T := [10]) (te := []) rfl)))

def head_Twin_L1 (a0 : Head) (s2 : Int) (s3 : List (List UInt8)) : Option (Ctl (Int × (List (List UInt8))) ((List (List UInt8)))) :=
  (bif (decide (s2 < ((a0.Blocks).length : Int))) then Option.bind (idx a0.Blocks s2) (fun x5 => Option.bind (slices_Clone_byte_byte x5) (fun x6 => Option.bind (app s3 ([x6])) (fun x7 => some (Ctl.next ((wI (s2 + (1 : Int))), x7))))) else some (Ctl.brk s3))
/-- freeboard/head.Twin -/
def head_Twin (a0 : Head) : Option (Head) :=
  Option.bind (slices_Clone_bool_bool a0.Dirty) (fun x1 => Option.bind (loopM (fun s : Int × (List (List UInt8)) => head_Twin_L1 a0 s.1 s.2) FUEL ((0 : Int), ([] : List (List UInt8)))) (fun b8 => some (Head.mk a0.Stripe b8 x1 a0.Phase a0.Deals a0.Seq)))
set_option maxRecDepth 100000 in
set_option maxHeartbeats 2000000 in
theorem head_Twin_c (a0 : Head) {r : Head} (hm : head_Twin a0 = some r) : Ctr Try.prog 60 [.rep 0 a0] (.flds [(false, 1, (.fl r.Stripe)), (false, 1, (.own 0 (some 1) 46 r.Blocks)), (false, 1, (.own 2 none 4 r.Dirty)), (false, 1, (.fl r.Phase)), (false, 1, (.fl r.Deals)), (false, 1, (.fl r.Seq))]) [] := by
 refine ctr_of_walk [[27], [25, 26], [24]] 28 Try.func60 rfl rfl rfl rfl (fun w0 om => ?_)
 unfold head_Twin at hm
 refine CWalk.sub (G' := [.fact 0 (Fact.rep [0] (a0 : Head))]) (sn Sub.nil) ?_
 refine CWalk.seq ?_
 refine CWalk.region ?_
 refine ws (Step.boxObj (ls := [(false, 1, Fact.rep [] (a0.Stripe : Int)), (false, 1, Fact.rep [0] (a0.Blocks : List (List UInt8))), (false, 1, Fact.rep [0] (a0.Dirty : List Bool)), (false, 1, Fact.rep [] (a0.Phase : UInt8)), (false, 1, Fact.rep [] (a0.Deals : Bool)), (false, 1, Fact.rep [] (a0.Seq : UInt32))]) 10 rfl rfl rfl rfl (HasL.flds (Has.cv (Has.s rfl) (Cv.trans (Cv.opens (chHead a0)) (Cv.flds (CvL.cons Cv.fl (CvL.cons Cv.refl (CvL.cons Cv.refl (CvL.cons Cv.fl (CvL.cons Cv.fl (CvL.cons Cv.fl CvL.nil))))))))))) ?_
 refine ws (Step.allocObj (ls := [(false, 1, Fact.rep [] ((0 : Int) : Int)), (false, 1, Fact.nilv), (false, 1, Fact.nilv), (false, 1, Fact.rep [] ((0 : UInt8) : UInt8)), (false, 1, Fact.rep [] (false : Bool)), (false, 1, Fact.rep [] ((0 : UInt32) : UInt32))]) 17 rfl rfl rfl rfl zl28) ?_
 refine Walk.nil ?_
 refine Leaf.thenN ?_
 refine CWalk.seq ?_
 refine CWalk.region ?_
 refine wo (Spec.fieldAddrO fd28_2 (Has.cv (Has.s rfl) (Cv.isvP rfl))) ?_
 refine wo (Spec.loadF (i := 2) ty26 rfl (Has.s rfl) rfl (HasG.s rfl)) ?_
 obtain ⟨x1, hx1, hm⟩ := bind_some hm
 refine wo (f := Fact.ow [24] [] 4 (x1 : List Bool)) (Spec.callE [0] 24 rfl en63 (slices_Clone_bool_bool_c a0.Dirty hx1) (HasAll.cons (Has.m (Has.s rfl) rfl) HasAll.nil)) ?_
 refine wo (Spec.fieldAddrO fd28_2 (Has.cv (Has.s rfl) (Cv.isvP rfl))) ?_
 refine ws (Step.storeF (i := 2) (f := Fact.ow [24] [] 4 (x1 : List Bool)) rfl ty26 rfl (Has.s rfl) rfl (Has.cv (Has.s rfl) (Cv.trans Cv.owSl (Cv.slRep (T' := [24]) rfl rfl))) (Has.s rfl) rfl) ?_
 refine Walk.nil ?_
 refine Leaf.thenN ?_
 refine CWalk.seq ?_
 refine CWalk.region ?_
 refine wo (Spec.fieldAddrO fd28_1 (Has.cv (Has.s rfl) (Cv.isvP rfl))) ?_
 refine wo (Spec.loadF (i := 1) ty25 rfl (Has.s rfl) rfl (HasG.s rfl)) ?_
 refine wo (Spec.assign (Has.s rfl)) ?_
 refine Walk.nil ?_
 refine Leaf.thenN ?_
 refine CWalk.seq ?_
 refine CWalk.region ?_
 refine wo (Spec.fieldAddrO fd28_1 (Has.cv (Has.s rfl) (Cv.isvP rfl))) ?_
 refine ws (Step.storeF (i := 1) (f := Fact.nilv) rfl ty25 rfl (Has.s rfl) rfl (Has.cv Has.nilv (Cv.nil (T := []))) Has.nilv rfl) ?_
 refine Walk.nil ?_
 refine Leaf.thenN ?_
 refine CWalk.seq ?_
 refine CWalk.seq ?_
 refine CWalk.region ?_
 refine mv ?_
 refine wo (Spec.len (Has.s rfl) Try.underlying25) ?_
 refine wo (Spec.move Has.int) ?_
 refine Walk.nil ?_
 refine Leaf.thenN ?_
 refine CWalk.block ?_
 obtain ⟨b8, hb8, hm⟩ := bind_some hm
 refine CWalk.loop (fun s : Int × (List (List UInt8)) => [.fact 1 (Fact.isv 10), .fact 2 (Fact.isv 17), .fact 13 (Fact.rep [0] (a0.Blocks : List (List UInt8))), .fact 14 (Fact.rep [] (((a0.Blocks).length : Int) : Int)), .fact 15 (Fact.rep [] (s.1 : Int)), .fact 100011 (Fact.at 11 (Fact.rep [] (a0.Stripe : Int))), .fact 100012 (Fact.at 12 (Fact.ow [27] [25, 26] 46 (s.2 : List (List UInt8)))), .fact 100013 (Fact.at 13 (Fact.ow [24] [] 4 (x1 : List Bool))), .fact 100014 (Fact.at 14 (Fact.rep [] (a0.Phase : UInt8))), .fact 100015 (Fact.at 15 (Fact.rep [] (a0.Deals : Bool))), .fact 100016 (Fact.at 16 (Fact.rep [] (a0.Seq : UInt32))), .fact 100018 (Fact.at 18 (Fact.rep [] ((0 : Int) : Int))), .fact 100019 (Fact.at 19 (Fact.nilv)), .fact 100020 (Fact.at 20 (Fact.nilv)), .fact 100021 (Fact.at 21 (Fact.rep [] ((0 : UInt8) : UInt8))), .fact 100022 (Fact.at 22 (Fact.rep [] (false : Bool))), .fact 100023 (Fact.at 23 (Fact.rep [] ((0 : UInt32) : UInt32))), .fact 100010 (Fact.obj 10 [(false, 1), (false, 1), (false, 1), (false, 1), (false, 1), (false, 1)]), .fact 100017 (Fact.obj 17 [(false, 1), (false, 1), (false, 1), (false, 1), (false, 1), (false, 1)])]) (fun b : (List (List UInt8)) => (Exit.exit 0, [.fact 1 (Fact.isv 10), .fact 2 (Fact.isv 17), .fact 100011 (Fact.at 11 (Fact.rep [] (a0.Stripe : Int))), .fact 100012 (Fact.at 12 (Fact.ow [27] [25, 26] 46 (b : List (List UInt8)))), .fact 100013 (Fact.at 13 (Fact.ow [24] [] 4 (x1 : List Bool))), .fact 100014 (Fact.at 14 (Fact.rep [] (a0.Phase : UInt8))), .fact 100015 (Fact.at 15 (Fact.rep [] (a0.Deals : Bool))), .fact 100016 (Fact.at 16 (Fact.rep [] (a0.Seq : UInt32))), .fact 100018 (Fact.at 18 (Fact.rep [] ((0 : Int) : Int))), .fact 100019 (Fact.at 19 (Fact.nilv)), .fact 100020 (Fact.at 20 (Fact.nilv)), .fact 100021 (Fact.at 21 (Fact.rep [] ((0 : UInt8) : UInt8))), .fact 100022 (Fact.at 22 (Fact.rep [] (false : Bool))), .fact 100023 (Fact.at 23 (Fact.rep [] ((0 : UInt32) : UInt32))), .fact 100010 (Fact.obj 10 [(false, 1), (false, 1), (false, 1), (false, 1), (false, 1), (false, 1)]), .fact 100017 (Fact.obj 17 [(false, 1), (false, 1), (false, 1), (false, 1), (false, 1), (false, 1)])])) hb8 (sn (sn (su (st (st (sf (Sub.cons (Has.at (HasG.cv (HasG.s rfl) (Cv.trans Cv.nilOw (Cv.owM (T := []) (te := []) rfl rfl)))) (Sub.cons (Has.at (HasG.cv (HasG.s rfl) (Cv.owF (T := [24]) (te := []) rfl))) (sf (sf (sf (sf (sg (sg (sf (sf (sf (sn (sn Sub.nil))))))))))))))))))) ?_ ?_
 ·rintro ⟨s2, s3⟩ c4 hm
  replace hm : head_Twin_L1 a0 s2 s3 = some c4 := hm
  unfold head_Twin_L1 at hm
  show CWalk _ [.fact 1 (Fact.isv 10), .fact 2 (Fact.isv 17), .fact 13 (Fact.rep [0] (a0.Blocks : List (List UInt8))), .fact 14 (Fact.rep [] (((a0.Blocks).length : Int) : Int)), .fact 15 (Fact.rep [] (s2 : Int)), .fact 100011 (Fact.at 11 (Fact.rep [] (a0.Stripe : Int))), .fact 100012 (Fact.at 12 (Fact.ow [27] [25, 26] 46 (s3 : List (List UInt8)))), .fact 100013 (Fact.at 13 (Fact.ow [24] [] 4 (x1 : List Bool))), .fact 100014 (Fact.at 14 (Fact.rep [] (a0.Phase : UInt8))), .fact 100015 (Fact.at 15 (Fact.rep [] (a0.Deals : Bool))), .fact 100016 (Fact.at 16 (Fact.rep [] (a0.Seq : UInt32))), .fact 100018 (Fact.at 18 (Fact.rep [] ((0 : Int) : Int))), .fact 100019 (Fact.at 19 (Fact.nilv)), .fact 100020 (Fact.at 20 (Fact.nilv)), .fact 100021 (Fact.at 21 (Fact.rep [] ((0 : UInt8) : UInt8))), .fact 100022 (Fact.at 22 (Fact.rep [] (false : Bool))), .fact 100023 (Fact.at 23 (Fact.rep [] ((0 : UInt32) : UInt32))), .fact 100010 (Fact.obj 10 [(false, 1), (false, 1), (false, 1), (false, 1), (false, 1), (false, 1)]), .fact 100017 (Fact.obj 17 [(false, 1), (false, 1), (false, 1), (false, 1), (false, 1), (false, 1)])] _ _
  refine CWalk.seq ?_
  refine CWalk.region ?_
  refine wo (Spec.lssI (Has.s rfl) (Has.s rfl)) ?_
  refine Walk.nil ?_
  refine Leaf.thenN ?_
  refine CWalk.seq ?_
  refine CWalk.cond rfl (fun hb => ?_) (fun hb => ?_)
  ·have hm := cond_t hb hm
   refine CWalk.skip ?_
   refine Leaf.thenN ?_
   refine CWalk.seq ?_
   refine CWalk.block ?_
   refine CWalk.seq ?_
   refine CWalk.region ?_
   obtain ⟨x5, hx5, hm⟩ := bind_some hm
   refine wo (Spec.indexAddr hx5 sl25 (Has.s rfl) (Has.s rfl)) ?_
   refine wo (Spec.load ty46 (Has.s rfl)) ?_
   refine wo (Spec.assign (Has.s rfl)) ?_
   refine Walk.nil ?_
   refine Leaf.thenN ?_
   obtain ⟨x6, hx6, hm⟩ := bind_some hm
   obtain ⟨x7, hx7, hm⟩ := bind_some hm
   refine CWalk.drawM [[], [0], [], [2], [2, 3], [0, 1, 2, 3, 4], [0, 1, 2, 3, 4, 5], [0, 1, 2, 3, 4, 5, 6]] [[.fact 19 (Fact.pto 10 1)], [.fact 20 (Fact.ow [27] [25, 26] 46 (s3 : List (List UInt8)))], [.fact 21 (Fact.rep [0] (x5 : List UInt8))], [.fact 22 (Fact.ow [25] [] 5 (x6 : List UInt8))], [.fact 23 (Fact.rep [26, 25] ([x6] : List (List UInt8)))], [.fact 24 (Fact.ow [27] [25, 26] 46 (x7 : List (List UInt8))), .kill 27], [.fact 25 (Fact.pto 10 1)], [.fact 100012 (Fact.at 12 (Fact.ow [27] [25, 26] 46 (x7 : List (List UInt8)))), .fact 100010 (Fact.obj 10 [(false, 1), (false, 1), (false, 1), (false, 1), (false, 1), (false, 1)]), .kill 10, .killId 12]] mixed (by kernel_rfl) (ao (so (Spec.fieldAddrO fd28_1 (Has.cv (Has.s rfl) (Cv.isvP rfl)))) (ao (so (Spec.loadF (i := 1) ty25 rfl (Has.s rfl) rfl (HasG.s rfl))) (ao (so (Spec.move (Has.s rfl))) (ao (so (Spec.callE [0] 25 rfl en61 (slices_Clone_byte_byte_c x5 hx6) (HasAll.cons (Has.m (Has.s rfl) rfl) HasAll.nil))) (ao (so (Spec.lit (xs := [.tmp 22]) (T := [25]) 26 rfl ow25 rfl rfl rfl rfl (HasEach.cons (Has.m (Has.cv (Has.s rfl) (Cv.trans Cv.owSl (Cv.slRep (T' := [25]) rfl rfl))) rfl) HasEach.nil))) (ao (StepG.stE (Step.appendOw (T := [27]) (te' := [25, 26]) hx7 rfl rfl rfl ow25 (Has.s rfl) (Has.s rfl) (ElKeeps.tags rfl rfl) (ElKeeps.tags rfl rfl))) (ao (so (Spec.fieldAddrO fd28_1 (Has.cv (Has.s rfl) (Cv.isvP rfl)))) (ao (StepG.stE (Step.storeF (i := 1) (f := Fact.ow [27] [25, 26] 46 (x7 : List (List UInt8))) rfl ty25 rfl (Has.s rfl) rfl (Has.cv (Has.s rfl) (Cv.trans Cv.owSl (Cv.slRep (T' := [25, 26, 27]) rfl rfl))) (Has.s rfl) rfl)) AllM.nil)))))))) ?_
   refine Leaf.blockN ?_
   refine Leaf.thenN ?_
   refine CWalk.region ?_
   refine wo (Spec.addI (Has.s rfl) Has.int) ?_
   refine mv ?_
   refine Walk.nil ?_
   exact Leaf.next hm (sn (sn (su (st (st (sf (Sub.cons (Has.at (HasG.cv (HasG.s rfl) (Cv.owM (T := [27]) (te := [25, 26]) rfl rfl))) (Sub.cons (Has.at (HasG.cv (HasG.s rfl) (Cv.owF (T := [24]) (te := []) rfl))) (sf (sf (sf (sf (sg (sg (sf (sf (sf (sn (sn Sub.nil)))))))))))))))))))
  ·have hm := cond_f hb hm
   refine CWalk.exit ?_
   refine Leaf.thenE ?_
   exact Leaf.brk hm (fun h => nomatch h) rfl (sn (sn (sf (Sub.cons (Has.at (HasG.cv (HasG.s rfl) (Cv.owM (T := [27]) (te := [25, 26]) rfl rfl))) (Sub.cons (Has.at (HasG.cv (HasG.s rfl) (Cv.owF (T := [24]) (te := []) rfl))) (sf (sf (sf (sf (sg (sg (sf (sf (sf (sn (sn Sub.nil))))))))))))))))
 ·intro _
  refine Leaf.blockE ?_
  refine Leaf.thenN ?_
  refine CWalk.seq ?_
  refine CWalk.region ?_
  refine wo (Spec.loadObj (ls := [(false, 1, Fact.rep [] (a0.Stripe : Int)), (false, 1, Fact.ow [27] [25, 26] 46 (b8 : List (List UInt8))), (false, 1, Fact.ow [24] [] 4 (x1 : List Bool)), (false, 1, Fact.rep [] (a0.Phase : UInt8)), (false, 1, Fact.rep [] (a0.Deals : Bool)), (false, 1, Fact.rep [] (a0.Seq : UInt32))]) ty28 rfl rfl (Has.s rfl) rfl (HasGs.cons (HasG.s rfl) (HasGs.cons (HasG.s rfl) (HasGs.cons (HasG.s rfl) (HasGs.cons (HasG.s rfl) (HasGs.cons (HasG.s rfl) (HasGs.cons (HasG.s rfl) HasGs.nil))))))) ?_
  refine ws (Step.storeObj (ls := [(false, 1, Fact.rep [] (a0.Stripe : Int)), (false, 1, Fact.ow [27] [25, 26] 46 (b8 : List (List UInt8))), (false, 1, Fact.ow [24] [] 4 (x1 : List Bool)), (false, 1, Fact.rep [] (a0.Phase : UInt8)), (false, 1, Fact.rep [] (a0.Deals : Bool)), (false, 1, Fact.rep [] (a0.Seq : UInt32))]) rfl ty28 rfl rfl (Has.s rfl) rfl (HasL.flds (Has.s rfl)) rfl) ?_
  refine Walk.nil ?_
  refine Leaf.thenN ?_
  refine CWalk.ret ?_
  obtain rfl := Option.some.inj hm
  exact Leaf.retC1 rfl (HasR.cv (HasR.obj (ls := [(false, 1, Fact.rep [] (a0.Stripe : Int)), (false, 1, Fact.ow [27] [25, 26] 46 (b8 : List (List UInt8))), (false, 1, Fact.ow [24] [] 4 (x1 : List Bool)), (false, 1, Fact.rep [] (a0.Phase : UInt8)), (false, 1, Fact.rep [] (a0.Deals : Bool)), (false, 1, Fact.rep [] (a0.Seq : UInt32))]) ty28 rfl rfl (Has.s rfl) rfl (HasGs.cons (HasG.s rfl) (HasGs.cons (HasG.s rfl) (HasGs.cons (HasG.s rfl) (HasGs.cons (HasG.s rfl) (HasGs.cons (HasG.s rfl) (HasGs.cons (HasG.s rfl) HasGs.nil))))))) (Cv.flds (CvL.cons Cv.fl (CvL.cons (Cv.owM (T := [27]) (te := [25, 26]) rfl rfl) (CvL.cons (Cv.owF (T := [24]) (te := []) rfl) (CvL.cons Cv.fl (CvL.cons Cv.fl (CvL.cons Cv.fl CvL.nil))))))))

/-- freeboard/head.block -/
def head_block (a0 : List UInt8) : Option ((List UInt8)) :=
  (bif (((a0).length : Int) == (0 : Int)) then Option.bind (makeL (0 : UInt8) (128 : Int)) (fun x1 => some x1) else Option.bind (slices_Clone_byte_byte a0) (fun x2 => some x2))
set_option maxRecDepth 100000 in
set_option maxHeartbeats 2000000 in
theorem head_block_c (a0 : List UInt8) {r : (List UInt8)} (hm : head_block a0 = some r) : Ctr Try.prog 47 [.rep 0 a0] (.own 0 none 5 r) [] := by
 refine ctr_of_walk [[10, 11]] 9 Try.func47 rfl rfl rfl rfl (fun w0 om => ?_)
 unfold head_block at hm
 refine CWalk.sub (G' := [.fact 0 (Fact.rep [0] (a0 : List UInt8))]) (sn Sub.nil) ?_
 refine CWalk.seq ?_
 refine CWalk.region ?_
 refine wo (Spec.assign Has.nilv) ?_
 refine Walk.nil ?_
 refine Leaf.thenN ?_
 refine CWalk.seq ?_
 refine CWalk.seq ?_
 refine CWalk.region ?_
 refine mv ?_
 refine wo (Spec.len (Has.s rfl) Try.underlying46) ?_
 refine wo (Spec.eqlI (Has.s rfl) Has.int) ?_
 refine Walk.nil ?_
 refine Leaf.thenN ?_
 refine CWalk.cond rfl (fun hb => ?_) (fun hb => ?_)
 ·have hm := cond_t hb hm
  refine CWalk.seq ?_
  refine CWalk.region ?_
  obtain ⟨x1, hx1, hm⟩ := bind_some hm
  refine ws (Step.makeOwn 10 hx1 rfl rfl ow46 zt5 Has.int) ?_
  refine wo (Spec.assign (Has.s rfl)) ?_
  refine Walk.nil ?_
  refine Leaf.thenN ?_
  refine CWalk.ret ?_
  refine Leaf.thenR ?_
  obtain rfl := Option.some.inj hm
  exact Leaf.retC1 rfl (HasR.cv (HasR.tmp (Has.s rfl)) (Cv.trans (Cv.isvOw rfl) (Cv.owF (T := [10]) (te := []) rfl)))
 ·have hm := cond_f hb hm
  refine CWalk.skip ?_
  refine Leaf.thenN ?_
  refine CWalk.seq ?_
  refine CWalk.region ?_
  refine mv ?_
  obtain ⟨x2, hx2, hm⟩ := bind_some hm
  refine wo (f := Fact.ow [11] [] 5 (x2 : List UInt8)) (Spec.callE [0] 11 rfl en61 (slices_Clone_byte_byte_c a0 hx2) (HasAll.cons (Has.m (Has.s rfl) rfl) HasAll.nil)) ?_
  refine wo (Spec.assign (Has.s rfl)) ?_
  refine Walk.nil ?_
  refine Leaf.thenN ?_
  refine CWalk.ret ?_
  obtain rfl := Option.some.inj hm
  exact Leaf.retC1 rfl (HasR.cv (HasR.tmp (Has.s rfl)) (Cv.owF (T := [11]) (te := []) rfl))

def head_Know_J1 (j1 : Int) (j2 : List (List UInt8)) (j3 : List Bool) (j4 : UInt8) (j5 : Bool) (j6 : UInt32) (j7 : Int) : Option (Head × Int) :=
  some ((Head.mk j1 j2 j3 j4 j5 j6), j7)
def head_Know_J2 (j11 : Int) (j12 : List (List UInt8)) (j13 : List Bool) (j14 : UInt8) (j15 : Bool) (j16 : UInt32) : Option (Head × Int) :=
  (head_Know_J1 j11 j12 j13 j14 j15 j16 (0 : Int))
def head_Know_J3 (x10 : Head) (j17 : List (List UInt8)) : Option (Head × Int) :=
  (bif ((0 : Int) == (0 : Int)) then (head_Know_J2 x10.Stripe j17 x10.Dirty x10.Phase x10.Deals x10.Seq) else (head_Know_J2 (0 : Int) ([] : List (List UInt8)) ([] : List Bool) (0 : UInt8) false (0 : UInt32)))
def head_Know_J4 (x10 : Head) (j18 : List (List UInt8)) : Option (Head × Int) :=
  (head_Know_J3 x10 j18)
/-- freeboard/head.Know -/
def head_Know (a0 : Config) (a1 : Head) (a2 : Int) (a3 : List UInt8) : Option (Head × Int) :=
  Option.bind (head_Check a0 a1) (fun x8 => (bif (x8 != (0 : Int)) then (head_Know_J1 (0 : Int) ([] : List (List UInt8)) ([] : List Bool) (0 : UInt8) false (0 : UInt32) x8) else (bif ((decide (a2 < (0 : Int))) || (decide (a2 ≥ (wI (a0.Members - (1 : Int)))))) then (head_Know_J1 (0 : Int) ([] : List (List UInt8)) ([] : List Bool) (0 : UInt8) false (0 : UInt32) (2 : Int)) else Option.bind (head_odd a3) (fun x9 => (bif x9 then (head_Know_J1 (0 : Int) ([] : List (List UInt8)) ([] : List Bool) (0 : UInt8) false (0 : UInt32) (3 : Int)) else Option.bind (head_Twin a1) (fun x10 => Option.bind (idx x10.Blocks a2) (fun x19 => (bif (((x19).length : Int) == (0 : Int)) then Option.bind (head_block a3) (fun x20 => Option.bind (bnd (x10.Blocks).length a2) (fun x21 => (head_Know_J4 x10 ((x10.Blocks).set x21 x20)))) else (head_Know_J4 x10 x10.Blocks)))))))))
set_option maxRecDepth 100000 in
set_option maxHeartbeats 2000000 in
theorem head_Know_c (a0 : Config) (a1 : Head) (a2 : Int) (a3 : List UInt8) {r : Head × Int} (hm : head_Know a0 a1 a2 a3 = some r) : Ctr Try.prog 29 [.rep 0 a0, .rep 0 a1, .rep 0 a2, .rep 0 a3] (.tup2 (.flds [(false, 1, (.fl r.1.Stripe)), (false, 1, (.own 0 (some 1) 46 r.1.Blocks)), (false, 1, (.own 2 none 4 r.1.Dirty)), (false, 1, (.fl r.1.Phase)), (false, 1, (.fl r.1.Deals)), (false, 1, (.fl r.1.Seq))]) (.fl r.2)) [] := by
 refine ctr_of_walk [[58, 68], [59, 69], [60]] 18 Try.func29 rfl rfl rfl rfl (fun w0 om => ?_)
 unfold head_Know at hm
 refine CWalk.sub (G' := [.fact 0 (Fact.rep [] (a0 : Config)), .fact 1 (Fact.rep [0] (a1 : Head)), .fact 2 (Fact.rep [] (a2 : Int)), .fact 3 (Fact.rep [0] (a3 : List UInt8))]) (Sub.cons (Has.fl (Has.s rfl)) (sn (Sub.cons (Has.fl (Has.s rfl)) (sn Sub.nil)))) ?_
 refine CWalk.seq ?_
 refine CWalk.region ?_
 refine ws (Step.boxObj (ls := [(false, 1, Fact.rep [] (a0.Id : UInt32)), (false, 1, Fact.rep [] (a0.Members : Int)), (false, 1, Fact.rep [] (a0.Chunk : Int)), (false, 1, Fact.rep [] (a0.Rows : Int)), (false, 1, Fact.rep [] (a0.Log : Int)), (false, 1, Fact.rep [] (a0.Heads : Int))]) 10 rfl rfl rfl rfl (HasL.flds (Has.cv (Has.s rfl) (Cv.trans (Cv.opens (chConfig a0)) (Cv.flds (CvL.cons Cv.fl (CvL.cons Cv.fl (CvL.cons Cv.fl (CvL.cons Cv.fl (CvL.cons Cv.fl (CvL.cons Cv.fl CvL.nil))))))))))) ?_
 refine ws (Step.boxObj (ls := [(false, 1, Fact.rep [] (a1.Stripe : Int)), (false, 1, Fact.rep [0] (a1.Blocks : List (List UInt8))), (false, 1, Fact.rep [0] (a1.Dirty : List Bool)), (false, 1, Fact.rep [] (a1.Phase : UInt8)), (false, 1, Fact.rep [] (a1.Deals : Bool)), (false, 1, Fact.rep [] (a1.Seq : UInt32))]) 17 rfl rfl rfl rfl (HasL.flds (Has.cv (Has.s rfl) (Cv.trans (Cv.opens (chHead a1)) (Cv.flds (CvL.cons Cv.fl (CvL.cons Cv.refl (CvL.cons Cv.refl (CvL.cons Cv.fl (CvL.cons Cv.fl (CvL.cons Cv.fl CvL.nil))))))))))) ?_
 refine ws (Step.boxObj (ls := [(false, 1, Fact.rep [] (a2 : Int))]) 24 rfl rfl rfl rfl (HasL.one (Has.s rfl) rfl (Has.s rfl))) ?_
 refine ws (Step.boxObj (ls := [(false, 1, Fact.rep [0] (a3 : List UInt8))]) 26 rfl rfl rfl rfl (HasL.one (Has.s rfl) rfl (Has.s rfl))) ?_
 refine ws (Step.allocObj (ls := [(false, 1, Fact.rep [] ((0 : Int) : Int)), (false, 1, Fact.nilv), (false, 1, Fact.nilv), (false, 1, Fact.rep [] ((0 : UInt8) : UInt8)), (false, 1, Fact.rep [] (false : Bool)), (false, 1, Fact.rep [] ((0 : UInt32) : UInt32))]) 28 rfl rfl rfl rfl zl28) ?_
 refine wo (Spec.assign Has.int) ?_
 refine Walk.nil ?_
 refine Leaf.thenN ?_
 refine CWalk.seq ?_
 refine CWalk.region ?_
 refine wo (Spec.loadObj (ls := [(false, 1, Fact.rep [] (a0.Id : UInt32)), (false, 1, Fact.rep [] (a0.Members : Int)), (false, 1, Fact.rep [] (a0.Chunk : Int)), (false, 1, Fact.rep [] (a0.Rows : Int)), (false, 1, Fact.rep [] (a0.Log : Int)), (false, 1, Fact.rep [] (a0.Heads : Int))]) ty24 rfl rfl (Has.s rfl) rfl (HasGs.cons (HasG.s rfl) (HasGs.cons (HasG.s rfl) (HasGs.cons (HasG.s rfl) (HasGs.cons (HasG.s rfl) (HasGs.cons (HasG.s rfl) (HasGs.cons (HasG.s rfl) HasGs.nil))))))) ?_
 refine wo (Spec.loadObj (ls := [(false, 1, Fact.rep [] (a1.Stripe : Int)), (false, 1, Fact.rep [0] (a1.Blocks : List (List UInt8))), (false, 1, Fact.rep [0] (a1.Dirty : List Bool)), (false, 1, Fact.rep [] (a1.Phase : UInt8)), (false, 1, Fact.rep [] (a1.Deals : Bool)), (false, 1, Fact.rep [] (a1.Seq : UInt32))]) ty28 rfl rfl (Has.s rfl) rfl (HasGs.cons (HasG.s rfl) (HasGs.cons (HasG.s rfl) (HasGs.cons (HasG.s rfl) (HasGs.cons (HasG.s rfl) (HasGs.cons (HasG.s rfl) (HasGs.cons (HasG.s rfl) HasGs.nil))))))) ?_
 refine wo (Spec.loadF (i := 0) ty3 rfl (Has.cv (Has.s rfl) (Cv.isvP rfl)) rfl (HasG.s rfl)) ?_
 refine wo (Spec.loadF (i := 0) ty46 rfl (Has.cv (Has.s rfl) (Cv.isvP rfl)) rfl (HasG.s rfl)) ?_
 refine wo (Spec.makeFunc (xs := []) (ys := [.tmp 6, .tmp 7]) rfl rfl HasF.nil (HasF.cons (Has.s rfl) (HasF.cons (Has.s rfl) HasF.nil)) (fun _ _ _ => rfl)) ?_
 refine Walk.inline (S := Int × (List (List UInt8)) × (List Bool) × UInt8 × Bool × UInt32 × Int) (fun p : Int × (List (List UInt8)) × (List Bool) × UInt8 × Bool × UInt32 × Int => [.fact 8 (Fact.isv 28), .fact 15 (Fact.tup2 (Fact.flds [(false, 1, Fact.rep [] (p.1 : Int)), (false, 1, Fact.ow [58, 68] [59, 69] 46 (p.2.1 : List (List UInt8))), (false, 1, Fact.ow [60] [] 4 (p.2.2.1 : List Bool)), (false, 1, Fact.rep [] (p.2.2.2.1 : UInt8)), (false, 1, Fact.rep [] (p.2.2.2.2.1 : Bool)), (false, 1, Fact.rep [] (p.2.2.2.2.2.1 : UInt32))]) (Fact.rep [] (p.2.2.2.2.2.2 : Int))), .fact 100029 (Fact.at 29 (Fact.rep [] ((0 : Int) : Int))), .fact 100030 (Fact.at 30 (Fact.nilv)), .fact 100031 (Fact.at 31 (Fact.nilv)), .fact 100032 (Fact.at 32 (Fact.rep [] ((0 : UInt8) : UInt8))), .fact 100033 (Fact.at 33 (Fact.rep [] (false : Bool))), .fact 100034 (Fact.at 34 (Fact.rep [] ((0 : UInt32) : UInt32))), .fact 100028 (Fact.obj 28 [(false, 1), (false, 1), (false, 1), (false, 1), (false, 1), (false, 1)])]) (fun p : Int × (List (List UInt8)) × (List Bool) × UInt8 × Bool × UInt32 × Int => head_Know_J1 p.1 p.2.1 p.2.2.1 p.2.2.2.1 p.2.2.2.2.1 p.2.2.2.2.2.1 p.2.2.2.2.2.2 = some r) (fun u1 => [.fact 100025 (Fact.at 25 (Fact.rep [] (a2 : Int))), .fact 100027 (Fact.at 27 (Fact.rep [0] (a3 : List UInt8))), .fact 100029 (Fact.at 29 (Fact.rep [] ((0 : Int) : Int))), .fact 100030 (Fact.at 30 (Fact.nilv)), .fact 100031 (Fact.at 31 (Fact.nilv)), .fact 100032 (Fact.at 32 (Fact.rep [] ((0 : UInt8) : UInt8))), .fact 100033 (Fact.at 33 (Fact.rep [] (false : Bool))), .fact 100034 (Fact.at 34 (Fact.rep [] ((0 : UInt32) : UInt32))), .fact 902008 (Fact.cst (u1 8) (Fact.isv 28)), .fact 100024 (Fact.obj 24 [(false, 1)]), .fact 100026 (Fact.obj 26 [(false, 1)]), .fact 100028 (Fact.obj 28 [(false, 1), (false, 1), (false, 1), (false, 1), (false, 1), (false, 1)])]) (FA := [Fact.flds [(false, 1, Fact.rep [] (a0.Id : UInt32)), (false, 1, Fact.rep [] (a0.Members : Int)), (false, 1, Fact.rep [] (a0.Chunk : Int)), (false, 1, Fact.rep [] (a0.Rows : Int)), (false, 1, Fact.rep [] (a0.Log : Int)), (false, 1, Fact.rep [] (a0.Heads : Int))], Fact.flds [(false, 1, Fact.rep [] (a1.Stripe : Int)), (false, 1, Fact.rep [0] (a1.Blocks : List (List UInt8))), (false, 1, Fact.rep [0] (a1.Dirty : List Bool)), (false, 1, Fact.rep [] (a1.Phase : UInt8)), (false, 1, Fact.rep [] (a1.Deals : Bool)), (false, 1, Fact.rep [] (a1.Seq : UInt32))], Fact.rep [] (a2 : Int), Fact.rep [0] (a3 : List UInt8), Fact.fnv 46 [] [Fact.isv 24, Fact.isv 26]]) rfl Try.func45 rfl rfl rfl (CallOk.fn en45 (HasF.cons (Has.s rfl) (HasF.cons (Has.s rfl) (HasF.cons (Has.s rfl) (HasF.cons (Has.s rfl) (HasF.cons (Has.s rfl) HasF.nil)))))) (fun u1 => (ck (ck (ck (ck (ck (ck (ck (ck (cs 902000 8 (ck (ck (ck Carry.nil))))))))))))) (fun u1 => ?_) ?_
 ·refine CWalk.seq ?_
  refine CWalk.region ?_
  refine ws (Step.boxObj (ls := [(false, 1, Fact.rep [] (a0.Id : UInt32)), (false, 1, Fact.rep [] (a0.Members : Int)), (false, 1, Fact.rep [] (a0.Chunk : Int)), (false, 1, Fact.rep [] (a0.Rows : Int)), (false, 1, Fact.rep [] (a0.Log : Int)), (false, 1, Fact.rep [] (a0.Heads : Int))]) 35 rfl rfl rfl rfl (HasL.flds (Has.s rfl))) ?_
  refine ws (Step.boxObj (ls := [(false, 1, Fact.rep [] (a1.Stripe : Int)), (false, 1, Fact.rep [0] (a1.Blocks : List (List UInt8))), (false, 1, Fact.rep [0] (a1.Dirty : List Bool)), (false, 1, Fact.rep [] (a1.Phase : UInt8)), (false, 1, Fact.rep [] (a1.Deals : Bool)), (false, 1, Fact.rep [] (a1.Seq : UInt32))]) 42 rfl rfl rfl rfl (HasL.flds (Has.s rfl))) ?_
  refine ws (Step.allocObj (ls := [(false, 1, Fact.rep [] ((0 : Int) : Int)), (false, 1, Fact.nilv), (false, 1, Fact.nilv), (false, 1, Fact.rep [] ((0 : UInt8) : UInt8)), (false, 1, Fact.rep [] (false : Bool)), (false, 1, Fact.rep [] ((0 : UInt32) : UInt32))]) 49 rfl rfl rfl rfl zl28) ?_
  refine wo (Spec.assign Has.int) ?_
  refine Walk.nil ?_
  refine Leaf.thenN ?_
  refine CWalk.seq ?_
  refine CWalk.seq ?_
  refine CWalk.region ?_
  refine wo (Spec.loadObj (ls := [(false, 1, Fact.rep [] (a0.Id : UInt32)), (false, 1, Fact.rep [] (a0.Members : Int)), (false, 1, Fact.rep [] (a0.Chunk : Int)), (false, 1, Fact.rep [] (a0.Rows : Int)), (false, 1, Fact.rep [] (a0.Log : Int)), (false, 1, Fact.rep [] (a0.Heads : Int))]) ty24 rfl rfl (Has.s rfl) rfl (HasGs.cons (HasG.s rfl) (HasGs.cons (HasG.s rfl) (HasGs.cons (HasG.s rfl) (HasGs.cons (HasG.s rfl) (HasGs.cons (HasG.s rfl) (HasGs.cons (HasG.s rfl) HasGs.nil))))))) ?_
  refine wo (Spec.loadObj (ls := [(false, 1, Fact.rep [] (a1.Stripe : Int)), (false, 1, Fact.rep [0] (a1.Blocks : List (List UInt8))), (false, 1, Fact.rep [0] (a1.Dirty : List Bool)), (false, 1, Fact.rep [] (a1.Phase : UInt8)), (false, 1, Fact.rep [] (a1.Deals : Bool)), (false, 1, Fact.rep [] (a1.Seq : UInt32))]) ty28 rfl rfl (Has.s rfl) rfl (HasGs.cons (HasG.s rfl) (HasGs.cons (HasG.s rfl) (HasGs.cons (HasG.s rfl) (HasGs.cons (HasG.s rfl) (HasGs.cons (HasG.s rfl) (HasGs.cons (HasG.s rfl) HasGs.nil))))))) ?_
  obtain ⟨x8, hx8, hm⟩ := bind_some hm
  refine wo (f := Fact.rep [] (x8 : Int)) (Spec.callE [0] 56 rfl en17 (head_Check_c a0 a1 hx8) (HasAll.cons (Has.fl (Has.cv (Has.s rfl) (Cv.trans (Cv.flds (CvL.cons Cv.fl (CvL.cons Cv.fl (CvL.cons Cv.fl (CvL.cons Cv.fl (CvL.cons Cv.fl (CvL.cons Cv.fl CvL.nil))))))) (Cv.close (T := []) (chConfig a0))))) (HasAll.cons (Has.m (Has.cv (Has.s rfl) (Cv.trans (Cv.flds (CvL.cons Cv.fl (CvL.cons (Cv.m rfl) (CvL.cons (Cv.m rfl) (CvL.cons Cv.fl (CvL.cons Cv.fl (CvL.cons Cv.fl CvL.nil))))))) (Cv.close (T := [0]) (chHead a1)))) rfl) HasAll.nil))) ?_
  refine wo (Spec.assign (Has.s rfl)) ?_
  refine Walk.nil ?_
  refine Leaf.thenN ?_
  refine CWalk.seq ?_
  refine CWalk.region ?_
  refine mv ?_
  refine wo (Spec.neqI (Has.s rfl) Has.int) ?_
  refine Walk.nil ?_
  refine Leaf.thenN ?_
  refine CWalk.cond rfl (fun hb => ?_) (fun hb => ?_)
  ·have hm := cond_t hb hm
   refine CWalk.ret ?_
   refine Leaf.thenR ?_
   exact Leaf.in2 ((0 : Int), ([] : List (List UInt8)), ([] : List Bool), (0 : UInt8), false, (0 : UInt32), x8) hm rfl rfl (HasR.cv (HasR.obj (ls := [(false, 1, Fact.rep [] ((0 : Int) : Int)), (false, 1, Fact.nilv), (false, 1, Fact.nilv), (false, 1, Fact.rep [] ((0 : UInt8) : UInt8)), (false, 1, Fact.rep [] (false : Bool)), (false, 1, Fact.rep [] ((0 : UInt32) : UInt32))]) ty28 rfl rfl (Has.s rfl) rfl (HasGs.cons (HasG.s rfl) (HasGs.cons (HasG.s rfl) (HasGs.cons (HasG.s rfl) (HasGs.cons (HasG.s rfl) (HasGs.cons (HasG.s rfl) (HasGs.cons (HasG.s rfl) HasGs.nil))))))) (Cv.flds (CvL.cons Cv.fl (CvL.cons (Cv.trans Cv.nilOw (Cv.owM (T := []) (te := []) rfl rfl)) (CvL.cons (Cv.trans Cv.nilOw (Cv.owF (T := []) (te := []) rfl)) (CvL.cons Cv.fl (CvL.cons Cv.fl (CvL.cons Cv.fl CvL.nil)))))))) (HasR.cv (HasR.tmp (Has.s rfl)) Cv.fl) (ls 902008 (Low.res (lf (lg (lg (lf (lf (lf (lo Low.nil)))))))))
  ·have hm := cond_f hb hm
   refine CWalk.skip ?_
   refine Leaf.thenN ?_
   refine CWalk.seq ?_
   refine CWalk.seq ?_
   refine CWalk.region ?_
   refine mv ?_
   refine wo (Spec.lssI (Has.s rfl) Has.int) ?_
   refine mv ?_
   refine wg rfl rfl (fun hb => Spec.move (Has.s rfl)) ?_
   refine wg rfl rfl (fun hb => Spec.fieldAddrO fd24_1 (Has.cv (Has.s rfl) (Cv.isvP rfl))) ?_
   refine wg rfl rfl (fun hb => Spec.loadF (i := 1) ty3 rfl (Has.u rfl hb) rfl (HasG.s rfl)) ?_
   refine wg rfl rfl (fun hb => Spec.subI (Has.u rfl hb) Has.int) ?_
   refine wg rfl rfl (fun hb => Spec.geqI (Has.u rfl hb) (Has.u rfl hb)) ?_
   refine wo (Spec.or (Has.s rfl) (fun h => Has.u rfl h)) ?_
   refine Walk.nil ?_
   refine Leaf.thenN ?_
   refine CWalk.cond rfl (fun hb => ?_) (fun hb => ?_)
   ·have hm := cond_t hb hm
    refine CWalk.seq ?_
    refine CWalk.region ?_
    refine wo (Spec.loadObj (ls := [(false, 1, Fact.rep [] ((0 : Int) : Int)), (false, 1, Fact.nilv), (false, 1, Fact.nilv), (false, 1, Fact.rep [] ((0 : UInt8) : UInt8)), (false, 1, Fact.rep [] (false : Bool)), (false, 1, Fact.rep [] ((0 : UInt32) : UInt32))]) ty28 rfl rfl (Has.s rfl) rfl (HasGs.cons (HasG.s rfl) (HasGs.cons (HasG.s rfl) (HasGs.cons (HasG.s rfl) (HasGs.cons (HasG.s rfl) (HasGs.cons (HasG.s rfl) (HasGs.cons (HasG.s rfl) HasGs.nil))))))) ?_
    refine ws (Step.storeObj (ls := [(false, 1, Fact.rep [] ((0 : Int) : Int)), (false, 1, Fact.nilv), (false, 1, Fact.nilv), (false, 1, Fact.rep [] ((0 : UInt8) : UInt8)), (false, 1, Fact.rep [] (false : Bool)), (false, 1, Fact.rep [] ((0 : UInt32) : UInt32))]) rfl ty28 rfl rfl (Has.s rfl) rfl (HasL.flds (Has.s rfl)) rfl) ?_
    refine wo (Spec.assign Has.int) ?_
    refine Walk.nil ?_
    refine Leaf.thenN ?_
    refine CWalk.ret ?_
    refine Leaf.thenR ?_
    exact Leaf.in2 ((0 : Int), ([] : List (List UInt8)), ([] : List Bool), (0 : UInt8), false, (0 : UInt32), (2 : Int)) hm rfl rfl (HasR.cv (HasR.obj (ls := [(false, 1, Fact.rep [] ((0 : Int) : Int)), (false, 1, Fact.nilv), (false, 1, Fact.nilv), (false, 1, Fact.rep [] ((0 : UInt8) : UInt8)), (false, 1, Fact.rep [] (false : Bool)), (false, 1, Fact.rep [] ((0 : UInt32) : UInt32))]) ty28 rfl rfl (Has.s rfl) rfl (HasGs.cons (HasG.s rfl) (HasGs.cons (HasG.s rfl) (HasGs.cons (HasG.s rfl) (HasGs.cons (HasG.s rfl) (HasGs.cons (HasG.s rfl) (HasGs.cons (HasG.s rfl) HasGs.nil))))))) (Cv.flds (CvL.cons Cv.fl (CvL.cons (Cv.trans Cv.nilOw (Cv.owM (T := []) (te := []) rfl rfl)) (CvL.cons (Cv.trans Cv.nilOw (Cv.owF (T := []) (te := []) rfl)) (CvL.cons Cv.fl (CvL.cons Cv.fl (CvL.cons Cv.fl CvL.nil)))))))) (HasR.cv (HasR.tmp (Has.s rfl)) Cv.fl) (ls 902008 (Low.res (lf (lg (lg (lf (lf (lf (lo Low.nil)))))))))
   ·have hm := cond_f hb hm
    refine CWalk.skip ?_
    refine Leaf.thenN ?_
    refine CWalk.seq ?_
    refine CWalk.seq ?_
    refine CWalk.region ?_
    refine mv ?_
    obtain ⟨x9, hx9, hm⟩ := bind_some hm
    refine wo (f := Fact.rep [] (x9 : Bool)) (Spec.callE [0] 57 rfl en33 (head_odd_c a3 hx9) (HasAll.cons (Has.m (Has.s rfl) rfl) HasAll.nil)) ?_
    refine Walk.nil ?_
    refine Leaf.thenN ?_
    refine CWalk.cond rfl (fun hb => ?_) (fun hb => ?_)
    ·have hm := cond_t hb hm
     refine CWalk.seq ?_
     refine CWalk.region ?_
     refine wo (Spec.loadObj (ls := [(false, 1, Fact.rep [] ((0 : Int) : Int)), (false, 1, Fact.nilv), (false, 1, Fact.nilv), (false, 1, Fact.rep [] ((0 : UInt8) : UInt8)), (false, 1, Fact.rep [] (false : Bool)), (false, 1, Fact.rep [] ((0 : UInt32) : UInt32))]) ty28 rfl rfl (Has.s rfl) rfl (HasGs.cons (HasG.s rfl) (HasGs.cons (HasG.s rfl) (HasGs.cons (HasG.s rfl) (HasGs.cons (HasG.s rfl) (HasGs.cons (HasG.s rfl) (HasGs.cons (HasG.s rfl) HasGs.nil))))))) ?_
     refine ws (Step.storeObj (ls := [(false, 1, Fact.rep [] ((0 : Int) : Int)), (false, 1, Fact.nilv), (false, 1, Fact.nilv), (false, 1, Fact.rep [] ((0 : UInt8) : UInt8)), (false, 1, Fact.rep [] (false : Bool)), (false, 1, Fact.rep [] ((0 : UInt32) : UInt32))]) rfl ty28 rfl rfl (Has.s rfl) rfl (HasL.flds (Has.s rfl)) rfl) ?_
     refine wo (Spec.assign Has.int) ?_
     refine Walk.nil ?_
     refine Leaf.thenN ?_
     refine CWalk.ret ?_
     refine Leaf.thenR ?_
     exact Leaf.in2 ((0 : Int), ([] : List (List UInt8)), ([] : List Bool), (0 : UInt8), false, (0 : UInt32), (3 : Int)) hm rfl rfl (HasR.cv (HasR.obj (ls := [(false, 1, Fact.rep [] ((0 : Int) : Int)), (false, 1, Fact.nilv), (false, 1, Fact.nilv), (false, 1, Fact.rep [] ((0 : UInt8) : UInt8)), (false, 1, Fact.rep [] (false : Bool)), (false, 1, Fact.rep [] ((0 : UInt32) : UInt32))]) ty28 rfl rfl (Has.s rfl) rfl (HasGs.cons (HasG.s rfl) (HasGs.cons (HasG.s rfl) (HasGs.cons (HasG.s rfl) (HasGs.cons (HasG.s rfl) (HasGs.cons (HasG.s rfl) (HasGs.cons (HasG.s rfl) HasGs.nil))))))) (Cv.flds (CvL.cons Cv.fl (CvL.cons (Cv.trans Cv.nilOw (Cv.owM (T := []) (te := []) rfl rfl)) (CvL.cons (Cv.trans Cv.nilOw (Cv.owF (T := []) (te := []) rfl)) (CvL.cons Cv.fl (CvL.cons Cv.fl (CvL.cons Cv.fl CvL.nil)))))))) (HasR.cv (HasR.tmp (Has.s rfl)) Cv.fl) (ls 902008 (Low.res (lf (lg (lg (lf (lf (lf (lo Low.nil)))))))))
    ·have hm := cond_f hb hm
     refine CWalk.skip ?_
     refine Leaf.thenN ?_
     refine CWalk.seq ?_
     refine CWalk.region ?_
     refine wo (Spec.loadObj (ls := [(false, 1, Fact.rep [] (a1.Stripe : Int)), (false, 1, Fact.rep [0] (a1.Blocks : List (List UInt8))), (false, 1, Fact.rep [0] (a1.Dirty : List Bool)), (false, 1, Fact.rep [] (a1.Phase : UInt8)), (false, 1, Fact.rep [] (a1.Deals : Bool)), (false, 1, Fact.rep [] (a1.Seq : UInt32))]) ty28 rfl rfl (Has.s rfl) rfl (HasGs.cons (HasG.s rfl) (HasGs.cons (HasG.s rfl) (HasGs.cons (HasG.s rfl) (HasGs.cons (HasG.s rfl) (HasGs.cons (HasG.s rfl) (HasGs.cons (HasG.s rfl) HasGs.nil))))))) ?_
     obtain ⟨x10, hx10, hm⟩ := bind_some hm
     refine wo (f := Fact.flds [(false, 1, Fact.rep [] (x10.Stripe : Int)), (false, 1, Fact.ow [58] [59] 46 (x10.Blocks : List (List UInt8))), (false, 1, Fact.ow [60] [] 4 (x10.Dirty : List Bool)), (false, 1, Fact.rep [] (x10.Phase : UInt8)), (false, 1, Fact.rep [] (x10.Deals : Bool)), (false, 1, Fact.rep [] (x10.Seq : UInt32))]) (Spec.callE [0] 58 rfl en60 (head_Twin_c a1 hx10) (HasAll.cons (Has.m (Has.cv (Has.s rfl) (Cv.trans (Cv.flds (CvL.cons Cv.fl (CvL.cons (Cv.m rfl) (CvL.cons (Cv.m rfl) (CvL.cons Cv.fl (CvL.cons Cv.fl (CvL.cons Cv.fl CvL.nil))))))) (Cv.close (T := [0]) (chHead a1)))) rfl) HasAll.nil)) ?_
     refine ws (Step.allocObj (ls := [(false, 1, Fact.rep [] ((0 : Int) : Int)), (false, 1, Fact.nilv), (false, 1, Fact.nilv), (false, 1, Fact.rep [] ((0 : UInt8) : UInt8)), (false, 1, Fact.rep [] (false : Bool)), (false, 1, Fact.rep [] ((0 : UInt32) : UInt32))]) 61 rfl rfl rfl rfl zl28) ?_
     refine ws (Step.storeObj (ls := [(false, 1, Fact.rep [] (x10.Stripe : Int)), (false, 1, Fact.ow [58] [59] 46 (x10.Blocks : List (List UInt8))), (false, 1, Fact.ow [60] [] 4 (x10.Dirty : List Bool)), (false, 1, Fact.rep [] (x10.Phase : UInt8)), (false, 1, Fact.rep [] (x10.Deals : Bool)), (false, 1, Fact.rep [] (x10.Seq : UInt32))]) rfl ty28 rfl rfl (Has.s rfl) rfl (HasL.flds (Has.s rfl)) rfl) ?_
     refine Walk.nil ?_
     refine Leaf.thenN ?_
     refine CWalk.seqJ (fun p : Int × (List (List UInt8)) × (List Bool) × UInt8 × Bool × UInt32 => [.fact 10 (Fact.isv 49), .fact 11 (Fact.rep [] ((0 : Int) : Int)), .fact 902008 (Fact.cst (u1 8) (Fact.isv 28)), .fact 100050 (Fact.at 50 (Fact.rep [] (p.1 : Int))), .fact 100051 (Fact.at 51 (Fact.ow [58, 68] [59, 69] 46 (p.2.1 : List (List UInt8)))), .fact 100052 (Fact.at 52 (Fact.ow [60] [] 4 (p.2.2.1 : List Bool))), .fact 100053 (Fact.at 53 (Fact.rep [] (p.2.2.2.1 : UInt8))), .fact 100054 (Fact.at 54 (Fact.rep [] (p.2.2.2.2.1 : Bool))), .fact 100055 (Fact.at 55 (Fact.rep [] (p.2.2.2.2.2 : UInt32))), .fact 100029 (Fact.at 29 (Fact.rep [] ((0 : Int) : Int))), .fact 100030 (Fact.at 30 (Fact.nilv)), .fact 100031 (Fact.at 31 (Fact.nilv)), .fact 100032 (Fact.at 32 (Fact.rep [] ((0 : UInt8) : UInt8))), .fact 100033 (Fact.at 33 (Fact.rep [] (false : Bool))), .fact 100034 (Fact.at 34 (Fact.rep [] ((0 : UInt32) : UInt32))), .fact 100049 (Fact.obj 49 [(false, 1), (false, 1), (false, 1), (false, 1), (false, 1), (false, 1)]), .fact 100028 (Fact.obj 28 [(false, 1), (false, 1), (false, 1), (false, 1), (false, 1), (false, 1)])]) (fun p : Int × (List (List UInt8)) × (List Bool) × UInt8 × Bool × UInt32 => head_Know_J2 p.1 p.2.1 p.2.2.1 p.2.2.2.1 p.2.2.2.2.1 p.2.2.2.2.2 = some r) ?_ ?_
     ·rintro ⟨j11, j12, j13, j14, j15, j16⟩ hm
      replace hm : head_Know_J2 j11 j12 j13 j14 j15 j16 = some r := hm
      unfold head_Know_J2 at hm
      show CWalk _ [.fact 10 (Fact.isv 49), .fact 11 (Fact.rep [] ((0 : Int) : Int)), .fact 902008 (Fact.cst (u1 8) (Fact.isv 28)), .fact 100050 (Fact.at 50 (Fact.rep [] (j11 : Int))), .fact 100051 (Fact.at 51 (Fact.ow [58, 68] [59, 69] 46 (j12 : List (List UInt8)))), .fact 100052 (Fact.at 52 (Fact.ow [60] [] 4 (j13 : List Bool))), .fact 100053 (Fact.at 53 (Fact.rep [] (j14 : UInt8))), .fact 100054 (Fact.at 54 (Fact.rep [] (j15 : Bool))), .fact 100055 (Fact.at 55 (Fact.rep [] (j16 : UInt32))), .fact 100029 (Fact.at 29 (Fact.rep [] ((0 : Int) : Int))), .fact 100030 (Fact.at 30 (Fact.nilv)), .fact 100031 (Fact.at 31 (Fact.nilv)), .fact 100032 (Fact.at 32 (Fact.rep [] ((0 : UInt8) : UInt8))), .fact 100033 (Fact.at 33 (Fact.rep [] (false : Bool))), .fact 100034 (Fact.at 34 (Fact.rep [] ((0 : UInt32) : UInt32))), .fact 100049 (Fact.obj 49 [(false, 1), (false, 1), (false, 1), (false, 1), (false, 1), (false, 1)]), .fact 100028 (Fact.obj 28 [(false, 1), (false, 1), (false, 1), (false, 1), (false, 1), (false, 1)])] _ _
      refine CWalk.ret ?_
      exact Leaf.in2 (j11, j12, j13, j14, j15, j16, (0 : Int)) hm rfl rfl (HasR.cv (HasR.obj (ls := [(false, 1, Fact.rep [] (j11 : Int)), (false, 1, Fact.ow [58, 68] [59, 69] 46 (j12 : List (List UInt8))), (false, 1, Fact.ow [60] [] 4 (j13 : List Bool)), (false, 1, Fact.rep [] (j14 : UInt8)), (false, 1, Fact.rep [] (j15 : Bool)), (false, 1, Fact.rep [] (j16 : UInt32))]) ty28 rfl rfl (Has.s rfl) rfl (HasGs.cons (HasG.s rfl) (HasGs.cons (HasG.s rfl) (HasGs.cons (HasG.s rfl) (HasGs.cons (HasG.s rfl) (HasGs.cons (HasG.s rfl) (HasGs.cons (HasG.s rfl) HasGs.nil))))))) (Cv.flds (CvL.cons Cv.fl (CvL.cons (Cv.owM (T := [58, 68]) (te := [59, 69]) rfl rfl) (CvL.cons (Cv.owF (T := [60]) (te := []) rfl) (CvL.cons Cv.fl (CvL.cons Cv.fl (CvL.cons Cv.fl CvL.nil)))))))) (HasR.cv (HasR.tmp (Has.s rfl)) Cv.fl) (ls 902008 (Low.res (lf (lg (lg (lf (lf (lf (lo Low.nil)))))))))
     ·refine CWalk.seq ?_
      refine CWalk.region ?_
      refine mv ?_
      refine Walk.inline (S := (List (List UInt8))) (fun p : (List (List UInt8)) => [.fact 10 (Fact.isv 49), .fact 12 (Fact.isv 61), .fact 34 (Fact.rep [] ((0 : Int) : Int)), .fact 902008 (Fact.cst (u1 8) (Fact.isv 28)), .fact 100050 (Fact.at 50 (Fact.rep [] ((0 : Int) : Int))), .fact 100051 (Fact.at 51 (Fact.nilv)), .fact 100052 (Fact.at 52 (Fact.nilv)), .fact 100053 (Fact.at 53 (Fact.rep [] ((0 : UInt8) : UInt8))), .fact 100054 (Fact.at 54 (Fact.rep [] (false : Bool))), .fact 100055 (Fact.at 55 (Fact.rep [] ((0 : UInt32) : UInt32))), .fact 100062 (Fact.at 62 (Fact.rep [] (x10.Stripe : Int))), .fact 100063 (Fact.at 63 (Fact.ow [58, 68] [59, 69] 46 (p : List (List UInt8)))), .fact 100064 (Fact.at 64 (Fact.ow [60] [] 4 (x10.Dirty : List Bool))), .fact 100065 (Fact.at 65 (Fact.rep [] (x10.Phase : UInt8))), .fact 100066 (Fact.at 66 (Fact.rep [] (x10.Deals : Bool))), .fact 100067 (Fact.at 67 (Fact.rep [] (x10.Seq : UInt32))), .fact 100029 (Fact.at 29 (Fact.rep [] ((0 : Int) : Int))), .fact 100030 (Fact.at 30 (Fact.nilv)), .fact 100031 (Fact.at 31 (Fact.nilv)), .fact 100032 (Fact.at 32 (Fact.rep [] ((0 : UInt8) : UInt8))), .fact 100033 (Fact.at 33 (Fact.rep [] (false : Bool))), .fact 100034 (Fact.at 34 (Fact.rep [] ((0 : UInt32) : UInt32))), .fact 100049 (Fact.obj 49 [(false, 1), (false, 1), (false, 1), (false, 1), (false, 1), (false, 1)]), .fact 100061 (Fact.obj 61 [(false, 1), (false, 1), (false, 1), (false, 1), (false, 1), (false, 1)]), .fact 100028 (Fact.obj 28 [(false, 1), (false, 1), (false, 1), (false, 1), (false, 1), (false, 1)])]) (fun p : (List (List UInt8)) => head_Know_J3 x10 p = some r) (fun u2 => [.fact 100025 (Fact.at 25 (Fact.rep [] (a2 : Int))), .fact 100027 (Fact.at 27 (Fact.rep [0] (a3 : List UInt8))), .fact 100029 (Fact.at 29 (Fact.rep [] ((0 : Int) : Int))), .fact 100030 (Fact.at 30 (Fact.nilv)), .fact 100031 (Fact.at 31 (Fact.nilv)), .fact 100032 (Fact.at 32 (Fact.rep [] ((0 : UInt8) : UInt8))), .fact 100033 (Fact.at 33 (Fact.rep [] (false : Bool))), .fact 100034 (Fact.at 34 (Fact.rep [] ((0 : UInt32) : UInt32))), .fact 100050 (Fact.at 50 (Fact.rep [] ((0 : Int) : Int))), .fact 100051 (Fact.at 51 (Fact.nilv)), .fact 100052 (Fact.at 52 (Fact.nilv)), .fact 100053 (Fact.at 53 (Fact.rep [] ((0 : UInt8) : UInt8))), .fact 100054 (Fact.at 54 (Fact.rep [] (false : Bool))), .fact 100055 (Fact.at 55 (Fact.rep [] ((0 : UInt32) : UInt32))), .fact 100062 (Fact.at 62 (Fact.rep [] (x10.Stripe : Int))), .fact 100063 (Fact.at 63 (Fact.ow [58] [59] 46 (x10.Blocks : List (List UInt8)))), .fact 100064 (Fact.at 64 (Fact.ow [60] [] 4 (x10.Dirty : List Bool))), .fact 100065 (Fact.at 65 (Fact.rep [] (x10.Phase : UInt8))), .fact 100066 (Fact.at 66 (Fact.rep [] (x10.Deals : Bool))), .fact 100067 (Fact.at 67 (Fact.rep [] (x10.Seq : UInt32))), .fact 902008 (Fact.cst (u1 8) (Fact.isv 28)), .fact 904010 (Fact.cst (u2 10) (Fact.isv 49)), .fact 904012 (Fact.cst (u2 12) (Fact.isv 61)), .fact 100024 (Fact.obj 24 [(false, 1)]), .fact 100026 (Fact.obj 26 [(false, 1)]), .fact 100028 (Fact.obj 28 [(false, 1), (false, 1), (false, 1), (false, 1), (false, 1), (false, 1)]), .fact 100049 (Fact.obj 49 [(false, 1), (false, 1), (false, 1), (false, 1), (false, 1), (false, 1)]), .fact 100061 (Fact.obj 61 [(false, 1), (false, 1), (false, 1), (false, 1), (false, 1), (false, 1)])]) (FA := [Fact.isv 61, Fact.isv 24, Fact.isv 26]) rfl Try.func46 rfl rfl rfl (CallOk.valE en46 (Has.s rfl) (HasF.cons (Has.s rfl) HasF.nil)) (fun u2 => (ck (ck (ck (ck (ck (ck (ck (ck (ck (ck (ck (ck (ck (ck (ck (ck (ck (ck (ck (ck (ck (cs 904000 10 (cs 904000 12 (ck (ck (ck (ck (ck Carry.nil))))))))))))))))))))))))))))) (fun u2 => ?_) ?_
      ·refine CWalk.seq ?_
       refine CWalk.region ?_
       refine wo (Spec.assign Has.int) ?_
       refine Walk.nil ?_
       refine Leaf.thenN ?_
       refine CWalk.seqJ (fun p : (List (List UInt8)) => [.fact 902008 (Fact.cst (u1 8) (Fact.isv 28)), .fact 904010 (Fact.cst (u2 10) (Fact.isv 49)), .fact 904012 (Fact.cst (u2 12) (Fact.isv 61)), .fact 100029 (Fact.at 29 (Fact.rep [] ((0 : Int) : Int))), .fact 100030 (Fact.at 30 (Fact.nilv)), .fact 100031 (Fact.at 31 (Fact.nilv)), .fact 100032 (Fact.at 32 (Fact.rep [] ((0 : UInt8) : UInt8))), .fact 100033 (Fact.at 33 (Fact.rep [] (false : Bool))), .fact 100034 (Fact.at 34 (Fact.rep [] ((0 : UInt32) : UInt32))), .fact 100050 (Fact.at 50 (Fact.rep [] ((0 : Int) : Int))), .fact 100051 (Fact.at 51 (Fact.nilv)), .fact 100052 (Fact.at 52 (Fact.nilv)), .fact 100053 (Fact.at 53 (Fact.rep [] ((0 : UInt8) : UInt8))), .fact 100054 (Fact.at 54 (Fact.rep [] (false : Bool))), .fact 100055 (Fact.at 55 (Fact.rep [] ((0 : UInt32) : UInt32))), .fact 100062 (Fact.at 62 (Fact.rep [] (x10.Stripe : Int))), .fact 100063 (Fact.at 63 (Fact.ow [58, 68] [59, 69] 46 (p : List (List UInt8)))), .fact 100064 (Fact.at 64 (Fact.ow [60] [] 4 (x10.Dirty : List Bool))), .fact 100065 (Fact.at 65 (Fact.rep [] (x10.Phase : UInt8))), .fact 100066 (Fact.at 66 (Fact.rep [] (x10.Deals : Bool))), .fact 100067 (Fact.at 67 (Fact.rep [] (x10.Seq : UInt32))), .fact 100028 (Fact.obj 28 [(false, 1), (false, 1), (false, 1), (false, 1), (false, 1), (false, 1)]), .fact 100049 (Fact.obj 49 [(false, 1), (false, 1), (false, 1), (false, 1), (false, 1), (false, 1)]), .fact 100061 (Fact.obj 61 [(false, 1), (false, 1), (false, 1), (false, 1), (false, 1), (false, 1)])]) (fun p : (List (List UInt8)) => head_Know_J4 x10 p = some r) ?_ ?_
       ·rintro j18 hm
        replace hm : head_Know_J4 x10 j18 = some r := hm
        unfold head_Know_J4 at hm
        show CWalk _ [.fact 902008 (Fact.cst (u1 8) (Fact.isv 28)), .fact 904010 (Fact.cst (u2 10) (Fact.isv 49)), .fact 904012 (Fact.cst (u2 12) (Fact.isv 61)), .fact 100029 (Fact.at 29 (Fact.rep [] ((0 : Int) : Int))), .fact 100030 (Fact.at 30 (Fact.nilv)), .fact 100031 (Fact.at 31 (Fact.nilv)), .fact 100032 (Fact.at 32 (Fact.rep [] ((0 : UInt8) : UInt8))), .fact 100033 (Fact.at 33 (Fact.rep [] (false : Bool))), .fact 100034 (Fact.at 34 (Fact.rep [] ((0 : UInt32) : UInt32))), .fact 100050 (Fact.at 50 (Fact.rep [] ((0 : Int) : Int))), .fact 100051 (Fact.at 51 (Fact.nilv)), .fact 100052 (Fact.at 52 (Fact.nilv)), .fact 100053 (Fact.at 53 (Fact.rep [] ((0 : UInt8) : UInt8))), .fact 100054 (Fact.at 54 (Fact.rep [] (false : Bool))), .fact 100055 (Fact.at 55 (Fact.rep [] ((0 : UInt32) : UInt32))), .fact 100062 (Fact.at 62 (Fact.rep [] (x10.Stripe : Int))), .fact 100063 (Fact.at 63 (Fact.ow [58, 68] [59, 69] 46 (j18 : List (List UInt8)))), .fact 100064 (Fact.at 64 (Fact.ow [60] [] 4 (x10.Dirty : List Bool))), .fact 100065 (Fact.at 65 (Fact.rep [] (x10.Phase : UInt8))), .fact 100066 (Fact.at 66 (Fact.rep [] (x10.Deals : Bool))), .fact 100067 (Fact.at 67 (Fact.rep [] (x10.Seq : UInt32))), .fact 100028 (Fact.obj 28 [(false, 1), (false, 1), (false, 1), (false, 1), (false, 1), (false, 1)]), .fact 100049 (Fact.obj 49 [(false, 1), (false, 1), (false, 1), (false, 1), (false, 1), (false, 1)]), .fact 100061 (Fact.obj 61 [(false, 1), (false, 1), (false, 1), (false, 1), (false, 1), (false, 1)])] _ _
        refine CWalk.seq ?_
        refine CWalk.region ?_
        refine wo (Spec.assign Has.int) ?_
        refine Walk.nil ?_
        refine Leaf.thenN ?_
        refine CWalk.ret ?_
        exact Leaf.in1 j18 hm rfl rfl (HasR.cv (HasR.tmp (Has.s rfl)) Cv.fl) (ls 904010 (ls 904012 (Low.res (lc (lf (lg (lg (lf (lf (lf (lf (Low.keepG (HasG.cv (HasG.s rfl) (Cv.owM (T := [58, 68]) (te := [59, 69]) rfl rfl)) (Low.keepG (HasG.cv (HasG.s rfl) (Cv.owF (T := [60]) (te := []) rfl)) (lf (lf (lf (lf (lg (lg (lf (lf (lf (lo (lo (lo Low.nil)))))))))))))))))))))))))
       ·refine CWalk.seq ?_
        obtain ⟨x19, hx19, hm⟩ := bind_some hm
        refine CWalk.drawM [[], [0], [0, 1], [0, 1, 2], [], [0, 1, 2, 3, 4], [0, 1, 2, 3, 4, 5], [0, 1, 2, 3, 4, 5, 6], [0, 1, 2, 3, 4, 5, 6, 7]] [[.fact 5 (Fact.isv 61)], [.fact 6 (Fact.isv 61)], [.fact 7 (Fact.pto 61 1)], [.fact 8 (Fact.ow [58] [59] 46 (x10.Blocks : List (List UInt8)))], [.fact 9 (Fact.rep [] (a2 : Int))], [.fact 10 (Fact.ptr [58, 59] (x19 : List UInt8))], [.fact 11 (Fact.rep [58, 59] (x19 : List UInt8))], [.fact 12 (Fact.rep [] (((x19).length : Int) : Int))], [.fact 13 (Fact.rep [] ((((x19).length : Int) == (0 : Int)) : Bool))]] mixed (by kernel_rfl) (ao (so (Spec.move (Has.s rfl))) (ao (so (Spec.nilCheckI (Has.s rfl) rfl)) (ao (so (Spec.fieldAddrO fd28_1 (Has.cv (Has.s rfl) (Cv.isvP rfl)))) (ao (so (Spec.loadF (i := 1) ty25 rfl (Has.s rfl) rfl (HasG.s rfl))) (ao (so (Spec.loadF (i := 0) ty3 rfl (Has.cv (Has.s rfl) (Cv.isvP rfl)) rfl (HasG.s rfl))) (ao (so (Spec.indexAddr hx19 sl25 (Has.cv (Has.s rfl) (Cv.trans Cv.owSl (Cv.slRep (T' := [58, 59]) rfl rfl))) (Has.s rfl))) (ao (so (Spec.load ty46 (Has.s rfl))) (ao (so (Spec.len (Has.s rfl) Try.underlying46)) (ao (so (Spec.eqlI (Has.s rfl) Has.int)) AllM.nil))))))))) ?_
        refine Leaf.thenN ?_
        refine CWalk.cond rfl (fun hb => ?_) (fun hb => ?_)
        ·have hm := cond_t hb hm
         refine CWalk.ad (Ad.owF (i := 63) 68 rfl rfl rfl (ElT.tags rfl) rfl (Cv.owM (T := [58]) (te := [59]) (T' := [58]) (te' := [59]) rfl rfl)) ?_
         obtain ⟨x20, hx20, hm⟩ := bind_some hm
         obtain ⟨x21, hx21, hm⟩ := bind_some hm
         refine CWalk.drawM [[], [0], [0, 1], [0, 1, 2], [], [], [5], [0, 1, 2, 3, 4, 5, 6], [0, 1, 2, 3, 4, 5, 6, 7]] [[.fact 14 (Fact.isv 61)], [.fact 15 (Fact.isv 61)], [.fact 16 (Fact.pto 61 1)], [.fact 17 (Fact.isv 68)], [.fact 18 (Fact.rep [] (a2 : Int))], [.fact 19 (Fact.rep [0] (a3 : List UInt8))], [.fact 20 (Fact.ow [69] [] 5 (x20 : List UInt8))], [.fact 21 (Fact.pto 68 (x21 * Rp.n (List UInt8)))], [.fact 100068 (Fact.own 68 [59, 69] 46 ((x10.Blocks).set x21 x20 : List (List UInt8))), .kill 68]] mixed (by kernel_rfl) (ao (so (Spec.move (Has.s rfl))) (ao (so (Spec.nilCheckI (Has.s rfl) rfl)) (ao (so (Spec.fieldAddrO fd28_1 (Has.cv (Has.s rfl) (Cv.isvP rfl)))) (ao (so (Spec.loadF (i := 1) ty25 rfl (Has.s rfl) rfl (HasG.s rfl))) (ao (so (Spec.loadF (i := 0) ty3 rfl (Has.cv (Has.s rfl) (Cv.isvP rfl)) rfl (HasG.s rfl))) (ao (so (Spec.loadF (i := 0) ty46 rfl (Has.cv (Has.s rfl) (Cv.isvP rfl)) rfl (HasG.s rfl))) (ao (so (Spec.callE [0] 69 rfl en47 (head_block_c a3 hx20) (HasAll.cons (Has.m (Has.s rfl) rfl) HasAll.nil))) (ao (so (Spec.idxOwn hx21 ow25 (Has.s rfl) rfl (Has.s rfl))) (ao (StepG.stE (Step.storeOwn (te' := [59, 69]) rfl (bnd_lt hx21 rfl) ty46 (Has.s rfl) rfl (Has.cv (Has.s rfl) (Cv.trans Cv.owSl (Cv.slRep (T' := [69]) rfl rfl))) (ElKeep.tags rfl rfl) (ElKeep.tags rfl rfl))) AllM.nil))))))))) ?_
         exact Leaf.join ((x10.Blocks).set x21 x20) hm (sc (sc (sc (sf (sg (sg (sf (sf (sf (sf (sg (sg (sf (sf (sf (sf (Sub.cons (Has.at (HasG.cv (HasG.s rfl) (Cv.trans (Cv.isvOw rfl) (Cv.owM (T := [68]) (te := [59, 69]) rfl rfl)))) (Sub.cons (Has.at (HasG.cv (HasG.s rfl) (Cv.owF (T := [60]) (te := []) rfl))) (sf (sf (sf (sn (sn (sn Sub.nil))))))))))))))))))))))))
        ·have hm := cond_f hb hm
         refine CWalk.skip ?_
         exact Leaf.join x10.Blocks hm (sc (sc (sc (sf (sg (sg (sf (sf (sf (sf (sg (sg (sf (sf (sf (sf (Sub.cons (Has.at (HasG.cv (HasG.s rfl) (Cv.owM (T := [58]) (te := [59]) rfl rfl))) (Sub.cons (Has.at (HasG.cv (HasG.s rfl) (Cv.owF (T := [60]) (te := []) rfl))) (sf (sf (sf (sn (sn (sn Sub.nil))))))))))))))))))))))))
      ·rintro j17 hm
       replace hm : head_Know_J3 x10 j17 = some r := hm
       unfold head_Know_J3 at hm
       show Walk _ _ _ [.fact 10 (Fact.isv 49), .fact 12 (Fact.isv 61), .fact 34 (Fact.rep [] ((0 : Int) : Int)), .fact 902008 (Fact.cst (u1 8) (Fact.isv 28)), .fact 100050 (Fact.at 50 (Fact.rep [] ((0 : Int) : Int))), .fact 100051 (Fact.at 51 (Fact.nilv)), .fact 100052 (Fact.at 52 (Fact.nilv)), .fact 100053 (Fact.at 53 (Fact.rep [] ((0 : UInt8) : UInt8))), .fact 100054 (Fact.at 54 (Fact.rep [] (false : Bool))), .fact 100055 (Fact.at 55 (Fact.rep [] ((0 : UInt32) : UInt32))), .fact 100062 (Fact.at 62 (Fact.rep [] (x10.Stripe : Int))), .fact 100063 (Fact.at 63 (Fact.ow [58, 68] [59, 69] 46 (j17 : List (List UInt8)))), .fact 100064 (Fact.at 64 (Fact.ow [60] [] 4 (x10.Dirty : List Bool))), .fact 100065 (Fact.at 65 (Fact.rep [] (x10.Phase : UInt8))), .fact 100066 (Fact.at 66 (Fact.rep [] (x10.Deals : Bool))), .fact 100067 (Fact.at 67 (Fact.rep [] (x10.Seq : UInt32))), .fact 100029 (Fact.at 29 (Fact.rep [] ((0 : Int) : Int))), .fact 100030 (Fact.at 30 (Fact.nilv)), .fact 100031 (Fact.at 31 (Fact.nilv)), .fact 100032 (Fact.at 32 (Fact.rep [] ((0 : UInt8) : UInt8))), .fact 100033 (Fact.at 33 (Fact.rep [] (false : Bool))), .fact 100034 (Fact.at 34 (Fact.rep [] ((0 : UInt32) : UInt32))), .fact 100049 (Fact.obj 49 [(false, 1), (false, 1), (false, 1), (false, 1), (false, 1), (false, 1)]), .fact 100061 (Fact.obj 61 [(false, 1), (false, 1), (false, 1), (false, 1), (false, 1), (false, 1)]), .fact 100028 (Fact.obj 28 [(false, 1), (false, 1), (false, 1), (false, 1), (false, 1), (false, 1)])] _
       refine wo (Spec.assign (Has.s rfl)) ?_
       refine Walk.nil ?_
       refine Leaf.thenN ?_
       refine CWalk.seq ?_
       refine CWalk.region ?_
       refine mv ?_
       refine wo (Spec.eqlI (Has.s rfl) Has.int) ?_
       refine Walk.nil ?_
       refine Leaf.thenN ?_
       refine CWalk.cond rfl (fun hb => ?_) (fun hb => ?_)
       ·have hm := cond_t hb hm
        refine CWalk.region ?_
        refine wo (Spec.loadObj (ls := [(false, 1, Fact.rep [] (x10.Stripe : Int)), (false, 1, Fact.ow [58, 68] [59, 69] 46 (j17 : List (List UInt8))), (false, 1, Fact.ow [60] [] 4 (x10.Dirty : List Bool)), (false, 1, Fact.rep [] (x10.Phase : UInt8)), (false, 1, Fact.rep [] (x10.Deals : Bool)), (false, 1, Fact.rep [] (x10.Seq : UInt32))]) ty28 rfl rfl (Has.s rfl) rfl (HasGs.cons (HasG.s rfl) (HasGs.cons (HasG.s rfl) (HasGs.cons (HasG.s rfl) (HasGs.cons (HasG.s rfl) (HasGs.cons (HasG.s rfl) (HasGs.cons (HasG.s rfl) HasGs.nil))))))) ?_
        refine ws (Step.storeObj (ls := [(false, 1, Fact.rep [] (x10.Stripe : Int)), (false, 1, Fact.ow [58, 68] [59, 69] 46 (j17 : List (List UInt8))), (false, 1, Fact.ow [60] [] 4 (x10.Dirty : List Bool)), (false, 1, Fact.rep [] (x10.Phase : UInt8)), (false, 1, Fact.rep [] (x10.Deals : Bool)), (false, 1, Fact.rep [] (x10.Seq : UInt32))]) rfl ty28 rfl rfl (Has.s rfl) rfl (HasL.flds (Has.s rfl)) rfl) ?_
        refine Walk.nil ?_
        exact Leaf.join (x10.Stripe, j17, x10.Dirty, x10.Phase, x10.Deals, x10.Seq) hm (sn (st (sc (sf (Sub.cons (Has.at (HasG.cv (HasG.s rfl) (Cv.owM (T := [58, 68]) (te := [59, 69]) rfl rfl))) (Sub.cons (Has.at (HasG.cv (HasG.s rfl) (Cv.owF (T := [60]) (te := []) rfl))) (sf (sf (sf (sf (sg (sg (sf (sf (sf (sn (sn Sub.nil)))))))))))))))))
       ·have hm := cond_f hb hm
        refine CWalk.skip ?_
        exact Leaf.join ((0 : Int), ([] : List (List UInt8)), ([] : List Bool), (0 : UInt8), false, (0 : UInt32)) hm (sn (st (sc (sf (Sub.cons (Has.at (HasG.cv (HasG.s rfl) (Cv.trans Cv.nilOw (Cv.owM (T := []) (te := []) rfl rfl)))) (Sub.cons (Has.at (HasG.cv (HasG.s rfl) (Cv.trans Cv.nilOw (Cv.owF (T := []) (te := []) rfl)))) (sf (sf (sf (sf (sg (sg (sf (sf (sf (sn (sn Sub.nil)))))))))))))))))
 ·rintro ⟨j1, j2, j3, j4, j5, j6, j7⟩ hm
  replace hm : head_Know_J1 j1 j2 j3 j4 j5 j6 j7 = some r := hm
  unfold head_Know_J1 at hm
  show Walk _ _ _ [.fact 8 (Fact.isv 28), .fact 15 (Fact.tup2 (Fact.flds [(false, 1, Fact.rep [] (j1 : Int)), (false, 1, Fact.ow [58, 68] [59, 69] 46 (j2 : List (List UInt8))), (false, 1, Fact.ow [60] [] 4 (j3 : List Bool)), (false, 1, Fact.rep [] (j4 : UInt8)), (false, 1, Fact.rep [] (j5 : Bool)), (false, 1, Fact.rep [] (j6 : UInt32))]) (Fact.rep [] (j7 : Int))), .fact 100029 (Fact.at 29 (Fact.rep [] ((0 : Int) : Int))), .fact 100030 (Fact.at 30 (Fact.nilv)), .fact 100031 (Fact.at 31 (Fact.nilv)), .fact 100032 (Fact.at 32 (Fact.rep [] ((0 : UInt8) : UInt8))), .fact 100033 (Fact.at 33 (Fact.rep [] (false : Bool))), .fact 100034 (Fact.at 34 (Fact.rep [] ((0 : UInt32) : UInt32))), .fact 100028 (Fact.obj 28 [(false, 1), (false, 1), (false, 1), (false, 1), (false, 1), (false, 1)])] _
  refine wo (Spec.ext0 (Has.s rfl)) ?_
  refine wo (Spec.ext1 (Has.s rfl)) ?_
  refine ws (Step.storeObj (ls := [(false, 1, Fact.rep [] (j1 : Int)), (false, 1, Fact.ow [58, 68] [59, 69] 46 (j2 : List (List UInt8))), (false, 1, Fact.ow [60] [] 4 (j3 : List Bool)), (false, 1, Fact.rep [] (j4 : UInt8)), (false, 1, Fact.rep [] (j5 : Bool)), (false, 1, Fact.rep [] (j6 : UInt32))]) rfl ty28 rfl rfl (Has.s rfl) rfl (HasL.flds (Has.s rfl)) rfl) ?_
  refine wo (Spec.assign (Has.s rfl)) ?_
  refine Walk.nil ?_
  refine Leaf.thenN ?_
  refine CWalk.ret ?_
  obtain rfl := Option.some.inj hm
  exact Leaf.retC2 rfl (HasR.cv (HasR.obj (ls := [(false, 1, Fact.rep [] (j1 : Int)), (false, 1, Fact.ow [58, 68] [59, 69] 46 (j2 : List (List UInt8))), (false, 1, Fact.ow [60] [] 4 (j3 : List Bool)), (false, 1, Fact.rep [] (j4 : UInt8)), (false, 1, Fact.rep [] (j5 : Bool)), (false, 1, Fact.rep [] (j6 : UInt32))]) ty28 rfl rfl (Has.s rfl) rfl (HasGs.cons (HasG.s rfl) (HasGs.cons (HasG.s rfl) (HasGs.cons (HasG.s rfl) (HasGs.cons (HasG.s rfl) (HasGs.cons (HasG.s rfl) (HasGs.cons (HasG.s rfl) HasGs.nil))))))) (Cv.flds (CvL.cons Cv.fl (CvL.cons (Cv.owM (T := [58, 68]) (te := [59, 69]) rfl rfl) (CvL.cons (Cv.owF (T := [60]) (te := []) rfl) (CvL.cons Cv.fl (CvL.cons Cv.fl (CvL.cons Cv.fl CvL.nil)))))))) (HasR.cv (HasR.tmp (Has.s rfl)) Cv.fl)

def head_Take_J1 (j1 : Int) (j2 : List (List UInt8)) (j3 : List Bool) (j4 : UInt8) (j5 : Bool) (j6 : UInt32) (j7 : Int) : Option (Head × Int) :=
  some ((Head.mk j1 j2 j3 j4 j5 j6), j7)
def head_Take_J2 (j11 : Int) (j12 : Int) (j13 : List (List UInt8)) (j14 : List Bool) (j15 : UInt8) (j16 : Bool) (j17 : UInt32) : Option (Head × Int) :=
  (head_Take_J1 j12 j13 j14 j15 j16 j17 j11)
def head_Take_J3 (x10 : Head) (j18 : Int) (j19 : List (List UInt8)) (j20 : List Bool) (j21 : UInt8) : Option (Head × Int) :=
  (bif (j18 == (0 : Int)) then (head_Take_J2 j18 x10.Stripe j19 j20 j21 x10.Deals x10.Seq) else (head_Take_J2 j18 (0 : Int) ([] : List (List UInt8)) ([] : List Bool) (0 : UInt8) false (0 : UInt32)))
/-- freeboard/head.Take -/
def head_Take (a0 : Config) (a1 : Head) (a2 : Int) (a3 : List UInt8) : Option (Head × Int) :=
  Option.bind (head_Check a0 a1) (fun x8 => (bif (x8 != (0 : Int)) then (head_Take_J1 (0 : Int) ([] : List (List UInt8)) ([] : List Bool) (0 : UInt8) false (0 : UInt32) x8) else (bif ((decide (a2 < (0 : Int))) || (decide (a2 ≥ (wI (a0.Members - (1 : Int)))))) then (head_Take_J1 (0 : Int) ([] : List (List UInt8)) ([] : List Bool) (0 : UInt8) false (0 : UInt32) (2 : Int)) else Option.bind (head_odd a3) (fun x9 => (bif x9 then (head_Take_J1 (0 : Int) ([] : List (List UInt8)) ([] : List Bool) (0 : UInt8) false (0 : UInt32) (3 : Int)) else Option.bind (head_Twin a1) (fun x10 => (bif (decide ((x10.Phase.toNat : Int) > ((1 : UInt8).toNat : Int))) then (head_Take_J3 x10 (160 : Int) x10.Blocks x10.Dirty x10.Phase) else Option.bind (bnd (x10.Blocks).length (wI (a0.Members - (1 : Int)))) (fun x22 => Option.bind (head_block a3) (fun x23 => Option.bind (bnd ((x10.Blocks).set x22 ([] : List UInt8)).length a2) (fun x24 => Option.bind (bnd (x10.Dirty).length a2) (fun x25 => (head_Take_J3 x10 (0 : Int) (((x10.Blocks).set x22 ([] : List UInt8)).set x24 x23) ((x10.Dirty).set x25 true) (0 : UInt8)))))))))))))
set_option maxRecDepth 100000 in
set_option maxHeartbeats 2000000 in
theorem head_Take_c (a0 : Config) (a1 : Head) (a2 : Int) (a3 : List UInt8) {r : Head × Int} (hm : head_Take a0 a1 a2 a3 = some r) : Ctr Try.prog 30 [.rep 0 a0, .rep 0 a1, .rep 0 a2, .rep 0 a3] (.tup2 (.flds [(false, 1, (.fl r.1.Stripe)), (false, 1, (.own 0 (some 1) 46 r.1.Blocks)), (false, 1, (.own 2 none 4 r.1.Dirty)), (false, 1, (.fl r.1.Phase)), (false, 1, (.fl r.1.Deals)), (false, 1, (.fl r.1.Seq))]) (.fl r.2)) [] := by
 refine ctr_of_walk [[58, 68], [59, 70], [60, 69]] 18 Try.func30 rfl rfl rfl rfl (fun w0 om => ?_)
 unfold head_Take at hm
 refine CWalk.sub (G' := [.fact 0 (Fact.rep [] (a0 : Config)), .fact 1 (Fact.rep [0] (a1 : Head)), .fact 2 (Fact.rep [] (a2 : Int)), .fact 3 (Fact.rep [0] (a3 : List UInt8))]) (Sub.cons (Has.fl (Has.s rfl)) (sn (Sub.cons (Has.fl (Has.s rfl)) (sn Sub.nil)))) ?_
 refine CWalk.seq ?_
 refine CWalk.region ?_
 refine ws (Step.boxObj (ls := [(false, 1, Fact.rep [] (a0.Id : UInt32)), (false, 1, Fact.rep [] (a0.Members : Int)), (false, 1, Fact.rep [] (a0.Chunk : Int)), (false, 1, Fact.rep [] (a0.Rows : Int)), (false, 1, Fact.rep [] (a0.Log : Int)), (false, 1, Fact.rep [] (a0.Heads : Int))]) 10 rfl rfl rfl rfl (HasL.flds (Has.cv (Has.s rfl) (Cv.trans (Cv.opens (chConfig a0)) (Cv.flds (CvL.cons Cv.fl (CvL.cons Cv.fl (CvL.cons Cv.fl (CvL.cons Cv.fl (CvL.cons Cv.fl (CvL.cons Cv.fl CvL.nil))))))))))) ?_
 refine ws (Step.boxObj (ls := [(false, 1, Fact.rep [] (a1.Stripe : Int)), (false, 1, Fact.rep [0] (a1.Blocks : List (List UInt8))), (false, 1, Fact.rep [0] (a1.Dirty : List Bool)), (false, 1, Fact.rep [] (a1.Phase : UInt8)), (false, 1, Fact.rep [] (a1.Deals : Bool)), (false, 1, Fact.rep [] (a1.Seq : UInt32))]) 17 rfl rfl rfl rfl (HasL.flds (Has.cv (Has.s rfl) (Cv.trans (Cv.opens (chHead a1)) (Cv.flds (CvL.cons Cv.fl (CvL.cons Cv.refl (CvL.cons Cv.refl (CvL.cons Cv.fl (CvL.cons Cv.fl (CvL.cons Cv.fl CvL.nil))))))))))) ?_
 refine ws (Step.boxObj (ls := [(false, 1, Fact.rep [] (a2 : Int))]) 24 rfl rfl rfl rfl (HasL.one (Has.s rfl) rfl (Has.s rfl))) ?_
 refine ws (Step.boxObj (ls := [(false, 1, Fact.rep [0] (a3 : List UInt8))]) 26 rfl rfl rfl rfl (HasL.one (Has.s rfl) rfl (Has.s rfl))) ?_
 refine ws (Step.allocObj (ls := [(false, 1, Fact.rep [] ((0 : Int) : Int)), (false, 1, Fact.nilv), (false, 1, Fact.nilv), (false, 1, Fact.rep [] ((0 : UInt8) : UInt8)), (false, 1, Fact.rep [] (false : Bool)), (false, 1, Fact.rep [] ((0 : UInt32) : UInt32))]) 28 rfl rfl rfl rfl zl28) ?_
 refine wo (Spec.assign Has.int) ?_
 refine Walk.nil ?_
 refine Leaf.thenN ?_
 refine CWalk.seq ?_
 refine CWalk.region ?_
 refine wo (Spec.loadObj (ls := [(false, 1, Fact.rep [] (a0.Id : UInt32)), (false, 1, Fact.rep [] (a0.Members : Int)), (false, 1, Fact.rep [] (a0.Chunk : Int)), (false, 1, Fact.rep [] (a0.Rows : Int)), (false, 1, Fact.rep [] (a0.Log : Int)), (false, 1, Fact.rep [] (a0.Heads : Int))]) ty24 rfl rfl (Has.s rfl) rfl (HasGs.cons (HasG.s rfl) (HasGs.cons (HasG.s rfl) (HasGs.cons (HasG.s rfl) (HasGs.cons (HasG.s rfl) (HasGs.cons (HasG.s rfl) (HasGs.cons (HasG.s rfl) HasGs.nil))))))) ?_
 refine wo (Spec.loadObj (ls := [(false, 1, Fact.rep [] (a1.Stripe : Int)), (false, 1, Fact.rep [0] (a1.Blocks : List (List UInt8))), (false, 1, Fact.rep [0] (a1.Dirty : List Bool)), (false, 1, Fact.rep [] (a1.Phase : UInt8)), (false, 1, Fact.rep [] (a1.Deals : Bool)), (false, 1, Fact.rep [] (a1.Seq : UInt32))]) ty28 rfl rfl (Has.s rfl) rfl (HasGs.cons (HasG.s rfl) (HasGs.cons (HasG.s rfl) (HasGs.cons (HasG.s rfl) (HasGs.cons (HasG.s rfl) (HasGs.cons (HasG.s rfl) (HasGs.cons (HasG.s rfl) HasGs.nil))))))) ?_
 refine wo (Spec.loadF (i := 0) ty3 rfl (Has.cv (Has.s rfl) (Cv.isvP rfl)) rfl (HasG.s rfl)) ?_
 refine wo (Spec.loadF (i := 0) ty46 rfl (Has.cv (Has.s rfl) (Cv.isvP rfl)) rfl (HasG.s rfl)) ?_
 refine wo (Spec.makeFunc (xs := []) (ys := [.tmp 4, .tmp 7, .tmp 6]) rfl rfl HasF.nil (HasF.cons (Has.s rfl) (HasF.cons (Has.s rfl) (HasF.cons (Has.s rfl) HasF.nil))) (fun _ _ _ => rfl)) ?_
 refine Walk.inline (S := Int × (List (List UInt8)) × (List Bool) × UInt8 × Bool × UInt32 × Int) (fun p : Int × (List (List UInt8)) × (List Bool) × UInt8 × Bool × UInt32 × Int => [.fact 8 (Fact.isv 28), .fact 15 (Fact.tup2 (Fact.flds [(false, 1, Fact.rep [] (p.1 : Int)), (false, 1, Fact.ow [58, 68] [59, 70] 46 (p.2.1 : List (List UInt8))), (false, 1, Fact.ow [60, 69] [] 4 (p.2.2.1 : List Bool)), (false, 1, Fact.rep [] (p.2.2.2.1 : UInt8)), (false, 1, Fact.rep [] (p.2.2.2.2.1 : Bool)), (false, 1, Fact.rep [] (p.2.2.2.2.2.1 : UInt32))]) (Fact.rep [] (p.2.2.2.2.2.2 : Int))), .fact 100029 (Fact.at 29 (Fact.rep [] ((0 : Int) : Int))), .fact 100030 (Fact.at 30 (Fact.nilv)), .fact 100031 (Fact.at 31 (Fact.nilv)), .fact 100032 (Fact.at 32 (Fact.rep [] ((0 : UInt8) : UInt8))), .fact 100033 (Fact.at 33 (Fact.rep [] (false : Bool))), .fact 100034 (Fact.at 34 (Fact.rep [] ((0 : UInt32) : UInt32))), .fact 100028 (Fact.obj 28 [(false, 1), (false, 1), (false, 1), (false, 1), (false, 1), (false, 1)])]) (fun p : Int × (List (List UInt8)) × (List Bool) × UInt8 × Bool × UInt32 × Int => head_Take_J1 p.1 p.2.1 p.2.2.1 p.2.2.2.1 p.2.2.2.2.1 p.2.2.2.2.2.1 p.2.2.2.2.2.2 = some r) (fun u1 => [.fact 100011 (Fact.at 11 (Fact.rep [] (a0.Id : UInt32))), .fact 100012 (Fact.at 12 (Fact.rep [] (a0.Members : Int))), .fact 100013 (Fact.at 13 (Fact.rep [] (a0.Chunk : Int))), .fact 100014 (Fact.at 14 (Fact.rep [] (a0.Rows : Int))), .fact 100015 (Fact.at 15 (Fact.rep [] (a0.Log : Int))), .fact 100016 (Fact.at 16 (Fact.rep [] (a0.Heads : Int))), .fact 100025 (Fact.at 25 (Fact.rep [] (a2 : Int))), .fact 100027 (Fact.at 27 (Fact.rep [0] (a3 : List UInt8))), .fact 100029 (Fact.at 29 (Fact.rep [] ((0 : Int) : Int))), .fact 100030 (Fact.at 30 (Fact.nilv)), .fact 100031 (Fact.at 31 (Fact.nilv)), .fact 100032 (Fact.at 32 (Fact.rep [] ((0 : UInt8) : UInt8))), .fact 100033 (Fact.at 33 (Fact.rep [] (false : Bool))), .fact 100034 (Fact.at 34 (Fact.rep [] ((0 : UInt32) : UInt32))), .fact 902008 (Fact.cst (u1 8) (Fact.isv 28)), .fact 100010 (Fact.obj 10 [(false, 1), (false, 1), (false, 1), (false, 1), (false, 1), (false, 1)]), .fact 100024 (Fact.obj 24 [(false, 1)]), .fact 100026 (Fact.obj 26 [(false, 1)]), .fact 100028 (Fact.obj 28 [(false, 1), (false, 1), (false, 1), (false, 1), (false, 1), (false, 1)])]) (FA := [Fact.flds [(false, 1, Fact.rep [] (a0.Id : UInt32)), (false, 1, Fact.rep [] (a0.Members : Int)), (false, 1, Fact.rep [] (a0.Chunk : Int)), (false, 1, Fact.rep [] (a0.Rows : Int)), (false, 1, Fact.rep [] (a0.Log : Int)), (false, 1, Fact.rep [] (a0.Heads : Int))], Fact.flds [(false, 1, Fact.rep [] (a1.Stripe : Int)), (false, 1, Fact.rep [0] (a1.Blocks : List (List UInt8))), (false, 1, Fact.rep [0] (a1.Dirty : List Bool)), (false, 1, Fact.rep [] (a1.Phase : UInt8)), (false, 1, Fact.rep [] (a1.Deals : Bool)), (false, 1, Fact.rep [] (a1.Seq : UInt32))], Fact.rep [] (a2 : Int), Fact.rep [0] (a3 : List UInt8), Fact.fnv 48 [] [Fact.isv 10, Fact.isv 26, Fact.isv 24]]) rfl Try.func45 rfl rfl rfl (CallOk.fn en45 (HasF.cons (Has.s rfl) (HasF.cons (Has.s rfl) (HasF.cons (Has.s rfl) (HasF.cons (Has.s rfl) (HasF.cons (Has.s rfl) HasF.nil)))))) (fun u1 => (ck (ck (ck (ck (ck (ck (ck (ck (ck (ck (ck (ck (ck (ck (cs 902000 8 (ck (ck (ck (ck Carry.nil)))))))))))))))))))) (fun u1 => ?_) ?_
 ·refine CWalk.seq ?_
  refine CWalk.region ?_
  refine ws (Step.boxObj (ls := [(false, 1, Fact.rep [] (a0.Id : UInt32)), (false, 1, Fact.rep [] (a0.Members : Int)), (false, 1, Fact.rep [] (a0.Chunk : Int)), (false, 1, Fact.rep [] (a0.Rows : Int)), (false, 1, Fact.rep [] (a0.Log : Int)), (false, 1, Fact.rep [] (a0.Heads : Int))]) 35 rfl rfl rfl rfl (HasL.flds (Has.s rfl))) ?_
  refine ws (Step.boxObj (ls := [(false, 1, Fact.rep [] (a1.Stripe : Int)), (false, 1, Fact.rep [0] (a1.Blocks : List (List UInt8))), (false, 1, Fact.rep [0] (a1.Dirty : List Bool)), (false, 1, Fact.rep [] (a1.Phase : UInt8)), (false, 1, Fact.rep [] (a1.Deals : Bool)), (false, 1, Fact.rep [] (a1.Seq : UInt32))]) 42 rfl rfl rfl rfl (HasL.flds (Has.s rfl))) ?_
  refine ws (Step.allocObj (ls := [(false, 1, Fact.rep [] ((0 : Int) : Int)), (false, 1, Fact.nilv), (false, 1, Fact.nilv), (false, 1, Fact.rep [] ((0 : UInt8) : UInt8)), (false, 1, Fact.rep [] (false : Bool)), (false, 1, Fact.rep [] ((0 : UInt32) : UInt32))]) 49 rfl rfl rfl rfl zl28) ?_
  refine wo (Spec.assign Has.int) ?_
  refine Walk.nil ?_
  refine Leaf.thenN ?_
  refine CWalk.seq ?_
  refine CWalk.seq ?_
  refine CWalk.region ?_
  refine wo (Spec.loadObj (ls := [(false, 1, Fact.rep [] (a0.Id : UInt32)), (false, 1, Fact.rep [] (a0.Members : Int)), (false, 1, Fact.rep [] (a0.Chunk : Int)), (false, 1, Fact.rep [] (a0.Rows : Int)), (false, 1, Fact.rep [] (a0.Log : Int)), (false, 1, Fact.rep [] (a0.Heads : Int))]) ty24 rfl rfl (Has.s rfl) rfl (HasGs.cons (HasG.s rfl) (HasGs.cons (HasG.s rfl) (HasGs.cons (HasG.s rfl) (HasGs.cons (HasG.s rfl) (HasGs.cons (HasG.s rfl) (HasGs.cons (HasG.s rfl) HasGs.nil))))))) ?_
  refine wo (Spec.loadObj (ls := [(false, 1, Fact.rep [] (a1.Stripe : Int)), (false, 1, Fact.rep [0] (a1.Blocks : List (List UInt8))), (false, 1, Fact.rep [0] (a1.Dirty : List Bool)), (false, 1, Fact.rep [] (a1.Phase : UInt8)), (false, 1, Fact.rep [] (a1.Deals : Bool)), (false, 1, Fact.rep [] (a1.Seq : UInt32))]) ty28 rfl rfl (Has.s rfl) rfl (HasGs.cons (HasG.s rfl) (HasGs.cons (HasG.s rfl) (HasGs.cons (HasG.s rfl) (HasGs.cons (HasG.s rfl) (HasGs.cons (HasG.s rfl) (HasGs.cons (HasG.s rfl) HasGs.nil))))))) ?_
  obtain ⟨x8, hx8, hm⟩ := bind_some hm
  refine wo (f := Fact.rep [] (x8 : Int)) (Spec.callE [0] 56 rfl en17 (head_Check_c a0 a1 hx8) (HasAll.cons (Has.fl (Has.cv (Has.s rfl) (Cv.trans (Cv.flds (CvL.cons Cv.fl (CvL.cons Cv.fl (CvL.cons Cv.fl (CvL.cons Cv.fl (CvL.cons Cv.fl (CvL.cons Cv.fl CvL.nil))))))) (Cv.close (T := []) (chConfig a0))))) (HasAll.cons (Has.m (Has.cv (Has.s rfl) (Cv.trans (Cv.flds (CvL.cons Cv.fl (CvL.cons (Cv.m rfl) (CvL.cons (Cv.m rfl) (CvL.cons Cv.fl (CvL.cons Cv.fl (CvL.cons Cv.fl CvL.nil))))))) (Cv.close (T := [0]) (chHead a1)))) rfl) HasAll.nil))) ?_
  refine wo (Spec.assign (Has.s rfl)) ?_
  refine Walk.nil ?_
  refine Leaf.thenN ?_
  refine CWalk.seq ?_
  refine CWalk.region ?_
  refine mv ?_
  refine wo (Spec.neqI (Has.s rfl) Has.int) ?_
  refine Walk.nil ?_
  refine Leaf.thenN ?_
  refine CWalk.cond rfl (fun hb => ?_) (fun hb => ?_)
  ·have hm := cond_t hb hm
   refine CWalk.ret ?_
   refine Leaf.thenR ?_
   exact Leaf.in2 ((0 : Int), ([] : List (List UInt8)), ([] : List Bool), (0 : UInt8), false, (0 : UInt32), x8) hm rfl rfl (HasR.cv (HasR.obj (ls := [(false, 1, Fact.rep [] ((0 : Int) : Int)), (false, 1, Fact.nilv), (false, 1, Fact.nilv), (false, 1, Fact.rep [] ((0 : UInt8) : UInt8)), (false, 1, Fact.rep [] (false : Bool)), (false, 1, Fact.rep [] ((0 : UInt32) : UInt32))]) ty28 rfl rfl (Has.s rfl) rfl (HasGs.cons (HasG.s rfl) (HasGs.cons (HasG.s rfl) (HasGs.cons (HasG.s rfl) (HasGs.cons (HasG.s rfl) (HasGs.cons (HasG.s rfl) (HasGs.cons (HasG.s rfl) HasGs.nil))))))) (Cv.flds (CvL.cons Cv.fl (CvL.cons (Cv.trans Cv.nilOw (Cv.owM (T := []) (te := []) rfl rfl)) (CvL.cons (Cv.trans Cv.nilOw (Cv.owF (T := []) (te := []) rfl)) (CvL.cons Cv.fl (CvL.cons Cv.fl (CvL.cons Cv.fl CvL.nil)))))))) (HasR.cv (HasR.tmp (Has.s rfl)) Cv.fl) (ls 902008 (Low.res (lf (lg (lg (lf (lf (lf (lo Low.nil)))))))))
  ·have hm := cond_f hb hm
   refine CWalk.skip ?_
   refine Leaf.thenN ?_
   refine CWalk.seq ?_
   refine CWalk.seq ?_
   refine CWalk.region ?_
   refine mv ?_
   refine wo (Spec.lssI (Has.s rfl) Has.int) ?_
   refine mv ?_
   refine wg rfl rfl (fun hb => Spec.move (Has.s rfl)) ?_
   refine wg rfl rfl (fun hb => Spec.fieldAddrO fd24_1 (Has.cv (Has.s rfl) (Cv.isvP rfl))) ?_
   refine wg rfl rfl (fun hb => Spec.loadF (i := 1) ty3 rfl (Has.u rfl hb) rfl (HasG.s rfl)) ?_
   refine wg rfl rfl (fun hb => Spec.subI (Has.u rfl hb) Has.int) ?_
   refine wg rfl rfl (fun hb => Spec.geqI (Has.u rfl hb) (Has.u rfl hb)) ?_
   refine wo (Spec.or (Has.s rfl) (fun h => Has.u rfl h)) ?_
   refine Walk.nil ?_
   refine Leaf.thenN ?_
   refine CWalk.cond rfl (fun hb => ?_) (fun hb => ?_)
   ·have hm := cond_t hb hm
    refine CWalk.seq ?_
    refine CWalk.region ?_
    refine wo (Spec.loadObj (ls := [(false, 1, Fact.rep [] ((0 : Int) : Int)), (false, 1, Fact.nilv), (false, 1, Fact.nilv), (false, 1, Fact.rep [] ((0 : UInt8) : UInt8)), (false, 1, Fact.rep [] (false : Bool)), (false, 1, Fact.rep [] ((0 : UInt32) : UInt32))]) ty28 rfl rfl (Has.s rfl) rfl (HasGs.cons (HasG.s rfl) (HasGs.cons (HasG.s rfl) (HasGs.cons (HasG.s rfl) (HasGs.cons (HasG.s rfl) (HasGs.cons (HasG.s rfl) (HasGs.cons (HasG.s rfl) HasGs.nil))))))) ?_
    refine ws (Step.storeObj (ls := [(false, 1, Fact.rep [] ((0 : Int) : Int)), (false, 1, Fact.nilv), (false, 1, Fact.nilv), (false, 1, Fact.rep [] ((0 : UInt8) : UInt8)), (false, 1, Fact.rep [] (false : Bool)), (false, 1, Fact.rep [] ((0 : UInt32) : UInt32))]) rfl ty28 rfl rfl (Has.s rfl) rfl (HasL.flds (Has.s rfl)) rfl) ?_
    refine wo (Spec.assign Has.int) ?_
    refine Walk.nil ?_
    refine Leaf.thenN ?_
    refine CWalk.ret ?_
    refine Leaf.thenR ?_
    exact Leaf.in2 ((0 : Int), ([] : List (List UInt8)), ([] : List Bool), (0 : UInt8), false, (0 : UInt32), (2 : Int)) hm rfl rfl (HasR.cv (HasR.obj (ls := [(false, 1, Fact.rep [] ((0 : Int) : Int)), (false, 1, Fact.nilv), (false, 1, Fact.nilv), (false, 1, Fact.rep [] ((0 : UInt8) : UInt8)), (false, 1, Fact.rep [] (false : Bool)), (false, 1, Fact.rep [] ((0 : UInt32) : UInt32))]) ty28 rfl rfl (Has.s rfl) rfl (HasGs.cons (HasG.s rfl) (HasGs.cons (HasG.s rfl) (HasGs.cons (HasG.s rfl) (HasGs.cons (HasG.s rfl) (HasGs.cons (HasG.s rfl) (HasGs.cons (HasG.s rfl) HasGs.nil))))))) (Cv.flds (CvL.cons Cv.fl (CvL.cons (Cv.trans Cv.nilOw (Cv.owM (T := []) (te := []) rfl rfl)) (CvL.cons (Cv.trans Cv.nilOw (Cv.owF (T := []) (te := []) rfl)) (CvL.cons Cv.fl (CvL.cons Cv.fl (CvL.cons Cv.fl CvL.nil)))))))) (HasR.cv (HasR.tmp (Has.s rfl)) Cv.fl) (ls 902008 (Low.res (lf (lg (lg (lf (lf (lf (lo Low.nil)))))))))
   ·have hm := cond_f hb hm
    refine CWalk.skip ?_
    refine Leaf.thenN ?_
    refine CWalk.seq ?_
    refine CWalk.seq ?_
    refine CWalk.region ?_
    refine mv ?_
    obtain ⟨x9, hx9, hm⟩ := bind_some hm
    refine wo (f := Fact.rep [] (x9 : Bool)) (Spec.callE [0] 57 rfl en33 (head_odd_c a3 hx9) (HasAll.cons (Has.m (Has.s rfl) rfl) HasAll.nil)) ?_
    refine Walk.nil ?_
    refine Leaf.thenN ?_
    refine CWalk.cond rfl (fun hb => ?_) (fun hb => ?_)
    ·have hm := cond_t hb hm
     refine CWalk.seq ?_
     refine CWalk.region ?_
     refine wo (Spec.loadObj (ls := [(false, 1, Fact.rep [] ((0 : Int) : Int)), (false, 1, Fact.nilv), (false, 1, Fact.nilv), (false, 1, Fact.rep [] ((0 : UInt8) : UInt8)), (false, 1, Fact.rep [] (false : Bool)), (false, 1, Fact.rep [] ((0 : UInt32) : UInt32))]) ty28 rfl rfl (Has.s rfl) rfl (HasGs.cons (HasG.s rfl) (HasGs.cons (HasG.s rfl) (HasGs.cons (HasG.s rfl) (HasGs.cons (HasG.s rfl) (HasGs.cons (HasG.s rfl) (HasGs.cons (HasG.s rfl) HasGs.nil))))))) ?_
     refine ws (Step.storeObj (ls := [(false, 1, Fact.rep [] ((0 : Int) : Int)), (false, 1, Fact.nilv), (false, 1, Fact.nilv), (false, 1, Fact.rep [] ((0 : UInt8) : UInt8)), (false, 1, Fact.rep [] (false : Bool)), (false, 1, Fact.rep [] ((0 : UInt32) : UInt32))]) rfl ty28 rfl rfl (Has.s rfl) rfl (HasL.flds (Has.s rfl)) rfl) ?_
     refine wo (Spec.assign Has.int) ?_
     refine Walk.nil ?_
     refine Leaf.thenN ?_
     refine CWalk.ret ?_
     refine Leaf.thenR ?_
     exact Leaf.in2 ((0 : Int), ([] : List (List UInt8)), ([] : List Bool), (0 : UInt8), false, (0 : UInt32), (3 : Int)) hm rfl rfl (HasR.cv (HasR.obj (ls := [(false, 1, Fact.rep [] ((0 : Int) : Int)), (false, 1, Fact.nilv), (false, 1, Fact.nilv), (false, 1, Fact.rep [] ((0 : UInt8) : UInt8)), (false, 1, Fact.rep [] (false : Bool)), (false, 1, Fact.rep [] ((0 : UInt32) : UInt32))]) ty28 rfl rfl (Has.s rfl) rfl (HasGs.cons (HasG.s rfl) (HasGs.cons (HasG.s rfl) (HasGs.cons (HasG.s rfl) (HasGs.cons (HasG.s rfl) (HasGs.cons (HasG.s rfl) (HasGs.cons (HasG.s rfl) HasGs.nil))))))) (Cv.flds (CvL.cons Cv.fl (CvL.cons (Cv.trans Cv.nilOw (Cv.owM (T := []) (te := []) rfl rfl)) (CvL.cons (Cv.trans Cv.nilOw (Cv.owF (T := []) (te := []) rfl)) (CvL.cons Cv.fl (CvL.cons Cv.fl (CvL.cons Cv.fl CvL.nil)))))))) (HasR.cv (HasR.tmp (Has.s rfl)) Cv.fl) (ls 902008 (Low.res (lf (lg (lg (lf (lf (lf (lo Low.nil)))))))))
    ·have hm := cond_f hb hm
     refine CWalk.skip ?_
     refine Leaf.thenN ?_
     refine CWalk.seq ?_
     refine CWalk.region ?_
     refine wo (Spec.loadObj (ls := [(false, 1, Fact.rep [] (a1.Stripe : Int)), (false, 1, Fact.rep [0] (a1.Blocks : List (List UInt8))), (false, 1, Fact.rep [0] (a1.Dirty : List Bool)), (false, 1, Fact.rep [] (a1.Phase : UInt8)), (false, 1, Fact.rep [] (a1.Deals : Bool)), (false, 1, Fact.rep [] (a1.Seq : UInt32))]) ty28 rfl rfl (Has.s rfl) rfl (HasGs.cons (HasG.s rfl) (HasGs.cons (HasG.s rfl) (HasGs.cons (HasG.s rfl) (HasGs.cons (HasG.s rfl) (HasGs.cons (HasG.s rfl) (HasGs.cons (HasG.s rfl) HasGs.nil))))))) ?_
     obtain ⟨x10, hx10, hm⟩ := bind_some hm
     refine wo (f := Fact.flds [(false, 1, Fact.rep [] (x10.Stripe : Int)), (false, 1, Fact.ow [58] [59] 46 (x10.Blocks : List (List UInt8))), (false, 1, Fact.ow [60] [] 4 (x10.Dirty : List Bool)), (false, 1, Fact.rep [] (x10.Phase : UInt8)), (false, 1, Fact.rep [] (x10.Deals : Bool)), (false, 1, Fact.rep [] (x10.Seq : UInt32))]) (Spec.callE [0] 58 rfl en60 (head_Twin_c a1 hx10) (HasAll.cons (Has.m (Has.cv (Has.s rfl) (Cv.trans (Cv.flds (CvL.cons Cv.fl (CvL.cons (Cv.m rfl) (CvL.cons (Cv.m rfl) (CvL.cons Cv.fl (CvL.cons Cv.fl (CvL.cons Cv.fl CvL.nil))))))) (Cv.close (T := [0]) (chHead a1)))) rfl) HasAll.nil)) ?_
     refine ws (Step.allocObj (ls := [(false, 1, Fact.rep [] ((0 : Int) : Int)), (false, 1, Fact.nilv), (false, 1, Fact.nilv), (false, 1, Fact.rep [] ((0 : UInt8) : UInt8)), (false, 1, Fact.rep [] (false : Bool)), (false, 1, Fact.rep [] ((0 : UInt32) : UInt32))]) 61 rfl rfl rfl rfl zl28) ?_
     refine ws (Step.storeObj (ls := [(false, 1, Fact.rep [] (x10.Stripe : Int)), (false, 1, Fact.ow [58] [59] 46 (x10.Blocks : List (List UInt8))), (false, 1, Fact.ow [60] [] 4 (x10.Dirty : List Bool)), (false, 1, Fact.rep [] (x10.Phase : UInt8)), (false, 1, Fact.rep [] (x10.Deals : Bool)), (false, 1, Fact.rep [] (x10.Seq : UInt32))]) rfl ty28 rfl rfl (Has.s rfl) rfl (HasL.flds (Has.s rfl)) rfl) ?_
     refine Walk.nil ?_
     refine Leaf.thenN ?_
     refine CWalk.seqJ (fun p : Int × Int × (List (List UInt8)) × (List Bool) × UInt8 × Bool × UInt32 => [.fact 10 (Fact.isv 49), .fact 11 (Fact.rep [] (p.1 : Int)), .fact 902008 (Fact.cst (u1 8) (Fact.isv 28)), .fact 100050 (Fact.at 50 (Fact.rep [] (p.2.1 : Int))), .fact 100051 (Fact.at 51 (Fact.ow [58, 68] [59, 70] 46 (p.2.2.1 : List (List UInt8)))), .fact 100052 (Fact.at 52 (Fact.ow [60, 69] [] 4 (p.2.2.2.1 : List Bool))), .fact 100053 (Fact.at 53 (Fact.rep [] (p.2.2.2.2.1 : UInt8))), .fact 100054 (Fact.at 54 (Fact.rep [] (p.2.2.2.2.2.1 : Bool))), .fact 100055 (Fact.at 55 (Fact.rep [] (p.2.2.2.2.2.2 : UInt32))), .fact 100029 (Fact.at 29 (Fact.rep [] ((0 : Int) : Int))), .fact 100030 (Fact.at 30 (Fact.nilv)), .fact 100031 (Fact.at 31 (Fact.nilv)), .fact 100032 (Fact.at 32 (Fact.rep [] ((0 : UInt8) : UInt8))), .fact 100033 (Fact.at 33 (Fact.rep [] (false : Bool))), .fact 100034 (Fact.at 34 (Fact.rep [] ((0 : UInt32) : UInt32))), .fact 100049 (Fact.obj 49 [(false, 1), (false, 1), (false, 1), (false, 1), (false, 1), (false, 1)]), .fact 100028 (Fact.obj 28 [(false, 1), (false, 1), (false, 1), (false, 1), (false, 1), (false, 1)])]) (fun p : Int × Int × (List (List UInt8)) × (List Bool) × UInt8 × Bool × UInt32 => head_Take_J2 p.1 p.2.1 p.2.2.1 p.2.2.2.1 p.2.2.2.2.1 p.2.2.2.2.2.1 p.2.2.2.2.2.2 = some r) ?_ ?_
     ·rintro ⟨j11, j12, j13, j14, j15, j16, j17⟩ hm
      replace hm : head_Take_J2 j11 j12 j13 j14 j15 j16 j17 = some r := hm
      unfold head_Take_J2 at hm
      show CWalk _ [.fact 10 (Fact.isv 49), .fact 11 (Fact.rep [] (j11 : Int)), .fact 902008 (Fact.cst (u1 8) (Fact.isv 28)), .fact 100050 (Fact.at 50 (Fact.rep [] (j12 : Int))), .fact 100051 (Fact.at 51 (Fact.ow [58, 68] [59, 70] 46 (j13 : List (List UInt8)))), .fact 100052 (Fact.at 52 (Fact.ow [60, 69] [] 4 (j14 : List Bool))), .fact 100053 (Fact.at 53 (Fact.rep [] (j15 : UInt8))), .fact 100054 (Fact.at 54 (Fact.rep [] (j16 : Bool))), .fact 100055 (Fact.at 55 (Fact.rep [] (j17 : UInt32))), .fact 100029 (Fact.at 29 (Fact.rep [] ((0 : Int) : Int))), .fact 100030 (Fact.at 30 (Fact.nilv)), .fact 100031 (Fact.at 31 (Fact.nilv)), .fact 100032 (Fact.at 32 (Fact.rep [] ((0 : UInt8) : UInt8))), .fact 100033 (Fact.at 33 (Fact.rep [] (false : Bool))), .fact 100034 (Fact.at 34 (Fact.rep [] ((0 : UInt32) : UInt32))), .fact 100049 (Fact.obj 49 [(false, 1), (false, 1), (false, 1), (false, 1), (false, 1), (false, 1)]), .fact 100028 (Fact.obj 28 [(false, 1), (false, 1), (false, 1), (false, 1), (false, 1), (false, 1)])] _ _
      refine CWalk.ret ?_
      exact Leaf.in2 (j12, j13, j14, j15, j16, j17, j11) hm rfl rfl (HasR.cv (HasR.obj (ls := [(false, 1, Fact.rep [] (j12 : Int)), (false, 1, Fact.ow [58, 68] [59, 70] 46 (j13 : List (List UInt8))), (false, 1, Fact.ow [60, 69] [] 4 (j14 : List Bool)), (false, 1, Fact.rep [] (j15 : UInt8)), (false, 1, Fact.rep [] (j16 : Bool)), (false, 1, Fact.rep [] (j17 : UInt32))]) ty28 rfl rfl (Has.s rfl) rfl (HasGs.cons (HasG.s rfl) (HasGs.cons (HasG.s rfl) (HasGs.cons (HasG.s rfl) (HasGs.cons (HasG.s rfl) (HasGs.cons (HasG.s rfl) (HasGs.cons (HasG.s rfl) HasGs.nil))))))) (Cv.flds (CvL.cons Cv.fl (CvL.cons (Cv.owM (T := [58, 68]) (te := [59, 70]) rfl rfl) (CvL.cons (Cv.owF (T := [60, 69]) (te := []) rfl) (CvL.cons Cv.fl (CvL.cons Cv.fl (CvL.cons Cv.fl CvL.nil)))))))) (HasR.cv (HasR.tmp (Has.s rfl)) Cv.fl) (ls 902008 (Low.res (lf (lg (lg (lf (lf (lf (lo Low.nil)))))))))
     ·refine CWalk.seq ?_
      refine CWalk.region ?_
      refine mv ?_
      refine Walk.inline (S := Int × (List (List UInt8)) × (List Bool) × UInt8) (fun p : Int × (List (List UInt8)) × (List Bool) × UInt8 => [.fact 10 (Fact.isv 49), .fact 12 (Fact.isv 61), .fact 34 (Fact.rep [] (p.1 : Int)), .fact 902008 (Fact.cst (u1 8) (Fact.isv 28)), .fact 100050 (Fact.at 50 (Fact.rep [] ((0 : Int) : Int))), .fact 100051 (Fact.at 51 (Fact.nilv)), .fact 100052 (Fact.at 52 (Fact.nilv)), .fact 100053 (Fact.at 53 (Fact.rep [] ((0 : UInt8) : UInt8))), .fact 100054 (Fact.at 54 (Fact.rep [] (false : Bool))), .fact 100055 (Fact.at 55 (Fact.rep [] ((0 : UInt32) : UInt32))), .fact 100062 (Fact.at 62 (Fact.rep [] (x10.Stripe : Int))), .fact 100063 (Fact.at 63 (Fact.ow [58, 68] [59, 70] 46 (p.2.1 : List (List UInt8)))), .fact 100064 (Fact.at 64 (Fact.ow [60, 69] [] 4 (p.2.2.1 : List Bool))), .fact 100065 (Fact.at 65 (Fact.rep [] (p.2.2.2 : UInt8))), .fact 100066 (Fact.at 66 (Fact.rep [] (x10.Deals : Bool))), .fact 100067 (Fact.at 67 (Fact.rep [] (x10.Seq : UInt32))), .fact 100029 (Fact.at 29 (Fact.rep [] ((0 : Int) : Int))), .fact 100030 (Fact.at 30 (Fact.nilv)), .fact 100031 (Fact.at 31 (Fact.nilv)), .fact 100032 (Fact.at 32 (Fact.rep [] ((0 : UInt8) : UInt8))), .fact 100033 (Fact.at 33 (Fact.rep [] (false : Bool))), .fact 100034 (Fact.at 34 (Fact.rep [] ((0 : UInt32) : UInt32))), .fact 100049 (Fact.obj 49 [(false, 1), (false, 1), (false, 1), (false, 1), (false, 1), (false, 1)]), .fact 100061 (Fact.obj 61 [(false, 1), (false, 1), (false, 1), (false, 1), (false, 1), (false, 1)]), .fact 100028 (Fact.obj 28 [(false, 1), (false, 1), (false, 1), (false, 1), (false, 1), (false, 1)])]) (fun p : Int × (List (List UInt8)) × (List Bool) × UInt8 => head_Take_J3 x10 p.1 p.2.1 p.2.2.1 p.2.2.2 = some r) (fun u2 => [.fact 100011 (Fact.at 11 (Fact.rep [] (a0.Id : UInt32))), .fact 100012 (Fact.at 12 (Fact.rep [] (a0.Members : Int))), .fact 100013 (Fact.at 13 (Fact.rep [] (a0.Chunk : Int))), .fact 100014 (Fact.at 14 (Fact.rep [] (a0.Rows : Int))), .fact 100015 (Fact.at 15 (Fact.rep [] (a0.Log : Int))), .fact 100016 (Fact.at 16 (Fact.rep [] (a0.Heads : Int))), .fact 100025 (Fact.at 25 (Fact.rep [] (a2 : Int))), .fact 100027 (Fact.at 27 (Fact.rep [0] (a3 : List UInt8))), .fact 100029 (Fact.at 29 (Fact.rep [] ((0 : Int) : Int))), .fact 100030 (Fact.at 30 (Fact.nilv)), .fact 100031 (Fact.at 31 (Fact.nilv)), .fact 100032 (Fact.at 32 (Fact.rep [] ((0 : UInt8) : UInt8))), .fact 100033 (Fact.at 33 (Fact.rep [] (false : Bool))), .fact 100034 (Fact.at 34 (Fact.rep [] ((0 : UInt32) : UInt32))), .fact 100050 (Fact.at 50 (Fact.rep [] ((0 : Int) : Int))), .fact 100051 (Fact.at 51 (Fact.nilv)), .fact 100052 (Fact.at 52 (Fact.nilv)), .fact 100053 (Fact.at 53 (Fact.rep [] ((0 : UInt8) : UInt8))), .fact 100054 (Fact.at 54 (Fact.rep [] (false : Bool))), .fact 100055 (Fact.at 55 (Fact.rep [] ((0 : UInt32) : UInt32))), .fact 100062 (Fact.at 62 (Fact.rep [] (x10.Stripe : Int))), .fact 100063 (Fact.at 63 (Fact.ow [58] [59] 46 (x10.Blocks : List (List UInt8)))), .fact 100064 (Fact.at 64 (Fact.ow [60] [] 4 (x10.Dirty : List Bool))), .fact 100065 (Fact.at 65 (Fact.rep [] (x10.Phase : UInt8))), .fact 100066 (Fact.at 66 (Fact.rep [] (x10.Deals : Bool))), .fact 100067 (Fact.at 67 (Fact.rep [] (x10.Seq : UInt32))), .fact 902008 (Fact.cst (u1 8) (Fact.isv 28)), .fact 904010 (Fact.cst (u2 10) (Fact.isv 49)), .fact 904012 (Fact.cst (u2 12) (Fact.isv 61)), .fact 100010 (Fact.obj 10 [(false, 1), (false, 1), (false, 1), (false, 1), (false, 1), (false, 1)]), .fact 100024 (Fact.obj 24 [(false, 1)]), .fact 100026 (Fact.obj 26 [(false, 1)]), .fact 100028 (Fact.obj 28 [(false, 1), (false, 1), (false, 1), (false, 1), (false, 1), (false, 1)]), .fact 100049 (Fact.obj 49 [(false, 1), (false, 1), (false, 1), (false, 1), (false, 1), (false, 1)]), .fact 100061 (Fact.obj 61 [(false, 1), (false, 1), (false, 1), (false, 1), (false, 1), (false, 1)])]) (FA := [Fact.isv 61, Fact.isv 10, Fact.isv 26, Fact.isv 24]) rfl Try.func48 rfl rfl rfl (CallOk.valE en48 (Has.s rfl) (HasF.cons (Has.s rfl) HasF.nil)) (fun u2 => (ck (ck (ck (ck (ck (ck (ck (ck (ck (ck (ck (ck (ck (ck (ck (ck (ck (ck (ck (ck (ck (ck (ck (ck (ck (ck (ck (cs 904000 10 (cs 904000 12 (ck (ck (ck (ck (ck (ck Carry.nil)))))))))))))))))))))))))))))))))))) (fun u2 => ?_) ?_
      ·refine CWalk.seq ?_
       refine CWalk.region ?_
       refine wo (Spec.assign Has.int) ?_
       refine Walk.nil ?_
       refine Leaf.thenN ?_
       refine CWalk.seq ?_
       refine CWalk.seq ?_
       refine CWalk.region ?_
       refine mv ?_
       refine wo (Spec.nilCheckI (Has.s rfl) rfl) ?_
       refine wo (Spec.fieldAddrO fd28_3 (Has.cv (Has.s rfl) (Cv.isvP rfl))) ?_
       refine wo (Spec.loadF (i := 3) ty5 rfl (Has.s rfl) rfl (HasG.s rfl)) ?_
       refine wo (Spec.gtrN (α := UInt8) (Has.s rfl) (Has.u8 1 rfl)) ?_
       refine Walk.nil ?_
       refine Leaf.thenN ?_
       refine CWalk.cond rfl (fun hb => ?_) (fun hb => ?_)
       ·have hm := cond_t hb hm
        refine CWalk.seq ?_
        refine CWalk.region ?_
        refine wo (Spec.assign Has.int) ?_
        refine Walk.nil ?_
        refine Leaf.thenN ?_
        refine CWalk.ret ?_
        refine Leaf.thenR ?_
        exact Leaf.in1 ((160 : Int), x10.Blocks, x10.Dirty, x10.Phase) hm rfl rfl (HasR.cv (HasR.tmp (Has.s rfl)) Cv.fl) (ls 904010 (ls 904012 (Low.res (lc (lf (lg (lg (lf (lf (lf (lf (Low.keepG (HasG.cv (HasG.s rfl) (Cv.owM (T := [58]) (te := [59]) rfl rfl)) (Low.keepG (HasG.cv (HasG.s rfl) (Cv.owF (T := [60]) (te := []) rfl)) (lf (lf (lf (lf (lg (lg (lf (lf (lf (lo (lo (lo Low.nil)))))))))))))))))))))))))
       ·have hm := cond_f hb hm
        refine CWalk.skip ?_
        refine Leaf.thenN ?_
        refine CWalk.seq ?_
        refine CWalk.region ?_
        refine mv ?_
        refine wo (Spec.nilCheckI (Has.s rfl) rfl) ?_
        refine wo (Spec.fieldAddrO fd28_3 (Has.cv (Has.s rfl) (Cv.isvP rfl))) ?_
        refine ws (Step.storeF (i := 3) (f := Fact.rep [] ((0 : UInt8) : UInt8)) rfl ty5 rfl (Has.s rfl) rfl (Has.u8 0 rfl) (Has.u8 0 rfl) rfl) ?_
        refine Walk.nil ?_
        refine Leaf.thenN ?_
        refine CWalk.seq ?_
        refine CWalk.ad (Ad.owF (i := 63) 68 rfl rfl rfl (ElT.tags rfl) rfl (Cv.owM (T := [58]) (te := [59]) (T' := [58]) (te' := [59]) rfl rfl)) ?_
        obtain ⟨x22, hx22, hm⟩ := bind_some hm
        refine CWalk.drawM [[], [0], [0, 1], [0, 1, 2], [], [4], [4, 5], [0, 1, 2, 3, 4, 5, 6], [0, 1, 2, 3, 4, 5, 6, 7]] [[.fact 14 (Fact.isv 61)], [.fact 15 (Fact.isv 61)], [.fact 16 (Fact.pto 61 1)], [.fact 17 (Fact.isv 68)], [.fact 18 (Fact.pto 10 1)], [.fact 19 (Fact.rep [] (a0.Members : Int))], [.fact 20 (Fact.rep [] ((wI (a0.Members - (1 : Int))) : Int))], [.fact 21 (Fact.pto 68 (x22 * Rp.n (List UInt8)))], [.fact 100068 (Fact.own 68 [59] 46 ((x10.Blocks).set x22 ([] : List UInt8) : List (List UInt8))), .kill 68]] mixed (by kernel_rfl) (ao (so (Spec.move (Has.s rfl))) (ao (so (Spec.nilCheckI (Has.s rfl) rfl)) (ao (so (Spec.fieldAddrO fd28_1 (Has.cv (Has.s rfl) (Cv.isvP rfl)))) (ao (so (Spec.loadF (i := 1) ty25 rfl (Has.s rfl) rfl (HasG.s rfl))) (ao (so (Spec.fieldAddrO fd24_1 (Has.cv (Has.s rfl) (Cv.isvP rfl)))) (ao (so (Spec.loadF (i := 1) ty3 rfl (Has.s rfl) rfl (HasG.s rfl))) (ao (so (Spec.subI (Has.s rfl) Has.int)) (ao (so (Spec.idxOwn hx22 ow25 (Has.s rfl) rfl (Has.s rfl))) (ao (StepG.stE (Step.storeOwn (te' := [59]) rfl (bnd_lt hx22 rfl) ty46 (Has.s rfl) rfl (Has.nil UInt8) (ElKeep.tags rfl rfl) (ElKeep.tags rfl rfl))) AllM.nil))))))))) ?_
        refine Leaf.thenN ?_
        refine CWalk.seq ?_
        refine CWalk.ad (Ad.owF (i := 64) 69 rfl rfl rfl ElT.flat rfl (Cv.owF (T := [60]) (te := []) (T' := [60]) (te' := []) rfl)) ?_
        obtain ⟨x23, hx23, hm⟩ := bind_some hm
        obtain ⟨x24, hx24, hm⟩ := bind_some hm
        obtain ⟨x25, hx25, hm⟩ := bind_some hm
        refine CWalk.drawM [[], [0], [0, 1], [0, 1, 2], [], [], [5], [5, 6], [5, 6, 7], [], [], [10], [0, 1, 2, 3, 4, 5, 6, 7, 8, 10, 11], [0, 1, 2, 3, 4, 5, 6, 7, 8, 10, 11, 12], [0, 1, 2, 3, 4, 5, 6, 7, 8, 9, 10, 11, 12, 13], [0, 1, 2, 3, 4, 5, 6, 7, 8, 9, 10, 11, 12, 13, 14]] [[.fact 22 (Fact.isv 61)], [.fact 23 (Fact.isv 61)], [.fact 24 (Fact.pto 61 1)], [.fact 25 (Fact.isv 68)], [.fact 26 (Fact.rep [] (a2 : Int))], [.fact 27 (Fact.isv 61)], [.fact 28 (Fact.isv 61)], [.fact 29 (Fact.pto 61 2)], [.fact 30 (Fact.isv 69)], [.fact 31 (Fact.rep [] (a2 : Int))], [.fact 32 (Fact.rep [0] (a3 : List UInt8))], [.fact 33 (Fact.ow [70] [] 5 (x23 : List UInt8))], [.fact 34 (Fact.pto 68 (x24 * Rp.n (List UInt8)))], [.fact 100068 (Fact.own 68 [59, 70] 46 (((x10.Blocks).set x22 ([] : List UInt8)).set x24 x23 : List (List UInt8))), .kill 68], [.fact 35 (Fact.pto 69 (x25 * Rp.n Bool))], [.fact 100069 (Fact.own 69 [] 4 ((x10.Dirty).set x25 true : List Bool)), .kill 69]] mixed (by kernel_rfl) (ao (so (Spec.move (Has.s rfl))) (ao (so (Spec.nilCheckI (Has.s rfl) rfl)) (ao (so (Spec.fieldAddrO fd28_1 (Has.cv (Has.s rfl) (Cv.isvP rfl)))) (ao (so (Spec.loadF (i := 1) ty25 rfl (Has.s rfl) rfl (HasG.s rfl))) (ao (so (Spec.loadF (i := 0) ty3 rfl (Has.cv (Has.s rfl) (Cv.isvP rfl)) rfl (HasG.s rfl))) (ao (so (Spec.move (Has.s rfl))) (ao (so (Spec.nilCheckI (Has.s rfl) rfl)) (ao (so (Spec.fieldAddrO fd28_2 (Has.cv (Has.s rfl) (Cv.isvP rfl)))) (ao (so (Spec.loadF (i := 2) ty26 rfl (Has.s rfl) rfl (HasG.s rfl))) (ao (so (Spec.loadF (i := 0) ty3 rfl (Has.cv (Has.s rfl) (Cv.isvP rfl)) rfl (HasG.s rfl))) (ao (so (Spec.loadF (i := 0) ty46 rfl (Has.cv (Has.s rfl) (Cv.isvP rfl)) rfl (HasG.s rfl))) (ao (so (Spec.callE [0] 70 rfl en47 (head_block_c a3 hx23) (HasAll.cons (Has.m (Has.s rfl) rfl) HasAll.nil))) (ao (so (Spec.idxOwn hx24 ow25 (Has.s rfl) rfl (Has.s rfl))) (ao (StepG.stE (Step.storeOwn (te' := [59, 70]) rfl (bnd_lt hx24 rfl) ty46 (Has.s rfl) rfl (Has.cv (Has.s rfl) (Cv.trans Cv.owSl (Cv.slRep (T' := [70]) rfl rfl))) (ElKeep.tags rfl rfl) (ElKeep.tags rfl rfl))) (ao (so (Spec.idxOwn hx25 ow26 (Has.s rfl) rfl (Has.s rfl))) (ao (StepG.stE (Step.storeOwn (te' := []) rfl (bnd_lt hx25 rfl) ty4 (Has.s rfl) rfl Has.bool ElKeep.flat ElKeep.flat)) AllM.nil)))))))))))))))) ?_
        refine Leaf.thenN ?_
        refine CWalk.seq ?_
        refine CWalk.region ?_
        refine wo (Spec.assign Has.int) ?_
        refine Walk.nil ?_
        refine Leaf.thenN ?_
        refine CWalk.ret ?_
        exact Leaf.in1 ((0 : Int), ((x10.Blocks).set x22 ([] : List UInt8)).set x24 x23, (x10.Dirty).set x25 true, (0 : UInt8)) hm rfl rfl (HasR.cv (HasR.tmp (Has.s rfl)) Cv.fl) (ls 904010 (ls 904012 (Low.res (lc (lf (lg (lg (lf (lf (lf (lf (Low.keepG (HasG.cv (HasG.s rfl) (Cv.trans (Cv.isvOw rfl) (Cv.owM (T := [68]) (te := [59, 70]) rfl rfl))) (Low.keepG (HasG.cv (HasG.s rfl) (Cv.trans (Cv.isvOw rfl) (Cv.owF (T := [69]) (te := []) rfl))) (lf (lf (lf (lf (lg (lg (lf (lf (lf (lo (lo (lo Low.nil)))))))))))))))))))))))))
      ·rintro ⟨j18, j19, j20, j21⟩ hm
       replace hm : head_Take_J3 x10 j18 j19 j20 j21 = some r := hm
       unfold head_Take_J3 at hm
       show Walk _ _ _ [.fact 10 (Fact.isv 49), .fact 12 (Fact.isv 61), .fact 34 (Fact.rep [] (j18 : Int)), .fact 902008 (Fact.cst (u1 8) (Fact.isv 28)), .fact 100050 (Fact.at 50 (Fact.rep [] ((0 : Int) : Int))), .fact 100051 (Fact.at 51 (Fact.nilv)), .fact 100052 (Fact.at 52 (Fact.nilv)), .fact 100053 (Fact.at 53 (Fact.rep [] ((0 : UInt8) : UInt8))), .fact 100054 (Fact.at 54 (Fact.rep [] (false : Bool))), .fact 100055 (Fact.at 55 (Fact.rep [] ((0 : UInt32) : UInt32))), .fact 100062 (Fact.at 62 (Fact.rep [] (x10.Stripe : Int))), .fact 100063 (Fact.at 63 (Fact.ow [58, 68] [59, 70] 46 (j19 : List (List UInt8)))), .fact 100064 (Fact.at 64 (Fact.ow [60, 69] [] 4 (j20 : List Bool))), .fact 100065 (Fact.at 65 (Fact.rep [] (j21 : UInt8))), .fact 100066 (Fact.at 66 (Fact.rep [] (x10.Deals : Bool))), .fact 100067 (Fact.at 67 (Fact.rep [] (x10.Seq : UInt32))), .fact 100029 (Fact.at 29 (Fact.rep [] ((0 : Int) : Int))), .fact 100030 (Fact.at 30 (Fact.nilv)), .fact 100031 (Fact.at 31 (Fact.nilv)), .fact 100032 (Fact.at 32 (Fact.rep [] ((0 : UInt8) : UInt8))), .fact 100033 (Fact.at 33 (Fact.rep [] (false : Bool))), .fact 100034 (Fact.at 34 (Fact.rep [] ((0 : UInt32) : UInt32))), .fact 100049 (Fact.obj 49 [(false, 1), (false, 1), (false, 1), (false, 1), (false, 1), (false, 1)]), .fact 100061 (Fact.obj 61 [(false, 1), (false, 1), (false, 1), (false, 1), (false, 1), (false, 1)]), .fact 100028 (Fact.obj 28 [(false, 1), (false, 1), (false, 1), (false, 1), (false, 1), (false, 1)])] _
       refine wo (Spec.assign (Has.s rfl)) ?_
       refine Walk.nil ?_
       refine Leaf.thenN ?_
       refine CWalk.seq ?_
       refine CWalk.region ?_
       refine mv ?_
       refine wo (Spec.eqlI (Has.s rfl) Has.int) ?_
       refine Walk.nil ?_
       refine Leaf.thenN ?_
       refine CWalk.cond rfl (fun hb => ?_) (fun hb => ?_)
       ·have hm := cond_t hb hm
        refine CWalk.region ?_
        refine wo (Spec.loadObj (ls := [(false, 1, Fact.rep [] (x10.Stripe : Int)), (false, 1, Fact.ow [58, 68] [59, 70] 46 (j19 : List (List UInt8))), (false, 1, Fact.ow [60, 69] [] 4 (j20 : List Bool)), (false, 1, Fact.rep [] (j21 : UInt8)), (false, 1, Fact.rep [] (x10.Deals : Bool)), (false, 1, Fact.rep [] (x10.Seq : UInt32))]) ty28 rfl rfl (Has.s rfl) rfl (HasGs.cons (HasG.s rfl) (HasGs.cons (HasG.s rfl) (HasGs.cons (HasG.s rfl) (HasGs.cons (HasG.s rfl) (HasGs.cons (HasG.s rfl) (HasGs.cons (HasG.s rfl) HasGs.nil))))))) ?_
        refine ws (Step.storeObj (ls := [(false, 1, Fact.rep [] (x10.Stripe : Int)), (false, 1, Fact.ow [58, 68] [59, 70] 46 (j19 : List (List UInt8))), (false, 1, Fact.ow [60, 69] [] 4 (j20 : List Bool)), (false, 1, Fact.rep [] (j21 : UInt8)), (false, 1, Fact.rep [] (x10.Deals : Bool)), (false, 1, Fact.rep [] (x10.Seq : UInt32))]) rfl ty28 rfl rfl (Has.s rfl) rfl (HasL.flds (Has.s rfl)) rfl) ?_
        refine Walk.nil ?_
        exact Leaf.join (j18, x10.Stripe, j19, j20, j21, x10.Deals, x10.Seq) hm (sn (st (sc (sf (Sub.cons (Has.at (HasG.cv (HasG.s rfl) (Cv.owM (T := [58, 68]) (te := [59, 70]) rfl rfl))) (Sub.cons (Has.at (HasG.cv (HasG.s rfl) (Cv.owF (T := [60, 69]) (te := []) rfl))) (sf (sf (sf (sf (sg (sg (sf (sf (sf (sn (sn Sub.nil)))))))))))))))))
       ·have hm := cond_f hb hm
        refine CWalk.skip ?_
        exact Leaf.join (j18, (0 : Int), ([] : List (List UInt8)), ([] : List Bool), (0 : UInt8), false, (0 : UInt32)) hm (sn (st (sc (sf (Sub.cons (Has.at (HasG.cv (HasG.s rfl) (Cv.trans Cv.nilOw (Cv.owM (T := []) (te := []) rfl rfl)))) (Sub.cons (Has.at (HasG.cv (HasG.s rfl) (Cv.trans Cv.nilOw (Cv.owF (T := []) (te := []) rfl)))) (sf (sf (sf (sf (sg (sg (sf (sf (sf (sn (sn Sub.nil)))))))))))))))))
 ·rintro ⟨j1, j2, j3, j4, j5, j6, j7⟩ hm
  replace hm : head_Take_J1 j1 j2 j3 j4 j5 j6 j7 = some r := hm
  unfold head_Take_J1 at hm
  show Walk _ _ _ [.fact 8 (Fact.isv 28), .fact 15 (Fact.tup2 (Fact.flds [(false, 1, Fact.rep [] (j1 : Int)), (false, 1, Fact.ow [58, 68] [59, 70] 46 (j2 : List (List UInt8))), (false, 1, Fact.ow [60, 69] [] 4 (j3 : List Bool)), (false, 1, Fact.rep [] (j4 : UInt8)), (false, 1, Fact.rep [] (j5 : Bool)), (false, 1, Fact.rep [] (j6 : UInt32))]) (Fact.rep [] (j7 : Int))), .fact 100029 (Fact.at 29 (Fact.rep [] ((0 : Int) : Int))), .fact 100030 (Fact.at 30 (Fact.nilv)), .fact 100031 (Fact.at 31 (Fact.nilv)), .fact 100032 (Fact.at 32 (Fact.rep [] ((0 : UInt8) : UInt8))), .fact 100033 (Fact.at 33 (Fact.rep [] (false : Bool))), .fact 100034 (Fact.at 34 (Fact.rep [] ((0 : UInt32) : UInt32))), .fact 100028 (Fact.obj 28 [(false, 1), (false, 1), (false, 1), (false, 1), (false, 1), (false, 1)])] _
  refine wo (Spec.ext0 (Has.s rfl)) ?_
  refine wo (Spec.ext1 (Has.s rfl)) ?_
  refine ws (Step.storeObj (ls := [(false, 1, Fact.rep [] (j1 : Int)), (false, 1, Fact.ow [58, 68] [59, 70] 46 (j2 : List (List UInt8))), (false, 1, Fact.ow [60, 69] [] 4 (j3 : List Bool)), (false, 1, Fact.rep [] (j4 : UInt8)), (false, 1, Fact.rep [] (j5 : Bool)), (false, 1, Fact.rep [] (j6 : UInt32))]) rfl ty28 rfl rfl (Has.s rfl) rfl (HasL.flds (Has.s rfl)) rfl) ?_
  refine wo (Spec.assign (Has.s rfl)) ?_
  refine Walk.nil ?_
  refine Leaf.thenN ?_
  refine CWalk.ret ?_
  obtain rfl := Option.some.inj hm
  exact Leaf.retC2 rfl (HasR.cv (HasR.obj (ls := [(false, 1, Fact.rep [] (j1 : Int)), (false, 1, Fact.ow [58, 68] [59, 70] 46 (j2 : List (List UInt8))), (false, 1, Fact.ow [60, 69] [] 4 (j3 : List Bool)), (false, 1, Fact.rep [] (j4 : UInt8)), (false, 1, Fact.rep [] (j5 : Bool)), (false, 1, Fact.rep [] (j6 : UInt32))]) ty28 rfl rfl (Has.s rfl) rfl (HasGs.cons (HasG.s rfl) (HasGs.cons (HasG.s rfl) (HasGs.cons (HasG.s rfl) (HasGs.cons (HasG.s rfl) (HasGs.cons (HasG.s rfl) (HasGs.cons (HasG.s rfl) HasGs.nil))))))) (Cv.flds (CvL.cons Cv.fl (CvL.cons (Cv.owM (T := [58, 68]) (te := [59, 70]) rfl rfl) (CvL.cons (Cv.owF (T := [60, 69]) (te := []) rfl) (CvL.cons Cv.fl (CvL.cons Cv.fl (CvL.cons Cv.fl CvL.nil)))))))) (HasR.cv (HasR.tmp (Has.s rfl)) Cv.fl)

def law17_with_J2 (s3 : Int) (j11 : Int) (j12 : List (List UInt8)) (j13 : List Bool) (j14 : UInt8) (j15 : Bool) (j16 : UInt32) : Option (Ctl (Int × Int × (List (List UInt8)) × (List Bool) × UInt8 × Bool × UInt32) (Int × (List (List UInt8)) × (List Bool) × UInt8 × Bool × UInt32)) :=
  some (Ctl.next ((wI (s3 + (1 : Int))), j11, j12, j13, j14, j15, j16))
def law17_with_J3 (s3 : Int) (s4 : Int) (s5 : List (List UInt8)) (s6 : List Bool) (s7 : UInt8) (s8 : Bool) (s9 : UInt32) (j19 : Int) (j20 : Int) (j21 : List (List UInt8)) (j22 : List Bool) (j23 : UInt8) (j24 : Bool) (j25 : UInt32) : Option (Ctl (Int × Int × (List (List UInt8)) × (List Bool) × UInt8 × Bool × UInt32) (Int × (List (List UInt8)) × (List Bool) × UInt8 × Bool × UInt32)) :=
  (bif (j19 == (0 : Int)) then (law17_with_J2 s3 j20 j21 j22 j23 j24 j25) else (law17_with_J2 s3 s4 s5 s6 s7 s8 s9))
def law17_with_L1 (a0 : Int) (a1 : Int) (s3 : Int) (s4 : Int) (s5 : List (List UInt8)) (s6 : List Bool) (s7 : UInt8) (s8 : Bool) (s9 : UInt32) : Option (Ctl (Int × Int × (List (List UInt8)) × (List Bool) × UInt8 × Bool × UInt32) (Int × (List (List UInt8)) × (List Bool) × UInt8 × Bool × UInt32)) :=
  (bif ((decide (s3 < (wI (a0 + a1)))) && (decide (s3 < (4 : Int)))) then Option.bind (law17_five) (fun x17 => Option.bind (head_Know x17 (Head.mk s4 s5 s6 s7 s8 s9) s3 ([] : List UInt8)) (fun x18 => (bif (decide (s3 < a0)) then Option.bind (law17_five) (fun x26 => Option.bind (head_Take x26 (Head.mk s4 s5 s6 s7 s8 s9) s3 ([] : List UInt8)) (fun x27 => (law17_with_J3 s3 s4 s5 s6 s7 s8 s9 x27.2 x27.1.Stripe x27.1.Blocks x27.1.Dirty x27.1.Phase x27.1.Deals x27.1.Seq))) else (law17_with_J3 s3 s4 s5 s6 s7 s8 s9 x18.2 x18.1.Stripe x18.1.Blocks x18.1.Dirty x18.1.Phase x18.1.Deals x18.1.Seq)))) else some (Ctl.brk (s4, s5, s6, s7, s8, s9)))
/-- freeboard/freeboardlaw17.with -/
def law17_with (a0 : Int) (a1 : Int) : Option (Head) :=
  Option.bind (law17_five) (fun x1 => Option.bind (head_New x1 (0 : Int)) (fun x2 => Option.bind (loopM (fun s : Int × Int × (List (List UInt8)) × (List Bool) × UInt8 × Bool × UInt32 => law17_with_L1 a0 a1 s.1 s.2.1 s.2.2.1 s.2.2.2.1 s.2.2.2.2.1 s.2.2.2.2.2.1 s.2.2.2.2.2.2) FUEL ((0 : Int), x2.1.Stripe, x2.1.Blocks, x2.1.Dirty, x2.1.Phase, x2.1.Deals, x2.1.Seq)) (fun b28 => some (Head.mk b28.1 b28.2.1 b28.2.2.1 b28.2.2.2.1 b28.2.2.2.2.1 b28.2.2.2.2.2))))
set_option maxRecDepth 100000 in
set_option maxHeartbeats 2000000 in
theorem law17_with_c (a0 : Int) (a1 : Int) {r : Head} (hm : law17_with a0 a1 = some r) : Ctr Try.prog 14 [.rep 0 a0, .rep 0 a1] (.flds [(false, 1, (.fl r.Stripe)), (false, 1, (.own 0 (some 1) 46 r.Blocks)), (false, 1, (.own 2 none 4 r.Dirty)), (false, 1, (.fl r.Phase)), (false, 1, (.fl r.Deals)), (false, 1, (.fl r.Seq))]) [] := by
 refine ctr_of_walk [[18, 28, 39], [29, 40], [19, 30, 41]] 47 Try.func14 rfl rfl rfl rfl (fun w0 om => ?_)
 unfold law17_with at hm
 refine CWalk.sub (G' := [.fact 0 (Fact.rep [] (a0 : Int)), .fact 1 (Fact.rep [] (a1 : Int))]) (Sub.cons (Has.fl (Has.s rfl)) (Sub.cons (Has.fl (Has.s rfl)) Sub.nil)) ?_
 refine CWalk.seq ?_
 refine CWalk.region ?_
 refine ws (Step.allocObj (ls := [(false, 1, Fact.rep [] ((0 : Int) : Int)), (false, 1, Fact.nilv), (false, 1, Fact.nilv), (false, 1, Fact.rep [] ((0 : UInt8) : UInt8)), (false, 1, Fact.rep [] (false : Bool)), (false, 1, Fact.rep [] ((0 : UInt32) : UInt32))]) 10 rfl rfl rfl rfl zl28) ?_
 refine Walk.nil ?_
 refine Leaf.thenN ?_
 refine CWalk.seq ?_
 refine CWalk.region ?_
 obtain ⟨x1, hx1, hm⟩ := bind_some hm
 refine wo (f := Fact.rep [] (x1 : Config)) (Spec.callE [] 17 rfl en13 (law17_five_c  hx1) HasAll.nil) ?_
 obtain ⟨x2, hx2, hm⟩ := bind_some hm
 refine wo (f := Fact.tup2 (Fact.flds [(false, 1, Fact.rep [] (x2.1.Stripe : Int)), (false, 1, Fact.ow [18] [] 46 (x2.1.Blocks : List (List UInt8))), (false, 1, Fact.ow [19] [] 4 (x2.1.Dirty : List Bool)), (false, 1, Fact.rep [] (x2.1.Phase : UInt8)), (false, 1, Fact.rep [] (x2.1.Deals : Bool)), (false, 1, Fact.rep [] (x2.1.Seq : UInt32))]) (Fact.rep [] (x2.2 : Int))) (Spec.callE [] 18 rfl en28 (head_New_c x1 (0 : Int) hx2) (HasAll.cons (Has.fl (Has.s rfl)) (HasAll.cons (Has.fl Has.int) HasAll.nil))) ?_
 refine mv ?_
 refine wo (Spec.ext0 (Has.s rfl)) ?_
 refine wo (Spec.ext1 (Has.s rfl)) ?_
 refine ws (Step.allocObj (ls := [(false, 1, Fact.rep [] ((0 : Int) : Int)), (false, 1, Fact.nilv), (false, 1, Fact.nilv), (false, 1, Fact.rep [] ((0 : UInt8) : UInt8)), (false, 1, Fact.rep [] (false : Bool)), (false, 1, Fact.rep [] ((0 : UInt32) : UInt32))]) 20 rfl rfl rfl rfl zl28) ?_
 refine ws (Step.storeObj (ls := [(false, 1, Fact.rep [] (x2.1.Stripe : Int)), (false, 1, Fact.ow [18] [] 46 (x2.1.Blocks : List (List UInt8))), (false, 1, Fact.ow [19] [] 4 (x2.1.Dirty : List Bool)), (false, 1, Fact.rep [] (x2.1.Phase : UInt8)), (false, 1, Fact.rep [] (x2.1.Deals : Bool)), (false, 1, Fact.rep [] (x2.1.Seq : UInt32))]) rfl ty28 rfl rfl (Has.s rfl) rfl (HasL.flds (Has.s rfl)) rfl) ?_
 refine wo (Spec.assign (Has.s rfl)) ?_
 refine Walk.nil ?_
 refine Leaf.thenN ?_
 refine CWalk.seq ?_
 refine CWalk.seq ?_
 refine CWalk.region ?_
 refine wo (Spec.assign Has.int) ?_
 refine Walk.nil ?_
 refine Leaf.thenN ?_
 refine CWalk.block ?_
 obtain ⟨b28, hb28, hm⟩ := bind_some hm
 refine CWalk.loop (fun s : Int × Int × (List (List UInt8)) × (List Bool) × UInt8 × Bool × UInt32 => [.fact 0 (Fact.rep [] (a0 : Int)), .fact 1 (Fact.rep [] (a1 : Int)), .fact 4 (Fact.isv 10), .fact 5 (Fact.isv 20), .fact 7 (Fact.rep [] (s.1 : Int)), .fact 100011 (Fact.at 11 (Fact.rep [] ((0 : Int) : Int))), .fact 100012 (Fact.at 12 (Fact.nilv)), .fact 100013 (Fact.at 13 (Fact.nilv)), .fact 100014 (Fact.at 14 (Fact.rep [] ((0 : UInt8) : UInt8))), .fact 100015 (Fact.at 15 (Fact.rep [] (false : Bool))), .fact 100016 (Fact.at 16 (Fact.rep [] ((0 : UInt32) : UInt32))), .fact 100021 (Fact.at 21 (Fact.rep [] (s.2.1 : Int))), .fact 100022 (Fact.at 22 (Fact.ow [18, 28, 39] [29, 40] 46 (s.2.2.1 : List (List UInt8)))), .fact 100023 (Fact.at 23 (Fact.ow [19, 30, 41] [] 4 (s.2.2.2.1 : List Bool))), .fact 100024 (Fact.at 24 (Fact.rep [] (s.2.2.2.2.1 : UInt8))), .fact 100025 (Fact.at 25 (Fact.rep [] (s.2.2.2.2.2.1 : Bool))), .fact 100026 (Fact.at 26 (Fact.rep [] (s.2.2.2.2.2.2 : UInt32))), .fact 100010 (Fact.obj 10 [(false, 1), (false, 1), (false, 1), (false, 1), (false, 1), (false, 1)]), .fact 100020 (Fact.obj 20 [(false, 1), (false, 1), (false, 1), (false, 1), (false, 1), (false, 1)])]) (fun b : Int × (List (List UInt8)) × (List Bool) × UInt8 × Bool × UInt32 => (Exit.exit 0, [.fact 4 (Fact.isv 10), .fact 5 (Fact.isv 20), .fact 100011 (Fact.at 11 (Fact.rep [] ((0 : Int) : Int))), .fact 100012 (Fact.at 12 (Fact.nilv)), .fact 100013 (Fact.at 13 (Fact.nilv)), .fact 100014 (Fact.at 14 (Fact.rep [] ((0 : UInt8) : UInt8))), .fact 100015 (Fact.at 15 (Fact.rep [] (false : Bool))), .fact 100016 (Fact.at 16 (Fact.rep [] ((0 : UInt32) : UInt32))), .fact 100021 (Fact.at 21 (Fact.rep [] (b.1 : Int))), .fact 100022 (Fact.at 22 (Fact.ow [18, 28, 39] [29, 40] 46 (b.2.1 : List (List UInt8)))), .fact 100023 (Fact.at 23 (Fact.ow [19, 30, 41] [] 4 (b.2.2.1 : List Bool))), .fact 100024 (Fact.at 24 (Fact.rep [] (b.2.2.2.1 : UInt8))), .fact 100025 (Fact.at 25 (Fact.rep [] (b.2.2.2.2.1 : Bool))), .fact 100026 (Fact.at 26 (Fact.rep [] (b.2.2.2.2.2 : UInt32))), .fact 100010 (Fact.obj 10 [(false, 1), (false, 1), (false, 1), (false, 1), (false, 1), (false, 1)]), .fact 100020 (Fact.obj 20 [(false, 1), (false, 1), (false, 1), (false, 1), (false, 1), (false, 1)])])) hb28 (st (st (sn (sn (st (sf (sg (sg (sf (sf (sf (sf (Sub.cons (Has.at (HasG.cv (HasG.s rfl) (Cv.owM (T := [18]) (te := []) rfl rfl))) (Sub.cons (Has.at (HasG.cv (HasG.s rfl) (Cv.owF (T := [19]) (te := []) rfl))) (sf (sf (sf (sn (sn Sub.nil))))))))))))))))))) ?_ ?_
 ·rintro ⟨s3, s4, s5, s6, s7, s8, s9⟩ c10 hm
  replace hm : law17_with_L1 a0 a1 s3 s4 s5 s6 s7 s8 s9 = some c10 := hm
  unfold law17_with_L1 at hm
  show CWalk _ [.fact 0 (Fact.rep [] (a0 : Int)), .fact 1 (Fact.rep [] (a1 : Int)), .fact 4 (Fact.isv 10), .fact 5 (Fact.isv 20), .fact 7 (Fact.rep [] (s3 : Int)), .fact 100011 (Fact.at 11 (Fact.rep [] ((0 : Int) : Int))), .fact 100012 (Fact.at 12 (Fact.nilv)), .fact 100013 (Fact.at 13 (Fact.nilv)), .fact 100014 (Fact.at 14 (Fact.rep [] ((0 : UInt8) : UInt8))), .fact 100015 (Fact.at 15 (Fact.rep [] (false : Bool))), .fact 100016 (Fact.at 16 (Fact.rep [] ((0 : UInt32) : UInt32))), .fact 100021 (Fact.at 21 (Fact.rep [] (s4 : Int))), .fact 100022 (Fact.at 22 (Fact.ow [18, 28, 39] [29, 40] 46 (s5 : List (List UInt8)))), .fact 100023 (Fact.at 23 (Fact.ow [19, 30, 41] [] 4 (s6 : List Bool))), .fact 100024 (Fact.at 24 (Fact.rep [] (s7 : UInt8))), .fact 100025 (Fact.at 25 (Fact.rep [] (s8 : Bool))), .fact 100026 (Fact.at 26 (Fact.rep [] (s9 : UInt32))), .fact 100010 (Fact.obj 10 [(false, 1), (false, 1), (false, 1), (false, 1), (false, 1), (false, 1)]), .fact 100020 (Fact.obj 20 [(false, 1), (false, 1), (false, 1), (false, 1), (false, 1), (false, 1)])] _ _
  refine CWalk.seq ?_
  refine CWalk.seq ?_
  refine CWalk.region ?_
  refine mv ?_
  refine mv ?_
  refine mv ?_
  refine wo (Spec.addI (Has.s rfl) (Has.s rfl)) ?_
  refine wo (Spec.lssI (Has.s rfl) (Has.s rfl)) ?_
  refine mv ?_
  refine wg rfl rfl (fun hb => Spec.move (Has.s rfl)) ?_
  refine wg rfl rfl (fun hb => Spec.lssI (Has.u rfl hb) Has.int) ?_
  refine wo (Spec.and (Has.s rfl) (fun h => Has.u rfl h)) ?_
  refine Walk.nil ?_
  refine Leaf.thenN ?_
  refine CWalk.cond rfl (fun hb => ?_) (fun hb => ?_)
  ·have hm := cond_t hb hm
   refine CWalk.skip ?_
   refine Leaf.thenN ?_
   refine CWalk.seqJ (fun p : Int × (List (List UInt8)) × (List Bool) × UInt8 × Bool × UInt32 => [.fact 0 (Fact.rep [] (a0 : Int)), .fact 1 (Fact.rep [] (a1 : Int)), .fact 4 (Fact.isv 10), .fact 5 (Fact.isv 20), .fact 7 (Fact.rep [] (s3 : Int)), .fact 100011 (Fact.at 11 (Fact.rep [] ((0 : Int) : Int))), .fact 100012 (Fact.at 12 (Fact.nilv)), .fact 100013 (Fact.at 13 (Fact.nilv)), .fact 100014 (Fact.at 14 (Fact.rep [] ((0 : UInt8) : UInt8))), .fact 100015 (Fact.at 15 (Fact.rep [] (false : Bool))), .fact 100016 (Fact.at 16 (Fact.rep [] ((0 : UInt32) : UInt32))), .fact 100021 (Fact.at 21 (Fact.rep [] (p.1 : Int))), .fact 100022 (Fact.at 22 (Fact.ow [18, 28, 39] [29, 40] 46 (p.2.1 : List (List UInt8)))), .fact 100023 (Fact.at 23 (Fact.ow [19, 30, 41] [] 4 (p.2.2.1 : List Bool))), .fact 100024 (Fact.at 24 (Fact.rep [] (p.2.2.2.1 : UInt8))), .fact 100025 (Fact.at 25 (Fact.rep [] (p.2.2.2.2.1 : Bool))), .fact 100026 (Fact.at 26 (Fact.rep [] (p.2.2.2.2.2 : UInt32))), .fact 100010 (Fact.obj 10 [(false, 1), (false, 1), (false, 1), (false, 1), (false, 1), (false, 1)]), .fact 100020 (Fact.obj 20 [(false, 1), (false, 1), (false, 1), (false, 1), (false, 1), (false, 1)])]) (fun p : Int × (List (List UInt8)) × (List Bool) × UInt8 × Bool × UInt32 => law17_with_J2 s3 p.1 p.2.1 p.2.2.1 p.2.2.2.1 p.2.2.2.2.1 p.2.2.2.2.2 = some c10) ?_ ?_
   ·rintro ⟨j11, j12, j13, j14, j15, j16⟩ hm
    replace hm : law17_with_J2 s3 j11 j12 j13 j14 j15 j16 = some c10 := hm
    unfold law17_with_J2 at hm
    show CWalk _ [.fact 0 (Fact.rep [] (a0 : Int)), .fact 1 (Fact.rep [] (a1 : Int)), .fact 4 (Fact.isv 10), .fact 5 (Fact.isv 20), .fact 7 (Fact.rep [] (s3 : Int)), .fact 100011 (Fact.at 11 (Fact.rep [] ((0 : Int) : Int))), .fact 100012 (Fact.at 12 (Fact.nilv)), .fact 100013 (Fact.at 13 (Fact.nilv)), .fact 100014 (Fact.at 14 (Fact.rep [] ((0 : UInt8) : UInt8))), .fact 100015 (Fact.at 15 (Fact.rep [] (false : Bool))), .fact 100016 (Fact.at 16 (Fact.rep [] ((0 : UInt32) : UInt32))), .fact 100021 (Fact.at 21 (Fact.rep [] (j11 : Int))), .fact 100022 (Fact.at 22 (Fact.ow [18, 28, 39] [29, 40] 46 (j12 : List (List UInt8)))), .fact 100023 (Fact.at 23 (Fact.ow [19, 30, 41] [] 4 (j13 : List Bool))), .fact 100024 (Fact.at 24 (Fact.rep [] (j14 : UInt8))), .fact 100025 (Fact.at 25 (Fact.rep [] (j15 : Bool))), .fact 100026 (Fact.at 26 (Fact.rep [] (j16 : UInt32))), .fact 100010 (Fact.obj 10 [(false, 1), (false, 1), (false, 1), (false, 1), (false, 1), (false, 1)]), .fact 100020 (Fact.obj 20 [(false, 1), (false, 1), (false, 1), (false, 1), (false, 1), (false, 1)])] _ _
    refine CWalk.region ?_
    refine mv ?_
    refine wo (Spec.addI (Has.s rfl) Has.int) ?_
    refine wo (Spec.assign (Has.s rfl)) ?_
    refine Walk.nil ?_
    exact Leaf.next hm (st (st (sn (sn (st (sf (sg (sg (sf (sf (sf (sf (Sub.cons (Has.at (HasG.cv (HasG.s rfl) (Cv.owM (T := [18, 28, 39]) (te := [29, 40]) rfl rfl))) (Sub.cons (Has.at (HasG.cv (HasG.s rfl) (Cv.owF (T := [19, 30, 41]) (te := []) rfl))) (sf (sf (sf (sn (sn Sub.nil)))))))))))))))))))
   ·refine CWalk.block ?_
    refine CWalk.seq ?_
    obtain ⟨x17, hx17, hm⟩ := bind_some hm
    obtain ⟨x18, hx18, hm⟩ := bind_some hm
    refine CWalk.drawM [[], [], [], [0, 1, 2], [0, 1, 2, 3], [0, 1, 2, 3, 4], [0, 1, 2, 3, 4], [], [0, 1, 2, 3, 4, 5, 7], [0, 1, 2, 3, 4, 5, 6, 7, 8]] [[.fact 27 (Fact.rep [] (x17 : Config))], [.fact 28 (Fact.flds [(false, 1, Fact.rep [] (s4 : Int)), (false, 1, Fact.ow [18, 28, 39] [29, 40] 46 (s5 : List (List UInt8))), (false, 1, Fact.ow [19, 30, 41] [] 4 (s6 : List Bool)), (false, 1, Fact.rep [] (s7 : UInt8)), (false, 1, Fact.rep [] (s8 : Bool)), (false, 1, Fact.rep [] (s9 : UInt32))])], [.fact 29 (Fact.rep [] (s3 : Int))], [.fact 30 (Fact.tup2 (Fact.flds [(false, 1, Fact.rep [] (x18.1.Stripe : Int)), (false, 1, Fact.ow [28] [29] 46 (x18.1.Blocks : List (List UInt8))), (false, 1, Fact.ow [30] [] 4 (x18.1.Dirty : List Bool)), (false, 1, Fact.rep [] (x18.1.Phase : UInt8)), (false, 1, Fact.rep [] (x18.1.Deals : Bool)), (false, 1, Fact.rep [] (x18.1.Seq : UInt32))]) (Fact.rep [] (x18.2 : Int)))], [.fact 26 (Fact.tup2 (Fact.flds [(false, 1, Fact.rep [] (x18.1.Stripe : Int)), (false, 1, Fact.ow [28] [29] 46 (x18.1.Blocks : List (List UInt8))), (false, 1, Fact.ow [30] [] 4 (x18.1.Dirty : List Bool)), (false, 1, Fact.rep [] (x18.1.Phase : UInt8)), (false, 1, Fact.rep [] (x18.1.Deals : Bool)), (false, 1, Fact.rep [] (x18.1.Seq : UInt32))]) (Fact.rep [] (x18.2 : Int)))], [.fact 31 (Fact.flds [(false, 1, Fact.rep [] (x18.1.Stripe : Int)), (false, 1, Fact.ow [28] [29] 46 (x18.1.Blocks : List (List UInt8))), (false, 1, Fact.ow [30] [] 4 (x18.1.Dirty : List Bool)), (false, 1, Fact.rep [] (x18.1.Phase : UInt8)), (false, 1, Fact.rep [] (x18.1.Deals : Bool)), (false, 1, Fact.rep [] (x18.1.Seq : UInt32))])], [.fact 32 (Fact.rep [] (x18.2 : Int))], [.fact 8 (.isv 31), .fact 100031 (Fact.obj 31 [(false, 1), (false, 1), (false, 1), (false, 1), (false, 1), (false, 1)]), .fact 100032 (Fact.at 32 (Fact.rep [] ((0 : Int) : Int))), .fact 100033 (Fact.at 33 (Fact.nilv)), .fact 100034 (Fact.at 34 (Fact.nilv)), .fact 100035 (Fact.at 35 (Fact.rep [] ((0 : UInt8) : UInt8))), .fact 100036 (Fact.at 36 (Fact.rep [] (false : Bool))), .fact 100037 (Fact.at 37 (Fact.rep [] ((0 : UInt32) : UInt32))), .killId 31, .killId 32, .killId 33, .killId 34, .killId 35, .killId 36, .killId 37], [.fact 100031 (Fact.obj 31 [(false, 1), (false, 1), (false, 1), (false, 1), (false, 1), (false, 1)]), .fact 100032 (Fact.at 32 (Fact.rep [] (x18.1.Stripe : Int))), .fact 100033 (Fact.at 33 (Fact.ow [28] [29] 46 (x18.1.Blocks : List (List UInt8)))), .fact 100034 (Fact.at 34 (Fact.ow [30] [] 4 (x18.1.Dirty : List Bool))), .fact 100035 (Fact.at 35 (Fact.rep [] (x18.1.Phase : UInt8))), .fact 100036 (Fact.at 36 (Fact.rep [] (x18.1.Deals : Bool))), .fact 100037 (Fact.at 37 (Fact.rep [] (x18.1.Seq : UInt32))), .kill 31, .killId 32, .killId 33, .killId 34, .killId 35, .killId 36, .killId 37], [.fact 9 (Fact.rep [] (x18.2 : Int))]] mixed (by kernel_rfl) (ao (so (Spec.callE [] 27 rfl en13 (law17_five_c  hx17) HasAll.nil)) (ao (so (Spec.loadObj (ls := [(false, 1, Fact.rep [] (s4 : Int)), (false, 1, Fact.ow [18, 28, 39] [29, 40] 46 (s5 : List (List UInt8))), (false, 1, Fact.ow [19, 30, 41] [] 4 (s6 : List Bool)), (false, 1, Fact.rep [] (s7 : UInt8)), (false, 1, Fact.rep [] (s8 : Bool)), (false, 1, Fact.rep [] (s9 : UInt32))]) ty28 rfl rfl (Has.s rfl) rfl (HasGs.cons (HasG.s rfl) (HasGs.cons (HasG.s rfl) (HasGs.cons (HasG.s rfl) (HasGs.cons (HasG.s rfl) (HasGs.cons (HasG.s rfl) (HasGs.cons (HasG.s rfl) HasGs.nil)))))))) (ao (so (Spec.move (Has.s rfl))) (ao (so (Spec.callE [18, 19, 28, 29, 30, 39, 40, 41] 28 rfl en29 (head_Know_c x17 (Head.mk s4 s5 s6 s7 s8 s9) s3 ([] : List UInt8) hx18) (HasAll.cons (Has.fl (Has.s rfl)) (HasAll.cons (Has.m (Has.cv (Has.s rfl) (Cv.trans (Cv.flds (CvL.cons Cv.fl (CvL.cons (Cv.trans (Cv.trans Cv.owSl (Cv.slRep (T' := [18, 28, 29, 39, 40]) rfl rfl)) (Cv.m rfl)) (CvL.cons (Cv.trans (Cv.trans Cv.owSl (Cv.slRep (T' := [19, 30, 41]) rfl rfl)) (Cv.m rfl)) (CvL.cons Cv.fl (CvL.cons Cv.fl (CvL.cons Cv.fl CvL.nil))))))) (Cv.close (T := [18, 19, 28, 29, 30, 39, 40, 41]) (chHead (Head.mk s4 s5 s6 s7 s8 s9))))) rfl) (HasAll.cons (Has.fl (Has.s rfl)) (HasAll.cons (Has.m (Has.nil UInt8) rfl) HasAll.nil)))))) (ao (so (Spec.move (Has.s rfl))) (ao (so (Spec.ext0 (Has.s rfl))) (ao (so (Spec.ext1 (Has.s rfl))) (ao (StepG.stE (Step.allocObj (ls := [(false, 1, Fact.rep [] ((0 : Int) : Int)), (false, 1, Fact.nilv), (false, 1, Fact.nilv), (false, 1, Fact.rep [] ((0 : UInt8) : UInt8)), (false, 1, Fact.rep [] (false : Bool)), (false, 1, Fact.rep [] ((0 : UInt32) : UInt32))]) 31 rfl rfl rfl rfl zl28)) (ao (StepG.stE (Step.storeObj (ls := [(false, 1, Fact.rep [] (x18.1.Stripe : Int)), (false, 1, Fact.ow [28] [29] 46 (x18.1.Blocks : List (List UInt8))), (false, 1, Fact.ow [30] [] 4 (x18.1.Dirty : List Bool)), (false, 1, Fact.rep [] (x18.1.Phase : UInt8)), (false, 1, Fact.rep [] (x18.1.Deals : Bool)), (false, 1, Fact.rep [] (x18.1.Seq : UInt32))]) rfl ty28 rfl rfl (Has.s rfl) rfl (HasL.flds (Has.s rfl)) rfl)) (ao (so (Spec.assign (Has.s rfl))) AllM.nil)))))))))) ?_
    refine Leaf.thenN ?_
    refine CWalk.seqJ (fun p : Int × Int × (List (List UInt8)) × (List Bool) × UInt8 × Bool × UInt32 => [.fact 0 (Fact.rep [] (a0 : Int)), .fact 1 (Fact.rep [] (a1 : Int)), .fact 4 (Fact.isv 10), .fact 5 (Fact.isv 20), .fact 7 (Fact.rep [] (s3 : Int)), .fact 8 (Fact.isv 31), .fact 9 (Fact.rep [] (p.1 : Int)), .fact 100011 (Fact.at 11 (Fact.rep [] ((0 : Int) : Int))), .fact 100012 (Fact.at 12 (Fact.nilv)), .fact 100013 (Fact.at 13 (Fact.nilv)), .fact 100014 (Fact.at 14 (Fact.rep [] ((0 : UInt8) : UInt8))), .fact 100015 (Fact.at 15 (Fact.rep [] (false : Bool))), .fact 100016 (Fact.at 16 (Fact.rep [] ((0 : UInt32) : UInt32))), .fact 100021 (Fact.at 21 (Fact.rep [] (s4 : Int))), .fact 100022 (Fact.at 22 (Fact.ow [18, 28, 39] [29, 40] 46 (s5 : List (List UInt8)))), .fact 100023 (Fact.at 23 (Fact.ow [19, 30, 41] [] 4 (s6 : List Bool))), .fact 100024 (Fact.at 24 (Fact.rep [] (s7 : UInt8))), .fact 100025 (Fact.at 25 (Fact.rep [] (s8 : Bool))), .fact 100026 (Fact.at 26 (Fact.rep [] (s9 : UInt32))), .fact 100032 (Fact.at 32 (Fact.rep [] (p.2.1 : Int))), .fact 100033 (Fact.at 33 (Fact.ow [28, 39] [29, 40] 46 (p.2.2.1 : List (List UInt8)))), .fact 100034 (Fact.at 34 (Fact.ow [30, 41] [] 4 (p.2.2.2.1 : List Bool))), .fact 100035 (Fact.at 35 (Fact.rep [] (p.2.2.2.2.1 : UInt8))), .fact 100036 (Fact.at 36 (Fact.rep [] (p.2.2.2.2.2.1 : Bool))), .fact 100037 (Fact.at 37 (Fact.rep [] (p.2.2.2.2.2.2 : UInt32))), .fact 100010 (Fact.obj 10 [(false, 1), (false, 1), (false, 1), (false, 1), (false, 1), (false, 1)]), .fact 100020 (Fact.obj 20 [(false, 1), (false, 1), (false, 1), (false, 1), (false, 1), (false, 1)]), .fact 100031 (Fact.obj 31 [(false, 1), (false, 1), (false, 1), (false, 1), (false, 1), (false, 1)])]) (fun p : Int × Int × (List (List UInt8)) × (List Bool) × UInt8 × Bool × UInt32 => law17_with_J3 s3 s4 s5 s6 s7 s8 s9 p.1 p.2.1 p.2.2.1 p.2.2.2.1 p.2.2.2.2.1 p.2.2.2.2.2.1 p.2.2.2.2.2.2 = some c10) ?_ ?_
    ·rintro ⟨j19, j20, j21, j22, j23, j24, j25⟩ hm
     replace hm : law17_with_J3 s3 s4 s5 s6 s7 s8 s9 j19 j20 j21 j22 j23 j24 j25 = some c10 := hm
     unfold law17_with_J3 at hm
     show CWalk _ [.fact 0 (Fact.rep [] (a0 : Int)), .fact 1 (Fact.rep [] (a1 : Int)), .fact 4 (Fact.isv 10), .fact 5 (Fact.isv 20), .fact 7 (Fact.rep [] (s3 : Int)), .fact 8 (Fact.isv 31), .fact 9 (Fact.rep [] (j19 : Int)), .fact 100011 (Fact.at 11 (Fact.rep [] ((0 : Int) : Int))), .fact 100012 (Fact.at 12 (Fact.nilv)), .fact 100013 (Fact.at 13 (Fact.nilv)), .fact 100014 (Fact.at 14 (Fact.rep [] ((0 : UInt8) : UInt8))), .fact 100015 (Fact.at 15 (Fact.rep [] (false : Bool))), .fact 100016 (Fact.at 16 (Fact.rep [] ((0 : UInt32) : UInt32))), .fact 100021 (Fact.at 21 (Fact.rep [] (s4 : Int))), .fact 100022 (Fact.at 22 (Fact.ow [18, 28, 39] [29, 40] 46 (s5 : List (List UInt8)))), .fact 100023 (Fact.at 23 (Fact.ow [19, 30, 41] [] 4 (s6 : List Bool))), .fact 100024 (Fact.at 24 (Fact.rep [] (s7 : UInt8))), .fact 100025 (Fact.at 25 (Fact.rep [] (s8 : Bool))), .fact 100026 (Fact.at 26 (Fact.rep [] (s9 : UInt32))), .fact 100032 (Fact.at 32 (Fact.rep [] (j20 : Int))), .fact 100033 (Fact.at 33 (Fact.ow [28, 39] [29, 40] 46 (j21 : List (List UInt8)))), .fact 100034 (Fact.at 34 (Fact.ow [30, 41] [] 4 (j22 : List Bool))), .fact 100035 (Fact.at 35 (Fact.rep [] (j23 : UInt8))), .fact 100036 (Fact.at 36 (Fact.rep [] (j24 : Bool))), .fact 100037 (Fact.at 37 (Fact.rep [] (j25 : UInt32))), .fact 100010 (Fact.obj 10 [(false, 1), (false, 1), (false, 1), (false, 1), (false, 1), (false, 1)]), .fact 100020 (Fact.obj 20 [(false, 1), (false, 1), (false, 1), (false, 1), (false, 1), (false, 1)]), .fact 100031 (Fact.obj 31 [(false, 1), (false, 1), (false, 1), (false, 1), (false, 1), (false, 1)])] _ _
     refine CWalk.seq ?_
     refine CWalk.region ?_
     refine mv ?_
     refine wo (Spec.eqlI (Has.s rfl) Has.int) ?_
     refine Walk.nil ?_
     refine Leaf.thenN ?_
     refine CWalk.cond rfl (fun hb => ?_) (fun hb => ?_)
     ·have hm := cond_t hb hm
      refine CWalk.region ?_
      refine wo (Spec.loadObj (ls := [(false, 1, Fact.rep [] (j20 : Int)), (false, 1, Fact.ow [28, 39] [29, 40] 46 (j21 : List (List UInt8))), (false, 1, Fact.ow [30, 41] [] 4 (j22 : List Bool)), (false, 1, Fact.rep [] (j23 : UInt8)), (false, 1, Fact.rep [] (j24 : Bool)), (false, 1, Fact.rep [] (j25 : UInt32))]) ty28 rfl rfl (Has.s rfl) rfl (HasGs.cons (HasG.s rfl) (HasGs.cons (HasG.s rfl) (HasGs.cons (HasG.s rfl) (HasGs.cons (HasG.s rfl) (HasGs.cons (HasG.s rfl) (HasGs.cons (HasG.s rfl) HasGs.nil))))))) ?_
      refine ws (Step.storeObj (ls := [(false, 1, Fact.rep [] (j20 : Int)), (false, 1, Fact.ow [28, 39] [29, 40] 46 (j21 : List (List UInt8))), (false, 1, Fact.ow [30, 41] [] 4 (j22 : List Bool)), (false, 1, Fact.rep [] (j23 : UInt8)), (false, 1, Fact.rep [] (j24 : Bool)), (false, 1, Fact.rep [] (j25 : UInt32))]) rfl ty28 rfl rfl (Has.s rfl) rfl (HasL.flds (Has.s rfl)) rfl) ?_
      refine Walk.nil ?_
      refine Leaf.blockN ?_
      exact Leaf.join (j20, j21, j22, j23, j24, j25) hm (st (st (sn (sn (st (sf (sg (sg (sf (sf (sf (sf (Sub.cons (Has.at (HasG.cv (HasG.s rfl) (Cv.owM (T := [28, 39]) (te := [29, 40]) rfl rfl))) (Sub.cons (Has.at (HasG.cv (HasG.s rfl) (Cv.owF (T := [30, 41]) (te := []) rfl))) (sf (sf (sf (sn (sn Sub.nil)))))))))))))))))))
     ·have hm := cond_f hb hm
      refine CWalk.skip ?_
      refine Leaf.blockN ?_
      exact Leaf.join (s4, s5, s6, s7, s8, s9) hm (st (st (sn (sn (st (sf (sg (sg (sf (sf (sf (sf (Sub.cons (Has.at (HasG.cv (HasG.s rfl) (Cv.owM (T := [18, 28, 39]) (te := [29, 40]) rfl rfl))) (Sub.cons (Has.at (HasG.cv (HasG.s rfl) (Cv.owF (T := [19, 30, 41]) (te := []) rfl))) (sf (sf (sf (sn (sn Sub.nil)))))))))))))))))))
    ·refine CWalk.seq ?_
     refine CWalk.region ?_
     refine mv ?_
     refine mv ?_
     refine wo (Spec.lssI (Has.s rfl) (Has.s rfl)) ?_
     refine Walk.nil ?_
     refine Leaf.thenN ?_
     refine CWalk.cond rfl (fun hb => ?_) (fun hb => ?_)
     ·have hm := cond_t hb hm
      obtain ⟨x26, hx26, hm⟩ := bind_some hm
      obtain ⟨x27, hx27, hm⟩ := bind_some hm
      refine CWalk.drawM [[], [], [], [0, 1, 2], [0, 1, 2, 3], [0, 1, 2, 3, 4], [0, 1, 2, 3, 4], [0, 1, 2, 3, 4, 5], [0, 1, 2, 3, 4, 5, 6, 7]] [[.fact 37 (Fact.rep [] (x26 : Config))], [.fact 38 (Fact.flds [(false, 1, Fact.rep [] (s4 : Int)), (false, 1, Fact.ow [18, 28, 39] [29, 40] 46 (s5 : List (List UInt8))), (false, 1, Fact.ow [19, 30, 41] [] 4 (s6 : List Bool)), (false, 1, Fact.rep [] (s7 : UInt8)), (false, 1, Fact.rep [] (s8 : Bool)), (false, 1, Fact.rep [] (s9 : UInt32))])], [.fact 39 (Fact.rep [] (s3 : Int))], [.fact 40 (Fact.tup2 (Fact.flds [(false, 1, Fact.rep [] (x27.1.Stripe : Int)), (false, 1, Fact.ow [39] [40] 46 (x27.1.Blocks : List (List UInt8))), (false, 1, Fact.ow [41] [] 4 (x27.1.Dirty : List Bool)), (false, 1, Fact.rep [] (x27.1.Phase : UInt8)), (false, 1, Fact.rep [] (x27.1.Deals : Bool)), (false, 1, Fact.rep [] (x27.1.Seq : UInt32))]) (Fact.rep [] (x27.2 : Int)))], [.fact 36 (Fact.tup2 (Fact.flds [(false, 1, Fact.rep [] (x27.1.Stripe : Int)), (false, 1, Fact.ow [39] [40] 46 (x27.1.Blocks : List (List UInt8))), (false, 1, Fact.ow [41] [] 4 (x27.1.Dirty : List Bool)), (false, 1, Fact.rep [] (x27.1.Phase : UInt8)), (false, 1, Fact.rep [] (x27.1.Deals : Bool)), (false, 1, Fact.rep [] (x27.1.Seq : UInt32))]) (Fact.rep [] (x27.2 : Int)))], [.fact 41 (Fact.flds [(false, 1, Fact.rep [] (x27.1.Stripe : Int)), (false, 1, Fact.ow [39] [40] 46 (x27.1.Blocks : List (List UInt8))), (false, 1, Fact.ow [41] [] 4 (x27.1.Dirty : List Bool)), (false, 1, Fact.rep [] (x27.1.Phase : UInt8)), (false, 1, Fact.rep [] (x27.1.Deals : Bool)), (false, 1, Fact.rep [] (x27.1.Seq : UInt32))])], [.fact 42 (Fact.rep [] (x27.2 : Int))], [.fact 100031 (Fact.obj 31 [(false, 1), (false, 1), (false, 1), (false, 1), (false, 1), (false, 1)]), .fact 100032 (Fact.at 32 (Fact.rep [] (x27.1.Stripe : Int))), .fact 100033 (Fact.at 33 (Fact.ow [39] [40] 46 (x27.1.Blocks : List (List UInt8)))), .fact 100034 (Fact.at 34 (Fact.ow [41] [] 4 (x27.1.Dirty : List Bool))), .fact 100035 (Fact.at 35 (Fact.rep [] (x27.1.Phase : UInt8))), .fact 100036 (Fact.at 36 (Fact.rep [] (x27.1.Deals : Bool))), .fact 100037 (Fact.at 37 (Fact.rep [] (x27.1.Seq : UInt32))), .kill 31, .killId 32, .killId 33, .killId 34, .killId 35, .killId 36, .killId 37], [.fact 9 (Fact.rep [] (x27.2 : Int))]] mixed (by kernel_rfl) (ao (so (Spec.callE [] 38 rfl en13 (law17_five_c  hx26) HasAll.nil)) (ao (so (Spec.loadObj (ls := [(false, 1, Fact.rep [] (s4 : Int)), (false, 1, Fact.ow [18, 28, 39] [29, 40] 46 (s5 : List (List UInt8))), (false, 1, Fact.ow [19, 30, 41] [] 4 (s6 : List Bool)), (false, 1, Fact.rep [] (s7 : UInt8)), (false, 1, Fact.rep [] (s8 : Bool)), (false, 1, Fact.rep [] (s9 : UInt32))]) ty28 rfl rfl (Has.s rfl) rfl (HasGs.cons (HasG.s rfl) (HasGs.cons (HasG.s rfl) (HasGs.cons (HasG.s rfl) (HasGs.cons (HasG.s rfl) (HasGs.cons (HasG.s rfl) (HasGs.cons (HasG.s rfl) HasGs.nil)))))))) (ao (so (Spec.move (Has.s rfl))) (ao (so (Spec.callE [18, 19, 28, 29, 30, 39, 40, 41] 39 rfl en30 (head_Take_c x26 (Head.mk s4 s5 s6 s7 s8 s9) s3 ([] : List UInt8) hx27) (HasAll.cons (Has.fl (Has.s rfl)) (HasAll.cons (Has.m (Has.cv (Has.s rfl) (Cv.trans (Cv.flds (CvL.cons Cv.fl (CvL.cons (Cv.trans (Cv.trans Cv.owSl (Cv.slRep (T' := [18, 28, 29, 39, 40]) rfl rfl)) (Cv.m rfl)) (CvL.cons (Cv.trans (Cv.trans Cv.owSl (Cv.slRep (T' := [19, 30, 41]) rfl rfl)) (Cv.m rfl)) (CvL.cons Cv.fl (CvL.cons Cv.fl (CvL.cons Cv.fl CvL.nil))))))) (Cv.close (T := [18, 19, 28, 29, 30, 39, 40, 41]) (chHead (Head.mk s4 s5 s6 s7 s8 s9))))) rfl) (HasAll.cons (Has.fl (Has.s rfl)) (HasAll.cons (Has.m (Has.nil UInt8) rfl) HasAll.nil)))))) (ao (so (Spec.move (Has.s rfl))) (ao (so (Spec.ext0 (Has.s rfl))) (ao (so (Spec.ext1 (Has.s rfl))) (ao (StepG.stE (Step.storeObj (ls := [(false, 1, Fact.rep [] (x27.1.Stripe : Int)), (false, 1, Fact.ow [39] [40] 46 (x27.1.Blocks : List (List UInt8))), (false, 1, Fact.ow [41] [] 4 (x27.1.Dirty : List Bool)), (false, 1, Fact.rep [] (x27.1.Phase : UInt8)), (false, 1, Fact.rep [] (x27.1.Deals : Bool)), (false, 1, Fact.rep [] (x27.1.Seq : UInt32))]) rfl ty28 rfl rfl (Has.s rfl) rfl (HasL.flds (Has.s rfl)) rfl)) (ao (so (Spec.assign (Has.s rfl))) AllM.nil))))))))) ?_
      exact Leaf.join (x27.2, x27.1.Stripe, x27.1.Blocks, x27.1.Dirty, x27.1.Phase, x27.1.Deals, x27.1.Seq) hm (st (st (sn (sn (st (sn (st (sf (sg (sg (sf (sf (sf (sf (Sub.cons (Has.at (HasG.cv (HasG.s rfl) (Cv.owM (T := [18, 28, 39]) (te := [29, 40]) rfl rfl))) (Sub.cons (Has.at (HasG.cv (HasG.s rfl) (Cv.owF (T := [19, 30, 41]) (te := []) rfl))) (sf (sf (sf (sf (Sub.cons (Has.at (HasG.cv (HasG.s rfl) (Cv.owM (T := [39]) (te := [40]) rfl rfl))) (Sub.cons (Has.at (HasG.cv (HasG.s rfl) (Cv.owF (T := [41]) (te := []) rfl))) (sf (sf (sf (sn (sn (sn Sub.nil))))))))))))))))))))))))))))
     ·have hm := cond_f hb hm
      refine CWalk.skip ?_
      exact Leaf.join (x18.2, x18.1.Stripe, x18.1.Blocks, x18.1.Dirty, x18.1.Phase, x18.1.Deals, x18.1.Seq) hm (st (st (sn (sn (st (sn (st (sf (sg (sg (sf (sf (sf (sf (Sub.cons (Has.at (HasG.cv (HasG.s rfl) (Cv.owM (T := [18, 28, 39]) (te := [29, 40]) rfl rfl))) (Sub.cons (Has.at (HasG.cv (HasG.s rfl) (Cv.owF (T := [19, 30, 41]) (te := []) rfl))) (sf (sf (sf (sf (Sub.cons (Has.at (HasG.cv (HasG.s rfl) (Cv.owM (T := [28]) (te := [29]) rfl rfl))) (Sub.cons (Has.at (HasG.cv (HasG.s rfl) (Cv.owF (T := [30]) (te := []) rfl))) (sf (sf (sf (sn (sn (sn Sub.nil))))))))))))))))))))))))))))
  ·have hm := cond_f hb hm
   refine CWalk.exit ?_
   refine Leaf.thenE ?_
   exact Leaf.brk hm (fun h => nomatch h) rfl (sn (sn (sf (sg (sg (sf (sf (sf (sf (Sub.cons (Has.at (HasG.cv (HasG.s rfl) (Cv.owM (T := [18, 28, 39]) (te := [29, 40]) rfl rfl))) (Sub.cons (Has.at (HasG.cv (HasG.s rfl) (Cv.owF (T := [19, 30, 41]) (te := []) rfl))) (sf (sf (sf (sn (sn Sub.nil))))))))))))))))
 ·intro _
  refine Leaf.blockE ?_
  refine Leaf.thenN ?_
  refine CWalk.seq ?_
  refine CWalk.region ?_
  refine wo (Spec.loadObj (ls := [(false, 1, Fact.rep [] (b28.1 : Int)), (false, 1, Fact.ow [18, 28, 39] [29, 40] 46 (b28.2.1 : List (List UInt8))), (false, 1, Fact.ow [19, 30, 41] [] 4 (b28.2.2.1 : List Bool)), (false, 1, Fact.rep [] (b28.2.2.2.1 : UInt8)), (false, 1, Fact.rep [] (b28.2.2.2.2.1 : Bool)), (false, 1, Fact.rep [] (b28.2.2.2.2.2 : UInt32))]) ty28 rfl rfl (Has.s rfl) rfl (HasGs.cons (HasG.s rfl) (HasGs.cons (HasG.s rfl) (HasGs.cons (HasG.s rfl) (HasGs.cons (HasG.s rfl) (HasGs.cons (HasG.s rfl) (HasGs.cons (HasG.s rfl) HasGs.nil))))))) ?_
  refine ws (Step.storeObj (ls := [(false, 1, Fact.rep [] (b28.1 : Int)), (false, 1, Fact.ow [18, 28, 39] [29, 40] 46 (b28.2.1 : List (List UInt8))), (false, 1, Fact.ow [19, 30, 41] [] 4 (b28.2.2.1 : List Bool)), (false, 1, Fact.rep [] (b28.2.2.2.1 : UInt8)), (false, 1, Fact.rep [] (b28.2.2.2.2.1 : Bool)), (false, 1, Fact.rep [] (b28.2.2.2.2.2 : UInt32))]) rfl ty28 rfl rfl (Has.s rfl) rfl (HasL.flds (Has.s rfl)) rfl) ?_
  refine Walk.nil ?_
  refine Leaf.thenN ?_
  refine CWalk.ret ?_
  obtain rfl := Option.some.inj hm
  exact Leaf.retC1 rfl (HasR.cv (HasR.obj (ls := [(false, 1, Fact.rep [] (b28.1 : Int)), (false, 1, Fact.ow [18, 28, 39] [29, 40] 46 (b28.2.1 : List (List UInt8))), (false, 1, Fact.ow [19, 30, 41] [] 4 (b28.2.2.1 : List Bool)), (false, 1, Fact.rep [] (b28.2.2.2.1 : UInt8)), (false, 1, Fact.rep [] (b28.2.2.2.2.1 : Bool)), (false, 1, Fact.rep [] (b28.2.2.2.2.2 : UInt32))]) ty28 rfl rfl (Has.s rfl) rfl (HasGs.cons (HasG.s rfl) (HasGs.cons (HasG.s rfl) (HasGs.cons (HasG.s rfl) (HasGs.cons (HasG.s rfl) (HasGs.cons (HasG.s rfl) (HasGs.cons (HasG.s rfl) HasGs.nil))))))) (Cv.flds (CvL.cons Cv.fl (CvL.cons (Cv.owM (T := [18, 28, 39]) (te := [29, 40]) rfl rfl) (CvL.cons (Cv.owF (T := [19, 30, 41]) (te := []) rfl) (CvL.cons Cv.fl (CvL.cons Cv.fl (CvL.cons Cv.fl CvL.nil))))))))

def slices_Index_bool_bool_L1 (a0 : List Bool) (a1 : Bool) (s1 : Int) : Option (Ctl (Int) ((Unit) ⊕ (Int))) :=
  (bif (decide (s1 < ((a0).length : Int))) then Option.bind (idx a0 s1) (fun x3 => (bif (a1 == x3) then some (Ctl.brk (Sum.inr s1)) else some (Ctl.next (wI (s1 + (1 : Int)))))) else some (Ctl.brk (Sum.inl ())))
/-- slices.Index[[]bool,bool] -/
def slices_Index_bool_bool (a0 : List Bool) (a1 : Bool) : Option (Int) :=
  Option.bind (loopM (fun s : Int => slices_Index_bool_bool_L1 a0 a1 s) FUEL (0 : Int)) (fun b4 => Sum.elim (fun b5 => some (-1 : Int)) (fun b6 => some b6) b4)
set_option maxRecDepth 100000 in
set_option maxHeartbeats 2000000 in
theorem slices_Index_bool_bool_c (a0 : List Bool) (a1 : Bool) {r : Int} (hm : slices_Index_bool_bool a0 a1 = some r) : Ctr Try.prog 36 [.rep 0 a0, .rep 0 a1] (.fl r) [] := by
 refine ctr_of_walk [[]] 19 Try.func36 rfl rfl rfl rfl (fun w0 om => ?_)
 unfold slices_Index_bool_bool at hm
 refine CWalk.sub (G' := [.fact 0 (Fact.rep [0] (a0 : List Bool)), .fact 1 (Fact.rep [] (a1 : Bool))]) (sn (Sub.cons (Has.fl (Has.s rfl)) Sub.nil)) ?_
 refine CWalk.seq ?_
 refine CWalk.region ?_
 refine wo (Spec.assign Has.int) ?_
 refine Walk.nil ?_
 refine Leaf.thenN ?_
 refine CWalk.seq ?_
 refine CWalk.seq ?_
 refine CWalk.region ?_
 refine mv ?_
 refine wo (Spec.len (Has.s rfl) Try.underlying26) ?_
 refine wo (Spec.move Has.int) ?_
 refine Walk.nil ?_
 refine Leaf.thenN ?_
 refine CWalk.block ?_
 obtain ⟨b4, hb4, hm⟩ := bind_some hm
 refine CWalk.loop (fun s : Int => [.fact 0 (Fact.rep [0] (a0 : List Bool)), .fact 1 (Fact.rep [] (a1 : Bool)), .fact 7 (Fact.rep [] (((a0).length : Int) : Int)), .fact 8 (Fact.rep [] (s : Int))]) (fun b : (Unit) ⊕ (Int) => Sum.elim (fun b => (Exit.exit 0, [])) (fun b => (Exit.ret, [.fact 4 (Fact.rep [] (b : Int))])) b) hb4 (su (st (st (st Sub.nil)))) ?_ ?_
 ·rintro s1 c2 hm
  replace hm : slices_Index_bool_bool_L1 a0 a1 s1 = some c2 := hm
  unfold slices_Index_bool_bool_L1 at hm
  show CWalk _ [.fact 0 (Fact.rep [0] (a0 : List Bool)), .fact 1 (Fact.rep [] (a1 : Bool)), .fact 7 (Fact.rep [] (((a0).length : Int) : Int)), .fact 8 (Fact.rep [] (s1 : Int))] _ _
  refine CWalk.seq ?_
  refine CWalk.region ?_
  refine wo (Spec.lssI (Has.s rfl) (Has.s rfl)) ?_
  refine Walk.nil ?_
  refine Leaf.thenN ?_
  refine CWalk.seq ?_
  refine CWalk.cond rfl (fun hb => ?_) (fun hb => ?_)
  ·have hm := cond_t hb hm
   refine CWalk.skip ?_
   refine Leaf.thenN ?_
   refine CWalk.seq ?_
   refine CWalk.block ?_
   refine CWalk.seq ?_
   refine CWalk.region ?_
   refine mv ?_
   refine wo (Spec.assign (Has.s rfl)) ?_
   refine Walk.nil ?_
   refine Leaf.thenN ?_
   refine CWalk.seq ?_
   refine CWalk.region ?_
   refine mv ?_
   refine mv ?_
   refine mv ?_
   obtain ⟨x3, hx3, hm⟩ := bind_some hm
   refine wo (Spec.indexAddr hx3 sl26 (Has.s rfl) (Has.s rfl)) ?_
   refine wo ((Spec.load ty4 (Has.s rfl)).flat (T' := [])) ?_
   refine wo (Spec.eqlT (Has.s rfl) (Has.s rfl) Try.underlying4) ?_
   refine Walk.nil ?_
   refine Leaf.thenN ?_
   refine CWalk.cond rfl (fun hb => ?_) (fun hb => ?_)
   ·have hm := cond_t hb hm
    refine CWalk.seq ?_
    refine CWalk.region ?_
    refine mv ?_
    refine wo (Spec.assign (Has.s rfl)) ?_
    refine Walk.nil ?_
    refine Leaf.thenN ?_
    refine CWalk.ret ?_
    refine Leaf.blockR ?_
    refine Leaf.thenR ?_
    exact Leaf.brk hm (fun h => nomatch h) rfl (st Sub.nil)
   ·have hm := cond_f hb hm
    refine CWalk.skip ?_
    refine Leaf.blockN ?_
    refine Leaf.thenN ?_
    refine CWalk.region ?_
    refine wo (Spec.addI (Has.s rfl) Has.int) ?_
    refine mv ?_
    refine Walk.nil ?_
    exact Leaf.next hm (su (st (st (st Sub.nil))))
  ·have hm := cond_f hb hm
   refine CWalk.exit ?_
   refine Leaf.thenE ?_
   exact Leaf.brk hm (fun h => nomatch h) rfl (Sub.nil)
 ·intro _
  rcases b4 with b5 | b6
  ·have hm := selim_l hm
   refine Leaf.blockE ?_
   refine Leaf.thenN ?_
   refine CWalk.seq ?_
   refine CWalk.region ?_
   refine wo (Spec.assign Has.int) ?_
   refine Walk.nil ?_
   refine Leaf.thenN ?_
   refine CWalk.ret ?_
   obtain rfl := Option.some.inj hm
   exact Leaf.retC1 rfl (HasR.cv (HasR.tmp (Has.s rfl)) Cv.fl)
  ·have hm := selim_r hm
   refine Leaf.blockR ?_
   refine Leaf.thenR ?_
   obtain rfl := Option.some.inj hm
   exact Leaf.retC1 rfl (HasR.cv (HasR.tmp (Has.s rfl)) Cv.fl)

/-- slices.Contains[[]bool,bool] -/
def slices_Contains_bool_bool (a0 : List Bool) (a1 : Bool) : Option (Bool) :=
  Option.bind (slices_Index_bool_bool a0 a1) (fun x1 => some (decide (x1 ≥ (0 : Int))))
set_option maxRecDepth 100000 in
set_option maxHeartbeats 2000000 in
theorem slices_Contains_bool_bool_c (a0 : List Bool) (a1 : Bool) {r : Bool} (hm : slices_Contains_bool_bool a0 a1 = some r) : Ctr Try.prog 20 [.rep 0 a0, .rep 0 a1] (.fl r) [] := by
 refine ctr_of_walk [[]] 9 Try.func20 rfl rfl rfl rfl (fun w0 om => ?_)
 unfold slices_Contains_bool_bool at hm
 refine CWalk.sub (G' := [.fact 0 (Fact.rep [0] (a0 : List Bool)), .fact 1 (Fact.rep [] (a1 : Bool))]) (sn (Sub.cons (Has.fl (Has.s rfl)) Sub.nil)) ?_
 refine CWalk.seq ?_
 refine CWalk.region ?_
 refine wo (Spec.assign Has.bool) ?_
 refine Walk.nil ?_
 refine Leaf.thenN ?_
 refine CWalk.seq ?_
 refine CWalk.region ?_
 refine mv ?_
 refine mv ?_
 obtain ⟨x1, hx1, hm⟩ := bind_some hm
 refine wo (f := Fact.rep [] (x1 : Int)) (Spec.callE [0] 10 rfl en36 (slices_Index_bool_bool_c a0 a1 hx1) (HasAll.cons (Has.m (Has.s rfl) rfl) (HasAll.cons (Has.fl (Has.s rfl)) HasAll.nil))) ?_
 refine wo (Spec.geqI (Has.s rfl) Has.int) ?_
 refine wo (Spec.assign (Has.s rfl)) ?_
 refine Walk.nil ?_
 refine Leaf.thenN ?_
 refine CWalk.ret ?_
 obtain rfl := Option.some.inj hm
 exact Leaf.retC1 rfl (HasR.cv (HasR.tmp (Has.s rfl)) Cv.fl)

/-- freeboard/turn.divide -/
def turn_divide (a0 : Int) (a1 : Int) : Option (Int × Int) :=
  Option.bind (quoI a0 a1) (fun x1 => Option.bind (remI a0 a1) (fun x2 => some (x1, x2)))
set_option maxRecDepth 100000 in
set_option maxHeartbeats 2000000 in
theorem turn_divide_c (a0 : Int) (a1 : Int) {r : Int × Int} (hm : turn_divide a0 a1 = some r) : Ctr Try.prog 51 [.rep 0 a0, .rep 0 a1] (.tup2 (.fl r.1) (.fl r.2)) [] := by
 refine ctr_of_walk [[]] 12 Try.func51 rfl rfl rfl rfl (fun w0 om => ?_)
 unfold turn_divide at hm
 refine CWalk.sub (G' := [.fact 0 (Fact.rep [] (a0 : Int)), .fact 1 (Fact.rep [] (a1 : Int))]) (Sub.cons (Has.fl (Has.s rfl)) (Sub.cons (Has.fl (Has.s rfl)) Sub.nil)) ?_
 refine CWalk.seq ?_
 refine CWalk.region ?_
 refine wo (Spec.assign Has.int) ?_
 refine wo (Spec.assign Has.int) ?_
 refine Walk.nil ?_
 refine Leaf.thenN ?_
 refine CWalk.seq ?_
 obtain ⟨x1, hx1, hm⟩ := bind_some hm
 obtain ⟨x2, hx2, hm⟩ := bind_some hm
 refine CWalk.drawM [[], [], [0, 1], [], [], [3, 4], [0, 1, 2], [0, 1, 2, 3, 4, 5, 6]] [[.fact 6 (Fact.rep [] (a0 : Int))], [.fact 7 (Fact.rep [] (a1 : Int))], [.fact 8 (Fact.rep [] (x1 : Int))], [.fact 9 (Fact.rep [] (a0 : Int))], [.fact 10 (Fact.rep [] (a1 : Int))], [.fact 11 (Fact.rep [] (x2 : Int))], [.fact 4 (Fact.rep [] (x1 : Int))], [.fact 5 (Fact.rep [] (x2 : Int))]] mixed (by kernel_rfl) (ao (so (Spec.move (Has.s rfl))) (ao (so (Spec.move (Has.s rfl))) (ao (so (Spec.quoI hx1 (Has.s rfl) (Has.s rfl))) (ao (so (Spec.move (Has.s rfl))) (ao (so (Spec.move (Has.s rfl))) (ao (so (Spec.remI hx2 (Has.s rfl) (Has.s rfl))) (ao (so (Spec.assign (Has.s rfl))) (ao (so (Spec.assign (Has.s rfl))) AllM.nil)))))))) ?_
 refine Leaf.thenN ?_
 refine CWalk.ret ?_
 obtain rfl := Option.some.inj hm
 exact Leaf.retC2 rfl (HasR.cv (HasR.tmp (Has.s rfl)) Cv.fl) (HasR.cv (HasR.tmp (Has.s rfl)) Cv.fl)

def turn_at_J1 (a0 : Config) (a1 : Int) (j2 : Bool) : Option (Row × Int) :=
  (bif j2 then some ((Row.mk (Config.mk (0 : UInt32) (0 : Int) (0 : Int) (0 : Int) (0 : Int) (0 : Int)) (0 : Int)), (2 : Int)) else Option.bind (turn_divide a1 a0.Chunk) (fun x3 => some ((Row.mk a0 x3.1), (0 : Int))))
/-- freeboard/turn.at -/
def turn_at (a0 : Config) (a1 : Int) (a2 : Int) (a3 : Int) : Option (Row × Int) :=
  Option.bind (shape_Stripes a0) (fun x1 => (bif (x1.2 != (0 : Int)) then some ((Row.mk (Config.mk (0 : UInt32) (0 : Int) (0 : Int) (0 : Int) (0 : Int) (0 : Int)) (0 : Int)), x1.2) else (bif (decide (a1 < (0 : Int))) then (turn_at_J1 a0 a1 (decide (a1 < (0 : Int)))) else (bif (decide (a1 ≥ x1.1)) then (turn_at_J1 a0 a1 (decide (a1 ≥ x1.1))) else (bif (decide (a2 < (0 : Int))) then (turn_at_J1 a0 a1 (decide (a2 < (0 : Int)))) else (turn_at_J1 a0 a1 (decide (a2 ≥ a3))))))))
set_option maxRecDepth 100000 in
set_option maxHeartbeats 2000000 in
theorem turn_at_c (a0 : Config) (a1 : Int) (a2 : Int) (a3 : Int) {r : Row × Int} (hm : turn_at a0 a1 a2 a3 = some r) : Ctr Try.prog 34 [.rep 0 a0, .rep 0 a1, .rep 0 a2, .rep 0 a3] (.tup2 (.fl r.1) (.fl r.2)) [] := by
 refine ctr_of_walk [[]] 46 Try.func34 rfl rfl rfl rfl (fun w0 om => ?_)
 unfold turn_at at hm
 refine CWalk.sub (G' := [.fact 0 (Fact.rep [] (a0 : Config)), .fact 1 (Fact.rep [] (a1 : Int)), .fact 2 (Fact.rep [] (a2 : Int)), .fact 3 (Fact.rep [] (a3 : Int))]) (Sub.cons (Has.fl (Has.s rfl)) (Sub.cons (Has.fl (Has.s rfl)) (Sub.cons (Has.fl (Has.s rfl)) (Sub.cons (Has.fl (Has.s rfl)) Sub.nil)))) ?_
 refine CWalk.seq ?_
 refine CWalk.region ?_
 refine ws (Step.boxObj (ls := [(false, 1, Fact.rep [] (a0.Id : UInt32)), (false, 1, Fact.rep [] (a0.Members : Int)), (false, 1, Fact.rep [] (a0.Chunk : Int)), (false, 1, Fact.rep [] (a0.Rows : Int)), (false, 1, Fact.rep [] (a0.Log : Int)), (false, 1, Fact.rep [] (a0.Heads : Int))]) 10 rfl rfl rfl rfl (HasL.flds (Has.cv (Has.s rfl) (Cv.trans (Cv.opens (chConfig a0)) (Cv.flds (CvL.cons Cv.fl (CvL.cons Cv.fl (CvL.cons Cv.fl (CvL.cons Cv.fl (CvL.cons Cv.fl (CvL.cons Cv.fl CvL.nil))))))))))) ?_
 refine ws (Step.allocObj (ls := [(false, 1, Fact.rep [] ((0 : UInt32) : UInt32)), (false, 1, Fact.rep [] ((0 : Int) : Int)), (false, 1, Fact.rep [] ((0 : Int) : Int)), (false, 1, Fact.rep [] ((0 : Int) : Int)), (false, 1, Fact.rep [] ((0 : Int) : Int)), (false, 1, Fact.rep [] ((0 : Int) : Int)), (false, 1, Fact.rep [] ((0 : Int) : Int))]) 17 rfl rfl rfl rfl zl66) ?_
 refine wo (Spec.assign Has.int) ?_
 refine Walk.nil ?_
 refine Leaf.thenN ?_
 refine CWalk.seq ?_
 refine CWalk.region ?_
 refine wo (Spec.loadObj (ls := [(false, 1, Fact.rep [] (a0.Id : UInt32)), (false, 1, Fact.rep [] (a0.Members : Int)), (false, 1, Fact.rep [] (a0.Chunk : Int)), (false, 1, Fact.rep [] (a0.Rows : Int)), (false, 1, Fact.rep [] (a0.Log : Int)), (false, 1, Fact.rep [] (a0.Heads : Int))]) ty24 rfl rfl (Has.s rfl) rfl (HasGs.cons (HasG.s rfl) (HasGs.cons (HasG.s rfl) (HasGs.cons (HasG.s rfl) (HasGs.cons (HasG.s rfl) (HasGs.cons (HasG.s rfl) (HasGs.cons (HasG.s rfl) HasGs.nil))))))) ?_
 obtain ⟨x1, hx1, hm⟩ := bind_some hm
 refine wo (f := Fact.tup2 (Fact.rep [] (x1.1 : Int)) (Fact.rep [] (x1.2 : Int))) (Spec.callE [] 25 rfl en31 (shape_Stripes_c a0 hx1) (HasAll.cons (Has.fl (Has.cv (Has.s rfl) (Cv.trans (Cv.flds (CvL.cons Cv.fl (CvL.cons Cv.fl (CvL.cons Cv.fl (CvL.cons Cv.fl (CvL.cons Cv.fl (CvL.cons Cv.fl CvL.nil))))))) (Cv.close (T := []) (chConfig a0))))) HasAll.nil)) ?_
 refine mv ?_
 refine wo (Spec.ext0 (Has.s rfl)) ?_
 refine wo (Spec.ext1 (Has.s rfl)) ?_
 refine wo (Spec.assign (Has.s rfl)) ?_
 refine wo (Spec.assign (Has.s rfl)) ?_
 refine Walk.nil ?_
 refine Leaf.thenN ?_
 refine CWalk.seq ?_
 refine CWalk.block ?_
 refine CWalk.seq ?_
 refine CWalk.region ?_
 refine mv ?_
 refine wo (Spec.neqI (Has.s rfl) Has.int) ?_
 refine wo (Spec.assign (Has.s rfl)) ?_
 refine Walk.nil ?_
 refine Leaf.thenN ?_
 refine CWalk.cond rfl (fun hb => ?_) (fun hb => ?_)
 ·have hm := cond_t hb hm
  refine CWalk.seq ?_
  refine CWalk.region ?_
  refine wo (Spec.build (us := []) (ls' := [(true, 6, Fact.flds [(false, 1, Fact.rep [] ((0 : UInt32) : UInt32)), (false, 1, Fact.rep [] ((0 : Int) : Int)), (false, 1, Fact.rep [] ((0 : Int) : Int)), (false, 1, Fact.rep [] ((0 : Int) : Int)), (false, 1, Fact.rep [] ((0 : Int) : Int)), (false, 1, Fact.rep [] ((0 : Int) : Int))]), (false, 1, Fact.rep [] ((0 : Int) : Int))]) bd66 rfl BP.nil) ?_
  refine mv ?_
  refine ws (Step.storeObj (ls := [(false, 1, Fact.rep [] ((0 : UInt32) : UInt32)), (false, 1, Fact.rep [] ((0 : Int) : Int)), (false, 1, Fact.rep [] ((0 : Int) : Int)), (false, 1, Fact.rep [] ((0 : Int) : Int)), (false, 1, Fact.rep [] ((0 : Int) : Int)), (false, 1, Fact.rep [] ((0 : Int) : Int)), (false, 1, Fact.rep [] ((0 : Int) : Int))]) rfl ty66 rfl rfl (Has.s rfl) rfl (HasL.flds (Has.cv (Has.s rfl) (Cv.flat (FlatR.sub (FlatR.cons (FlatR.cons (FlatR.cons (FlatR.cons (FlatR.cons (FlatR.cons FlatR.nil)))))) rfl (FlatR.cons FlatR.nil))))) rfl) ?_
  refine wo (Spec.assign (Has.s rfl)) ?_
  refine Walk.nil ?_
  refine Leaf.thenN ?_
  refine CWalk.ret ?_
  refine Leaf.blockR ?_
  refine Leaf.thenR ?_
  obtain rfl := Option.some.inj hm
  exact Leaf.retC2 rfl (HasR.cv (HasR.cv (HasR.obj (ls := [(false, 1, Fact.rep [] ((0 : UInt32) : UInt32)), (false, 1, Fact.rep [] ((0 : Int) : Int)), (false, 1, Fact.rep [] ((0 : Int) : Int)), (false, 1, Fact.rep [] ((0 : Int) : Int)), (false, 1, Fact.rep [] ((0 : Int) : Int)), (false, 1, Fact.rep [] ((0 : Int) : Int)), (false, 1, Fact.rep [] ((0 : Int) : Int))]) ty66 rfl rfl (Has.s rfl) rfl (HasGs.cons (HasG.s rfl) (HasGs.cons (HasG.s rfl) (HasGs.cons (HasG.s rfl) (HasGs.cons (HasG.s rfl) (HasGs.cons (HasG.s rfl) (HasGs.cons (HasG.s rfl) (HasGs.cons (HasG.s rfl) HasGs.nil)))))))) (Cv.unflat (FlatR.sub (FlatR.cons (FlatR.cons (FlatR.cons (FlatR.cons (FlatR.cons (FlatR.cons FlatR.nil)))))) rfl (FlatR.cons FlatR.nil)))) (Cv.trans (Cv.trans (Cv.flds (CvL.cons (Cv.trans (Cv.trans (Cv.flds (CvL.cons Cv.fl (CvL.cons Cv.fl (CvL.cons Cv.fl (CvL.cons Cv.fl (CvL.cons Cv.fl (CvL.cons Cv.fl CvL.nil))))))) (Cv.close (T := []) (chConfig (Config.mk (0 : UInt32) (0 : Int) (0 : Int) (0 : Int) (0 : Int) (0 : Int))))) Cv.fl) (CvL.cons Cv.fl CvL.nil))) (Cv.close (T := []) (chRow (Row.mk (Config.mk (0 : UInt32) (0 : Int) (0 : Int) (0 : Int) (0 : Int) (0 : Int)) (0 : Int))))) Cv.fl)) (HasR.cv (HasR.tmp (Has.s rfl)) Cv.fl)
 ·have hm := cond_f hb hm
  refine CWalk.seqJ (fun p : Bool => [.fact 1 (Fact.rep [] (a1 : Int)), .fact 4 (Fact.isv 10), .fact 8 (Fact.isv 17), .fact 24 (Fact.rep [] (p : Bool)), .fact 100011 (Fact.at 11 (Fact.rep [] (a0.Id : UInt32))), .fact 100012 (Fact.at 12 (Fact.rep [] (a0.Members : Int))), .fact 100013 (Fact.at 13 (Fact.rep [] (a0.Chunk : Int))), .fact 100014 (Fact.at 14 (Fact.rep [] (a0.Rows : Int))), .fact 100015 (Fact.at 15 (Fact.rep [] (a0.Log : Int))), .fact 100016 (Fact.at 16 (Fact.rep [] (a0.Heads : Int))), .fact 100018 (Fact.at 18 (Fact.rep [] ((0 : UInt32) : UInt32))), .fact 100019 (Fact.at 19 (Fact.rep [] ((0 : Int) : Int))), .fact 100020 (Fact.at 20 (Fact.rep [] ((0 : Int) : Int))), .fact 100021 (Fact.at 21 (Fact.rep [] ((0 : Int) : Int))), .fact 100022 (Fact.at 22 (Fact.rep [] ((0 : Int) : Int))), .fact 100023 (Fact.at 23 (Fact.rep [] ((0 : Int) : Int))), .fact 100024 (Fact.at 24 (Fact.rep [] ((0 : Int) : Int))), .fact 100010 (Fact.obj 10 [(false, 1), (false, 1), (false, 1), (false, 1), (false, 1), (false, 1)]), .fact 100017 (Fact.obj 17 [(false, 1), (false, 1), (false, 1), (false, 1), (false, 1), (false, 1), (false, 1)])]) (fun p : Bool => turn_at_J1 a0 a1 p = some r) ?_ ?_
  ·rintro j2 hm
   replace hm : turn_at_J1 a0 a1 j2 = some r := hm
   unfold turn_at_J1 at hm
   show CWalk _ [.fact 1 (Fact.rep [] (a1 : Int)), .fact 4 (Fact.isv 10), .fact 8 (Fact.isv 17), .fact 24 (Fact.rep [] (j2 : Bool)), .fact 100011 (Fact.at 11 (Fact.rep [] (a0.Id : UInt32))), .fact 100012 (Fact.at 12 (Fact.rep [] (a0.Members : Int))), .fact 100013 (Fact.at 13 (Fact.rep [] (a0.Chunk : Int))), .fact 100014 (Fact.at 14 (Fact.rep [] (a0.Rows : Int))), .fact 100015 (Fact.at 15 (Fact.rep [] (a0.Log : Int))), .fact 100016 (Fact.at 16 (Fact.rep [] (a0.Heads : Int))), .fact 100018 (Fact.at 18 (Fact.rep [] ((0 : UInt32) : UInt32))), .fact 100019 (Fact.at 19 (Fact.rep [] ((0 : Int) : Int))), .fact 100020 (Fact.at 20 (Fact.rep [] ((0 : Int) : Int))), .fact 100021 (Fact.at 21 (Fact.rep [] ((0 : Int) : Int))), .fact 100022 (Fact.at 22 (Fact.rep [] ((0 : Int) : Int))), .fact 100023 (Fact.at 23 (Fact.rep [] ((0 : Int) : Int))), .fact 100024 (Fact.at 24 (Fact.rep [] ((0 : Int) : Int))), .fact 100010 (Fact.obj 10 [(false, 1), (false, 1), (false, 1), (false, 1), (false, 1), (false, 1)]), .fact 100017 (Fact.obj 17 [(false, 1), (false, 1), (false, 1), (false, 1), (false, 1), (false, 1), (false, 1)])] _ _
   refine CWalk.cond rfl (fun hb => ?_) (fun hb => ?_)
   ·have hm := cond_t hb hm
    refine CWalk.seq ?_
    refine CWalk.region ?_
    refine wo (Spec.build (us := []) (ls' := [(true, 6, Fact.flds [(false, 1, Fact.rep [] ((0 : UInt32) : UInt32)), (false, 1, Fact.rep [] ((0 : Int) : Int)), (false, 1, Fact.rep [] ((0 : Int) : Int)), (false, 1, Fact.rep [] ((0 : Int) : Int)), (false, 1, Fact.rep [] ((0 : Int) : Int)), (false, 1, Fact.rep [] ((0 : Int) : Int))]), (false, 1, Fact.rep [] ((0 : Int) : Int))]) bd66 rfl BP.nil) ?_
    refine ws (Step.storeObj (ls := [(false, 1, Fact.rep [] ((0 : UInt32) : UInt32)), (false, 1, Fact.rep [] ((0 : Int) : Int)), (false, 1, Fact.rep [] ((0 : Int) : Int)), (false, 1, Fact.rep [] ((0 : Int) : Int)), (false, 1, Fact.rep [] ((0 : Int) : Int)), (false, 1, Fact.rep [] ((0 : Int) : Int)), (false, 1, Fact.rep [] ((0 : Int) : Int))]) rfl ty66 rfl rfl (Has.s rfl) rfl (HasL.flds (Has.cv (Has.s rfl) (Cv.flat (FlatR.sub (FlatR.cons (FlatR.cons (FlatR.cons (FlatR.cons (FlatR.cons (FlatR.cons FlatR.nil)))))) rfl (FlatR.cons FlatR.nil))))) rfl) ?_
    refine wo (Spec.assign Has.int) ?_
    refine Walk.nil ?_
    refine Leaf.thenN ?_
    refine CWalk.ret ?_
    refine Leaf.blockR ?_
    refine Leaf.thenR ?_
    obtain rfl := Option.some.inj hm
    exact Leaf.retC2 rfl (HasR.cv (HasR.cv (HasR.obj (ls := [(false, 1, Fact.rep [] ((0 : UInt32) : UInt32)), (false, 1, Fact.rep [] ((0 : Int) : Int)), (false, 1, Fact.rep [] ((0 : Int) : Int)), (false, 1, Fact.rep [] ((0 : Int) : Int)), (false, 1, Fact.rep [] ((0 : Int) : Int)), (false, 1, Fact.rep [] ((0 : Int) : Int)), (false, 1, Fact.rep [] ((0 : Int) : Int))]) ty66 rfl rfl (Has.s rfl) rfl (HasGs.cons (HasG.s rfl) (HasGs.cons (HasG.s rfl) (HasGs.cons (HasG.s rfl) (HasGs.cons (HasG.s rfl) (HasGs.cons (HasG.s rfl) (HasGs.cons (HasG.s rfl) (HasGs.cons (HasG.s rfl) HasGs.nil)))))))) (Cv.unflat (FlatR.sub (FlatR.cons (FlatR.cons (FlatR.cons (FlatR.cons (FlatR.cons (FlatR.cons FlatR.nil)))))) rfl (FlatR.cons FlatR.nil)))) (Cv.trans (Cv.trans (Cv.flds (CvL.cons (Cv.trans (Cv.trans (Cv.flds (CvL.cons Cv.fl (CvL.cons Cv.fl (CvL.cons Cv.fl (CvL.cons Cv.fl (CvL.cons Cv.fl (CvL.cons Cv.fl CvL.nil))))))) (Cv.close (T := []) (chConfig (Config.mk (0 : UInt32) (0 : Int) (0 : Int) (0 : Int) (0 : Int) (0 : Int))))) Cv.fl) (CvL.cons Cv.fl CvL.nil))) (Cv.close (T := []) (chRow (Row.mk (Config.mk (0 : UInt32) (0 : Int) (0 : Int) (0 : Int) (0 : Int) (0 : Int)) (0 : Int))))) Cv.fl)) (HasR.cv (HasR.tmp (Has.s rfl)) Cv.fl)
   ·have hm := cond_f hb hm
    refine CWalk.skip ?_
    refine Leaf.blockN ?_
    refine Leaf.thenN ?_
    refine CWalk.seq ?_
    refine CWalk.region ?_
    refine mv ?_
    refine wo (Spec.fieldAddrO fd24_2 (Has.cv (Has.s rfl) (Cv.isvP rfl))) ?_
    refine wo (Spec.loadF (i := 2) ty3 rfl (Has.s rfl) rfl (HasG.s rfl)) ?_
    obtain ⟨x3, hx3, hm⟩ := bind_some hm
    refine wo (f := Fact.tup2 (Fact.rep [] (x3.1 : Int)) (Fact.rep [] (x3.2 : Int))) (Spec.callE [] 26 rfl en51 (turn_divide_c a1 a0.Chunk hx3) (HasAll.cons (Has.fl (Has.s rfl)) (HasAll.cons (Has.fl (Has.s rfl)) HasAll.nil))) ?_
    refine mv ?_
    refine wo (Spec.ext0 (Has.s rfl)) ?_
    refine wo (Spec.ext1 (Has.s rfl)) ?_
    refine wo (Spec.assign (Has.s rfl)) ?_
    refine wo (Spec.assign (Has.s rfl)) ?_
    refine Walk.nil ?_
    refine Leaf.thenN ?_
    refine CWalk.seq ?_
    refine CWalk.region ?_
    refine wo (Spec.loadObj (ls := [(false, 1, Fact.rep [] (a0.Id : UInt32)), (false, 1, Fact.rep [] (a0.Members : Int)), (false, 1, Fact.rep [] (a0.Chunk : Int)), (false, 1, Fact.rep [] (a0.Rows : Int)), (false, 1, Fact.rep [] (a0.Log : Int)), (false, 1, Fact.rep [] (a0.Heads : Int))]) ty24 rfl rfl (Has.s rfl) rfl (HasGs.cons (HasG.s rfl) (HasGs.cons (HasG.s rfl) (HasGs.cons (HasG.s rfl) (HasGs.cons (HasG.s rfl) (HasGs.cons (HasG.s rfl) (HasGs.cons (HasG.s rfl) HasGs.nil))))))) ?_
    refine mv ?_
    refine wo (Spec.build (us := [(0, .tmp 43), (1, .tmp 44)]) (ls' := [(true, 6, Fact.flds [(false, 1, Fact.rep [] (a0.Id : UInt32)), (false, 1, Fact.rep [] (a0.Members : Int)), (false, 1, Fact.rep [] (a0.Chunk : Int)), (false, 1, Fact.rep [] (a0.Rows : Int)), (false, 1, Fact.rep [] (a0.Log : Int)), (false, 1, Fact.rep [] (a0.Heads : Int))]), (false, 1, Fact.rep [] (x3.1 : Int))]) bd66 rfl (BP.cons rfl rfl (Has.cv (Has.s rfl) (Cv.trans (Cv.flds (CvL.cons Cv.fl (CvL.cons Cv.fl (CvL.cons Cv.fl (CvL.cons Cv.fl (CvL.cons Cv.fl (CvL.cons Cv.fl CvL.nil))))))) (Cv.close (T := []) (chConfig a0)))) (Has.s rfl) (BP.cons rfl rfl (Has.s rfl) (Has.s rfl) BP.nil))) ?_
    refine ws (Step.storeObj (ls := [(false, 1, Fact.rep [] (a0.Id : UInt32)), (false, 1, Fact.rep [] (a0.Members : Int)), (false, 1, Fact.rep [] (a0.Chunk : Int)), (false, 1, Fact.rep [] (a0.Rows : Int)), (false, 1, Fact.rep [] (a0.Log : Int)), (false, 1, Fact.rep [] (a0.Heads : Int)), (false, 1, Fact.rep [] (x3.1 : Int))]) rfl ty66 rfl rfl (Has.s rfl) rfl (HasL.flds (Has.cv (Has.s rfl) (Cv.flat (FlatR.sub (FlatR.cons (FlatR.cons (FlatR.cons (FlatR.cons (FlatR.cons (FlatR.cons FlatR.nil)))))) rfl (FlatR.cons FlatR.nil))))) rfl) ?_
    refine wo (Spec.assign Has.int) ?_
    refine Walk.nil ?_
    refine Leaf.thenN ?_
    refine CWalk.ret ?_
    obtain rfl := Option.some.inj hm
    exact Leaf.retC2 rfl (HasR.cv (HasR.cv (HasR.obj (ls := [(false, 1, Fact.rep [] (a0.Id : UInt32)), (false, 1, Fact.rep [] (a0.Members : Int)), (false, 1, Fact.rep [] (a0.Chunk : Int)), (false, 1, Fact.rep [] (a0.Rows : Int)), (false, 1, Fact.rep [] (a0.Log : Int)), (false, 1, Fact.rep [] (a0.Heads : Int)), (false, 1, Fact.rep [] (x3.1 : Int))]) ty66 rfl rfl (Has.s rfl) rfl (HasGs.cons (HasG.s rfl) (HasGs.cons (HasG.s rfl) (HasGs.cons (HasG.s rfl) (HasGs.cons (HasG.s rfl) (HasGs.cons (HasG.s rfl) (HasGs.cons (HasG.s rfl) (HasGs.cons (HasG.s rfl) HasGs.nil)))))))) (Cv.unflat (FlatR.sub (FlatR.cons (FlatR.cons (FlatR.cons (FlatR.cons (FlatR.cons (FlatR.cons FlatR.nil)))))) rfl (FlatR.cons FlatR.nil)))) (Cv.trans (Cv.trans (Cv.flds (CvL.cons (Cv.trans (Cv.trans (Cv.flds (CvL.cons Cv.fl (CvL.cons Cv.fl (CvL.cons Cv.fl (CvL.cons Cv.fl (CvL.cons Cv.fl (CvL.cons Cv.fl CvL.nil))))))) (Cv.close (T := []) (chConfig a0))) Cv.fl) (CvL.cons Cv.fl CvL.nil))) (Cv.close (T := []) (chRow (Row.mk a0 x3.1)))) Cv.fl)) (HasR.cv (HasR.tmp (Has.s rfl)) Cv.fl)
  ·refine CWalk.seq ?_
   refine CWalk.region ?_
   refine mv ?_
   refine wo (Spec.lssI (Has.s rfl) Has.int) ?_
   refine wo (Spec.assign (Has.s rfl)) ?_
   refine Walk.nil ?_
   refine Leaf.thenN ?_
   refine CWalk.cond rfl (fun hb => ?_) (fun hb => ?_)
   ·have hm := cond_t hb hm
    refine CWalk.skip ?_
    exact Leaf.join (decide (a1 < (0 : Int))) hm (st (sn (sn (st (sf (sf (sf (sf (sf (sf (sf (sf (sf (sf (sf (sf (sf (sn (sn Sub.nil)))))))))))))))))))
   ·have hm := cond_f hb hm
    refine CWalk.seq ?_
    refine CWalk.region ?_
    refine mv ?_
    refine mv ?_
    refine wo (Spec.geqI (Has.s rfl) (Has.s rfl)) ?_
    refine wo (Spec.assign (Has.s rfl)) ?_
    refine Walk.nil ?_
    refine Leaf.thenN ?_
    refine CWalk.cond rfl (fun hb => ?_) (fun hb => ?_)
    ·have hm := cond_t hb hm
     refine CWalk.skip ?_
     exact Leaf.join (decide (a1 ≥ x1.1)) hm (st (sn (sn (st (sf (sf (sf (sf (sf (sf (sf (sf (sf (sf (sf (sf (sf (sn (sn Sub.nil)))))))))))))))))))
    ·have hm := cond_f hb hm
     refine CWalk.seq ?_
     refine CWalk.region ?_
     refine mv ?_
     refine wo (Spec.lssI (Has.s rfl) Has.int) ?_
     refine wo (Spec.assign (Has.s rfl)) ?_
     refine Walk.nil ?_
     refine Leaf.thenN ?_
     refine CWalk.cond rfl (fun hb => ?_) (fun hb => ?_)
     ·have hm := cond_t hb hm
      refine CWalk.skip ?_
      exact Leaf.join (decide (a2 < (0 : Int))) hm (st (sn (sn (st (sf (sf (sf (sf (sf (sf (sf (sf (sf (sf (sf (sf (sf (sn (sn Sub.nil)))))))))))))))))))
     ·have hm := cond_f hb hm
      refine CWalk.region ?_
      refine mv ?_
      refine mv ?_
      refine wo (Spec.geqI (Has.s rfl) (Has.s rfl)) ?_
      refine wo (Spec.assign (Has.s rfl)) ?_
      refine Walk.nil ?_
      exact Leaf.join (decide (a2 ≥ a3)) hm (st (sn (sn (st (sf (sf (sf (sf (sf (sf (sf (sf (sf (sf (sf (sf (sf (sn (sn Sub.nil)))))))))))))))))))

/-- (freeboard/turn.row).parity -/
def turn_row_parity (a0 : Row) : Option (Int) :=
  Option.bind (turn_divide a0.n a0.Config.Members) (fun x1 => some (wI ((wI (a0.Config.Members - (1 : Int))) - x1.2)))
set_option maxRecDepth 100000 in
set_option maxHeartbeats 2000000 in
theorem turn_row_parity_c (a0 : Row) {r : Int} (hm : turn_row_parity a0 = some r) : Ctr Try.prog 52 [.rep 0 a0] (.fl r) [] := by
 refine ctr_of_walk [[]] 20 Try.func52 rfl rfl rfl rfl (fun w0 om => ?_)
 unfold turn_row_parity at hm
 refine CWalk.sub (G' := [.fact 0 (Fact.rep [] (a0 : Row))]) (Sub.cons (Has.fl (Has.s rfl)) Sub.nil) ?_
 refine CWalk.seq ?_
 refine CWalk.region ?_
 refine ws (Step.boxObj (ls := [(false, 1, Fact.rep [] (a0.Config.Id : UInt32)), (false, 1, Fact.rep [] (a0.Config.Members : Int)), (false, 1, Fact.rep [] (a0.Config.Chunk : Int)), (false, 1, Fact.rep [] (a0.Config.Rows : Int)), (false, 1, Fact.rep [] (a0.Config.Log : Int)), (false, 1, Fact.rep [] (a0.Config.Heads : Int)), (false, 1, Fact.rep [] (a0.n : Int))]) 10 rfl rfl rfl rfl (HasL.flds (Has.cv (Has.s rfl) (Cv.trans (Cv.trans (Cv.trans (Cv.opens (chRow a0)) (Cv.flds (CvL.cons Cv.fl (CvL.cons Cv.fl CvL.nil)))) (Cv.flds (ls := [(true, 6, Fact.rep [] (a0.Config : Config)), (false, 1, Fact.rep [] (a0.n : Int))]) (ms := [(true, 6, Fact.flds [(false, 1, Fact.rep [] (a0.Config.Id : UInt32)), (false, 1, Fact.rep [] (a0.Config.Members : Int)), (false, 1, Fact.rep [] (a0.Config.Chunk : Int)), (false, 1, Fact.rep [] (a0.Config.Rows : Int)), (false, 1, Fact.rep [] (a0.Config.Log : Int)), (false, 1, Fact.rep [] (a0.Config.Heads : Int))]), (false, 1, Fact.rep [] (a0.n : Int))]) (CvL.cons (Cv.trans (Cv.opens (chConfig a0.Config)) (Cv.flds (CvL.cons Cv.fl (CvL.cons Cv.fl (CvL.cons Cv.fl (CvL.cons Cv.fl (CvL.cons Cv.fl (CvL.cons Cv.fl CvL.nil)))))))) (CvL.cons Cv.refl CvL.nil)))) (Cv.flat (FlatR.sub (FlatR.cons (FlatR.cons (FlatR.cons (FlatR.cons (FlatR.cons (FlatR.cons FlatR.nil)))))) rfl (FlatR.cons FlatR.nil))))))) ?_
 refine wo (Spec.assign Has.int) ?_
 refine Walk.nil ?_
 refine Leaf.thenN ?_
 refine CWalk.seq ?_
 refine CWalk.region ?_
 refine wo (Spec.fieldAddrO fd66_1 (Has.cv (Has.s rfl) (Cv.isvP rfl))) ?_
 refine wo (Spec.loadF (i := 6) ty3 rfl (Has.s rfl) rfl (HasG.s rfl)) ?_
 refine wo (Spec.fieldAddrO fd66_0 (Has.cv (Has.s rfl) (Cv.isvP rfl))) ?_
 refine wo (Spec.fieldAddrO fd24_1 (Has.s rfl)) ?_
 refine wo (Spec.loadF (i := 1) ty3 rfl (Has.s rfl) rfl (HasG.s rfl)) ?_
 obtain ⟨x1, hx1, hm⟩ := bind_some hm
 refine wo (f := Fact.tup2 (Fact.rep [] (x1.1 : Int)) (Fact.rep [] (x1.2 : Int))) (Spec.callE [] 18 rfl en51 (turn_divide_c a0.n a0.Config.Members hx1) (HasAll.cons (Has.fl (Has.s rfl)) (HasAll.cons (Has.fl (Has.s rfl)) HasAll.nil))) ?_
 refine mv ?_
 refine wo (Spec.ext0 (Has.s rfl)) ?_
 refine wo (Spec.ext1 (Has.s rfl)) ?_
 refine wo (Spec.assign (Has.s rfl)) ?_
 refine wo (Spec.assign (Has.s rfl)) ?_
 refine Walk.nil ?_
 refine Leaf.thenN ?_
 refine CWalk.seq ?_
 refine CWalk.region ?_
 refine wo (Spec.fieldAddrO fd66_0 (Has.cv (Has.s rfl) (Cv.isvP rfl))) ?_
 refine wo (Spec.fieldAddrO fd24_1 (Has.s rfl)) ?_
 refine wo (Spec.loadF (i := 1) ty3 rfl (Has.s rfl) rfl (HasG.s rfl)) ?_
 refine wo (Spec.subI (Has.s rfl) Has.int) ?_
 refine mv ?_
 refine wo (Spec.subI (Has.s rfl) (Has.s rfl)) ?_
 refine wo (Spec.assign (Has.s rfl)) ?_
 refine Walk.nil ?_
 refine Leaf.thenN ?_
 refine CWalk.ret ?_
 obtain rfl := Option.some.inj hm
 exact Leaf.retC1 rfl (HasR.cv (HasR.tmp (Has.s rfl)) Cv.fl)

/-- (freeboard/turn.row).slot -/
def turn_row_slot (a0 : Row) (a1 : Int) : Option (Int) :=
  Option.bind (turn_row_parity a0) (fun x1 => Option.bind (turn_divide (wI ((wI ((wI (a1 + a0.Config.Members)) - x1)) - (1 : Int))) a0.Config.Members) (fun x2 => some x2.2))
set_option maxRecDepth 100000 in
set_option maxHeartbeats 2000000 in
theorem turn_row_slot_c (a0 : Row) (a1 : Int) {r : Int} (hm : turn_row_slot a0 a1 = some r) : Ctr Try.prog 54 [.rep 0 a0, .rep 0 a1] (.fl r) [] := by
 refine ctr_of_walk [[]] 24 Try.func54 rfl rfl rfl rfl (fun w0 om => ?_)
 unfold turn_row_slot at hm
 refine CWalk.sub (G' := [.fact 0 (Fact.rep [] (a0 : Row)), .fact 1 (Fact.rep [] (a1 : Int))]) (Sub.cons (Has.fl (Has.s rfl)) (Sub.cons (Has.fl (Has.s rfl)) Sub.nil)) ?_
 refine CWalk.seq ?_
 refine CWalk.region ?_
 refine ws (Step.boxObj (ls := [(false, 1, Fact.rep [] (a0.Config.Id : UInt32)), (false, 1, Fact.rep [] (a0.Config.Members : Int)), (false, 1, Fact.rep [] (a0.Config.Chunk : Int)), (false, 1, Fact.rep [] (a0.Config.Rows : Int)), (false, 1, Fact.rep [] (a0.Config.Log : Int)), (false, 1, Fact.rep [] (a0.Config.Heads : Int)), (false, 1, Fact.rep [] (a0.n : Int))]) 10 rfl rfl rfl rfl (HasL.flds (Has.cv (Has.s rfl) (Cv.trans (Cv.trans (Cv.trans (Cv.opens (chRow a0)) (Cv.flds (CvL.cons Cv.fl (CvL.cons Cv.fl CvL.nil)))) (Cv.flds (ls := [(true, 6, Fact.rep [] (a0.Config : Config)), (false, 1, Fact.rep [] (a0.n : Int))]) (ms := [(true, 6, Fact.flds [(false, 1, Fact.rep [] (a0.Config.Id : UInt32)), (false, 1, Fact.rep [] (a0.Config.Members : Int)), (false, 1, Fact.rep [] (a0.Config.Chunk : Int)), (false, 1, Fact.rep [] (a0.Config.Rows : Int)), (false, 1, Fact.rep [] (a0.Config.Log : Int)), (false, 1, Fact.rep [] (a0.Config.Heads : Int))]), (false, 1, Fact.rep [] (a0.n : Int))]) (CvL.cons (Cv.trans (Cv.opens (chConfig a0.Config)) (Cv.flds (CvL.cons Cv.fl (CvL.cons Cv.fl (CvL.cons Cv.fl (CvL.cons Cv.fl (CvL.cons Cv.fl (CvL.cons Cv.fl CvL.nil)))))))) (CvL.cons Cv.refl CvL.nil)))) (Cv.flat (FlatR.sub (FlatR.cons (FlatR.cons (FlatR.cons (FlatR.cons (FlatR.cons (FlatR.cons FlatR.nil)))))) rfl (FlatR.cons FlatR.nil))))))) ?_
 refine wo (Spec.assign Has.int) ?_
 refine Walk.nil ?_
 refine Leaf.thenN ?_
 refine CWalk.seq ?_
 obtain ⟨x1, hx1, hm⟩ := bind_some hm
 obtain ⟨x2, hx2, hm⟩ := bind_some hm
 refine CWalk.drawM [[], [], [1], [1, 2], [0, 1, 2, 3], [], [5], [0, 1, 2, 3, 4, 5, 6], [0, 1, 2, 3, 4, 5, 6, 7], [], [9], [9, 10], [0, 1, 2, 3, 4, 5, 6, 7, 8, 9, 10, 11], [0, 1, 2, 3, 4, 5, 6, 7, 8, 9, 10, 11, 12], [0, 1, 2, 3, 4, 5, 6, 7, 8, 9, 10, 11, 12, 13], [0, 1, 2, 3, 4, 5, 6, 7, 8, 9, 10, 11, 12, 13], [0, 1, 2, 3, 4, 5, 6, 7, 8, 9, 10, 11, 12, 13, 14], [0, 1, 2, 3, 4, 5, 6, 7, 8, 9, 10, 11, 12, 13, 14, 15, 16]] [[.fact 8 (Fact.rep [] (a1 : Int))], [.fact 9 (Fact.pto 10 0)], [.fact 10 (Fact.pto 10 1)], [.fact 11 (Fact.rep [] (a0.Config.Members : Int))], [.fact 12 (Fact.rep [] ((wI (a1 + a0.Config.Members)) : Int))], [.fact 13 (Fact.flds [(true, 6, Fact.flds [(false, 1, Fact.rep [] (a0.Config.Id : UInt32)), (false, 1, Fact.rep [] (a0.Config.Members : Int)), (false, 1, Fact.rep [] (a0.Config.Chunk : Int)), (false, 1, Fact.rep [] (a0.Config.Rows : Int)), (false, 1, Fact.rep [] (a0.Config.Log : Int)), (false, 1, Fact.rep [] (a0.Config.Heads : Int))]), (false, 1, Fact.rep [] (a0.n : Int))])], [.fact 14 (Fact.rep [] (x1 : Int))], [.fact 15 (Fact.rep [] ((wI ((wI (a1 + a0.Config.Members)) - x1)) : Int))], [.fact 16 (Fact.rep [] ((wI ((wI ((wI (a1 + a0.Config.Members)) - x1)) - (1 : Int))) : Int))], [.fact 17 (Fact.pto 10 0)], [.fact 18 (Fact.pto 10 1)], [.fact 19 (Fact.rep [] (a0.Config.Members : Int))], [.fact 20 (Fact.tup2 (Fact.rep [] (x2.1 : Int)) (Fact.rep [] (x2.2 : Int)))], [.fact 7 (Fact.tup2 (Fact.rep [] (x2.1 : Int)) (Fact.rep [] (x2.2 : Int)))], [.fact 21 (Fact.rep [] (x2.1 : Int))], [.fact 22 (Fact.rep [] (x2.2 : Int))], [.fact 5 (Fact.rep [] (x2.1 : Int))], [.fact 6 (Fact.rep [] (x2.2 : Int))]] mixed (by kernel_rfl) (ao (so (Spec.move (Has.s rfl))) (ao (so (Spec.fieldAddrO fd66_0 (Has.cv (Has.s rfl) (Cv.isvP rfl)))) (ao (so (Spec.fieldAddrO fd24_1 (Has.s rfl))) (ao (so (Spec.loadF (i := 1) ty3 rfl (Has.s rfl) rfl (HasG.s rfl))) (ao (so (Spec.addI (Has.s rfl) (Has.s rfl))) (ao (so (Spec.unflat (FlatR.sub (FlatR.cons (FlatR.cons (FlatR.cons (FlatR.cons (FlatR.cons (FlatR.cons FlatR.nil)))))) rfl (FlatR.cons FlatR.nil)) (Spec.loadObj (ls := [(false, 1, Fact.rep [] (a0.Config.Id : UInt32)), (false, 1, Fact.rep [] (a0.Config.Members : Int)), (false, 1, Fact.rep [] (a0.Config.Chunk : Int)), (false, 1, Fact.rep [] (a0.Config.Rows : Int)), (false, 1, Fact.rep [] (a0.Config.Log : Int)), (false, 1, Fact.rep [] (a0.Config.Heads : Int)), (false, 1, Fact.rep [] (a0.n : Int))]) ty66 rfl rfl (Has.s rfl) rfl (HasGs.cons (HasG.s rfl) (HasGs.cons (HasG.s rfl) (HasGs.cons (HasG.s rfl) (HasGs.cons (HasG.s rfl) (HasGs.cons (HasG.s rfl) (HasGs.cons (HasG.s rfl) (HasGs.cons (HasG.s rfl) HasGs.nil)))))))))) (ao (so (Spec.callE [] 18 rfl en52 (turn_row_parity_c a0 hx1) (HasAll.cons (Has.fl (Has.cv (Has.s rfl) (Cv.trans (Cv.flds (CvL.cons (Cv.trans (Cv.trans (Cv.flds (CvL.cons Cv.fl (CvL.cons Cv.fl (CvL.cons Cv.fl (CvL.cons Cv.fl (CvL.cons Cv.fl (CvL.cons Cv.fl CvL.nil))))))) (Cv.close (T := []) (chConfig a0.Config))) Cv.fl) (CvL.cons Cv.fl CvL.nil))) (Cv.close (T := []) (chRow a0))))) HasAll.nil))) (ao (so (Spec.subI (Has.s rfl) (Has.s rfl))) (ao (so (Spec.subI (Has.s rfl) Has.int)) (ao (so (Spec.fieldAddrO fd66_0 (Has.cv (Has.s rfl) (Cv.isvP rfl)))) (ao (so (Spec.fieldAddrO fd24_1 (Has.s rfl))) (ao (so (Spec.loadF (i := 1) ty3 rfl (Has.s rfl) rfl (HasG.s rfl))) (ao (so (Spec.callE [] 19 rfl en51 (turn_divide_c (wI ((wI ((wI (a1 + a0.Config.Members)) - x1)) - (1 : Int))) a0.Config.Members hx2) (HasAll.cons (Has.fl (Has.s rfl)) (HasAll.cons (Has.fl (Has.s rfl)) HasAll.nil)))) (ao (so (Spec.move (Has.s rfl))) (ao (so (Spec.ext0 (Has.s rfl))) (ao (so (Spec.ext1 (Has.s rfl))) (ao (so (Spec.assign (Has.s rfl))) (ao (so (Spec.assign (Has.s rfl))) AllM.nil)))))))))))))))))) ?_
 refine Leaf.thenN ?_
 refine CWalk.seq ?_
 refine CWalk.region ?_
 refine mv ?_
 refine wo (Spec.assign (Has.s rfl)) ?_
 refine Walk.nil ?_
 refine Leaf.thenN ?_
 refine CWalk.ret ?_
 obtain rfl := Option.some.inj hm
 exact Leaf.retC1 rfl (HasR.cv (HasR.tmp (Has.s rfl)) Cv.fl)

/-- freeboard/turn.Slot -/
def turn_Slot (a0 : Config) (a1 : Int) (a2 : Int) : Option (Int × Int) :=
  Option.bind (turn_at a0 a1 a2 a0.Members) (fun x1 => (bif (x1.2 != (0 : Int)) then some ((0 : Int), x1.2) else Option.bind (turn_row_slot x1.1 a2) (fun x2 => some (x2, (0 : Int)))))
set_option maxRecDepth 100000 in
set_option maxHeartbeats 2000000 in
theorem turn_Slot_c (a0 : Config) (a1 : Int) (a2 : Int) {r : Int × Int} (hm : turn_Slot a0 a1 a2 = some r) : Ctr Try.prog 38 [.rep 0 a0, .rep 0 a1, .rep 0 a2] (.tup2 (.fl r.1) (.fl r.2)) [] := by
 refine ctr_of_walk [[]] 25 Try.func38 rfl rfl rfl rfl (fun w0 om => ?_)
 unfold turn_Slot at hm
 refine CWalk.sub (G' := [.fact 0 (Fact.rep [] (a0 : Config)), .fact 1 (Fact.rep [] (a1 : Int)), .fact 2 (Fact.rep [] (a2 : Int))]) (Sub.cons (Has.fl (Has.s rfl)) (Sub.cons (Has.fl (Has.s rfl)) (Sub.cons (Has.fl (Has.s rfl)) Sub.nil))) ?_
 refine CWalk.seq ?_
 refine CWalk.region ?_
 refine ws (Step.boxObj (ls := [(false, 1, Fact.rep [] (a0.Id : UInt32)), (false, 1, Fact.rep [] (a0.Members : Int)), (false, 1, Fact.rep [] (a0.Chunk : Int)), (false, 1, Fact.rep [] (a0.Rows : Int)), (false, 1, Fact.rep [] (a0.Log : Int)), (false, 1, Fact.rep [] (a0.Heads : Int))]) 10 rfl rfl rfl rfl (HasL.flds (Has.cv (Has.s rfl) (Cv.trans (Cv.opens (chConfig a0)) (Cv.flds (CvL.cons Cv.fl (CvL.cons Cv.fl (CvL.cons Cv.fl (CvL.cons Cv.fl (CvL.cons Cv.fl (CvL.cons Cv.fl CvL.nil))))))))))) ?_
 refine wo (Spec.assign Has.int) ?_
 refine wo (Spec.assign Has.int) ?_
 refine Walk.nil ?_
 refine Leaf.thenN ?_
 refine CWalk.seq ?_
 refine CWalk.region ?_
 refine wo (Spec.loadObj (ls := [(false, 1, Fact.rep [] (a0.Id : UInt32)), (false, 1, Fact.rep [] (a0.Members : Int)), (false, 1, Fact.rep [] (a0.Chunk : Int)), (false, 1, Fact.rep [] (a0.Rows : Int)), (false, 1, Fact.rep [] (a0.Log : Int)), (false, 1, Fact.rep [] (a0.Heads : Int))]) ty24 rfl rfl (Has.s rfl) rfl (HasGs.cons (HasG.s rfl) (HasGs.cons (HasG.s rfl) (HasGs.cons (HasG.s rfl) (HasGs.cons (HasG.s rfl) (HasGs.cons (HasG.s rfl) (HasGs.cons (HasG.s rfl) HasGs.nil))))))) ?_
 refine mv ?_
 refine mv ?_
 refine wo (Spec.fieldAddrO fd24_1 (Has.cv (Has.s rfl) (Cv.isvP rfl))) ?_
 refine wo (Spec.loadF (i := 1) ty3 rfl (Has.s rfl) rfl (HasG.s rfl)) ?_
 obtain ⟨x1, hx1, hm⟩ := bind_some hm
 refine wo (f := Fact.tup2 (Fact.rep [] (x1.1 : Row)) (Fact.rep [] (x1.2 : Int))) (Spec.callE [] 17 rfl en34 (turn_at_c a0 a1 a2 a0.Members hx1) (HasAll.cons (Has.fl (Has.cv (Has.s rfl) (Cv.trans (Cv.flds (CvL.cons Cv.fl (CvL.cons Cv.fl (CvL.cons Cv.fl (CvL.cons Cv.fl (CvL.cons Cv.fl (CvL.cons Cv.fl CvL.nil))))))) (Cv.close (T := []) (chConfig a0))))) (HasAll.cons (Has.fl (Has.s rfl)) (HasAll.cons (Has.fl (Has.s rfl)) (HasAll.cons (Has.fl (Has.s rfl)) HasAll.nil))))) ?_
 refine mv ?_
 refine wo (Spec.ext0 (Has.s rfl)) ?_
 refine wo (Spec.ext1 (Has.s rfl)) ?_
 refine ws (Step.allocObj (ls := [(false, 1, Fact.rep [] ((0 : UInt32) : UInt32)), (false, 1, Fact.rep [] ((0 : Int) : Int)), (false, 1, Fact.rep [] ((0 : Int) : Int)), (false, 1, Fact.rep [] ((0 : Int) : Int)), (false, 1, Fact.rep [] ((0 : Int) : Int)), (false, 1, Fact.rep [] ((0 : Int) : Int)), (false, 1, Fact.rep [] ((0 : Int) : Int))]) 18 rfl rfl rfl rfl zl66) ?_
 refine ws (Step.storeObj (ls := [(false, 1, Fact.rep [] (x1.1.Config.Id : UInt32)), (false, 1, Fact.rep [] (x1.1.Config.Members : Int)), (false, 1, Fact.rep [] (x1.1.Config.Chunk : Int)), (false, 1, Fact.rep [] (x1.1.Config.Rows : Int)), (false, 1, Fact.rep [] (x1.1.Config.Log : Int)), (false, 1, Fact.rep [] (x1.1.Config.Heads : Int)), (false, 1, Fact.rep [] (x1.1.n : Int))]) rfl ty66 rfl rfl (Has.s rfl) rfl (HasL.flds (Has.cv (Has.s rfl) (Cv.trans (Cv.trans (Cv.trans (Cv.opens (chRow x1.1)) (Cv.flds (CvL.cons Cv.fl (CvL.cons Cv.fl CvL.nil)))) (Cv.flds (ls := [(true, 6, Fact.rep [] (x1.1.Config : Config)), (false, 1, Fact.rep [] (x1.1.n : Int))]) (ms := [(true, 6, Fact.flds [(false, 1, Fact.rep [] (x1.1.Config.Id : UInt32)), (false, 1, Fact.rep [] (x1.1.Config.Members : Int)), (false, 1, Fact.rep [] (x1.1.Config.Chunk : Int)), (false, 1, Fact.rep [] (x1.1.Config.Rows : Int)), (false, 1, Fact.rep [] (x1.1.Config.Log : Int)), (false, 1, Fact.rep [] (x1.1.Config.Heads : Int))]), (false, 1, Fact.rep [] (x1.1.n : Int))]) (CvL.cons (Cv.trans (Cv.opens (chConfig x1.1.Config)) (Cv.flds (CvL.cons Cv.fl (CvL.cons Cv.fl (CvL.cons Cv.fl (CvL.cons Cv.fl (CvL.cons Cv.fl (CvL.cons Cv.fl CvL.nil)))))))) (CvL.cons Cv.refl CvL.nil)))) (Cv.flat (FlatR.sub (FlatR.cons (FlatR.cons (FlatR.cons (FlatR.cons (FlatR.cons (FlatR.cons FlatR.nil)))))) rfl (FlatR.cons FlatR.nil)))))) rfl) ?_
 refine wo (Spec.assign (Has.s rfl)) ?_
 refine Walk.nil ?_
 refine Leaf.thenN ?_
 refine CWalk.seq ?_
 refine CWalk.seq ?_
 refine CWalk.region ?_
 refine mv ?_
 refine wo (Spec.neqI (Has.s rfl) Has.int) ?_
 refine Walk.nil ?_
 refine Leaf.thenN ?_
 refine CWalk.cond rfl (fun hb => ?_) (fun hb => ?_)
 ·have hm := cond_t hb hm
  refine CWalk.seq ?_
  refine CWalk.region ?_
  refine mv ?_
  refine wo (Spec.assign Has.int) ?_
  refine wo (Spec.assign (Has.s rfl)) ?_
  refine Walk.nil ?_
  refine Leaf.thenN ?_
  refine CWalk.ret ?_
  refine Leaf.thenR ?_
  obtain rfl := Option.some.inj hm
  exact Leaf.retC2 rfl (HasR.cv (HasR.tmp (Has.s rfl)) Cv.fl) (HasR.cv (HasR.tmp (Has.s rfl)) Cv.fl)
 ·have hm := cond_f hb hm
  refine CWalk.skip ?_
  refine Leaf.thenN ?_
  refine CWalk.seq ?_
  refine CWalk.region ?_
  refine wo (Spec.unflat (FlatR.sub (FlatR.cons (FlatR.cons (FlatR.cons (FlatR.cons (FlatR.cons (FlatR.cons FlatR.nil)))))) rfl (FlatR.cons FlatR.nil)) (Spec.loadObj (ls := [(false, 1, Fact.rep [] (x1.1.Config.Id : UInt32)), (false, 1, Fact.rep [] (x1.1.Config.Members : Int)), (false, 1, Fact.rep [] (x1.1.Config.Chunk : Int)), (false, 1, Fact.rep [] (x1.1.Config.Rows : Int)), (false, 1, Fact.rep [] (x1.1.Config.Log : Int)), (false, 1, Fact.rep [] (x1.1.Config.Heads : Int)), (false, 1, Fact.rep [] (x1.1.n : Int))]) ty66 rfl rfl (Has.s rfl) rfl (HasGs.cons (HasG.s rfl) (HasGs.cons (HasG.s rfl) (HasGs.cons (HasG.s rfl) (HasGs.cons (HasG.s rfl) (HasGs.cons (HasG.s rfl) (HasGs.cons (HasG.s rfl) (HasGs.cons (HasG.s rfl) HasGs.nil))))))))) ?_
  refine mv ?_
  obtain ⟨x2, hx2, hm⟩ := bind_some hm
  refine wo (f := Fact.rep [] (x2 : Int)) (Spec.callE [] 26 rfl en54 (turn_row_slot_c x1.1 a2 hx2) (HasAll.cons (Has.fl (Has.cv (Has.s rfl) (Cv.trans (Cv.flds (CvL.cons (Cv.trans (Cv.trans (Cv.flds (CvL.cons Cv.fl (CvL.cons Cv.fl (CvL.cons Cv.fl (CvL.cons Cv.fl (CvL.cons Cv.fl (CvL.cons Cv.fl CvL.nil))))))) (Cv.close (T := []) (chConfig x1.1.Config))) Cv.fl) (CvL.cons Cv.fl CvL.nil))) (Cv.close (T := []) (chRow x1.1))))) (HasAll.cons (Has.fl (Has.s rfl)) HasAll.nil))) ?_
  refine wo (Spec.assign (Has.s rfl)) ?_
  refine wo (Spec.assign Has.int) ?_
  refine Walk.nil ?_
  refine Leaf.thenN ?_
  refine CWalk.ret ?_
  obtain rfl := Option.some.inj hm
  exact Leaf.retC2 rfl (HasR.cv (HasR.tmp (Has.s rfl)) Cv.fl) (HasR.cv (HasR.tmp (Has.s rfl)) Cv.fl)

/-- freeboard/plan.lost -/
def plan_lost (a0 : Config) (a1 : Int) (a2 : Int) : Option (Int) :=
  (bif (a2 == (-1 : Int)) then some (-1 : Int) else Option.bind (turn_Slot a0 a1 a2) (fun x1 => some x1.1))
set_option maxRecDepth 100000 in
set_option maxHeartbeats 2000000 in
theorem plan_lost_c (a0 : Config) (a1 : Int) (a2 : Int) {r : Int} (hm : plan_lost a0 a1 a2 = some r) : Ctr Try.prog 23 [.rep 0 a0, .rep 0 a1, .rep 0 a2] (.fl r) [] := by
 refine ctr_of_walk [[]] 19 Try.func23 rfl rfl rfl rfl (fun w0 om => ?_)
 unfold plan_lost at hm
 refine CWalk.sub (G' := [.fact 0 (Fact.rep [] (a0 : Config)), .fact 1 (Fact.rep [] (a1 : Int)), .fact 2 (Fact.rep [] (a2 : Int))]) (Sub.cons (Has.fl (Has.s rfl)) (Sub.cons (Has.fl (Has.s rfl)) (Sub.cons (Has.fl (Has.s rfl)) Sub.nil))) ?_
 refine CWalk.seq ?_
 refine CWalk.region ?_
 refine ws (Step.boxObj (ls := [(false, 1, Fact.rep [] (a0.Id : UInt32)), (false, 1, Fact.rep [] (a0.Members : Int)), (false, 1, Fact.rep [] (a0.Chunk : Int)), (false, 1, Fact.rep [] (a0.Rows : Int)), (false, 1, Fact.rep [] (a0.Log : Int)), (false, 1, Fact.rep [] (a0.Heads : Int))]) 10 rfl rfl rfl rfl (HasL.flds (Has.cv (Has.s rfl) (Cv.trans (Cv.opens (chConfig a0)) (Cv.flds (CvL.cons Cv.fl (CvL.cons Cv.fl (CvL.cons Cv.fl (CvL.cons Cv.fl (CvL.cons Cv.fl (CvL.cons Cv.fl CvL.nil))))))))))) ?_
 refine wo (Spec.assign Has.int) ?_
 refine Walk.nil ?_
 refine Leaf.thenN ?_
 refine CWalk.seq ?_
 refine CWalk.seq ?_
 refine CWalk.region ?_
 refine mv ?_
 refine wo (Spec.eqlI (Has.s rfl) Has.int) ?_
 refine Walk.nil ?_
 refine Leaf.thenN ?_
 refine CWalk.cond rfl (fun hb => ?_) (fun hb => ?_)
 ·have hm := cond_t hb hm
  refine CWalk.seq ?_
  refine CWalk.region ?_
  refine wo (Spec.assign Has.int) ?_
  refine Walk.nil ?_
  refine Leaf.thenN ?_
  refine CWalk.ret ?_
  refine Leaf.thenR ?_
  obtain rfl := Option.some.inj hm
  exact Leaf.retC1 rfl (HasR.cv (HasR.tmp (Has.s rfl)) Cv.fl)
 ·have hm := cond_f hb hm
  refine CWalk.skip ?_
  refine Leaf.thenN ?_
  refine CWalk.seq ?_
  refine CWalk.region ?_
  refine wo (Spec.loadObj (ls := [(false, 1, Fact.rep [] (a0.Id : UInt32)), (false, 1, Fact.rep [] (a0.Members : Int)), (false, 1, Fact.rep [] (a0.Chunk : Int)), (false, 1, Fact.rep [] (a0.Rows : Int)), (false, 1, Fact.rep [] (a0.Log : Int)), (false, 1, Fact.rep [] (a0.Heads : Int))]) ty24 rfl rfl (Has.s rfl) rfl (HasGs.cons (HasG.s rfl) (HasGs.cons (HasG.s rfl) (HasGs.cons (HasG.s rfl) (HasGs.cons (HasG.s rfl) (HasGs.cons (HasG.s rfl) (HasGs.cons (HasG.s rfl) HasGs.nil))))))) ?_
  refine mv ?_
  refine mv ?_
  obtain ⟨x1, hx1, hm⟩ := bind_some hm
  refine wo (f := Fact.tup2 (Fact.rep [] (x1.1 : Int)) (Fact.rep [] (x1.2 : Int))) (Spec.callE [] 17 rfl en38 (turn_Slot_c a0 a1 a2 hx1) (HasAll.cons (Has.fl (Has.cv (Has.s rfl) (Cv.trans (Cv.flds (CvL.cons Cv.fl (CvL.cons Cv.fl (CvL.cons Cv.fl (CvL.cons Cv.fl (CvL.cons Cv.fl (CvL.cons Cv.fl CvL.nil))))))) (Cv.close (T := []) (chConfig a0))))) (HasAll.cons (Has.fl (Has.s rfl)) (HasAll.cons (Has.fl (Has.s rfl)) HasAll.nil)))) ?_
  refine mv ?_
  refine wo (Spec.ext0 (Has.s rfl)) ?_
  refine wo (Spec.ext1 (Has.s rfl)) ?_
  refine wo (Spec.assign (Has.s rfl)) ?_
  refine wo (Spec.assign (Has.s rfl)) ?_
  refine Walk.nil ?_
  refine Leaf.thenN ?_
  refine CWalk.seq ?_
  refine CWalk.region ?_
  refine mv ?_
  refine wo (Spec.assign (Has.s rfl)) ?_
  refine Walk.nil ?_
  refine Leaf.thenN ?_
  refine CWalk.ret ?_
  obtain rfl := Option.some.inj hm
  exact Leaf.retC1 rfl (HasR.cv (HasR.tmp (Has.s rfl)) Cv.fl)

def slices_Index_int_int_L1 (a0 : List Int) (a1 : Int) (s1 : Int) : Option (Ctl (Int) ((Unit) ⊕ (Int))) :=
  (bif (decide (s1 < ((a0).length : Int))) then Option.bind (idx a0 s1) (fun x3 => (bif (a1 == x3) then some (Ctl.brk (Sum.inr s1)) else some (Ctl.next (wI (s1 + (1 : Int)))))) else some (Ctl.brk (Sum.inl ())))
/-- slices.Index[[]int,int] -/
def slices_Index_int_int (a0 : List Int) (a1 : Int) : Option (Int) :=
  Option.bind (loopM (fun s : Int => slices_Index_int_int_L1 a0 a1 s) FUEL (0 : Int)) (fun b4 => Sum.elim (fun b5 => some (-1 : Int)) (fun b6 => some b6) b4)
set_option maxRecDepth 100000 in
set_option maxHeartbeats 2000000 in
theorem slices_Index_int_int_c (a0 : List Int) (a1 : Int) {r : Int} (hm : slices_Index_int_int a0 a1 = some r) : Ctr Try.prog 53 [.rep 0 a0, .rep 0 a1] (.fl r) [] := by
 refine ctr_of_walk [[]] 19 Try.func53 rfl rfl rfl rfl (fun w0 om => ?_)
 unfold slices_Index_int_int at hm
 refine CWalk.sub (G' := [.fact 0 (Fact.rep [0] (a0 : List Int)), .fact 1 (Fact.rep [] (a1 : Int))]) (sn (Sub.cons (Has.fl (Has.s rfl)) Sub.nil)) ?_
 refine CWalk.seq ?_
 refine CWalk.region ?_
 refine wo (Spec.assign Has.int) ?_
 refine Walk.nil ?_
 refine Leaf.thenN ?_
 refine CWalk.seq ?_
 refine CWalk.seq ?_
 refine CWalk.region ?_
 refine mv ?_
 refine wo (Spec.len (Has.s rfl) Try.underlying31) ?_
 refine wo (Spec.move Has.int) ?_
 refine Walk.nil ?_
 refine Leaf.thenN ?_
 refine CWalk.block ?_
 obtain ⟨b4, hb4, hm⟩ := bind_some hm
 refine CWalk.loop (fun s : Int => [.fact 0 (Fact.rep [0] (a0 : List Int)), .fact 1 (Fact.rep [] (a1 : Int)), .fact 7 (Fact.rep [] (((a0).length : Int) : Int)), .fact 8 (Fact.rep [] (s : Int))]) (fun b : (Unit) ⊕ (Int) => Sum.elim (fun b => (Exit.exit 0, [])) (fun b => (Exit.ret, [.fact 4 (Fact.rep [] (b : Int))])) b) hb4 (su (st (st (st Sub.nil)))) ?_ ?_
 ·rintro s1 c2 hm
  replace hm : slices_Index_int_int_L1 a0 a1 s1 = some c2 := hm
  unfold slices_Index_int_int_L1 at hm
  show CWalk _ [.fact 0 (Fact.rep [0] (a0 : List Int)), .fact 1 (Fact.rep [] (a1 : Int)), .fact 7 (Fact.rep [] (((a0).length : Int) : Int)), .fact 8 (Fact.rep [] (s1 : Int))] _ _
  refine CWalk.seq ?_
  refine CWalk.region ?_
  refine wo (Spec.lssI (Has.s rfl) (Has.s rfl)) ?_
  refine Walk.nil ?_
  refine Leaf.thenN ?_
  refine CWalk.seq ?_
  refine CWalk.cond rfl (fun hb => ?_) (fun hb => ?_)
  ·have hm := cond_t hb hm
   refine CWalk.skip ?_
   refine Leaf.thenN ?_
   refine CWalk.seq ?_
   refine CWalk.block ?_
   refine CWalk.seq ?_
   refine CWalk.region ?_
   refine mv ?_
   refine wo (Spec.assign (Has.s rfl)) ?_
   refine Walk.nil ?_
   refine Leaf.thenN ?_
   refine CWalk.seq ?_
   refine CWalk.region ?_
   refine mv ?_
   refine mv ?_
   refine mv ?_
   obtain ⟨x3, hx3, hm⟩ := bind_some hm
   refine wo (Spec.indexAddr hx3 sl31 (Has.s rfl) (Has.s rfl)) ?_
   refine wo ((Spec.load ty3 (Has.s rfl)).flat (T' := [])) ?_
   refine wo (Spec.eqlI (Has.s rfl) (Has.s rfl)) ?_
   refine Walk.nil ?_
   refine Leaf.thenN ?_
   refine CWalk.cond rfl (fun hb => ?_) (fun hb => ?_)
   ·have hm := cond_t hb hm
    refine CWalk.seq ?_
    refine CWalk.region ?_
    refine mv ?_
    refine wo (Spec.assign (Has.s rfl)) ?_
    refine Walk.nil ?_
    refine Leaf.thenN ?_
    refine CWalk.ret ?_
    refine Leaf.blockR ?_
    refine Leaf.thenR ?_
    exact Leaf.brk hm (fun h => nomatch h) rfl (st Sub.nil)
   ·have hm := cond_f hb hm
    refine CWalk.skip ?_
    refine Leaf.blockN ?_
    refine Leaf.thenN ?_
    refine CWalk.region ?_
    refine wo (Spec.addI (Has.s rfl) Has.int) ?_
    refine mv ?_
    refine Walk.nil ?_
    exact Leaf.next hm (su (st (st (st Sub.nil))))
  ·have hm := cond_f hb hm
   refine CWalk.exit ?_
   refine Leaf.thenE ?_
   exact Leaf.brk hm (fun h => nomatch h) rfl (Sub.nil)
 ·intro _
  rcases b4 with b5 | b6
  ·have hm := selim_l hm
   refine Leaf.blockE ?_
   refine Leaf.thenN ?_
   refine CWalk.seq ?_
   refine CWalk.region ?_
   refine wo (Spec.assign Has.int) ?_
   refine Walk.nil ?_
   refine Leaf.thenN ?_
   refine CWalk.ret ?_
   obtain rfl := Option.some.inj hm
   exact Leaf.retC1 rfl (HasR.cv (HasR.tmp (Has.s rfl)) Cv.fl)
  ·have hm := selim_r hm
   refine Leaf.blockR ?_
   refine Leaf.thenR ?_
   obtain rfl := Option.some.inj hm
   exact Leaf.retC1 rfl (HasR.cv (HasR.tmp (Has.s rfl)) Cv.fl)

/-- slices.Contains[[]int,int] -/
def slices_Contains_int_int (a0 : List Int) (a1 : Int) : Option (Bool) :=
  Option.bind (slices_Index_int_int a0 a1) (fun x1 => some (decide (x1 ≥ (0 : Int))))
set_option maxRecDepth 100000 in
set_option maxHeartbeats 2000000 in
theorem slices_Contains_int_int_c (a0 : List Int) (a1 : Int) {r : Bool} (hm : slices_Contains_int_int a0 a1 = some r) : Ctr Try.prog 37 [.rep 0 a0, .rep 0 a1] (.fl r) [] := by
 refine ctr_of_walk [[]] 9 Try.func37 rfl rfl rfl rfl (fun w0 om => ?_)
 unfold slices_Contains_int_int at hm
 refine CWalk.sub (G' := [.fact 0 (Fact.rep [0] (a0 : List Int)), .fact 1 (Fact.rep [] (a1 : Int))]) (sn (Sub.cons (Has.fl (Has.s rfl)) Sub.nil)) ?_
 refine CWalk.seq ?_
 refine CWalk.region ?_
 refine wo (Spec.assign Has.bool) ?_
 refine Walk.nil ?_
 refine Leaf.thenN ?_
 refine CWalk.seq ?_
 refine CWalk.region ?_
 refine mv ?_
 refine mv ?_
 obtain ⟨x1, hx1, hm⟩ := bind_some hm
 refine wo (f := Fact.rep [] (x1 : Int)) (Spec.callE [0] 10 rfl en53 (slices_Index_int_int_c a0 a1 hx1) (HasAll.cons (Has.m (Has.s rfl) rfl) (HasAll.cons (Has.fl (Has.s rfl)) HasAll.nil))) ?_
 refine wo (Spec.geqI (Has.s rfl) Has.int) ?_
 refine wo (Spec.assign (Has.s rfl)) ?_
 refine Walk.nil ?_
 refine Leaf.thenN ?_
 refine CWalk.ret ?_
 obtain rfl := Option.some.inj hm
 exact Leaf.retC1 rfl (HasR.cv (HasR.tmp (Has.s rfl)) Cv.fl)

def plan_some_J2 (s2 : Int) (j4 : List Plan) : Option (Ctl ((List Plan) × Int) ((List Plan))) :=
  some (Ctl.next (j4, (wI (s2 + (1 : Int)))))
def plan_some_L1 (a0 : Int) (a1 : List Plan) (s1 : List Plan) (s2 : Int) : Option (Ctl ((List Plan) × Int) ((List Plan))) :=
  (bif (decide (s2 < ((a1).length : Int))) then Option.bind (idx a1 s2) (fun x5 => Option.bind (slices_Contains_int_int x5.Reads a0) (fun x6 => (bif (!x6) then Option.bind (app s1 ([x5])) (fun x7 => (plan_some_J2 s2 x7)) else (plan_some_J2 s2 s1)))) else some (Ctl.brk s1))
/-- freeboard/plan.some -/
def plan_some (a0 : Int) (a1 : List Plan) : Option ((List Plan)) :=
  Option.bind (loopM (fun s : (List Plan) × Int => plan_some_L1 a0 a1 s.1 s.2) FUEL (([] : List Plan), (0 : Int))) (fun b8 => some b8)
set_option maxRecDepth 100000 in
set_option maxHeartbeats 2000000 in
theorem plan_some_c (a0 : Int) (a1 : List Plan) {r : (List Plan)} (hm : plan_some a0 a1 = some r) : Ctr Try.prog 22 [.rep 0 a0, .rep 0 a1] (.own 0 (some 1) 33 r) [1] := by
 refine ctr_of_walk [[15], [0, 14]] 25 Try.func22 rfl rfl rfl rfl (fun w0 om => ?_)
 unfold plan_some at hm
 refine CWalk.sub (G' := [.fact 0 (Fact.rep [] (a0 : Int)), .fact 1 (Fact.rep [0] (a1 : List Plan))]) (Sub.cons (Has.fl (Has.s rfl)) (sn Sub.nil)) ?_
 refine CWalk.seq ?_
 refine CWalk.region ?_
 refine wo (Spec.assign Has.nilv) ?_
 refine Walk.nil ?_
 refine Leaf.thenN ?_
 refine CWalk.seq ?_
 refine CWalk.region ?_
 refine wo (Spec.assign Has.nilv) ?_
 refine Walk.nil ?_
 refine Leaf.thenN ?_
 refine CWalk.seq ?_
 refine CWalk.seq ?_
 refine CWalk.region ?_
 refine mv ?_
 refine wo (Spec.len (Has.s rfl) Try.underlying52) ?_
 refine wo (Spec.move Has.int) ?_
 refine Walk.nil ?_
 refine Leaf.thenN ?_
 refine CWalk.block ?_
 obtain ⟨b8, hb8, hm⟩ := bind_some hm
 refine CWalk.loop (fun s : (List Plan) × Int => [.fact 0 (Fact.rep [] (a0 : Int)), .fact 5 (Fact.ow [15] [0, 14] 33 (s.1 : List Plan)), .fact 8 (Fact.rep [0] (a1 : List Plan)), .fact 9 (Fact.rep [] (((a1).length : Int) : Int)), .fact 10 (Fact.rep [] (s.2 : Int))]) (fun b : (List Plan) => (Exit.exit 0, [.fact 5 (Fact.ow [15] [0, 14] 33 (b : List Plan))])) hb8 (st (Sub.cons (Has.cv (Has.s rfl) (Cv.trans Cv.nilOw (Cv.owM (T := []) (te := []) rfl rfl))) (su (st (st Sub.nil))))) ?_ ?_
 ·rintro ⟨s1, s2⟩ c3 hm
  replace hm : plan_some_L1 a0 a1 s1 s2 = some c3 := hm
  unfold plan_some_L1 at hm
  show CWalk _ [.fact 0 (Fact.rep [] (a0 : Int)), .fact 5 (Fact.ow [15] [0, 14] 33 (s1 : List Plan)), .fact 8 (Fact.rep [0] (a1 : List Plan)), .fact 9 (Fact.rep [] (((a1).length : Int) : Int)), .fact 10 (Fact.rep [] (s2 : Int))] _ _
  refine CWalk.seq ?_
  refine CWalk.region ?_
  refine wo (Spec.lssI (Has.s rfl) (Has.s rfl)) ?_
  refine Walk.nil ?_
  refine Leaf.thenN ?_
  refine CWalk.seq ?_
  refine CWalk.cond rfl (fun hb => ?_) (fun hb => ?_)
  ·have hm := cond_t hb hm
   refine CWalk.skip ?_
   refine Leaf.thenN ?_
   refine CWalk.seqJ (fun p : (List Plan) => [.fact 0 (Fact.rep [] (a0 : Int)), .fact 5 (Fact.ow [15] [0, 14] 33 (p : List Plan)), .fact 8 (Fact.rep [0] (a1 : List Plan)), .fact 9 (Fact.rep [] (((a1).length : Int) : Int)), .fact 10 (Fact.rep [] (s2 : Int))]) (fun p : (List Plan) => plan_some_J2 s2 p = some c3) ?_ ?_
   ·rintro j4 hm
    replace hm : plan_some_J2 s2 j4 = some c3 := hm
    unfold plan_some_J2 at hm
    show CWalk _ [.fact 0 (Fact.rep [] (a0 : Int)), .fact 5 (Fact.ow [15] [0, 14] 33 (j4 : List Plan)), .fact 8 (Fact.rep [0] (a1 : List Plan)), .fact 9 (Fact.rep [] (((a1).length : Int) : Int)), .fact 10 (Fact.rep [] (s2 : Int))] _ _
    refine CWalk.region ?_
    refine wo (Spec.addI (Has.s rfl) Has.int) ?_
    refine mv ?_
    refine Walk.nil ?_
    exact Leaf.next hm (st (Sub.cons (Has.cv (Has.s rfl) (Cv.owM (T := [15]) (te := [0, 14]) rfl rfl)) (su (st (st Sub.nil)))))
   ·refine CWalk.block ?_
    refine CWalk.seq ?_
    refine CWalk.region ?_
    obtain ⟨x5, hx5, hm⟩ := bind_some hm
    refine wo (Spec.indexAddr hx5 sl52 (Has.s rfl) (Has.s rfl)) ?_
    refine wo (Spec.load ty33 (Has.s rfl)) ?_
    refine ws (Step.allocObj (ls := [(false, 1, Fact.rep [] ((0 : UInt8) : UInt8)), (false, 1, Fact.nilv)]) 10 rfl rfl rfl rfl zl33) ?_
    refine ws (Step.storeObj (ls := [(false, 1, Fact.rep [] (x5.Kind : UInt8)), (false, 1, Fact.rep [0] (x5.Reads : List Int))]) rfl ty33 rfl rfl (Has.s rfl) rfl (HasL.flds (Has.cv (Has.s rfl) (Cv.trans (Cv.opens (chPlan x5)) (Cv.flds (CvL.cons Cv.fl (CvL.cons Cv.refl CvL.nil)))))) rfl) ?_
    refine Walk.nil ?_
    refine Leaf.thenN ?_
    refine CWalk.seq ?_
    refine CWalk.region ?_
    refine wo (Spec.fieldAddrO fd33_1 (Has.cv (Has.s rfl) (Cv.isvP rfl))) ?_
    refine wo (Spec.loadF (i := 1) ty31 rfl (Has.s rfl) rfl (HasG.s rfl)) ?_
    refine mv ?_
    obtain ⟨x6, hx6, hm⟩ := bind_some hm
    refine wo (f := Fact.rep [] (x6 : Bool)) (Spec.callE [0] 13 rfl en37 (slices_Contains_int_int_c x5.Reads a0 hx6) (HasAll.cons (Has.m (Has.s rfl) rfl) (HasAll.cons (Has.fl (Has.s rfl)) HasAll.nil))) ?_
    refine wo (Spec.not (Has.s rfl)) ?_
    refine Walk.nil ?_
    refine Leaf.thenN ?_
    refine CWalk.cond rfl (fun hb => ?_) (fun hb => ?_)
    ·have hm := cond_t hb hm
     refine CWalk.region ?_
     refine mv ?_
     refine wo (Spec.loadObj (ls := [(false, 1, Fact.rep [] (x5.Kind : UInt8)), (false, 1, Fact.rep [0] (x5.Reads : List Int))]) ty33 rfl rfl (Has.s rfl) rfl (HasGs.cons (HasG.s rfl) (HasGs.cons (HasG.s rfl) HasGs.nil))) ?_
     refine wo (Spec.lit (xs := [.tmp 20]) (T := [0]) 14 rfl ow52 rfl rfl rfl rfl (HasEach.cons (Has.m (Has.cv (Has.s rfl) (Cv.trans (Cv.flds (CvL.cons Cv.fl (CvL.cons (Cv.m rfl) CvL.nil))) (Cv.close (T := [0]) (chPlan x5)))) rfl) HasEach.nil)) ?_
     obtain ⟨x7, hx7, hm⟩ := bind_some hm
     refine ws (Step.appendOw (T := [15]) (te' := [0, 14]) hx7 rfl rfl rfl ow52 (Has.s rfl) (Has.s rfl) (ElKeeps.tags rfl rfl) (ElKeeps.tags rfl rfl)) ?_
     refine wo (Spec.assign (Has.s rfl)) ?_
     refine Walk.nil ?_
     refine Leaf.blockN ?_
     exact Leaf.join x7 hm (st (Sub.cons (Has.cv (Has.s rfl) (Cv.owM (T := [15]) (te := [0, 14]) rfl rfl)) (su (st (st Sub.nil)))))
    ·have hm := cond_f hb hm
     refine CWalk.skip ?_
     refine Leaf.blockN ?_
     exact Leaf.join s1 hm (st (Sub.cons (Has.cv (Has.s rfl) (Cv.owM (T := [15]) (te := [0, 14]) rfl rfl)) (su (st (st Sub.nil)))))
  ·have hm := cond_f hb hm
   refine CWalk.exit ?_
   refine Leaf.thenE ?_
   exact Leaf.brk hm (fun h => nomatch h) rfl (Sub.cons (Has.cv (Has.s rfl) (Cv.owM (T := [15]) (te := [0, 14]) rfl rfl)) Sub.nil)
 ·intro _
  refine Leaf.blockE ?_
  refine Leaf.thenN ?_
  refine CWalk.seq ?_
  refine CWalk.region ?_
  refine mv ?_
  refine wo (Spec.assign (Has.s rfl)) ?_
  refine Walk.nil ?_
  refine Leaf.thenN ?_
  refine CWalk.ret ?_
  obtain rfl := Option.some.inj hm
  exact Leaf.retC1 rfl (HasR.cv (HasR.tmp (Has.s rfl)) (Cv.owM (T := [15]) (te := [0, 14]) rfl rfl))

end Go.Proofs.Ythdeieeckjhfpaa
