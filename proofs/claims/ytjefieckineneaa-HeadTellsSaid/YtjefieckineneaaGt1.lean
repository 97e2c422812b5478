/- Printed by a program of ours: models of functions, and that calls do what they say. -/
import Derived.Test.YtjefieckineneaaProg
import Derived.Test.YtjefieckineneaaCore32
import Derived.KernelRfl
namespace Go.Proofs.Ytjefieckineneaa
open Go GL
set_option linter.unusedVariables false

structure Config where
  Id : UInt32
  Members : Int
  Chunk : Int
  Rows : Int
  Log : Int
  Heads : Int
  deriving Inhabited, DecidableEq
instance : Rp Config := Rp.via (inferInstance : Rp (UInt32 × Int × Int × Int × Int × Int)) (fun x => (x.Id, x.Members, x.Chunk, x.Rows, x.Log, x.Heads))
theorem chConfig (x : Config) : Ch x [⟨inferInstance, x.Id⟩, ⟨inferInstance, x.Members⟩, ⟨inferInstance, x.Chunk⟩, ⟨inferInstance, x.Rows⟩, ⟨inferInstance, x.Log⟩, ⟨inferInstance, x.Heads⟩] := Ch.via (ChT.cons (ChT.cons (ChT.cons (ChT.cons (ChT.cons (ChT.one _))))))
instance : Lo Config := Lo.via (inferInstance : Rp (UInt32 × Int × Int × Int × Int × Int)) inferInstance (fun x : Config => (x.Id, x.Members, x.Chunk, x.Rows, x.Log, x.Heads))
theorem loConfig_0 (x : Config) : LoAt x 0 x.Id := fun F cs w h => (LoAt.fst : LoAt ((x.Id, x.Members, x.Chunk, x.Rows, x.Log, x.Heads)) 0 x.Id) F cs w h
theorem loConfig_1 (x : Config) : LoAt x 1 x.Members := fun F cs w h => ((LoAt.snd LoAt.fst) : LoAt ((x.Id, x.Members, x.Chunk, x.Rows, x.Log, x.Heads)) 1 x.Members) F cs w h
theorem loConfig_2 (x : Config) : LoAt x 2 x.Chunk := fun F cs w h => ((LoAt.snd (LoAt.snd LoAt.fst)) : LoAt ((x.Id, x.Members, x.Chunk, x.Rows, x.Log, x.Heads)) 2 x.Chunk) F cs w h
theorem loConfig_3 (x : Config) : LoAt x 3 x.Rows := fun F cs w h => ((LoAt.snd (LoAt.snd (LoAt.snd LoAt.fst))) : LoAt ((x.Id, x.Members, x.Chunk, x.Rows, x.Log, x.Heads)) 3 x.Rows) F cs w h
theorem loConfig_4 (x : Config) : LoAt x 4 x.Log := fun F cs w h => ((LoAt.snd (LoAt.snd (LoAt.snd (LoAt.snd LoAt.fst)))) : LoAt ((x.Id, x.Members, x.Chunk, x.Rows, x.Log, x.Heads)) 4 x.Log) F cs w h
theorem loConfig_5 (x : Config) : LoAt x 5 x.Heads := fun F cs w h => ((LoAt.snd (LoAt.snd (LoAt.snd (LoAt.snd (LoAt.snd LoAt.self))))) : LoAt ((x.Id, x.Members, x.Chunk, x.Rows, x.Log, x.Heads)) 5 x.Heads) F cs w h
instance : Flat Config := ⟨fun F F' x cs w w' h => Flat.flat (α := UInt32 × Int × Int × Int × Int × Int) F F' ((x.Id, x.Members, x.Chunk, x.Rows, x.Log, x.Heads)) cs w w' h⟩

structure Head where
  Stripe : Int
  Blocks : List (List UInt8)
  Dirty : List Bool
  Phase : UInt8
  Deals : Bool
  Seq : UInt32
  deriving Inhabited, DecidableEq
instance : Rp Head := Rp.via (inferInstance : Rp (Int × (List (List UInt8)) × (List Bool) × UInt8 × Bool × UInt32)) (fun x => (x.Stripe, x.Blocks, x.Dirty, x.Phase, x.Deals, x.Seq))
theorem chHead (x : Head) : Ch x [⟨inferInstance, x.Stripe⟩, ⟨inferInstance, x.Blocks⟩, ⟨inferInstance, x.Dirty⟩, ⟨inferInstance, x.Phase⟩, ⟨inferInstance, x.Deals⟩, ⟨inferInstance, x.Seq⟩] := Ch.via (ChT.cons (ChT.cons (ChT.cons (ChT.cons (ChT.cons (ChT.one _))))))
instance : Lo Head := Lo.via (inferInstance : Rp (Int × (List (List UInt8)) × (List Bool) × UInt8 × Bool × UInt32)) inferInstance (fun x : Head => (x.Stripe, x.Blocks, x.Dirty, x.Phase, x.Deals, x.Seq))
theorem loHead_0 (x : Head) : LoAt x 0 x.Stripe := fun F cs w h => (LoAt.fst : LoAt ((x.Stripe, x.Blocks, x.Dirty, x.Phase, x.Deals, x.Seq)) 0 x.Stripe) F cs w h
theorem loHead_1 (x : Head) : LoAt x 1 x.Blocks := fun F cs w h => ((LoAt.snd LoAt.fst) : LoAt ((x.Stripe, x.Blocks, x.Dirty, x.Phase, x.Deals, x.Seq)) 1 x.Blocks) F cs w h
theorem loHead_2 (x : Head) : LoAt x 2 x.Dirty := fun F cs w h => ((LoAt.snd (LoAt.snd LoAt.fst)) : LoAt ((x.Stripe, x.Blocks, x.Dirty, x.Phase, x.Deals, x.Seq)) 2 x.Dirty) F cs w h
theorem loHead_3 (x : Head) : LoAt x 3 x.Phase := fun F cs w h => ((LoAt.snd (LoAt.snd (LoAt.snd LoAt.fst))) : LoAt ((x.Stripe, x.Blocks, x.Dirty, x.Phase, x.Deals, x.Seq)) 3 x.Phase) F cs w h
theorem loHead_4 (x : Head) : LoAt x 4 x.Deals := fun F cs w h => ((LoAt.snd (LoAt.snd (LoAt.snd (LoAt.snd LoAt.fst)))) : LoAt ((x.Stripe, x.Blocks, x.Dirty, x.Phase, x.Deals, x.Seq)) 4 x.Deals) F cs w h
theorem loHead_5 (x : Head) : LoAt x 5 x.Seq := fun F cs w h => ((LoAt.snd (LoAt.snd (LoAt.snd (LoAt.snd (LoAt.snd LoAt.self))))) : LoAt ((x.Stripe, x.Blocks, x.Dirty, x.Phase, x.Deals, x.Seq)) 5 x.Seq) F cs w h

structure Arr3_Int where
  e0 : Int
  e1 : Int
  e2 : Int
  deriving Inhabited, DecidableEq
instance : Rp Arr3_Int := Rp.via (inferInstance : Rp (Int × Int × Int)) (fun x => (x.e0, x.e1, x.e2))
theorem chArr3_Int (x : Arr3_Int) : Ch x [⟨inferInstance, x.e0⟩, ⟨inferInstance, x.e1⟩, ⟨inferInstance, x.e2⟩] := Ch.via (ChT.cons (ChT.cons (ChT.one _)))
instance : Lo Arr3_Int := Lo.via (inferInstance : Rp (Int × Int × Int)) inferInstance (fun x : Arr3_Int => (x.e0, x.e1, x.e2))
theorem loArr3_Int_0 (x : Arr3_Int) : LoAt x 0 x.e0 := fun F cs w h => (LoAt.fst : LoAt ((x.e0, x.e1, x.e2)) 0 x.e0) F cs w h
theorem loArr3_Int_1 (x : Arr3_Int) : LoAt x 1 x.e1 := fun F cs w h => ((LoAt.snd LoAt.fst) : LoAt ((x.e0, x.e1, x.e2)) 1 x.e1) F cs w h
theorem loArr3_Int_2 (x : Arr3_Int) : LoAt x 2 x.e2 := fun F cs w h => ((LoAt.snd (LoAt.snd LoAt.self)) : LoAt ((x.e0, x.e1, x.e2)) 2 x.e2) F cs w h
instance : Flat Arr3_Int := ⟨fun F F' x cs w w' h => Flat.flat (α := Int × Int × Int) F F' ((x.e0, x.e1, x.e2)) cs w w' h⟩

structure Deal where
  Stripe : Int
  Slots : List Int
  Blocks : List (List UInt8)
  Parity : List UInt8
  deriving Inhabited, DecidableEq
instance : Rp Deal := Rp.via (inferInstance : Rp (Int × (List Int) × (List (List UInt8)) × (List UInt8))) (fun x => (x.Stripe, x.Slots, x.Blocks, x.Parity))
theorem chDeal (x : Deal) : Ch x [⟨inferInstance, x.Stripe⟩, ⟨inferInstance, x.Slots⟩, ⟨inferInstance, x.Blocks⟩, ⟨inferInstance, x.Parity⟩] := Ch.via (ChT.cons (ChT.cons (ChT.cons (ChT.one _))))
instance : Lo Deal := Lo.via (inferInstance : Rp (Int × (List Int) × (List (List UInt8)) × (List UInt8))) inferInstance (fun x : Deal => (x.Stripe, x.Slots, x.Blocks, x.Parity))
theorem loDeal_0 (x : Deal) : LoAt x 0 x.Stripe := fun F cs w h => (LoAt.fst : LoAt ((x.Stripe, x.Slots, x.Blocks, x.Parity)) 0 x.Stripe) F cs w h
theorem loDeal_1 (x : Deal) : LoAt x 1 x.Slots := fun F cs w h => ((LoAt.snd LoAt.fst) : LoAt ((x.Stripe, x.Slots, x.Blocks, x.Parity)) 1 x.Slots) F cs w h
theorem loDeal_2 (x : Deal) : LoAt x 2 x.Blocks := fun F cs w h => ((LoAt.snd (LoAt.snd LoAt.fst)) : LoAt ((x.Stripe, x.Slots, x.Blocks, x.Parity)) 2 x.Blocks) F cs w h
theorem loDeal_3 (x : Deal) : LoAt x 3 x.Parity := fun F cs w h => ((LoAt.snd (LoAt.snd (LoAt.snd LoAt.self))) : LoAt ((x.Stripe, x.Slots, x.Blocks, x.Parity)) 3 x.Parity) F cs w h

theorem ty28 : Ty Try.prog 28 (Head) := Ty.of (by kernel_rfl)
theorem fd28_1 : FieldTy Try.prog 28 1 1 1 := FieldTy.of Try.underlying28 (by kernel_rfl) rfl
theorem ty25 : Ty Try.prog 25 (List (List UInt8)) := Ty.of (by kernel_rfl)
theorem sl25 : SlTy Try.prog 25 31 (List UInt8) := SlTy.of Try.underlying25 (by kernel_rfl) rfl
theorem ty31 : Ty Try.prog 31 (List UInt8) := Ty.of (by kernel_rfl)
theorem fd28_2 : FieldTy Try.prog 28 2 2 1 := FieldTy.of Try.underlying28 (by kernel_rfl) rfl
theorem ty26 : Ty Try.prog 26 (List Bool) := Ty.of (by kernel_rfl)
theorem en9 : enters Try.prog 9 = true := by kernel_rfl
theorem zl28 : ZeroLs Try.prog 28 [(false, 1, Fact.rep [] ((0 : Int) : Int)), (false, 1, Fact.nilv), (false, 1, Fact.nilv), (false, 1, Fact.rep [] ((0 : UInt8) : UInt8)), (false, 1, Fact.rep [] (false : Bool)), (false, 1, Fact.rep [] ((0 : UInt32) : UInt32))] := ⟨⟨[.int .i64 0, .slice none 0 0, .slice none 0 0, .int .u8 0, .bool false, .int .u32 0], by kernel_rfl, fun g w => FldRel.zr (fun _ _ => rfl) (FldRel.zn (FldRel.zn (FldRel.zr (fun _ _ => rfl) (FldRel.zr (fun _ _ => rfl) (FldRel.zr (fun _ _ => rfl) (rfl))))))⟩⟩
theorem ow31 : OwnTy Try.prog 31 5 (UInt8) := OwnTy.of Try.underlying31 (by kernel_rfl) rfl (by kernel_rfl)
theorem ow25 : OwnTy Try.prog 25 31 (List UInt8) := OwnTy.of Try.underlying25 (by kernel_rfl) rfl (by kernel_rfl)
theorem mixed : Try.prog.follows .mixedOrders = true := by kernel_rfl
theorem ow26 : OwnTy Try.prog 26 4 (Bool) := OwnTy.of Try.underlying26 (by kernel_rfl) rfl (by kernel_rfl)
theorem en10 : enters Try.prog 10 = true := by kernel_rfl
theorem ty24 : Ty Try.prog 24 (Config) := Ty.of (by kernel_rfl)
theorem fd24_2 : FieldTy Try.prog 24 2 2 1 := FieldTy.of Try.underlying24 (by kernel_rfl) rfl
theorem ty3 : Ty Try.prog 3 (Int) := Ty.of (by kernel_rfl)
theorem fd24_3 : FieldTy Try.prog 24 3 3 1 := FieldTy.of Try.underlying24 (by kernel_rfl) rfl
theorem fd24_1 : FieldTy Try.prog 24 1 1 1 := FieldTy.of Try.underlying24 (by kernel_rfl) rfl
theorem bd107 : BuildTyA Try.prog 107 [(0, 1), (1, 1), (2, 1)] [(false, 1, Fact.rep [] ((0 : Int) : Int)), (false, 1, Fact.rep [] ((0 : Int) : Int)), (false, 1, Fact.rep [] ((0 : Int) : Int))] := ⟨⟨_, _, 1, [.int .i64 0, .int .i64 0, .int .i64 0], by kernel_rfl, Try.underlying107, by kernel_rfl, (fun g w => FldRel.zr (fun _ _ => rfl) (FldRel.zr (fun _ _ => rfl) (FldRel.zr (fun _ _ => rfl) (rfl)))), rfl⟩⟩
theorem fd24_5 : FieldTy Try.prog 24 5 5 1 := FieldTy.of Try.underlying24 (by kernel_rfl) rfl
theorem ow108 : OwnTy Try.prog 108 107 (Arr3_Int) := OwnTy.of Try.underlying108 (by kernel_rfl) rfl (by kernel_rfl)
theorem sl108 : SlTy Try.prog 108 107 (Arr3_Int) := SlTy.of Try.underlying108 (by kernel_rfl) rfl
theorem ty107 : Ty Try.prog 107 (Arr3_Int) := Ty.of (by kernel_rfl)
theorem zl107 : ZeroLs Try.prog 107 [(false, 1, Fact.rep [] ((0 : Int) : Int)), (false, 1, Fact.rep [] ((0 : Int) : Int)), (false, 1, Fact.rep [] ((0 : Int) : Int))] := ⟨⟨[.int .i64 0, .int .i64 0, .int .i64 0], by kernel_rfl, fun g w => FldRel.zr (fun _ _ => rfl) (FldRel.zr (fun _ _ => rfl) (FldRel.zr (fun _ _ => rfl) (rfl)))⟩⟩
theorem sm107 : SmTy Try.prog 107 3 3 1 := ⟨Try.underlying107, by kernel_rfl⟩
theorem en82 : enters Try.prog 82 = true := by kernel_rfl
theorem fd24_4 : FieldTy Try.prog 24 4 4 1 := FieldTy.of Try.underlying24 (by kernel_rfl) rfl
theorem en80 : enters Try.prog 80 = true := by kernel_rfl
theorem en73 : enters Try.prog 73 = true := by kernel_rfl
theorem en52 : enters Try.prog 52 = true := by kernel_rfl
theorem fd28_0 : FieldTy Try.prog 28 0 0 1 := FieldTy.of Try.underlying28 (by kernel_rfl) rfl
theorem fd28_3 : FieldTy Try.prog 28 3 3 1 := FieldTy.of Try.underlying28 (by kernel_rfl) rfl
theorem ty5 : Ty Try.prog 5 (UInt8) := Ty.of (by kernel_rfl)
theorem en76 : enters Try.prog 76 = true := by kernel_rfl
theorem en58 : enters Try.prog 58 = true := by kernel_rfl
theorem en57 : enters Try.prog 57 = true := by kernel_rfl
theorem sl26 : SlTy Try.prog 26 4 (Bool) := SlTy.of Try.underlying26 (by kernel_rfl) rfl
theorem ty4 : Ty Try.prog 4 (Bool) := Ty.of (by kernel_rfl)
theorem fd28_5 : FieldTy Try.prog 28 5 5 1 := FieldTy.of Try.underlying28 (by kernel_rfl) rfl
theorem ty22 : Ty Try.prog 22 (UInt32) := Ty.of (by kernel_rfl)
theorem fd28_4 : FieldTy Try.prog 28 4 4 1 := FieldTy.of Try.underlying28 (by kernel_rfl) rfl
theorem en24 : enters Try.prog 24 = true := by kernel_rfl
theorem en44 : enters Try.prog 44 = true := by kernel_rfl
theorem en11 : enters Try.prog 11 = true := by kernel_rfl
theorem en74 : enters Try.prog 74 = true := by kernel_rfl
theorem en75 : enters Try.prog 75 = true := by kernel_rfl
theorem en53 : enters Try.prog 53 = true := by kernel_rfl
theorem en54 : enters Try.prog 54 = true := by kernel_rfl
theorem en65 : enters Try.prog 65 = true := by kernel_rfl
theorem en66 : enters Try.prog 66 = true := by kernel_rfl
theorem en59 : enters Try.prog 59 = true := by kernel_rfl
theorem en25 : enters Try.prog 25 = true := by kernel_rfl
theorem en45 : enters Try.prog 45 = true := by kernel_rfl
theorem zt5 : ZeroTy Try.prog 5 (0 : UInt8) := ⟨.int .u8 0, by kernel_rfl, fun _ => rfl⟩
theorem en46 : enters Try.prog 46 = true := by kernel_rfl
theorem en12 : enters Try.prog 12 = true := by kernel_rfl
theorem zl39 : ZeroLs Try.prog 39 [(false, 1, Fact.rep [] ((0 : Int) : Int)), (false, 1, Fact.nilv), (false, 1, Fact.nilv), (false, 1, Fact.nilv)] := ⟨⟨[.int .i64 0, .slice none 0 0, .slice none 0 0, .slice none 0 0], by kernel_rfl, fun g w => FldRel.zr (fun _ _ => rfl) (FldRel.zn (FldRel.zn (FldRel.zn (rfl))))⟩⟩
theorem bd39 : BuildTy Try.prog 39 [(0, 1), (1, 1), (2, 1), (3, 1)] [(false, 1, Fact.rep [] ((0 : Int) : Int)), (false, 1, Fact.nilv), (false, 1, Fact.nilv), (false, 1, Fact.nilv)] := ⟨⟨_, [.int .i64 0, .slice none 0 0, .slice none 0 0, .slice none 0 0], by kernel_rfl, Try.underlying39, (fun g w => FldRel.zr (fun _ _ => rfl) (FldRel.zn (FldRel.zn (FldRel.zn (rfl))))), by kernel_rfl⟩⟩
theorem ty39 : Ty Try.prog 39 (Deal) := Ty.of (by kernel_rfl)
theorem fd39_1 : FieldTy Try.prog 39 1 1 1 := FieldTy.of Try.underlying39 (by kernel_rfl) rfl
theorem ty37 : Ty Try.prog 37 (List Int) := Ty.of (by kernel_rfl)
theorem ow37 : OwnTy Try.prog 37 3 (Int) := OwnTy.of Try.underlying37 (by kernel_rfl) rfl (by kernel_rfl)
theorem fd39_2 : FieldTy Try.prog 39 2 2 1 := FieldTy.of Try.underlying39 (by kernel_rfl) rfl
theorem en13 : enters Try.prog 13 = true := by kernel_rfl
theorem en47 : enters Try.prog 47 = true := by kernel_rfl
theorem en14 : enters Try.prog 14 = true := by kernel_rfl
theorem fd39_0 : FieldTy Try.prog 39 0 0 1 := FieldTy.of Try.underlying39 (by kernel_rfl) rfl
theorem fd39_3 : FieldTy Try.prog 39 3 3 1 := FieldTy.of Try.underlying39 (by kernel_rfl) rfl
theorem sl37 : SlTy Try.prog 37 3 (Int) := SlTy.of Try.underlying37 (by kernel_rfl) rfl
theorem en15 : enters Try.prog 15 = true := by kernel_rfl
theorem sl31 : SlTy Try.prog 31 5 (UInt8) := SlTy.of Try.underlying31 (by kernel_rfl) rfl
theorem en16 : enters Try.prog 16 = true := by kernel_rfl

def ref16_Great_L1 (a0 : Head) (s1 : Int) (s2 : Int) : Option (Ctl (Int × Int) (Int)) :=
  (bif ((decide (s2 < ((a0.Blocks).length : Int))) && (decide (s2 < (100 : Int)))) then Option.bind (idx a0.Blocks s2) (fun x4 => some (Ctl.next ((wI (s1 + (wI ((8 : Int) + (min ((x4).length : Int) (100000 : Int)))))), (wI (s2 + (1 : Int)))))) else some (Ctl.brk s1))
/-- freeboard/freeboardref16.Great -/
def ref16_Great (a0 : Head) : Option (Bool) :=
  Option.bind (loopM (fun s : Int × Int => ref16_Great_L1 a0 s.1 s.2) FUEL ((0 : Int), (0 : Int))) (fun b5 => some (((decide (((a0.Blocks).length : Int) > (60 : Int))) || (decide (((a0.Dirty).length : Int) > (60 : Int)))) || (decide (b5 > (10000 : Int)))))
set_option maxRecDepth 100000 in
set_option maxHeartbeats 2000000 in
theorem ref16_Great_c (a0 : Head) {r : Bool} (hm : ref16_Great a0 = some r) : Ctr Try.prog 9 [.rep 0 a0] (.fl r) [] := by
 refine ctr_of_walk [[]] 40 Try.func9 rfl rfl rfl rfl (fun w0 om => ?_)
 unfold ref16_Great at hm
 refine CWalk.sub (G' := [.fact 0 (Fact.rep [0] (a0 : Head))]) (sn Sub.nil) ?_
 refine CWalk.seq ?_
 refine CWalk.region ?_
 refine ws (Step.boxObj (ls := [(false, 1, Fact.rep [] (a0.Stripe : Int)), (false, 1, Fact.rep [0] (a0.Blocks : List (List UInt8))), (false, 1, Fact.rep [0] (a0.Dirty : List Bool)), (false, 1, Fact.rep [] (a0.Phase : UInt8)), (false, 1, Fact.rep [] (a0.Deals : Bool)), (false, 1, Fact.rep [] (a0.Seq : UInt32))]) 10 rfl rfl rfl rfl (HasL.flds (Has.cv (Has.s rfl) (Cv.trans (Cv.opens (chHead a0)) (Cv.flds (CvL.cons Cv.fl (CvL.cons Cv.refl (CvL.cons Cv.refl (CvL.cons Cv.fl (CvL.cons Cv.fl (CvL.cons Cv.fl CvL.nil))))))))))) ?_
 refine wo (Spec.assign Has.bool) ?_
 refine Walk.nil ?_
 refine Leaf.thenN ?_
 refine CWalk.seq ?_
 refine CWalk.region ?_
 refine wo (Spec.assign Has.int) ?_
 refine Walk.nil ?_
 refine Leaf.thenN ?_
 refine CWalk.seq ?_
 refine CWalk.seq ?_
 refine CWalk.region ?_
 refine wo (Spec.assign Has.int) ?_
 refine Walk.nil ?_
 refine Leaf.thenN ?_
 refine CWalk.block ?_
 obtain ⟨b5, hb5, hm⟩ := bind_some hm
 refine CWalk.loop (fun s : Int × Int => [.fact 1 (Fact.isv 10), .fact 3 (Fact.rep [] (s.1 : Int)), .fact 4 (Fact.rep [] (s.2 : Int)), .fact 100011 (Fact.at 11 (Fact.rep [] (a0.Stripe : Int))), .fact 100012 (Fact.at 12 (Fact.rep [0] (a0.Blocks : List (List UInt8)))), .fact 100013 (Fact.at 13 (Fact.rep [0] (a0.Dirty : List Bool))), .fact 100014 (Fact.at 14 (Fact.rep [] (a0.Phase : UInt8))), .fact 100015 (Fact.at 15 (Fact.rep [] (a0.Deals : Bool))), .fact 100016 (Fact.at 16 (Fact.rep [] (a0.Seq : UInt32))), .fact 100010 (Fact.obj 10 [(false, 1), (false, 1), (false, 1), (false, 1), (false, 1), (false, 1)])]) (fun b : Int => (Exit.exit 0, [.fact 1 (Fact.isv 10), .fact 3 (Fact.rep [] (b : Int)), .fact 100011 (Fact.at 11 (Fact.rep [] (a0.Stripe : Int))), .fact 100012 (Fact.at 12 (Fact.rep [0] (a0.Blocks : List (List UInt8)))), .fact 100013 (Fact.at 13 (Fact.rep [0] (a0.Dirty : List Bool))), .fact 100014 (Fact.at 14 (Fact.rep [] (a0.Phase : UInt8))), .fact 100015 (Fact.at 15 (Fact.rep [] (a0.Deals : Bool))), .fact 100016 (Fact.at 16 (Fact.rep [] (a0.Seq : UInt32))), .fact 100010 (Fact.obj 10 [(false, 1), (false, 1), (false, 1), (false, 1), (false, 1), (false, 1)])])) hb5 (sn (st (st (sf (sm (sm (sf (sf (sf (sn Sub.nil)))))))))) ?_ ?_
 ·rintro ⟨s1, s2⟩ c3 hm
  replace hm : ref16_Great_L1 a0 s1 s2 = some c3 := hm
  unfold ref16_Great_L1 at hm
  show CWalk _ [.fact 1 (Fact.isv 10), .fact 3 (Fact.rep [] (s1 : Int)), .fact 4 (Fact.rep [] (s2 : Int)), .fact 100011 (Fact.at 11 (Fact.rep [] (a0.Stripe : Int))), .fact 100012 (Fact.at 12 (Fact.rep [0] (a0.Blocks : List (List UInt8)))), .fact 100013 (Fact.at 13 (Fact.rep [0] (a0.Dirty : List Bool))), .fact 100014 (Fact.at 14 (Fact.rep [] (a0.Phase : UInt8))), .fact 100015 (Fact.at 15 (Fact.rep [] (a0.Deals : Bool))), .fact 100016 (Fact.at 16 (Fact.rep [] (a0.Seq : UInt32))), .fact 100010 (Fact.obj 10 [(false, 1), (false, 1), (false, 1), (false, 1), (false, 1), (false, 1)])] _ _
  refine CWalk.seq ?_
  refine CWalk.seq ?_
  refine CWalk.region ?_
  refine mv ?_
  refine wo (Spec.fieldAddrO fd28_1 (Has.cv (Has.s rfl) (Cv.isvP rfl))) ?_
  refine wo (Spec.loadF (i := 1) ty25 rfl (Has.s rfl) rfl (HasG.s rfl)) ?_
  refine wo (Spec.len (Has.s rfl) Try.underlying25) ?_
  refine wo (Spec.lssI (Has.s rfl) (Has.s rfl)) ?_
  refine mv ?_
  refine wg rfl rfl (fun hb => Spec.move (Has.s rfl)) ?_
  refine wg rfl rfl (fun hb => Spec.lssI (Has.u rfl hb) Has.int) ?_
  refine wo (Spec.and (Has.s rfl) (fun h => Has.u rfl h)) ?_
  refine Walk.nil ?_
  refine Leaf.thenN ?_
  refine CWalk.cond rfl (fun hb => ?_) (fun hb => ?_)
  ·have hm := cond_t hb hm
   refine CWalk.skip ?_
   refine Leaf.thenN ?_
   refine CWalk.seq ?_
   refine CWalk.block ?_
   refine CWalk.region ?_
   refine mv ?_
   refine wo (Spec.fieldAddrO fd28_1 (Has.cv (Has.s rfl) (Cv.isvP rfl))) ?_
   refine wo (Spec.loadF (i := 1) ty25 rfl (Has.s rfl) rfl (HasG.s rfl)) ?_
   refine mv ?_
   obtain ⟨x4, hx4, hm⟩ := bind_some hm
   refine wo (Spec.indexAddr hx4 sl25 (Has.s rfl) (Has.s rfl)) ?_
   refine wo (Spec.load ty31 (Has.s rfl)) ?_
   refine wo (Spec.len (Has.s rfl) Try.underlying31) ?_
   refine wo (Spec.minI (Has.s rfl) Has.int) ?_
   refine wo (Spec.addI Has.int (Has.s rfl)) ?_
   refine wo (Spec.addI (Has.s rfl) (Has.s rfl)) ?_
   refine wo (Spec.assign (Has.s rfl)) ?_
   refine Walk.nil ?_
   refine Leaf.blockN ?_
   refine Leaf.thenN ?_
   refine CWalk.region ?_
   refine mv ?_
   refine wo (Spec.addI (Has.s rfl) Has.int) ?_
   refine wo (Spec.assign (Has.s rfl)) ?_
   refine Walk.nil ?_
   exact Leaf.next hm (sn (st (st (sf (sm (sm (sf (sf (sf (sn Sub.nil))))))))))
  ·have hm := cond_f hb hm
   refine CWalk.exit ?_
   refine Leaf.thenE ?_
   exact Leaf.brk hm (fun h => nomatch h) rfl (sn (st (sf (sm (sm (sf (sf (sf (sn Sub.nil)))))))))
 ·intro _
  refine Leaf.blockE ?_
  refine Leaf.thenN ?_
  refine CWalk.seq ?_
  refine CWalk.region ?_
  refine wo (Spec.fieldAddrO fd28_1 (Has.cv (Has.s rfl) (Cv.isvP rfl))) ?_
  refine wo (Spec.loadF (i := 1) ty25 rfl (Has.s rfl) rfl (HasG.s rfl)) ?_
  refine wo (Spec.len (Has.s rfl) Try.underlying25) ?_
  refine wo (Spec.gtrI (Has.s rfl) Has.int) ?_
  refine mv ?_
  refine wg rfl rfl (fun hb => Spec.fieldAddrO fd28_2 (Has.cv (Has.s rfl) (Cv.isvP rfl))) ?_
  refine wg rfl rfl (fun hb => Spec.loadF (i := 2) ty26 rfl (Has.u rfl hb) rfl (HasG.s rfl)) ?_
  refine wg rfl rfl (fun hb => Spec.len (Has.u rfl hb) Try.underlying26) ?_
  refine wg rfl rfl (fun hb => Spec.gtrI (Has.u rfl hb) Has.int) ?_
  refine wo (Spec.or (Has.s rfl) (fun h => Has.u rfl h)) ?_
  refine mv ?_
  refine wg rfl rfl (fun hb => Spec.move (Has.s rfl)) ?_
  refine wg rfl rfl (fun hb => Spec.gtrI (Has.u rfl hb) Has.int) ?_
  refine wo (Spec.or (Has.s rfl) (fun h => Has.u rfl h)) ?_
  refine wo (Spec.assign (Has.s rfl)) ?_
  refine Walk.nil ?_
  refine Leaf.thenN ?_
  refine CWalk.ret ?_
  obtain rfl := Option.some.inj hm
  exact Leaf.retC1 rfl (HasR.cv (HasR.tmp (Has.s rfl)) Cv.fl)

def ref16_Twin_L1 (a0 : Head) (s1 : Int) (s2 : List (List UInt8)) : Option (Ctl (Int × (List (List UInt8))) ((List (List UInt8)))) :=
  (bif (decide (s1 < ((a0.Blocks).length : Int))) then Option.bind (idx a0.Blocks s1) (fun x4 => Option.bind (app ([] : List UInt8) x4) (fun x5 => Option.bind (app s2 ([x5])) (fun x6 => some (Ctl.next ((wI (s1 + (1 : Int))), x6))))) else some (Ctl.brk s2))
/-- freeboard/freeboardref16.Twin -/
def ref16_Twin (a0 : Head) : Option (Head) :=
  Option.bind (loopM (fun s : Int × (List (List UInt8)) => ref16_Twin_L1 a0 s.1 s.2) FUEL ((0 : Int), ([] : List (List UInt8)))) (fun b7 => Option.bind (app ([] : List Bool) a0.Dirty) (fun x8 => some (Head.mk a0.Stripe b7 x8 a0.Phase a0.Deals a0.Seq)))
set_option maxRecDepth 100000 in
set_option maxHeartbeats 2000000 in
theorem ref16_Twin_c (a0 : Head) {r : Head} (hm : ref16_Twin a0 = some r) : Ctr Try.prog 10 [.rep 0 a0] (.flds [(false, 1, (.fl r.Stripe)), (false, 1, (.own 0 (some 1) 31 r.Blocks)), (false, 1, (.own 2 none 4 r.Dirty)), (false, 1, (.fl r.Phase)), (false, 1, (.fl r.Deals)), (false, 1, (.fl r.Seq))]) [] := by
 refine ctr_of_walk [[33], [31, 32], [34]] 35 Try.func10 rfl rfl rfl rfl (fun w0 om => ?_)
 unfold ref16_Twin at hm
 refine CWalk.sub (G' := [.fact 0 (Fact.rep [0] (a0 : Head))]) (sn Sub.nil) ?_
 refine CWalk.seq ?_
 refine CWalk.region ?_
 refine ws (Step.boxObj (ls := [(false, 1, Fact.rep [] (a0.Stripe : Int)), (false, 1, Fact.rep [0] (a0.Blocks : List (List UInt8))), (false, 1, Fact.rep [0] (a0.Dirty : List Bool)), (false, 1, Fact.rep [] (a0.Phase : UInt8)), (false, 1, Fact.rep [] (a0.Deals : Bool)), (false, 1, Fact.rep [] (a0.Seq : UInt32))]) 10 rfl rfl rfl rfl (HasL.flds (Has.cv (Has.s rfl) (Cv.trans (Cv.opens (chHead a0)) (Cv.flds (CvL.cons Cv.fl (CvL.cons Cv.refl (CvL.cons Cv.refl (CvL.cons Cv.fl (CvL.cons Cv.fl (CvL.cons Cv.fl CvL.nil))))))))))) ?_
 refine ws (Step.allocObj (ls := [(false, 1, Fact.rep [] ((0 : Int) : Int)), (false, 1, Fact.nilv), (false, 1, Fact.nilv), (false, 1, Fact.rep [] ((0 : UInt8) : UInt8)), (false, 1, Fact.rep [] (false : Bool)), (false, 1, Fact.rep [] ((0 : UInt32) : UInt32))]) 17 rfl rfl rfl rfl zl28) ?_
 refine Walk.nil ?_
 refine Leaf.thenN ?_
 refine CWalk.seq ?_
 refine CWalk.region ?_
 refine wo (Spec.loadObj (ls := [(false, 1, Fact.rep [] (a0.Stripe : Int)), (false, 1, Fact.rep [0] (a0.Blocks : List (List UInt8))), (false, 1, Fact.rep [0] (a0.Dirty : List Bool)), (false, 1, Fact.rep [] (a0.Phase : UInt8)), (false, 1, Fact.rep [] (a0.Deals : Bool)), (false, 1, Fact.rep [] (a0.Seq : UInt32))]) ty28 rfl rfl (Has.s rfl) rfl (HasGs.cons (HasG.s rfl) (HasGs.cons (HasG.s rfl) (HasGs.cons (HasG.s rfl) (HasGs.cons (HasG.s rfl) (HasGs.cons (HasG.s rfl) (HasGs.cons (HasG.s rfl) HasGs.nil))))))) ?_
 refine ws (Step.allocObj (ls := [(false, 1, Fact.rep [] ((0 : Int) : Int)), (false, 1, Fact.nilv), (false, 1, Fact.nilv), (false, 1, Fact.rep [] ((0 : UInt8) : UInt8)), (false, 1, Fact.rep [] (false : Bool)), (false, 1, Fact.rep [] ((0 : UInt32) : UInt32))]) 24 rfl rfl rfl rfl zl28) ?_
 refine ws (Step.storeObj (ls := [(false, 1, Fact.rep [] (a0.Stripe : Int)), (false, 1, Fact.rep [0] (a0.Blocks : List (List UInt8))), (false, 1, Fact.rep [0] (a0.Dirty : List Bool)), (false, 1, Fact.rep [] (a0.Phase : UInt8)), (false, 1, Fact.rep [] (a0.Deals : Bool)), (false, 1, Fact.rep [] (a0.Seq : UInt32))]) rfl ty28 rfl rfl (Has.s rfl) rfl (HasL.flds (Has.s rfl)) rfl) ?_
 refine Walk.nil ?_
 refine Leaf.thenN ?_
 refine CWalk.seq ?_
 refine CWalk.region ?_
 refine wo (Spec.fieldAddrO fd28_1 (Has.cv (Has.s rfl) (Cv.isvP rfl))) ?_
 refine ws (Step.storeF (i := 1) (f := Fact.nilv) rfl ty25 rfl (Has.s rfl) rfl (Has.cv Has.nilv (Cv.nil (T := []))) Has.nilv rfl) ?_
 refine Walk.nil ?_
 refine Leaf.thenN ?_
 refine CWalk.seq ?_
 refine CWalk.seq ?_
 refine CWalk.region ?_
 refine wo (Spec.assign Has.int) ?_
 refine Walk.nil ?_
 refine Leaf.thenN ?_
 refine CWalk.block ?_
 obtain ⟨b7, hb7, hm⟩ := bind_some hm
 refine CWalk.loop (fun s : Int × (List (List UInt8)) => [.fact 1 (Fact.isv 10), .fact 2 (Fact.isv 17), .fact 3 (Fact.isv 24), .fact 4 (Fact.rep [] (s.1 : Int)), .fact 100011 (Fact.at 11 (Fact.rep [] (a0.Stripe : Int))), .fact 100012 (Fact.at 12 (Fact.rep [0] (a0.Blocks : List (List UInt8)))), .fact 100013 (Fact.at 13 (Fact.rep [0] (a0.Dirty : List Bool))), .fact 100014 (Fact.at 14 (Fact.rep [] (a0.Phase : UInt8))), .fact 100015 (Fact.at 15 (Fact.rep [] (a0.Deals : Bool))), .fact 100016 (Fact.at 16 (Fact.rep [] (a0.Seq : UInt32))), .fact 100018 (Fact.at 18 (Fact.rep [] ((0 : Int) : Int))), .fact 100019 (Fact.at 19 (Fact.nilv)), .fact 100020 (Fact.at 20 (Fact.nilv)), .fact 100021 (Fact.at 21 (Fact.rep [] ((0 : UInt8) : UInt8))), .fact 100022 (Fact.at 22 (Fact.rep [] (false : Bool))), .fact 100023 (Fact.at 23 (Fact.rep [] ((0 : UInt32) : UInt32))), .fact 100025 (Fact.at 25 (Fact.rep [] (a0.Stripe : Int))), .fact 100026 (Fact.at 26 (Fact.ow [33] [31, 32] 31 (s.2 : List (List UInt8)))), .fact 100027 (Fact.at 27 (Fact.rep [0] (a0.Dirty : List Bool))), .fact 100028 (Fact.at 28 (Fact.rep [] (a0.Phase : UInt8))), .fact 100029 (Fact.at 29 (Fact.rep [] (a0.Deals : Bool))), .fact 100030 (Fact.at 30 (Fact.rep [] (a0.Seq : UInt32))), .fact 100010 (Fact.obj 10 [(false, 1), (false, 1), (false, 1), (false, 1), (false, 1), (false, 1)]), .fact 100017 (Fact.obj 17 [(false, 1), (false, 1), (false, 1), (false, 1), (false, 1), (false, 1)]), .fact 100024 (Fact.obj 24 [(false, 1), (false, 1), (false, 1), (false, 1), (false, 1), (false, 1)])]) (fun b : (List (List UInt8)) => (Exit.exit 0, [.fact 1 (Fact.isv 10), .fact 2 (Fact.isv 17), .fact 3 (Fact.isv 24), .fact 100011 (Fact.at 11 (Fact.rep [] (a0.Stripe : Int))), .fact 100012 (Fact.at 12 (Fact.rep [0] (a0.Blocks : List (List UInt8)))), .fact 100013 (Fact.at 13 (Fact.rep [0] (a0.Dirty : List Bool))), .fact 100014 (Fact.at 14 (Fact.rep [] (a0.Phase : UInt8))), .fact 100015 (Fact.at 15 (Fact.rep [] (a0.Deals : Bool))), .fact 100016 (Fact.at 16 (Fact.rep [] (a0.Seq : UInt32))), .fact 100018 (Fact.at 18 (Fact.rep [] ((0 : Int) : Int))), .fact 100019 (Fact.at 19 (Fact.nilv)), .fact 100020 (Fact.at 20 (Fact.nilv)), .fact 100021 (Fact.at 21 (Fact.rep [] ((0 : UInt8) : UInt8))), .fact 100022 (Fact.at 22 (Fact.rep [] (false : Bool))), .fact 100023 (Fact.at 23 (Fact.rep [] ((0 : UInt32) : UInt32))), .fact 100025 (Fact.at 25 (Fact.rep [] (a0.Stripe : Int))), .fact 100026 (Fact.at 26 (Fact.ow [33] [31, 32] 31 (b : List (List UInt8)))), .fact 100027 (Fact.at 27 (Fact.rep [0] (a0.Dirty : List Bool))), .fact 100028 (Fact.at 28 (Fact.rep [] (a0.Phase : UInt8))), .fact 100029 (Fact.at 29 (Fact.rep [] (a0.Deals : Bool))), .fact 100030 (Fact.at 30 (Fact.rep [] (a0.Seq : UInt32))), .fact 100010 (Fact.obj 10 [(false, 1), (false, 1), (false, 1), (false, 1), (false, 1), (false, 1)]), .fact 100017 (Fact.obj 17 [(false, 1), (false, 1), (false, 1), (false, 1), (false, 1), (false, 1)]), .fact 100024 (Fact.obj 24 [(false, 1), (false, 1), (false, 1), (false, 1), (false, 1), (false, 1)])])) hb7 (sn (sn (sn (st (sf (sm (sm (sf (sf (sf (sf (sg (sg (sf (sf (sf (sf (Sub.cons (Has.at (HasG.cv (HasG.s rfl) (Cv.trans Cv.nilOw (Cv.owM (T := []) (te := []) rfl rfl)))) (sm (sf (sf (sf (sn (sn (sn Sub.nil))))))))))))))))))))))))) ?_ ?_
 ·rintro ⟨s1, s2⟩ c3 hm
  replace hm : ref16_Twin_L1 a0 s1 s2 = some c3 := hm
  unfold ref16_Twin_L1 at hm
  show CWalk _ [.fact 1 (Fact.isv 10), .fact 2 (Fact.isv 17), .fact 3 (Fact.isv 24), .fact 4 (Fact.rep [] (s1 : Int)), .fact 100011 (Fact.at 11 (Fact.rep [] (a0.Stripe : Int))), .fact 100012 (Fact.at 12 (Fact.rep [0] (a0.Blocks : List (List UInt8)))), .fact 100013 (Fact.at 13 (Fact.rep [0] (a0.Dirty : List Bool))), .fact 100014 (Fact.at 14 (Fact.rep [] (a0.Phase : UInt8))), .fact 100015 (Fact.at 15 (Fact.rep [] (a0.Deals : Bool))), .fact 100016 (Fact.at 16 (Fact.rep [] (a0.Seq : UInt32))), .fact 100018 (Fact.at 18 (Fact.rep [] ((0 : Int) : Int))), .fact 100019 (Fact.at 19 (Fact.nilv)), .fact 100020 (Fact.at 20 (Fact.nilv)), .fact 100021 (Fact.at 21 (Fact.rep [] ((0 : UInt8) : UInt8))), .fact 100022 (Fact.at 22 (Fact.rep [] (false : Bool))), .fact 100023 (Fact.at 23 (Fact.rep [] ((0 : UInt32) : UInt32))), .fact 100025 (Fact.at 25 (Fact.rep [] (a0.Stripe : Int))), .fact 100026 (Fact.at 26 (Fact.ow [33] [31, 32] 31 (s2 : List (List UInt8)))), .fact 100027 (Fact.at 27 (Fact.rep [0] (a0.Dirty : List Bool))), .fact 100028 (Fact.at 28 (Fact.rep [] (a0.Phase : UInt8))), .fact 100029 (Fact.at 29 (Fact.rep [] (a0.Deals : Bool))), .fact 100030 (Fact.at 30 (Fact.rep [] (a0.Seq : UInt32))), .fact 100010 (Fact.obj 10 [(false, 1), (false, 1), (false, 1), (false, 1), (false, 1), (false, 1)]), .fact 100017 (Fact.obj 17 [(false, 1), (false, 1), (false, 1), (false, 1), (false, 1), (false, 1)]), .fact 100024 (Fact.obj 24 [(false, 1), (false, 1), (false, 1), (false, 1), (false, 1), (false, 1)])] _ _
  refine CWalk.seq ?_
  refine CWalk.seq ?_
  refine CWalk.region ?_
  refine mv ?_
  refine wo (Spec.fieldAddrO fd28_1 (Has.cv (Has.s rfl) (Cv.isvP rfl))) ?_
  refine wo (Spec.loadF (i := 1) ty25 rfl (Has.s rfl) rfl (HasG.s rfl)) ?_
  refine wo (Spec.len (Has.s rfl) Try.underlying25) ?_
  refine wo (Spec.lssI (Has.s rfl) (Has.s rfl)) ?_
  refine Walk.nil ?_
  refine Leaf.thenN ?_
  refine CWalk.cond rfl (fun hb => ?_) (fun hb => ?_)
  ·have hm := cond_t hb hm
   refine CWalk.skip ?_
   refine Leaf.thenN ?_
   refine CWalk.seq ?_
   refine CWalk.block ?_
   refine CWalk.seq ?_
   refine CWalk.region ?_
   refine wo (Spec.assign Has.nilv) ?_
   refine Walk.nil ?_
   refine Leaf.thenN ?_
   obtain ⟨x4, hx4, hm⟩ := bind_some hm
   obtain ⟨x5, hx5, hm⟩ := bind_some hm
   obtain ⟨x6, hx6, hm⟩ := bind_some hm
   refine CWalk.drawM [[], [0], [], [], [3], [], [3, 4, 5], [3, 4, 5, 6], [2, 3, 4, 5, 6, 7], [2, 3, 4, 5, 6, 7, 8], [0, 1, 2, 3, 4, 5, 6, 7, 8, 9], [0, 1, 2, 3, 4, 5, 6, 7, 8, 9, 10], [0, 1, 2, 3, 4, 5, 6, 7, 8, 9, 10, 11]] [[.fact 15 (Fact.pto 24 1)], [.fact 16 (Fact.ow [33] [31, 32] 31 (s2 : List (List UInt8)))], [.fact 17 (Fact.nilv)], [.fact 18 (Fact.pto 10 1)], [.fact 19 (Fact.rep [0] (a0.Blocks : List (List UInt8)))], [.fact 20 (Fact.rep [] (s1 : Int))], [.fact 21 (Fact.ptr [0] (x4 : List UInt8))], [.fact 22 (Fact.rep [0] (x4 : List UInt8))], [.fact 23 (Fact.ow [31] [] 5 (x5 : List UInt8))], [.fact 24 (Fact.rep [32, 31] ([x5] : List (List UInt8)))], [.fact 25 (Fact.ow [33] [31, 32] 31 (x6 : List (List UInt8))), .kill 33], [.fact 26 (Fact.pto 24 1)], [.fact 100026 (Fact.at 26 (Fact.ow [33] [31, 32] 31 (x6 : List (List UInt8)))), .fact 100024 (Fact.obj 24 [(false, 1), (false, 1), (false, 1), (false, 1), (false, 1), (false, 1)]), .kill 24, .killId 26]] mixed (by kernel_rfl) (ao (so (Spec.fieldAddrO fd28_1 (Has.cv (Has.s rfl) (Cv.isvP rfl)))) (ao (so (Spec.loadF (i := 1) ty25 rfl (Has.s rfl) rfl (HasG.s rfl))) (ao (so (Spec.move (Has.s rfl))) (ao (so (Spec.fieldAddrO fd28_1 (Has.cv (Has.s rfl) (Cv.isvP rfl)))) (ao (so (Spec.loadF (i := 1) ty25 rfl (Has.s rfl) rfl (HasG.s rfl))) (ao (so (Spec.move (Has.s rfl))) (ao (so (Spec.indexAddr hx4 sl25 (Has.s rfl) (Has.s rfl))) (ao (so (Spec.load ty31 (Has.s rfl))) (ao (so (Spec.appNilO (te' := []) 31 hx5 rfl ow31 (Has.s rfl) (Has.s rfl) ElKeep.flat)) (ao (so (Spec.lit (xs := [.tmp 23]) (T := [31]) 32 rfl ow25 rfl rfl rfl rfl (HasEach.cons (Has.m (Has.cv (Has.s rfl) (Cv.trans Cv.owSl (Cv.slRep (T' := [31]) rfl rfl))) rfl) HasEach.nil))) (ao (StepG.stE (Step.appendOw (T := [33]) (te' := [31, 32]) hx6 rfl rfl rfl ow25 (Has.s rfl) (Has.s rfl) (ElKeeps.tags rfl rfl) (ElKeeps.tags rfl rfl))) (ao (so (Spec.fieldAddrO fd28_1 (Has.cv (Has.s rfl) (Cv.isvP rfl)))) (ao (StepG.stE (Step.storeF (i := 1) (f := Fact.ow [33] [31, 32] 31 (x6 : List (List UInt8))) rfl ty25 rfl (Has.s rfl) rfl (Has.cv (Has.s rfl) (Cv.trans Cv.owSl (Cv.slRep (T' := [31, 32, 33]) rfl rfl))) (Has.s rfl) rfl)) AllM.nil))))))))))))) ?_
   refine Leaf.blockN ?_
   refine Leaf.thenN ?_
   refine CWalk.region ?_
   refine mv ?_
   refine wo (Spec.addI (Has.s rfl) Has.int) ?_
   refine wo (Spec.assign (Has.s rfl)) ?_
   refine Walk.nil ?_
   exact Leaf.next hm (sn (sn (sn (st (sf (sm (sm (sf (sf (sf (sf (sg (sg (sf (sf (sf (sf (Sub.cons (Has.at (HasG.cv (HasG.s rfl) (Cv.owM (T := [33]) (te := [31, 32]) rfl rfl))) (sm (sf (sf (sf (sn (sn (sn Sub.nil)))))))))))))))))))))))))
  ·have hm := cond_f hb hm
   refine CWalk.exit ?_
   refine Leaf.thenE ?_
   exact Leaf.brk hm (fun h => nomatch h) rfl (sn (sn (sn (sf (sm (sm (sf (sf (sf (sf (sg (sg (sf (sf (sf (sf (Sub.cons (Has.at (HasG.cv (HasG.s rfl) (Cv.owM (T := [33]) (te := [31, 32]) rfl rfl))) (sm (sf (sf (sf (sn (sn (sn Sub.nil))))))))))))))))))))))))
 ·intro _
  refine Leaf.blockE ?_
  refine Leaf.thenN ?_
  refine CWalk.seq ?_
  refine CWalk.region ?_
  refine wo (Spec.fieldAddrO fd28_2 (Has.cv (Has.s rfl) (Cv.isvP rfl))) ?_
  refine ws (Step.storeF (i := 2) (f := Fact.nilv) rfl ty26 rfl (Has.s rfl) rfl (Has.cv Has.nilv (Cv.nil (T := []))) Has.nilv rfl) ?_
  refine Walk.nil ?_
  refine Leaf.thenN ?_
  refine CWalk.seq ?_
  refine CWalk.region ?_
  refine wo (Spec.fieldAddrO fd28_2 (Has.cv (Has.s rfl) (Cv.isvP rfl))) ?_
  refine wo (Spec.loadF (i := 2) ty26 rfl (Has.s rfl) rfl (HasG.s rfl)) ?_
  refine wo (Spec.fieldAddrO fd28_2 (Has.cv (Has.s rfl) (Cv.isvP rfl))) ?_
  refine wo (Spec.loadF (i := 2) ty26 rfl (Has.s rfl) rfl (HasG.s rfl)) ?_
  obtain ⟨x8, hx8, hm⟩ := bind_some hm
  refine wo (Spec.appNilO (te' := []) 34 hx8 rfl ow26 (Has.s rfl) (Has.s rfl) ElKeep.flat) ?_
  refine wo (Spec.fieldAddrO fd28_2 (Has.cv (Has.s rfl) (Cv.isvP rfl))) ?_
  refine ws (Step.storeF (i := 2) (f := Fact.ow [34] [] 4 (x8 : List Bool)) rfl ty26 rfl (Has.s rfl) rfl (Has.cv (Has.s rfl) (Cv.trans Cv.owSl (Cv.slRep (T' := [34]) rfl rfl))) (Has.s rfl) rfl) ?_
  refine Walk.nil ?_
  refine Leaf.thenN ?_
  refine CWalk.seq ?_
  refine CWalk.region ?_
  refine wo (Spec.loadObj (ls := [(false, 1, Fact.rep [] (a0.Stripe : Int)), (false, 1, Fact.ow [33] [31, 32] 31 (b7 : List (List UInt8))), (false, 1, Fact.ow [34] [] 4 (x8 : List Bool)), (false, 1, Fact.rep [] (a0.Phase : UInt8)), (false, 1, Fact.rep [] (a0.Deals : Bool)), (false, 1, Fact.rep [] (a0.Seq : UInt32))]) ty28 rfl rfl (Has.s rfl) rfl (HasGs.cons (HasG.s rfl) (HasGs.cons (HasG.s rfl) (HasGs.cons (HasG.s rfl) (HasGs.cons (HasG.s rfl) (HasGs.cons (HasG.s rfl) (HasGs.cons (HasG.s rfl) HasGs.nil))))))) ?_
  refine ws (Step.storeObj (ls := [(false, 1, Fact.rep [] (a0.Stripe : Int)), (false, 1, Fact.ow [33] [31, 32] 31 (b7 : List (List UInt8))), (false, 1, Fact.ow [34] [] 4 (x8 : List Bool)), (false, 1, Fact.rep [] (a0.Phase : UInt8)), (false, 1, Fact.rep [] (a0.Deals : Bool)), (false, 1, Fact.rep [] (a0.Seq : UInt32))]) rfl ty28 rfl rfl (Has.s rfl) rfl (HasL.flds (Has.s rfl)) rfl) ?_
  refine Walk.nil ?_
  refine Leaf.thenN ?_
  refine CWalk.ret ?_
  obtain rfl := Option.some.inj hm
  exact Leaf.retC1 rfl (HasR.cv (HasR.obj (ls := [(false, 1, Fact.rep [] (a0.Stripe : Int)), (false, 1, Fact.ow [33] [31, 32] 31 (b7 : List (List UInt8))), (false, 1, Fact.ow [34] [] 4 (x8 : List Bool)), (false, 1, Fact.rep [] (a0.Phase : UInt8)), (false, 1, Fact.rep [] (a0.Deals : Bool)), (false, 1, Fact.rep [] (a0.Seq : UInt32))]) ty28 rfl rfl (Has.s rfl) rfl (HasGs.cons (HasG.s rfl) (HasGs.cons (HasG.s rfl) (HasGs.cons (HasG.s rfl) (HasGs.cons (HasG.s rfl) (HasGs.cons (HasG.s rfl) (HasGs.cons (HasG.s rfl) HasGs.nil))))))) (Cv.flds (CvL.cons Cv.fl (CvL.cons (Cv.owM (T := [33]) (te := [31, 32]) rfl rfl) (CvL.cons (Cv.owF (T := [34]) (te := []) rfl) (CvL.cons Cv.fl (CvL.cons Cv.fl (CvL.cons Cv.fl CvL.nil))))))))

def shape_bounds_L1 (a0 : List Arr3_Int) (s1 : Int) : Option (Ctl (Int) ((Unit) ⊕ (Unit))) :=
  (bif (decide (s1 < ((a0).length : Int))) then Option.bind (idx a0 s1) (fun x3 => (bif ((decide (x3.e0 < x3.e1)) || (decide (x3.e0 > x3.e2))) then some (Ctl.brk (Sum.inr ())) else some (Ctl.next (wI (s1 + (1 : Int)))))) else some (Ctl.brk (Sum.inl ())))
/-- freeboard/shape.bounds -/
def shape_bounds (a0 : List Arr3_Int) : Option (Bool) :=
  Option.bind (loopM (fun s : Int => shape_bounds_L1 a0 s) FUEL (0 : Int)) (fun b4 => Sum.elim (fun b5 => some true) (fun b6 => some false) b4)
set_option maxRecDepth 100000 in
set_option maxHeartbeats 2000000 in
theorem shape_bounds_c (a0 : List Arr3_Int) {r : Bool} (hm : shape_bounds a0 = some r) : Ctr Try.prog 82 [.rep 0 a0] (.fl r) [] := by
 refine ctr_of_walk [[]] 24 Try.func82 rfl rfl rfl rfl (fun w0 om => ?_)
 unfold shape_bounds at hm
 refine CWalk.sub (G' := [.fact 0 (Fact.rep [0] (a0 : List Arr3_Int))]) (sn Sub.nil) ?_
 refine CWalk.seq ?_
 refine CWalk.region ?_
 refine wo (Spec.assign Has.bool) ?_
 refine Walk.nil ?_
 refine Leaf.thenN ?_
 refine CWalk.seq ?_
 refine CWalk.seq ?_
 refine CWalk.region ?_
 refine mv ?_
 refine wo (Spec.len (Has.s rfl) Try.underlying108) ?_
 refine wo (Spec.move Has.int) ?_
 refine Walk.nil ?_
 refine Leaf.thenN ?_
 refine CWalk.block ?_
 obtain ⟨b4, hb4, hm⟩ := bind_some hm
 refine CWalk.loop (fun s : Int => [.fact 5 (Fact.rep [0] (a0 : List Arr3_Int)), .fact 6 (Fact.rep [] (((a0).length : Int) : Int)), .fact 7 (Fact.rep [] (s : Int))]) (fun b : (Unit) ⊕ (Unit) => Sum.elim (fun b => (Exit.exit 0, [])) (fun b => (Exit.ret, [.fact 2 (Fact.rep [] (false : Bool))])) b) hb4 (su (st (st Sub.nil))) ?_ ?_
 ·rintro s1 c2 hm
  replace hm : shape_bounds_L1 a0 s1 = some c2 := hm
  unfold shape_bounds_L1 at hm
  show CWalk _ [.fact 5 (Fact.rep [0] (a0 : List Arr3_Int)), .fact 6 (Fact.rep [] (((a0).length : Int) : Int)), .fact 7 (Fact.rep [] (s1 : Int))] _ _
  refine CWalk.seq ?_
  refine CWalk.region ?_
  refine wo (Spec.lssI (Has.s rfl) (Has.s rfl)) ?_
  refine Walk.nil ?_
  refine Leaf.thenN ?_
  refine CWalk.seq ?_
  refine CWalk.cond rfl (fun hb => ?_) (fun hb => ?_)
  ·have hm := cond_t hb hm
   refine CWalk.skip ?_
   refine Leaf.thenN ?_
   refine CWalk.seq ?_
   refine CWalk.block ?_
   refine CWalk.seq ?_
   refine CWalk.region ?_
   obtain ⟨x3, hx3, hm⟩ := bind_some hm
   refine wo (Spec.indexAddr hx3 sl108 (Has.s rfl) (Has.s rfl)) ?_
   refine wo ((Spec.load ty107 (Has.s rfl)).flat (T' := [])) ?_
   refine ws (Step.allocObj (ls := [(false, 1, Fact.rep [] ((0 : Int) : Int)), (false, 1, Fact.rep [] ((0 : Int) : Int)), (false, 1, Fact.rep [] ((0 : Int) : Int))]) 10 rfl rfl rfl rfl zl107) ?_
   refine ws (Step.storeObj (ls := [(false, 1, Fact.rep [] (x3.e0 : Int)), (false, 1, Fact.rep [] (x3.e1 : Int)), (false, 1, Fact.rep [] (x3.e2 : Int))]) rfl ty107 rfl rfl (Has.s rfl) rfl (HasL.flds (Has.cv (Has.s rfl) (Cv.trans (Cv.opens (chArr3_Int x3)) (Cv.flds (CvL.cons Cv.fl (CvL.cons Cv.fl (CvL.cons Cv.fl CvL.nil))))))) rfl) ?_
   refine Walk.nil ?_
   refine Leaf.thenN ?_
   refine CWalk.seq ?_
   refine CWalk.region ?_
   refine wo (Spec.idxC (i := 0) sm107 rfl (Has.cv (Has.s rfl) (Cv.isvP rfl))) ?_
   refine wo (Spec.loadF (i := 0) ty3 rfl (Has.s rfl) rfl (HasG.s rfl)) ?_
   refine wo (Spec.idxC (i := 1) sm107 rfl (Has.cv (Has.s rfl) (Cv.isvP rfl))) ?_
   refine wo (Spec.loadF (i := 1) ty3 rfl (Has.s rfl) rfl (HasG.s rfl)) ?_
   refine wo (Spec.lssI (Has.s rfl) (Has.s rfl)) ?_
   refine mv ?_
   refine wg rfl rfl (fun hb => Spec.idxC (i := 0) sm107 rfl (Has.cv (Has.s rfl) (Cv.isvP rfl))) ?_
   refine wg rfl rfl (fun hb => Spec.loadF (i := 0) ty3 rfl (Has.u rfl hb) rfl (HasG.s rfl)) ?_
   refine wg rfl rfl (fun hb => Spec.idxC (i := 2) sm107 rfl (Has.cv (Has.s rfl) (Cv.isvP rfl))) ?_
   refine wg rfl rfl (fun hb => Spec.loadF (i := 2) ty3 rfl (Has.u rfl hb) rfl (HasG.s rfl)) ?_
   refine wg rfl rfl (fun hb => Spec.gtrI (Has.u rfl hb) (Has.u rfl hb)) ?_
   refine wo (Spec.or (Has.s rfl) (fun h => Has.u rfl h)) ?_
   refine Walk.nil ?_
   refine Leaf.thenN ?_
   refine CWalk.cond rfl (fun hb => ?_) (fun hb => ?_)
   ·have hm := cond_t hb hm
    refine CWalk.seq ?_
    refine CWalk.region ?_
    refine wo (Spec.assign Has.bool) ?_
    refine Walk.nil ?_
    refine Leaf.thenN ?_
    refine CWalk.ret ?_
    refine Leaf.blockR ?_
    refine Leaf.thenR ?_
    exact Leaf.brk hm (fun h => nomatch h) rfl (st Sub.nil)
   ·have hm := cond_f hb hm
    refine CWalk.skip ?_
    refine Leaf.blockN ?_
    refine Leaf.thenN ?_
    refine CWalk.region ?_
    refine wo (Spec.addI (Has.s rfl) Has.int) ?_
    refine mv ?_
    refine Walk.nil ?_
    exact Leaf.next hm (su (st (st Sub.nil)))
  ·have hm := cond_f hb hm
   refine CWalk.exit ?_
   refine Leaf.thenE ?_
   exact Leaf.brk hm (fun h => nomatch h) rfl (Sub.nil)
 ·intro _
  rcases b4 with b5 | b6
  ·have hm := selim_l hm
   refine Leaf.blockE ?_
   refine Leaf.thenN ?_
   refine CWalk.seq ?_
   refine CWalk.region ?_
   refine wo (Spec.assign Has.bool) ?_
   refine Walk.nil ?_
   refine Leaf.thenN ?_
   refine CWalk.ret ?_
   obtain rfl := Option.some.inj hm
   exact Leaf.retC1 rfl (HasR.cv (HasR.tmp (Has.s rfl)) Cv.fl)
  ·have hm := selim_r hm
   refine Leaf.blockR ?_
   refine Leaf.thenR ?_
   obtain rfl := Option.some.inj hm
   exact Leaf.retC1 rfl (HasR.cv (HasR.tmp (Has.s rfl)) Cv.fl)

/-- freeboard/shape.Check -/
def shape_Check (a0 : Config) : Option (Int) :=
  Option.bind (shape_bounds ([(Arr3_Int.mk a0.Members (3 : Int) (16 : Int)), (Arr3_Int.mk a0.Chunk (1 : Int) (8 : Int)), (Arr3_Int.mk a0.Rows (1 : Int) (8 : Int)), (Arr3_Int.mk a0.Heads (2 : Int) (8 : Int))])) (fun x1 => Option.bind (gO (!(!x1)) (shape_bounds ([(Arr3_Int.mk a0.Log (wI ((wI (a0.Members + (1 : Int))) * (wI (a0.Heads + (1 : Int))))) (255 : Int))]))) (fun x2 => (bif ((!x1) || (!x2)) then some (8 : Int) else some (0 : Int))))
set_option maxRecDepth 100000 in
set_option maxHeartbeats 2000000 in
theorem shape_Check_c (a0 : Config) {r : Int} (hm : shape_Check a0 = some r) : Ctr Try.prog 80 [.rep 0 a0] (.fl r) [] := by
 refine ctr_of_walk [[]] 35 Try.func80 rfl rfl rfl rfl (fun w0 om => ?_)
 unfold shape_Check at hm
 refine CWalk.sub (G' := [.fact 0 (Fact.rep [] (a0 : Config))]) (Sub.cons (Has.fl (Has.s rfl)) Sub.nil) ?_
 refine CWalk.seq ?_
 refine CWalk.region ?_
 refine ws (Step.boxObj (ls := [(false, 1, Fact.rep [] (a0.Id : UInt32)), (false, 1, Fact.rep [] (a0.Members : Int)), (false, 1, Fact.rep [] (a0.Chunk : Int)), (false, 1, Fact.rep [] (a0.Rows : Int)), (false, 1, Fact.rep [] (a0.Log : Int)), (false, 1, Fact.rep [] (a0.Heads : Int))]) 10 rfl rfl rfl rfl (HasL.flds (Has.cv (Has.s rfl) (Cv.trans (Cv.opens (chConfig a0)) (Cv.flds (CvL.cons Cv.fl (CvL.cons Cv.fl (CvL.cons Cv.fl (CvL.cons Cv.fl (CvL.cons Cv.fl (CvL.cons Cv.fl CvL.nil))))))))))) ?_
 refine wo (Spec.assign Has.int) ?_
 refine Walk.nil ?_
 refine Leaf.thenN ?_
 refine CWalk.seq ?_
 refine CWalk.region ?_
 refine wo (Spec.fieldAddrO fd24_1 (Has.cv (Has.s rfl) (Cv.isvP rfl))) ?_
 refine wo (Spec.loadF (i := 1) ty3 rfl (Has.s rfl) rfl (HasG.s rfl)) ?_
 refine wo (Spec.buildA (us := [(0, .tmp 5), (1, .const (.int .i64 3)), (2, .const (.int .i64 16))]) (ls' := [(false, 1, Fact.rep [] (a0.Members : Int)), (false, 1, Fact.rep [] ((3 : Int) : Int)), (false, 1, Fact.rep [] ((16 : Int) : Int))]) bd107 rfl (BP.cons rfl rfl (Has.s rfl) (Has.s rfl) (BP.cons rfl rfl Has.int Has.int (BP.cons rfl rfl Has.int Has.int BP.nil)))) ?_
 refine wo (Spec.fieldAddrO fd24_2 (Has.cv (Has.s rfl) (Cv.isvP rfl))) ?_
 refine wo (Spec.loadF (i := 2) ty3 rfl (Has.s rfl) rfl (HasG.s rfl)) ?_
 refine wo (Spec.buildA (us := [(0, .tmp 8), (1, .const (.int .i64 1)), (2, .const (.int .i64 8))]) (ls' := [(false, 1, Fact.rep [] (a0.Chunk : Int)), (false, 1, Fact.rep [] ((1 : Int) : Int)), (false, 1, Fact.rep [] ((8 : Int) : Int))]) bd107 rfl (BP.cons rfl rfl (Has.s rfl) (Has.s rfl) (BP.cons rfl rfl Has.int Has.int (BP.cons rfl rfl Has.int Has.int BP.nil)))) ?_
 refine wo (Spec.fieldAddrO fd24_3 (Has.cv (Has.s rfl) (Cv.isvP rfl))) ?_
 refine wo (Spec.loadF (i := 3) ty3 rfl (Has.s rfl) rfl (HasG.s rfl)) ?_
 refine wo (Spec.buildA (us := [(0, .tmp 11), (1, .const (.int .i64 1)), (2, .const (.int .i64 8))]) (ls' := [(false, 1, Fact.rep [] (a0.Rows : Int)), (false, 1, Fact.rep [] ((1 : Int) : Int)), (false, 1, Fact.rep [] ((8 : Int) : Int))]) bd107 rfl (BP.cons rfl rfl (Has.s rfl) (Has.s rfl) (BP.cons rfl rfl Has.int Has.int (BP.cons rfl rfl Has.int Has.int BP.nil)))) ?_
 refine wo (Spec.fieldAddrO fd24_5 (Has.cv (Has.s rfl) (Cv.isvP rfl))) ?_
 refine wo (Spec.loadF (i := 5) ty3 rfl (Has.s rfl) rfl (HasG.s rfl)) ?_
 refine wo (Spec.buildA (us := [(0, .tmp 14), (1, .const (.int .i64 2)), (2, .const (.int .i64 8))]) (ls' := [(false, 1, Fact.rep [] (a0.Heads : Int)), (false, 1, Fact.rep [] ((2 : Int) : Int)), (false, 1, Fact.rep [] ((8 : Int) : Int))]) bd107 rfl (BP.cons rfl rfl (Has.s rfl) (Has.s rfl) (BP.cons rfl rfl Has.int Has.int (BP.cons rfl rfl Has.int Has.int BP.nil)))) ?_
 refine wo (Spec.lit (xs := [.tmp 6, .tmp 9, .tmp 12, .tmp 15]) (T := []) 17 rfl ow108 rfl rfl rfl rfl (HasEach.cons (Has.fl (Has.cv (Has.s rfl) (Cv.trans (Cv.flds (CvL.cons Cv.fl (CvL.cons Cv.fl (CvL.cons Cv.fl CvL.nil)))) (Cv.close (T := []) (chArr3_Int (Arr3_Int.mk a0.Members (3 : Int) (16 : Int))))))) (HasEach.cons (Has.fl (Has.cv (Has.s rfl) (Cv.trans (Cv.flds (CvL.cons Cv.fl (CvL.cons Cv.fl (CvL.cons Cv.fl CvL.nil)))) (Cv.close (T := []) (chArr3_Int (Arr3_Int.mk a0.Chunk (1 : Int) (8 : Int))))))) (HasEach.cons (Has.fl (Has.cv (Has.s rfl) (Cv.trans (Cv.flds (CvL.cons Cv.fl (CvL.cons Cv.fl (CvL.cons Cv.fl CvL.nil)))) (Cv.close (T := []) (chArr3_Int (Arr3_Int.mk a0.Rows (1 : Int) (8 : Int))))))) (HasEach.cons (Has.fl (Has.cv (Has.s rfl) (Cv.trans (Cv.flds (CvL.cons Cv.fl (CvL.cons Cv.fl (CvL.cons Cv.fl CvL.nil)))) (Cv.close (T := []) (chArr3_Int (Arr3_Int.mk a0.Heads (2 : Int) (8 : Int))))))) HasEach.nil))))) ?_
 obtain ⟨x1, hx1, hm⟩ := bind_some hm
 refine wo (f := Fact.rep [] (x1 : Bool)) (Spec.callE [17] 18 rfl en82 (shape_bounds_c ([(Arr3_Int.mk a0.Members (3 : Int) (16 : Int)), (Arr3_Int.mk a0.Chunk (1 : Int) (8 : Int)), (Arr3_Int.mk a0.Rows (1 : Int) (8 : Int)), (Arr3_Int.mk a0.Heads (2 : Int) (8 : Int))]) hx1) (HasAll.cons (Has.m (Has.s rfl) rfl) HasAll.nil)) ?_
 refine wo (Spec.assign (Has.s rfl)) ?_
 refine Walk.nil ?_
 refine Leaf.thenN ?_
 refine CWalk.seq ?_
 refine CWalk.seq ?_
 refine CWalk.region ?_
 refine mv ?_
 refine wo (Spec.not (Has.s rfl)) ?_
 refine mv ?_
 refine wg rfl rfl (fun hb => Spec.fieldAddrO fd24_4 (Has.cv (Has.s rfl) (Cv.isvP rfl))) ?_
 refine wg rfl rfl (fun hb => Spec.loadF (i := 4) ty3 rfl (Has.u rfl hb) rfl (HasG.s rfl)) ?_
 refine wg rfl rfl (fun hb => Spec.fieldAddrO fd24_1 (Has.cv (Has.s rfl) (Cv.isvP rfl))) ?_
 refine wg rfl rfl (fun hb => Spec.loadF (i := 1) ty3 rfl (Has.u rfl hb) rfl (HasG.s rfl)) ?_
 refine wg rfl rfl (fun hb => Spec.addI (Has.u rfl hb) Has.int) ?_
 refine wg rfl rfl (fun hb => Spec.fieldAddrO fd24_5 (Has.cv (Has.s rfl) (Cv.isvP rfl))) ?_
 refine wg rfl rfl (fun hb => Spec.loadF (i := 5) ty3 rfl (Has.u rfl hb) rfl (HasG.s rfl)) ?_
 refine wg rfl rfl (fun hb => Spec.addI (Has.u rfl hb) Has.int) ?_
 refine wg rfl rfl (fun hb => Spec.mulI (Has.u rfl hb) (Has.u rfl hb)) ?_
 refine wg rfl rfl (fun hb => Spec.buildA (us := [(0, .tmp 22), (1, .tmp 29), (2, .const (.int .i64 255))]) (ls' := [(false, 1, Fact.rep [] (a0.Log : Int)), (false, 1, Fact.rep [] ((wI ((wI (a0.Members + (1 : Int))) * (wI (a0.Heads + (1 : Int))))) : Int)), (false, 1, Fact.rep [] ((255 : Int) : Int))]) bd107 rfl (BP.cons rfl rfl (Has.u rfl hb) (Has.u rfl hb) (BP.cons rfl rfl (Has.u rfl hb) (Has.u rfl hb) (BP.cons rfl rfl Has.int Has.int BP.nil)))) ?_
 refine wg rfl rfl (fun hb => Spec.lit (xs := [.tmp 30]) (T := []) 19 rfl ow108 rfl rfl rfl rfl (HasEach.cons (Has.fl (Has.cv (Has.u rfl hb) (Cv.trans (Cv.flds (CvL.cons Cv.fl (CvL.cons Cv.fl (CvL.cons Cv.fl CvL.nil)))) (Cv.close (T := []) (chArr3_Int (Arr3_Int.mk a0.Log (wI ((wI (a0.Members + (1 : Int))) * (wI (a0.Heads + (1 : Int))))) (255 : Int))))))) HasEach.nil)) ?_
 obtain ⟨x2, hx2, hm⟩ := bind_some hm
 refine wg (f := Fact.rep [] (x2 : Bool)) rfl rfl (fun hb => Spec.callE [19] 20 rfl en82 (shape_bounds_c ([(Arr3_Int.mk a0.Log (wI ((wI (a0.Members + (1 : Int))) * (wI (a0.Heads + (1 : Int))))) (255 : Int))]) (gO_t hx2 (not_t hb))) (HasAll.cons (Has.m (Has.u rfl hb) rfl) HasAll.nil)) ?_
 refine wg rfl rfl (fun hb => Spec.not (Has.u rfl hb)) ?_
 refine wo (Spec.or (Has.s rfl) (fun h => Has.u rfl h)) ?_
 refine Walk.nil ?_
 refine Leaf.thenN ?_
 refine CWalk.cond rfl (fun hb => ?_) (fun hb => ?_)
 ·have hm := cond_t hb hm
  refine CWalk.seq ?_
  refine CWalk.region ?_
  refine wo (Spec.assign Has.int) ?_
  refine Walk.nil ?_
  refine Leaf.thenN ?_
  refine CWalk.ret ?_
  refine Leaf.thenR ?_
  obtain rfl := Option.some.inj hm
  exact Leaf.retC1 rfl (HasR.cv (HasR.tmp (Has.s rfl)) Cv.fl)
 ·have hm := cond_f hb hm
  refine CWalk.skip ?_
  refine Leaf.thenN ?_
  refine CWalk.seq ?_
  refine CWalk.region ?_
  refine wo (Spec.assign Has.int) ?_
  refine Walk.nil ?_
  refine Leaf.thenN ?_
  refine CWalk.ret ?_
  obtain rfl := Option.some.inj hm
  exact Leaf.retC1 rfl (HasR.cv (HasR.tmp (Has.s rfl)) Cv.fl)

/-- freeboard/shape.told -/
def shape_told (a0 : Config) (a1 : Int) : Option (Int × Int) :=
  Option.bind (shape_Check a0) (fun x1 => (bif (x1 != (0 : Int)) then some ((0 : Int), x1) else some (a1, (0 : Int))))
set_option maxRecDepth 100000 in
set_option maxHeartbeats 2000000 in
theorem shape_told_c (a0 : Config) (a1 : Int) {r : Int × Int} (hm : shape_told a0 a1 = some r) : Ctr Try.prog 73 [.rep 0 a0, .rep 0 a1] (.tup2 (.fl r.1) (.fl r.2)) [] := by
 refine ctr_of_walk [[]] 13 Try.func73 rfl rfl rfl rfl (fun w0 om => ?_)
 unfold shape_told at hm
 refine CWalk.sub (G' := [.fact 0 (Fact.rep [] (a0 : Config)), .fact 1 (Fact.rep [] (a1 : Int))]) (Sub.cons (Has.fl (Has.s rfl)) (Sub.cons (Has.fl (Has.s rfl)) Sub.nil)) ?_
 refine CWalk.seq ?_
 refine CWalk.region ?_
 refine ws (Step.boxObj (ls := [(false, 1, Fact.rep [] (a0.Id : UInt32)), (false, 1, Fact.rep [] (a0.Members : Int)), (false, 1, Fact.rep [] (a0.Chunk : Int)), (false, 1, Fact.rep [] (a0.Rows : Int)), (false, 1, Fact.rep [] (a0.Log : Int)), (false, 1, Fact.rep [] (a0.Heads : Int))]) 10 rfl rfl rfl rfl (HasL.flds (Has.cv (Has.s rfl) (Cv.trans (Cv.opens (chConfig a0)) (Cv.flds (CvL.cons Cv.fl (CvL.cons Cv.fl (CvL.cons Cv.fl (CvL.cons Cv.fl (CvL.cons Cv.fl (CvL.cons Cv.fl CvL.nil))))))))))) ?_
 refine wo (Spec.assign Has.int) ?_
 refine wo (Spec.assign Has.int) ?_
 refine Walk.nil ?_
 refine Leaf.thenN ?_
 refine CWalk.seq ?_
 refine CWalk.seq ?_
 refine CWalk.region ?_
 refine wo (Spec.loadObj (ls := [(false, 1, Fact.rep [] (a0.Id : UInt32)), (false, 1, Fact.rep [] (a0.Members : Int)), (false, 1, Fact.rep [] (a0.Chunk : Int)), (false, 1, Fact.rep [] (a0.Rows : Int)), (false, 1, Fact.rep [] (a0.Log : Int)), (false, 1, Fact.rep [] (a0.Heads : Int))]) ty24 rfl rfl (Has.s rfl) rfl (HasGs.cons (HasG.s rfl) (HasGs.cons (HasG.s rfl) (HasGs.cons (HasG.s rfl) (HasGs.cons (HasG.s rfl) (HasGs.cons (HasG.s rfl) (HasGs.cons (HasG.s rfl) HasGs.nil))))))) ?_
 obtain ⟨x1, hx1, hm⟩ := bind_some hm
 refine wo (f := Fact.rep [] (x1 : Int)) (Spec.callE [] 17 rfl en80 (shape_Check_c a0 hx1) (HasAll.cons (Has.fl (Has.cv (Has.s rfl) (Cv.trans (Cv.flds (CvL.cons Cv.fl (CvL.cons Cv.fl (CvL.cons Cv.fl (CvL.cons Cv.fl (CvL.cons Cv.fl (CvL.cons Cv.fl CvL.nil))))))) (Cv.close (T := []) (chConfig a0))))) HasAll.nil)) ?_
 refine wo (Spec.assign (Has.s rfl)) ?_
 refine Walk.nil ?_
 refine Leaf.thenN ?_
 refine CWalk.seq ?_
 refine CWalk.region ?_
 refine mv ?_
 refine wo (Spec.neqI (Has.s rfl) Has.int) ?_
 refine Walk.nil ?_
 refine Leaf.thenN ?_
 refine CWalk.cond rfl (fun hb => ?_) (fun hb => ?_)
 ·have hm := cond_t hb hm
  refine CWalk.seq ?_
  refine CWalk.region ?_
  refine mv ?_
  refine wo (Spec.assign Has.int) ?_
  refine wo (Spec.assign (Has.s rfl)) ?_
  refine Walk.nil ?_
  refine Leaf.thenN ?_
  refine CWalk.ret ?_
  refine Leaf.thenR ?_
  obtain rfl := Option.some.inj hm
  exact Leaf.retC2 rfl (HasR.cv (HasR.tmp (Has.s rfl)) Cv.fl) (HasR.cv (HasR.tmp (Has.s rfl)) Cv.fl)
 ·have hm := cond_f hb hm
  refine CWalk.skip ?_
  refine Leaf.thenN ?_
  refine CWalk.seq ?_
  refine CWalk.region ?_
  refine mv ?_
  refine wo (Spec.assign (Has.s rfl)) ?_
  refine wo (Spec.assign Has.int) ?_
  refine Walk.nil ?_
  refine Leaf.thenN ?_
  refine CWalk.ret ?_
  obtain rfl := Option.some.inj hm
  exact Leaf.retC2 rfl (HasR.cv (HasR.tmp (Has.s rfl)) Cv.fl) (HasR.cv (HasR.tmp (Has.s rfl)) Cv.fl)

/-- freeboard/shape.Stripes -/
def shape_Stripes (a0 : Config) : Option (Int × Int) :=
  Option.bind (shape_told a0 (wI (a0.Chunk * a0.Rows))) (fun x1 => some (x1.1, x1.2))
set_option maxRecDepth 100000 in
set_option maxHeartbeats 2000000 in
theorem shape_Stripes_c (a0 : Config) {r : Int × Int} (hm : shape_Stripes a0 = some r) : Ctr Try.prog 52 [.rep 0 a0] (.tup2 (.fl r.1) (.fl r.2)) [] := by
 refine ctr_of_walk [[]] 13 Try.func52 rfl rfl rfl rfl (fun w0 om => ?_)
 unfold shape_Stripes at hm
 refine CWalk.sub (G' := [.fact 0 (Fact.rep [] (a0 : Config))]) (Sub.cons (Has.fl (Has.s rfl)) Sub.nil) ?_
 refine CWalk.seq ?_
 refine CWalk.region ?_
 refine ws (Step.boxObj (ls := [(false, 1, Fact.rep [] (a0.Id : UInt32)), (false, 1, Fact.rep [] (a0.Members : Int)), (false, 1, Fact.rep [] (a0.Chunk : Int)), (false, 1, Fact.rep [] (a0.Rows : Int)), (false, 1, Fact.rep [] (a0.Log : Int)), (false, 1, Fact.rep [] (a0.Heads : Int))]) 10 rfl rfl rfl rfl (HasL.flds (Has.cv (Has.s rfl) (Cv.trans (Cv.opens (chConfig a0)) (Cv.flds (CvL.cons Cv.fl (CvL.cons Cv.fl (CvL.cons Cv.fl (CvL.cons Cv.fl (CvL.cons Cv.fl (CvL.cons Cv.fl CvL.nil))))))))))) ?_
 refine wo (Spec.assign Has.int) ?_
 refine wo (Spec.assign Has.int) ?_
 refine Walk.nil ?_
 refine Leaf.thenN ?_
 refine CWalk.seq ?_
 refine CWalk.region ?_
 refine wo (Spec.loadObj (ls := [(false, 1, Fact.rep [] (a0.Id : UInt32)), (false, 1, Fact.rep [] (a0.Members : Int)), (false, 1, Fact.rep [] (a0.Chunk : Int)), (false, 1, Fact.rep [] (a0.Rows : Int)), (false, 1, Fact.rep [] (a0.Log : Int)), (false, 1, Fact.rep [] (a0.Heads : Int))]) ty24 rfl rfl (Has.s rfl) rfl (HasGs.cons (HasG.s rfl) (HasGs.cons (HasG.s rfl) (HasGs.cons (HasG.s rfl) (HasGs.cons (HasG.s rfl) (HasGs.cons (HasG.s rfl) (HasGs.cons (HasG.s rfl) HasGs.nil))))))) ?_
 refine wo (Spec.fieldAddrO fd24_2 (Has.cv (Has.s rfl) (Cv.isvP rfl))) ?_
 refine wo (Spec.loadF (i := 2) ty3 rfl (Has.s rfl) rfl (HasG.s rfl)) ?_
 refine wo (Spec.fieldAddrO fd24_3 (Has.cv (Has.s rfl) (Cv.isvP rfl))) ?_
 refine wo (Spec.loadF (i := 3) ty3 rfl (Has.s rfl) rfl (HasG.s rfl)) ?_
 refine wo (Spec.mulI (Has.s rfl) (Has.s rfl)) ?_
 obtain ⟨x1, hx1, hm⟩ := bind_some hm
 refine wo (f := Fact.tup2 (Fact.rep [] (x1.1 : Int)) (Fact.rep [] (x1.2 : Int))) (Spec.callE [] 17 rfl en73 (shape_told_c a0 (wI (a0.Chunk * a0.Rows)) hx1) (HasAll.cons (Has.fl (Has.cv (Has.s rfl) (Cv.trans (Cv.flds (CvL.cons Cv.fl (CvL.cons Cv.fl (CvL.cons Cv.fl (CvL.cons Cv.fl (CvL.cons Cv.fl (CvL.cons Cv.fl CvL.nil))))))) (Cv.close (T := []) (chConfig a0))))) (HasAll.cons (Has.fl (Has.s rfl)) HasAll.nil))) ?_
 refine wo (Spec.ext0 (Has.s rfl)) ?_
 refine wo (Spec.ext1 (Has.s rfl)) ?_
 refine wo (Spec.assign (Has.s rfl)) ?_
 refine wo (Spec.assign (Has.s rfl)) ?_
 refine Walk.nil ?_
 refine Leaf.thenN ?_
 refine CWalk.ret ?_
 obtain rfl := Option.some.inj hm
 exact Leaf.retC2 rfl (HasR.cv (HasR.tmp (Has.s rfl)) Cv.fl) (HasR.cv (HasR.tmp (Has.s rfl)) Cv.fl)

def slices_IndexFunc_byte_byte_L1 (a0 : List (List UInt8)) (a1 : (List UInt8) → Option Bool) (s1 : Int) : Option (Ctl (Int) ((Unit) ⊕ (Int))) :=
  (bif (decide (s1 < ((a0).length : Int))) then Option.bind (idx a0 s1) (fun x3 => Option.bind (a1 x3) (fun x4 => (bif x4 then some (Ctl.brk (Sum.inr s1)) else some (Ctl.next (wI (s1 + (1 : Int))))))) else some (Ctl.brk (Sum.inl ())))
/-- slices.IndexFunc[[][]byte,[]byte] -/
def slices_IndexFunc_byte_byte (a0 : List (List UInt8)) (a1 : (List UInt8) → Option Bool) : Option (Int) :=
  Option.bind (loopM (fun s : Int => slices_IndexFunc_byte_byte_L1 a0 a1 s) FUEL (0 : Int)) (fun b5 => Sum.elim (fun b6 => some (-1 : Int)) (fun b7 => some b7) b5)
set_option maxRecDepth 100000 in
set_option maxHeartbeats 2000000 in
theorem slices_IndexFunc_byte_byte_c (a0 : List (List UInt8)) (a1 : (List UInt8) → Option Bool) {r : Int} (hm : slices_IndexFunc_byte_byte a0 a1 = some r) : Ctr Try.prog 76 [.rep 0 a0, .fn Try.prog pre1 0 a1] (.fl r) [] := by
 refine ctr_of_walk [[]] 19 Try.func76 rfl rfl rfl rfl (fun w0 om => ?_)
 unfold slices_IndexFunc_byte_byte at hm
 refine CWalk.sub (G' := [.fact 0 (Fact.rep [0] (a0 : List (List UInt8))), .fact 1 (Fact.fn Try.prog pre1 [0] (a1))]) (sn (sn Sub.nil)) ?_
 refine CWalk.seq ?_
 refine CWalk.region ?_
 refine wo (Spec.assign Has.int) ?_
 refine Walk.nil ?_
 refine Leaf.thenN ?_
 refine CWalk.seq ?_
 refine CWalk.seq ?_
 refine CWalk.region ?_
 refine mv ?_
 refine wo (Spec.len (Has.s rfl) Try.underlying25) ?_
 refine wo (Spec.move Has.int) ?_
 refine Walk.nil ?_
 refine Leaf.thenN ?_
 refine CWalk.block ?_
 obtain ⟨b5, hb5, hm⟩ := bind_some hm
 refine CWalk.loop (fun s : Int => [.fact 0 (Fact.rep [0] (a0 : List (List UInt8))), .fact 1 (Fact.fn Try.prog pre1 [0] (a1)), .fact 7 (Fact.rep [] (((a0).length : Int) : Int)), .fact 8 (Fact.rep [] (s : Int))]) (fun b : (Unit) ⊕ (Int) => Sum.elim (fun b => (Exit.exit 0, [])) (fun b => (Exit.ret, [.fact 4 (Fact.rep [] (b : Int))])) b) hb5 (su (sn (st (st Sub.nil)))) ?_ ?_
 ·rintro s1 c2 hm
  replace hm : slices_IndexFunc_byte_byte_L1 a0 a1 s1 = some c2 := hm
  unfold slices_IndexFunc_byte_byte_L1 at hm
  show CWalk _ [.fact 0 (Fact.rep [0] (a0 : List (List UInt8))), .fact 1 (Fact.fn Try.prog pre1 [0] (a1)), .fact 7 (Fact.rep [] (((a0).length : Int) : Int)), .fact 8 (Fact.rep [] (s1 : Int))] _ _
  refine CWalk.seq ?_
  refine CWalk.region ?_
  refine wo (Spec.lssI (Has.s rfl) (Has.s rfl)) ?_
  refine Walk.nil ?_
  refine Leaf.thenN ?_
  refine CWalk.seq ?_
  refine CWalk.cond rfl (fun hb => ?_) (fun hb => ?_)
  ·have hm := cond_t hb hm
   refine CWalk.skip ?_
   refine Leaf.thenN ?_
   refine CWalk.seq ?_
   refine CWalk.block ?_
   refine CWalk.seq ?_
   refine CWalk.region ?_
   refine mv ?_
   refine wo (Spec.assign (Has.s rfl)) ?_
   refine Walk.nil ?_
   refine Leaf.thenN ?_
   refine CWalk.seq ?_
   refine CWalk.region ?_
   refine mv ?_
   refine mv ?_
   refine mv ?_
   obtain ⟨x3, hx3, hm⟩ := bind_some hm
   refine wo (Spec.indexAddr hx3 sl25 (Has.s rfl) (Has.s rfl)) ?_
   refine wo (Spec.load ty31 (Has.s rfl)) ?_
   obtain ⟨x4, hx4, hm⟩ := bind_some hm
   refine wo (Spec.callFn (xs := [.tmp 15]) (x := x3) [0] 10 rfl hx4 (Has.s rfl) (HasAll.cons (Has.m (Has.s rfl) rfl) HasAll.nil)) ?_
   refine Walk.nil ?_
   refine Leaf.thenN ?_
   refine CWalk.cond rfl (fun hb => ?_) (fun hb => ?_)
   ·have hm := cond_t hb hm
    refine CWalk.seq ?_
    refine CWalk.region ?_
    refine mv ?_
    refine wo (Spec.assign (Has.s rfl)) ?_
    refine Walk.nil ?_
    refine Leaf.thenN ?_
    refine CWalk.ret ?_
    refine Leaf.blockR ?_
    refine Leaf.thenR ?_
    exact Leaf.brk hm (fun h => nomatch h) rfl (st Sub.nil)
   ·have hm := cond_f hb hm
    refine CWalk.skip ?_
    refine Leaf.blockN ?_
    refine Leaf.thenN ?_
    refine CWalk.region ?_
    refine wo (Spec.addI (Has.s rfl) Has.int) ?_
    refine mv ?_
    refine Walk.nil ?_
    exact Leaf.next hm (su (sn (st (st Sub.nil))))
  ·have hm := cond_f hb hm
   refine CWalk.exit ?_
   refine Leaf.thenE ?_
   exact Leaf.brk hm (fun h => nomatch h) rfl (Sub.nil)
 ·intro _
  rcases b5 with b6 | b7
  ·have hm := selim_l hm
   refine Leaf.blockE ?_
   refine Leaf.thenN ?_
   refine CWalk.seq ?_
   refine CWalk.region ?_
   refine wo (Spec.assign Has.int) ?_
   refine Walk.nil ?_
   refine Leaf.thenN ?_
   refine CWalk.ret ?_
   obtain rfl := Option.some.inj hm
   exact Leaf.retC1 rfl (HasR.cv (HasR.tmp (Has.s rfl)) Cv.fl)
  ·have hm := selim_r hm
   refine Leaf.blockR ?_
   refine Leaf.thenR ?_
   obtain rfl := Option.some.inj hm
   exact Leaf.retC1 rfl (HasR.cv (HasR.tmp (Has.s rfl)) Cv.fl)

/-- slices.ContainsFunc[[][]byte,[]byte] -/
def slices_ContainsFunc_byte_byte (a0 : List (List UInt8)) (a1 : (List UInt8) → Option Bool) : Option (Bool) :=
  Option.bind (slices_IndexFunc_byte_byte a0 a1) (fun x1 => some (decide (x1 ≥ (0 : Int))))
set_option maxRecDepth 100000 in
set_option maxHeartbeats 2000000 in
theorem slices_ContainsFunc_byte_byte_c (a0 : List (List UInt8)) (a1 : (List UInt8) → Option Bool) {r : Bool} (hm : slices_ContainsFunc_byte_byte a0 a1 = some r) : Ctr Try.prog 57 [.rep 0 a0, .fn Try.prog pre1 0 a1] (.fl r) [] := by
 refine ctr_of_walk [[]] 9 Try.func57 rfl rfl rfl rfl (fun w0 om => ?_)
 unfold slices_ContainsFunc_byte_byte at hm
 refine CWalk.sub (G' := [.fact 0 (Fact.rep [0] (a0 : List (List UInt8))), .fact 1 (Fact.fn Try.prog pre1 [0] (a1))]) (sn (sn Sub.nil)) ?_
 refine CWalk.seq ?_
 refine CWalk.region ?_
 refine wo (Spec.assign Has.bool) ?_
 refine Walk.nil ?_
 refine Leaf.thenN ?_
 refine CWalk.seq ?_
 refine CWalk.region ?_
 refine mv ?_
 refine mv ?_
 obtain ⟨x1, hx1, hm⟩ := bind_some hm
 refine wo (f := Fact.rep [] (x1 : Int)) (Spec.callE [0] 10 rfl en76 (slices_IndexFunc_byte_byte_c a0 a1 hx1) (HasAll.cons (Has.m (Has.s rfl) rfl) (HasAll.cons (Has.cv (Has.s rfl) (Cv.fnM rfl)) HasAll.nil))) ?_
 refine wo (Spec.geqI (Has.s rfl) Has.int) ?_
 refine wo (Spec.assign (Has.s rfl)) ?_
 refine Walk.nil ?_
 refine Leaf.thenN ?_
 refine CWalk.ret ?_
 obtain rfl := Option.some.inj hm
 exact Leaf.retC1 rfl (HasR.cv (HasR.tmp (Has.s rfl)) Cv.fl)

/-- freeboard/head.odd -/
def head_odd (a0 : List UInt8) : Option (Bool) :=
  some ((((a0).length : Int) != (0 : Int)) && (((a0).length : Int) != (128 : Int)))
set_option maxRecDepth 100000 in
set_option maxHeartbeats 2000000 in
theorem head_odd_c (a0 : List UInt8) {r : Bool} (hm : head_odd a0 = some r) : Ctr Try.prog 58 [.rep 0 a0] (.fl r) [] := by
 refine ctr_of_walk [[]] 11 Try.func58 rfl rfl rfl rfl (fun w0 om => ?_)
 unfold head_odd at hm
 refine CWalk.sub (G' := [.fact 0 (Fact.rep [0] (a0 : List UInt8))]) (sn Sub.nil) ?_
 refine CWalk.seq ?_
 refine CWalk.region ?_
 refine wo (Spec.assign Has.bool) ?_
 refine Walk.nil ?_
 refine Leaf.thenN ?_
 refine CWalk.seq ?_
 refine CWalk.region ?_
 refine mv ?_
 refine wo (Spec.len (Has.s rfl) Try.underlying31) ?_
 refine wo (Spec.neqI (Has.s rfl) Has.int) ?_
 refine mv ?_
 refine wg rfl rfl (fun hb => Spec.move (Has.s rfl)) ?_
 refine wg rfl rfl (fun hb => Spec.len (Has.u rfl hb) Try.underlying31) ?_
 refine wg rfl rfl (fun hb => Spec.neqI (Has.u rfl hb) Has.int) ?_
 refine wo (Spec.and (Has.s rfl) (fun h => Has.u rfl h)) ?_
 refine wo (Spec.assign (Has.s rfl)) ?_
 refine Walk.nil ?_
 refine Leaf.thenN ?_
 refine CWalk.ret ?_
 obtain rfl := Option.some.inj hm
 exact Leaf.retC1 rfl (HasR.cv (HasR.tmp (Has.s rfl)) Cv.fl)

def head_Check_L1 (a1 : Head) (s3 : Bool) (s4 : Int) : Option (Ctl (Bool × Int) ((Bool) ⊕ (Unit))) :=
  (bif (decide (s4 < ((a1.Dirty).length : Int))) then Option.bind (idx a1.Dirty s4) (fun x6 => Option.bind (gO (x6) (idx a1.Blocks s4)) (fun x7 => (bif (x6 && (((x7).length : Int) == (0 : Int))) then some (Ctl.brk (Sum.inr ())) else some (Ctl.next ((s3 || x6), (wI (s4 + (1 : Int)))))))) else some (Ctl.brk (Sum.inl s3)))
/-- freeboard/head.Check -/
def head_Check (a0 : Config) (a1 : Head) : Option (Int) :=
  Option.bind (shape_Stripes a0) (fun x1 => Option.bind (gO (!((((((x1.2 != (0 : Int)) || (decide (a1.Stripe < (0 : Int)))) || (decide (a1.Stripe ≥ x1.1))) || (((a1.Blocks).length : Int) != a0.Members)) || (((a1.Dirty).length : Int) != (wI (a0.Members - (1 : Int))))) || (decide ((a1.Phase.toNat : Int) > ((4 : UInt8).toNat : Int))))) (slices_ContainsFunc_byte_byte a1.Blocks (fun y => head_odd y))) (fun x2 => (bif (((((((x1.2 != (0 : Int)) || (decide (a1.Stripe < (0 : Int)))) || (decide (a1.Stripe ≥ x1.1))) || (((a1.Blocks).length : Int) != a0.Members)) || (((a1.Dirty).length : Int) != (wI (a0.Members - (1 : Int))))) || (decide ((a1.Phase.toNat : Int) > ((4 : UInt8).toNat : Int)))) || x2) then some (8 : Int) else Option.bind (loopM (fun s : Bool × Int => head_Check_L1 a1 s.1 s.2) FUEL (false, (0 : Int))) (fun b8 => Sum.elim (fun b9 => Option.bind (idx a1.Blocks (wI (a0.Members - (1 : Int)))) (fun x10 => (bif (((((a1.Phase == (0 : UInt8)) == (decide (((x10).length : Int) > (0 : Int)))) || ((!(a1.Phase == (0 : UInt8))) && (!b9))) || ((decide ((a1.Phase.toNat : Int) ≤ ((1 : UInt8).toNat : Int))) && ((a1.Seq.toNat : Int) != ((0 : UInt32).toNat : Int)))) || (a1.Deals && ((!b9) || (decide ((a1.Phase.toNat : Int) > ((1 : UInt8).toNat : Int)))))) then some (8 : Int) else some (0 : Int)))) (fun b11 => some (8 : Int)) b8))))
set_option maxRecDepth 100000 in
set_option maxHeartbeats 2000000 in
theorem head_Check_c (a0 : Config) (a1 : Head) {r : Int} (hm : head_Check a0 a1 = some r) : Ctr Try.prog 24 [.rep 0 a0, .rep 0 a1] (.fl r) [] := by
 refine ctr_of_walk [[]] 126 Try.func24 rfl rfl rfl rfl (fun w0 om => ?_)
 unfold head_Check at hm
 refine CWalk.sub (G' := [.fact 0 (Fact.rep [] (a0 : Config)), .fact 1 (Fact.rep [0] (a1 : Head))]) (Sub.cons (Has.fl (Has.s rfl)) (sn Sub.nil)) ?_
 refine CWalk.seq ?_
 refine CWalk.region ?_
 refine ws (Step.boxObj (ls := [(false, 1, Fact.rep [] (a0.Id : UInt32)), (false, 1, Fact.rep [] (a0.Members : Int)), (false, 1, Fact.rep [] (a0.Chunk : Int)), (false, 1, Fact.rep [] (a0.Rows : Int)), (false, 1, Fact.rep [] (a0.Log : Int)), (false, 1, Fact.rep [] (a0.Heads : Int))]) 10 rfl rfl rfl rfl (HasL.flds (Has.cv (Has.s rfl) (Cv.trans (Cv.opens (chConfig a0)) (Cv.flds (CvL.cons Cv.fl (CvL.cons Cv.fl (CvL.cons Cv.fl (CvL.cons Cv.fl (CvL.cons Cv.fl (CvL.cons Cv.fl CvL.nil))))))))))) ?_
 refine ws (Step.boxObj (ls := [(false, 1, Fact.rep [] (a1.Stripe : Int)), (false, 1, Fact.rep [0] (a1.Blocks : List (List UInt8))), (false, 1, Fact.rep [0] (a1.Dirty : List Bool)), (false, 1, Fact.rep [] (a1.Phase : UInt8)), (false, 1, Fact.rep [] (a1.Deals : Bool)), (false, 1, Fact.rep [] (a1.Seq : UInt32))]) 17 rfl rfl rfl rfl (HasL.flds (Has.cv (Has.s rfl) (Cv.trans (Cv.opens (chHead a1)) (Cv.flds (CvL.cons Cv.fl (CvL.cons Cv.refl (CvL.cons Cv.refl (CvL.cons Cv.fl (CvL.cons Cv.fl (CvL.cons Cv.fl CvL.nil))))))))))) ?_
 refine wo (Spec.assign Has.int) ?_
 refine Walk.nil ?_
 refine Leaf.thenN ?_
 refine CWalk.seq ?_
 refine CWalk.region ?_
 refine wo (Spec.loadObj (ls := [(false, 1, Fact.rep [] (a0.Id : UInt32)), (false, 1, Fact.rep [] (a0.Members : Int)), (false, 1, Fact.rep [] (a0.Chunk : Int)), (false, 1, Fact.rep [] (a0.Rows : Int)), (false, 1, Fact.rep [] (a0.Log : Int)), (false, 1, Fact.rep [] (a0.Heads : Int))]) ty24 rfl rfl (Has.s rfl) rfl (HasGs.cons (HasG.s rfl) (HasGs.cons (HasG.s rfl) (HasGs.cons (HasG.s rfl) (HasGs.cons (HasG.s rfl) (HasGs.cons (HasG.s rfl) (HasGs.cons (HasG.s rfl) HasGs.nil))))))) ?_
 obtain ⟨x1, hx1, hm⟩ := bind_some hm
 refine wo (f := Fact.tup2 (Fact.rep [] (x1.1 : Int)) (Fact.rep [] (x1.2 : Int))) (Spec.callE [] 24 rfl en52 (shape_Stripes_c a0 hx1) (HasAll.cons (Has.fl (Has.cv (Has.s rfl) (Cv.trans (Cv.flds (CvL.cons Cv.fl (CvL.cons Cv.fl (CvL.cons Cv.fl (CvL.cons Cv.fl (CvL.cons Cv.fl (CvL.cons Cv.fl CvL.nil))))))) (Cv.close (T := []) (chConfig a0))))) HasAll.nil)) ?_
 refine mv ?_
 refine wo (Spec.ext0 (Has.s rfl)) ?_
 refine wo (Spec.ext1 (Has.s rfl)) ?_
 refine wo (Spec.assign (Has.s rfl)) ?_
 refine wo (Spec.assign (Has.s rfl)) ?_
 refine Walk.nil ?_
 refine Leaf.thenN ?_
 refine CWalk.seq ?_
 refine CWalk.seq ?_
 refine CWalk.region ?_
 refine mv ?_
 refine wo (Spec.neqI (Has.s rfl) Has.int) ?_
 refine mv ?_
 refine wg rfl rfl (fun hb => Spec.fieldAddrO fd28_0 (Has.cv (Has.s rfl) (Cv.isvP rfl))) ?_
 refine wg rfl rfl (fun hb => Spec.loadF (i := 0) ty3 rfl (Has.u rfl hb) rfl (HasG.s rfl)) ?_
 refine wg rfl rfl (fun hb => Spec.lssI (Has.u rfl hb) Has.int) ?_
 refine wo (Spec.or (Has.s rfl) (fun h => Has.u rfl h)) ?_
 refine mv ?_
 refine wg rfl rfl (fun hb => Spec.fieldAddrO fd28_0 (Has.cv (Has.s rfl) (Cv.isvP rfl))) ?_
 refine wg rfl rfl (fun hb => Spec.loadF (i := 0) ty3 rfl (Has.u rfl hb) rfl (HasG.s rfl)) ?_
 refine wg rfl rfl (fun hb => Spec.move (Has.s rfl)) ?_
 refine wg rfl rfl (fun hb => Spec.geqI (Has.u rfl hb) (Has.u rfl hb)) ?_
 refine wo (Spec.or (Has.s rfl) (fun h => Has.u rfl h)) ?_
 refine mv ?_
 refine wg rfl rfl (fun hb => Spec.fieldAddrO fd28_1 (Has.cv (Has.s rfl) (Cv.isvP rfl))) ?_
 refine wg rfl rfl (fun hb => Spec.loadF (i := 1) ty25 rfl (Has.u rfl hb) rfl (HasG.s rfl)) ?_
 refine wg rfl rfl (fun hb => Spec.len (Has.u rfl hb) Try.underlying25) ?_
 refine wg rfl rfl (fun hb => Spec.fieldAddrO fd24_1 (Has.cv (Has.s rfl) (Cv.isvP rfl))) ?_
 refine wg rfl rfl (fun hb => Spec.loadF (i := 1) ty3 rfl (Has.u rfl hb) rfl (HasG.s rfl)) ?_
 refine wg rfl rfl (fun hb => Spec.neqI (Has.u rfl hb) (Has.u rfl hb)) ?_
 refine wo (Spec.or (Has.s rfl) (fun h => Has.u rfl h)) ?_
 refine mv ?_
 refine wg rfl rfl (fun hb => Spec.fieldAddrO fd28_2 (Has.cv (Has.s rfl) (Cv.isvP rfl))) ?_
 refine wg rfl rfl (fun hb => Spec.loadF (i := 2) ty26 rfl (Has.u rfl hb) rfl (HasG.s rfl)) ?_
 refine wg rfl rfl (fun hb => Spec.len (Has.u rfl hb) Try.underlying26) ?_
 refine wg rfl rfl (fun hb => Spec.fieldAddrO fd24_1 (Has.cv (Has.s rfl) (Cv.isvP rfl))) ?_
 refine wg rfl rfl (fun hb => Spec.loadF (i := 1) ty3 rfl (Has.u rfl hb) rfl (HasG.s rfl)) ?_
 refine wg rfl rfl (fun hb => Spec.subI (Has.u rfl hb) Has.int) ?_
 refine wg rfl rfl (fun hb => Spec.neqI (Has.u rfl hb) (Has.u rfl hb)) ?_
 refine wo (Spec.or (Has.s rfl) (fun h => Has.u rfl h)) ?_
 refine mv ?_
 refine wg rfl rfl (fun hb => Spec.fieldAddrO fd28_3 (Has.cv (Has.s rfl) (Cv.isvP rfl))) ?_
 refine wg rfl rfl (fun hb => Spec.loadF (i := 3) ty5 rfl (Has.u rfl hb) rfl (HasG.s rfl)) ?_
 refine wg rfl rfl (fun hb => Spec.gtrN (α := UInt8) (Has.u rfl hb) (Has.u8 4 rfl)) ?_
 refine wo (Spec.or (Has.s rfl) (fun h => Has.u rfl h)) ?_
 refine mv ?_
 refine wg rfl rfl (fun hb => Spec.fieldAddrO fd28_1 (Has.cv (Has.s rfl) (Cv.isvP rfl))) ?_
 refine wg rfl rfl (fun hb => Spec.loadF (i := 1) ty25 rfl (Has.u rfl hb) rfl (HasG.s rfl)) ?_
 obtain ⟨x2, hx2, hm⟩ := bind_some hm
 refine wg (f := Fact.rep [] (x2 : Bool)) rfl rfl (fun hb => Spec.callE [0] 25 rfl en57 (slices_ContainsFunc_byte_byte_c a1.Blocks (fun y => head_odd y) (gO_t hx2 (not_t hb))) (HasAll.cons (Has.m (Has.u rfl hb) rfl) (HasAll.cons (Has.cv Has.func (Cv.fn (pu := []) (pc := []) (shc := []) en58 CvF.nil CvF.nil (fun y r h => head_odd_c y h))) HasAll.nil))) ?_
 refine wo (Spec.or (Has.s rfl) (fun h => Has.u rfl h)) ?_
 refine Walk.nil ?_
 refine Leaf.thenN ?_
 refine CWalk.cond rfl (fun hb => ?_) (fun hb => ?_)
 ·have hm := cond_t hb hm
  refine CWalk.seq ?_
  refine CWalk.region ?_
  refine wo (Spec.assign Has.int) ?_
  refine Walk.nil ?_
  refine Leaf.thenN ?_
  refine CWalk.ret ?_
  refine Leaf.thenR ?_
  obtain rfl := Option.some.inj hm
  exact Leaf.retC1 rfl (HasR.cv (HasR.tmp (Has.s rfl)) Cv.fl)
 ·have hm := cond_f hb hm
  refine CWalk.skip ?_
  refine Leaf.thenN ?_
  refine CWalk.seq ?_
  refine CWalk.region ?_
  refine wo (Spec.assign Has.bool) ?_
  refine Walk.nil ?_
  refine Leaf.thenN ?_
  refine CWalk.seq ?_
  refine CWalk.seq ?_
  refine CWalk.region ?_
  refine wo (Spec.fieldAddrO fd28_2 (Has.cv (Has.s rfl) (Cv.isvP rfl))) ?_
  refine wo (Spec.loadF (i := 2) ty26 rfl (Has.s rfl) rfl (HasG.s rfl)) ?_
  refine wo (Spec.len (Has.s rfl) Try.underlying26) ?_
  refine wo (Spec.move Has.int) ?_
  refine Walk.nil ?_
  refine Leaf.thenN ?_
  refine CWalk.block ?_
  obtain ⟨b8, hb8, hm⟩ := bind_some hm
  refine CWalk.loop (fun s : Bool × Int => [.fact 2 (Fact.isv 10), .fact 3 (Fact.isv 17), .fact 7 (Fact.rep [] (s.1 : Bool)), .fact 58 (Fact.rep [0] (a1.Dirty : List Bool)), .fact 59 (Fact.rep [] (((a1.Dirty).length : Int) : Int)), .fact 60 (Fact.rep [] (s.2 : Int)), .fact 100011 (Fact.at 11 (Fact.rep [] (a0.Id : UInt32))), .fact 100012 (Fact.at 12 (Fact.rep [] (a0.Members : Int))), .fact 100013 (Fact.at 13 (Fact.rep [] (a0.Chunk : Int))), .fact 100014 (Fact.at 14 (Fact.rep [] (a0.Rows : Int))), .fact 100015 (Fact.at 15 (Fact.rep [] (a0.Log : Int))), .fact 100016 (Fact.at 16 (Fact.rep [] (a0.Heads : Int))), .fact 100018 (Fact.at 18 (Fact.rep [] (a1.Stripe : Int))), .fact 100019 (Fact.at 19 (Fact.rep [0] (a1.Blocks : List (List UInt8)))), .fact 100020 (Fact.at 20 (Fact.rep [0] (a1.Dirty : List Bool))), .fact 100021 (Fact.at 21 (Fact.rep [] (a1.Phase : UInt8))), .fact 100022 (Fact.at 22 (Fact.rep [] (a1.Deals : Bool))), .fact 100023 (Fact.at 23 (Fact.rep [] (a1.Seq : UInt32))), .fact 100010 (Fact.obj 10 [(false, 1), (false, 1), (false, 1), (false, 1), (false, 1), (false, 1)]), .fact 100017 (Fact.obj 17 [(false, 1), (false, 1), (false, 1), (false, 1), (false, 1), (false, 1)])]) (fun b : (Bool) ⊕ (Unit) => Sum.elim (fun b => (Exit.exit 0, [.fact 2 (Fact.isv 10), .fact 3 (Fact.isv 17), .fact 7 (Fact.rep [] (b : Bool)), .fact 100011 (Fact.at 11 (Fact.rep [] (a0.Id : UInt32))), .fact 100012 (Fact.at 12 (Fact.rep [] (a0.Members : Int))), .fact 100013 (Fact.at 13 (Fact.rep [] (a0.Chunk : Int))), .fact 100014 (Fact.at 14 (Fact.rep [] (a0.Rows : Int))), .fact 100015 (Fact.at 15 (Fact.rep [] (a0.Log : Int))), .fact 100016 (Fact.at 16 (Fact.rep [] (a0.Heads : Int))), .fact 100018 (Fact.at 18 (Fact.rep [] (a1.Stripe : Int))), .fact 100019 (Fact.at 19 (Fact.rep [0] (a1.Blocks : List (List UInt8)))), .fact 100020 (Fact.at 20 (Fact.rep [0] (a1.Dirty : List Bool))), .fact 100021 (Fact.at 21 (Fact.rep [] (a1.Phase : UInt8))), .fact 100022 (Fact.at 22 (Fact.rep [] (a1.Deals : Bool))), .fact 100023 (Fact.at 23 (Fact.rep [] (a1.Seq : UInt32))), .fact 100010 (Fact.obj 10 [(false, 1), (false, 1), (false, 1), (false, 1), (false, 1), (false, 1)]), .fact 100017 (Fact.obj 17 [(false, 1), (false, 1), (false, 1), (false, 1), (false, 1), (false, 1)])])) (fun b => (Exit.ret, [.fact 4 (Fact.rep [] ((8 : Int) : Int))])) b) hb8 (sn (sn (st (su (st (st (sf (sf (sf (sf (sf (sf (sf (sm (sm (sf (sf (sf (sn (sn Sub.nil)))))))))))))))))))) ?_ ?_
  ·rintro ⟨s3, s4⟩ c5 hm
   replace hm : head_Check_L1 a1 s3 s4 = some c5 := hm
   unfold head_Check_L1 at hm
   show CWalk _ [.fact 2 (Fact.isv 10), .fact 3 (Fact.isv 17), .fact 7 (Fact.rep [] (s3 : Bool)), .fact 58 (Fact.rep [0] (a1.Dirty : List Bool)), .fact 59 (Fact.rep [] (((a1.Dirty).length : Int) : Int)), .fact 60 (Fact.rep [] (s4 : Int)), .fact 100011 (Fact.at 11 (Fact.rep [] (a0.Id : UInt32))), .fact 100012 (Fact.at 12 (Fact.rep [] (a0.Members : Int))), .fact 100013 (Fact.at 13 (Fact.rep [] (a0.Chunk : Int))), .fact 100014 (Fact.at 14 (Fact.rep [] (a0.Rows : Int))), .fact 100015 (Fact.at 15 (Fact.rep [] (a0.Log : Int))), .fact 100016 (Fact.at 16 (Fact.rep [] (a0.Heads : Int))), .fact 100018 (Fact.at 18 (Fact.rep [] (a1.Stripe : Int))), .fact 100019 (Fact.at 19 (Fact.rep [0] (a1.Blocks : List (List UInt8)))), .fact 100020 (Fact.at 20 (Fact.rep [0] (a1.Dirty : List Bool))), .fact 100021 (Fact.at 21 (Fact.rep [] (a1.Phase : UInt8))), .fact 100022 (Fact.at 22 (Fact.rep [] (a1.Deals : Bool))), .fact 100023 (Fact.at 23 (Fact.rep [] (a1.Seq : UInt32))), .fact 100010 (Fact.obj 10 [(false, 1), (false, 1), (false, 1), (false, 1), (false, 1), (false, 1)]), .fact 100017 (Fact.obj 17 [(false, 1), (false, 1), (false, 1), (false, 1), (false, 1), (false, 1)])] _ _
   refine CWalk.seq ?_
   refine CWalk.region ?_
   refine wo (Spec.lssI (Has.s rfl) (Has.s rfl)) ?_
   refine Walk.nil ?_
   refine Leaf.thenN ?_
   refine CWalk.seq ?_
   refine CWalk.cond rfl (fun hb => ?_) (fun hb => ?_)
   ·have hm := cond_t hb hm
    refine CWalk.skip ?_
    refine Leaf.thenN ?_
    refine CWalk.seq ?_
    refine CWalk.block ?_
    refine CWalk.seq ?_
    refine CWalk.region ?_
    refine mv ?_
    obtain ⟨x6, hx6, hm⟩ := bind_some hm
    refine wo (Spec.indexAddr hx6 sl26 (Has.s rfl) (Has.s rfl)) ?_
    refine wo ((Spec.load ty4 (Has.s rfl)).flat (T' := [])) ?_
    refine wo (Spec.assign (Has.s rfl)) ?_
    refine wo (Spec.assign (Has.s rfl)) ?_
    refine Walk.nil ?_
    refine Leaf.thenN ?_
    refine CWalk.seq ?_
    refine CWalk.seq ?_
    refine CWalk.region ?_
    refine mv ?_
    refine mv ?_
    refine wg rfl rfl (fun hb => Spec.fieldAddrO fd28_1 (Has.cv (Has.s rfl) (Cv.isvP rfl))) ?_
    refine wg rfl rfl (fun hb => Spec.loadF (i := 1) ty25 rfl (Has.u rfl hb) rfl (HasG.s rfl)) ?_
    refine wg rfl rfl (fun hb => Spec.move (Has.s rfl)) ?_
    obtain ⟨x7, hx7, hm⟩ := bind_some hm
    refine wg rfl rfl (fun hb => Spec.indexAddr (gO_t hx7 hb) sl25 (Has.u rfl hb) (Has.u rfl hb)) ?_
    refine wg rfl rfl (fun hb => Spec.load ty31 (Has.u rfl hb)) ?_
    refine wg rfl rfl (fun hb => Spec.len (Has.u rfl hb) Try.underlying31) ?_
    refine wg rfl rfl (fun hb => Spec.eqlI (Has.u rfl hb) Has.int) ?_
    refine wo (Spec.and (Has.s rfl) (fun h => Has.u rfl h)) ?_
    refine Walk.nil ?_
    refine Leaf.thenN ?_
    refine CWalk.cond rfl (fun hb => ?_) (fun hb => ?_)
    ·have hm := cond_t hb hm
     refine CWalk.seq ?_
     refine CWalk.region ?_
     refine wo (Spec.assign Has.int) ?_
     refine Walk.nil ?_
     refine Leaf.thenN ?_
     refine CWalk.ret ?_
     refine Leaf.thenR ?_
     refine Leaf.blockR ?_
     refine Leaf.thenR ?_
     exact Leaf.brk hm (fun h => nomatch h) rfl (st Sub.nil)
    ·have hm := cond_f hb hm
     refine CWalk.skip ?_
     refine Leaf.thenN ?_
     refine CWalk.region ?_
     refine mv ?_
     refine mv ?_
     refine wg rfl rfl (fun hb => Spec.move (Has.s rfl)) ?_
     refine wo (Spec.or (Has.s rfl) (fun h => Has.u rfl h)) ?_
     refine wo (Spec.assign (Has.s rfl)) ?_
     refine Walk.nil ?_
     refine Leaf.blockN ?_
     refine Leaf.thenN ?_
     refine CWalk.region ?_
     refine wo (Spec.addI (Has.s rfl) Has.int) ?_
     refine mv ?_
     refine Walk.nil ?_
     exact Leaf.next hm (sn (sn (st (su (st (st (sf (sf (sf (sf (sf (sf (sf (sm (sm (sf (sf (sf (sn (sn Sub.nil))))))))))))))))))))
   ·have hm := cond_f hb hm
    refine CWalk.exit ?_
    refine Leaf.thenE ?_
    exact Leaf.brk hm (fun h => nomatch h) rfl (sn (sn (st (sf (sf (sf (sf (sf (sf (sf (sm (sm (sf (sf (sf (sn (sn Sub.nil)))))))))))))))))
  ·intro _
   rcases b8 with b9 | b11
   ·have hm := selim_l hm
    refine Leaf.blockE ?_
    refine Leaf.thenN ?_
    refine CWalk.seq ?_
    obtain ⟨x10, hx10, hm⟩ := bind_some hm
    refine CWalk.drawM [[], [0], [0, 1], [], [3], [], [5], [5, 6], [3, 4, 5, 6, 7], [3, 4, 5, 6, 7, 8], [3, 4, 5, 6, 7, 8, 9], [3, 4, 5, 6, 7, 8, 9, 10], [0, 1, 2], [0, 1, 2, 3, 4, 5, 6, 7, 8, 9, 10, 11, 12]] [[.fact 80 (Fact.pto 17 3)], [.fact 81 (Fact.rep [] (a1.Phase : UInt8))], [.fact 82 (Fact.rep [] ((a1.Phase == (0 : UInt8)) : Bool))], [.fact 83 (Fact.pto 17 1)], [.fact 84 (Fact.rep [0] (a1.Blocks : List (List UInt8)))], [.fact 85 (Fact.pto 10 1)], [.fact 86 (Fact.rep [] (a0.Members : Int))], [.fact 87 (Fact.rep [] ((wI (a0.Members - (1 : Int))) : Int))], [.fact 88 (Fact.ptr [0] (x10 : List UInt8))], [.fact 89 (Fact.rep [0] (x10 : List UInt8))], [.fact 90 (Fact.rep [] (((x10).length : Int) : Int))], [.fact 91 (Fact.rep [] ((decide (((x10).length : Int) > (0 : Int))) : Bool))], [.fact 10 (Fact.rep [] ((a1.Phase == (0 : UInt8)) : Bool))], [.fact 11 (Fact.rep [] ((decide (((x10).length : Int) > (0 : Int))) : Bool))]] mixed (by kernel_rfl) (ao (so (Spec.fieldAddrO fd28_3 (Has.cv (Has.s rfl) (Cv.isvP rfl)))) (ao (so (Spec.loadF (i := 3) ty5 rfl (Has.s rfl) rfl (HasG.s rfl))) (ao (so (Spec.eqlB (Has.s rfl) (Has.u8 0 rfl))) (ao (so (Spec.fieldAddrO fd28_1 (Has.cv (Has.s rfl) (Cv.isvP rfl)))) (ao (so (Spec.loadF (i := 1) ty25 rfl (Has.s rfl) rfl (HasG.s rfl))) (ao (so (Spec.fieldAddrO fd24_1 (Has.cv (Has.s rfl) (Cv.isvP rfl)))) (ao (so (Spec.loadF (i := 1) ty3 rfl (Has.s rfl) rfl (HasG.s rfl))) (ao (so (Spec.subI (Has.s rfl) Has.int)) (ao (so (Spec.indexAddr hx10 sl25 (Has.s rfl) (Has.s rfl))) (ao (so (Spec.load ty31 (Has.s rfl))) (ao (so (Spec.len (Has.s rfl) Try.underlying31)) (ao (so (Spec.gtrI (Has.s rfl) Has.int)) (ao (so (Spec.assign (Has.s rfl))) (ao (so (Spec.assign (Has.s rfl))) AllM.nil)))))))))))))) ?_
    refine Leaf.thenN ?_
    refine CWalk.seq ?_
    refine CWalk.seq ?_
    refine CWalk.region ?_
    refine mv ?_
    refine mv ?_
    refine wo (Spec.eqlT (Has.s rfl) (Has.s rfl) Try.underlying4) ?_
    refine mv ?_
    refine wg rfl rfl (fun hb => Spec.move (Has.s rfl)) ?_
    refine wg rfl rfl (fun hb => Spec.not (Has.u rfl hb)) ?_
    refine wg rfl rfl (fun hb => Spec.move (Has.u rfl hb)) ?_
    refine Walk.opgu rfl rfl rfl (fun hb => Spec.move (Has.s rfl)) ?_
    refine Walk.opgu rfl rfl rfl (fun hb => Spec.not (Has.u rfl hb)) ?_
    refine wg rfl rfl (fun hb => Spec.and (Has.u rfl hb) (fun h => Has.u rfl ⟨hb, h⟩)) ?_
    refine wo (Spec.or (Has.s rfl) (fun h => Has.u rfl h)) ?_
    refine mv ?_
    refine wg rfl rfl (fun hb => Spec.fieldAddrO fd28_3 (Has.cv (Has.s rfl) (Cv.isvP rfl))) ?_
    refine wg rfl rfl (fun hb => Spec.loadF (i := 3) ty5 rfl (Has.u rfl hb) rfl (HasG.s rfl)) ?_
    refine wg rfl rfl (fun hb => Spec.leqN (α := UInt8) (Has.u rfl hb) (Has.u8 1 rfl)) ?_
    refine wg rfl rfl (fun hb => Spec.move (Has.u rfl hb)) ?_
    refine Walk.opgu rfl rfl rfl (fun hb => Spec.fieldAddrO fd28_5 (Has.cv (Has.s rfl) (Cv.isvP rfl))) ?_
    refine Walk.opgu rfl rfl rfl (fun hb => Spec.loadF (i := 5) ty22 rfl (Has.u rfl hb) rfl (HasG.s rfl)) ?_
    refine Walk.opgu rfl rfl rfl (fun hb => Spec.neqN (α := UInt32) (Has.u rfl hb) (Has.u32 0 rfl)) ?_
    refine wg rfl rfl (fun hb => Spec.and (Has.u rfl hb) (fun h => Has.u rfl ⟨hb, h⟩)) ?_
    refine wo (Spec.or (Has.s rfl) (fun h => Has.u rfl h)) ?_
    refine mv ?_
    refine wg rfl rfl (fun hb => Spec.fieldAddrO fd28_4 (Has.cv (Has.s rfl) (Cv.isvP rfl))) ?_
    refine wg rfl rfl (fun hb => Spec.loadF (i := 4) ty4 rfl (Has.u rfl hb) rfl (HasG.s rfl)) ?_
    refine wg rfl rfl (fun hb => Spec.move (Has.u rfl hb)) ?_
    refine Walk.opgu rfl rfl rfl (fun hb => Spec.move (Has.s rfl)) ?_
    refine Walk.opgu rfl rfl rfl (fun hb => Spec.not (Has.u rfl hb)) ?_
    refine Walk.opgu rfl rfl rfl (fun hb => Spec.move (Has.u rfl hb)) ?_
    refine Walk.opgu rfl rfl rfl (fun hb => Spec.fieldAddrO fd28_3 (Has.cv (Has.s rfl) (Cv.isvP rfl))) ?_
    refine Walk.opgu rfl rfl rfl (fun hb => Spec.loadF (i := 3) ty5 rfl (Has.u rfl hb) rfl (HasG.s rfl)) ?_
    refine Walk.opgu rfl rfl rfl (fun hb => Spec.gtrN (α := UInt8) (Has.u rfl hb) (Has.u8 1 rfl)) ?_
    refine Walk.opgu rfl rfl rfl (fun hb => Spec.or (Has.u rfl hb) (fun h => Has.u rfl ⟨hb, h⟩)) ?_
    refine wg rfl rfl (fun hb => Spec.and (Has.u rfl hb) (fun h => Has.u rfl ⟨hb, h⟩)) ?_
    refine wo (Spec.or (Has.s rfl) (fun h => Has.u rfl h)) ?_
    refine Walk.nil ?_
    refine Leaf.thenN ?_
    refine CWalk.cond rfl (fun hb => ?_) (fun hb => ?_)
    ·have hm := cond_t hb hm
     refine CWalk.seq ?_
     refine CWalk.region ?_
     refine wo (Spec.assign Has.int) ?_
     refine Walk.nil ?_
     refine Leaf.thenN ?_
     refine CWalk.ret ?_
     refine Leaf.thenR ?_
     obtain rfl := Option.some.inj hm
     exact Leaf.retC1 rfl (HasR.cv (HasR.tmp (Has.s rfl)) Cv.fl)
    ·have hm := cond_f hb hm
     refine CWalk.skip ?_
     refine Leaf.thenN ?_
     refine CWalk.seq ?_
     refine CWalk.region ?_
     refine wo (Spec.assign Has.int) ?_
     refine Walk.nil ?_
     refine Leaf.thenN ?_
     refine CWalk.ret ?_
     obtain rfl := Option.some.inj hm
     exact Leaf.retC1 rfl (HasR.cv (HasR.tmp (Has.s rfl)) Cv.fl)
   ·have hm := selim_r hm
    refine Leaf.blockR ?_
    refine Leaf.thenR ?_
    obtain rfl := Option.some.inj hm
    exact Leaf.retC1 rfl (HasR.cv (HasR.tmp (Has.s rfl)) Cv.fl)

/-- slices.Clone[[]byte,byte] -/
def slices_Clone_byte_byte (a0 : List UInt8) : Option ((List UInt8)) :=
  Option.bind (app ([] : List UInt8) a0) (fun x1 => some x1)
set_option maxRecDepth 100000 in
set_option maxHeartbeats 2000000 in
theorem slices_Clone_byte_byte_c (a0 : List UInt8) {r : (List UInt8)} (hm : slices_Clone_byte_byte a0 = some r) : Ctr Try.prog 44 [.rep 0 a0] (.own 0 none 5 r) [] := by
 refine ctr_of_walk [[10]] 8 Try.func44 rfl rfl rfl rfl (fun w0 om => ?_)
 unfold slices_Clone_byte_byte at hm
 refine CWalk.sub (G' := [.fact 0 (Fact.rep [0] (a0 : List UInt8))]) (sn Sub.nil) ?_
 refine CWalk.seq ?_
 refine CWalk.region ?_
 refine wo (Spec.assign Has.nilv) ?_
 refine Walk.nil ?_
 refine Leaf.thenN ?_
 refine CWalk.seq ?_
 refine CWalk.seq ?_
 refine CWalk.region ?_
 refine mv ?_
 refine wo (Spec.eqlNil Try.underlying31 (Has.s rfl)) ?_
 refine Walk.nil ?_
 refine Leaf.thenN ?_
 refine CWalk.condNil rfl (fun hb => ?_) ?_
 ·have hm : some ([] : List UInt8) = some r := by first | simpa [app, hb] using hm | simpa [hb] using hm
  refine CWalk.seq ?_
  refine CWalk.region ?_
  refine wo (Spec.assign Has.nilv) ?_
  refine Walk.nil ?_
  refine Leaf.thenN ?_
  refine CWalk.ret ?_
  refine Leaf.thenR ?_
  obtain rfl := Option.some.inj hm
  exact Leaf.retC1 rfl (HasR.cv (HasR.tmp (Has.s rfl)) (Cv.trans Cv.nilOw (Cv.owF (T := []) (te := []) rfl)))
 ·skip
  refine CWalk.skip ?_
  refine Leaf.thenN ?_
  refine CWalk.seq ?_
  refine CWalk.region ?_
  refine ws (Step.lit0 (α := UInt8) 10 rfl rfl ow31) ?_
  refine mv ?_
  obtain ⟨x1, hx1, hm⟩ := bind_some hm
  refine ws (Step.append (te' := []) 10 hx1 rfl rfl ow31 (Has.s rfl) rfl (Has.s rfl) ElKeep.flat ElKeep.flat) ?_
  refine wo (Spec.assign (Has.s rfl)) ?_
  refine Walk.nil ?_
  refine Leaf.thenN ?_
  refine CWalk.ret ?_
  obtain rfl := Option.some.inj hm
  exact Leaf.retC1 rfl (HasR.cv (HasR.tmp (Has.s rfl)) (Cv.trans (Cv.isvOw rfl) (Cv.owF (T := [10]) (te := []) rfl)))

/-- freeboard/head.Tell -/
def head_Tell (a0 : Config) (a1 : Head) (a2 : Int) : Option ((List UInt8) × Bool × Int) :=
  Option.bind (head_Check a0 a1) (fun x1 => (bif (x1 != (0 : Int)) then some (([] : List UInt8), false, x1) else (bif ((decide (a2 < (0 : Int))) || (decide (a2 ≥ (wI (a0.Members - (1 : Int)))))) then some (([] : List UInt8), false, (2 : Int)) else Option.bind (idx a1.Blocks a2) (fun x2 => Option.bind (slices_Clone_byte_byte x2) (fun x3 => some (x3, (decide (((x3).length : Int) > (0 : Int))), (0 : Int)))))))
set_option maxRecDepth 100000 in
set_option maxHeartbeats 2000000 in
theorem head_Tell_c (a0 : Config) (a1 : Head) (a2 : Int) {r : (List UInt8) × Bool × Int} (hm : head_Tell a0 a1 a2 = some r) : Ctr Try.prog 11 [.rep 0 a0, .rep 0 a1, .rep 0 a2] (.tup3 (.own 0 none 5 r.1) (.fl r.2.1) (.fl r.2.2)) [] := by
 refine ctr_of_walk [[25]] 36 Try.func11 rfl rfl rfl rfl (fun w0 om => ?_)
 unfold head_Tell at hm
 refine CWalk.sub (G' := [.fact 0 (Fact.rep [] (a0 : Config)), .fact 1 (Fact.rep [0] (a1 : Head)), .fact 2 (Fact.rep [] (a2 : Int))]) (Sub.cons (Has.fl (Has.s rfl)) (sn (Sub.cons (Has.fl (Has.s rfl)) Sub.nil))) ?_
 refine CWalk.seq ?_
 refine CWalk.region ?_
 refine ws (Step.boxObj (ls := [(false, 1, Fact.rep [] (a0.Id : UInt32)), (false, 1, Fact.rep [] (a0.Members : Int)), (false, 1, Fact.rep [] (a0.Chunk : Int)), (false, 1, Fact.rep [] (a0.Rows : Int)), (false, 1, Fact.rep [] (a0.Log : Int)), (false, 1, Fact.rep [] (a0.Heads : Int))]) 10 rfl rfl rfl rfl (HasL.flds (Has.cv (Has.s rfl) (Cv.trans (Cv.opens (chConfig a0)) (Cv.flds (CvL.cons Cv.fl (CvL.cons Cv.fl (CvL.cons Cv.fl (CvL.cons Cv.fl (CvL.cons Cv.fl (CvL.cons Cv.fl CvL.nil))))))))))) ?_
 refine ws (Step.boxObj (ls := [(false, 1, Fact.rep [] (a1.Stripe : Int)), (false, 1, Fact.rep [0] (a1.Blocks : List (List UInt8))), (false, 1, Fact.rep [0] (a1.Dirty : List Bool)), (false, 1, Fact.rep [] (a1.Phase : UInt8)), (false, 1, Fact.rep [] (a1.Deals : Bool)), (false, 1, Fact.rep [] (a1.Seq : UInt32))]) 17 rfl rfl rfl rfl (HasL.flds (Has.cv (Has.s rfl) (Cv.trans (Cv.opens (chHead a1)) (Cv.flds (CvL.cons Cv.fl (CvL.cons Cv.refl (CvL.cons Cv.refl (CvL.cons Cv.fl (CvL.cons Cv.fl (CvL.cons Cv.fl CvL.nil))))))))))) ?_
 refine wo (Spec.assign Has.nilv) ?_
 refine wo (Spec.assign Has.bool) ?_
 refine wo (Spec.assign Has.int) ?_
 refine Walk.nil ?_
 refine Leaf.thenN ?_
 refine CWalk.seq ?_
 refine CWalk.seq ?_
 refine CWalk.region ?_
 refine wo (Spec.loadObj (ls := [(false, 1, Fact.rep [] (a0.Id : UInt32)), (false, 1, Fact.rep [] (a0.Members : Int)), (false, 1, Fact.rep [] (a0.Chunk : Int)), (false, 1, Fact.rep [] (a0.Rows : Int)), (false, 1, Fact.rep [] (a0.Log : Int)), (false, 1, Fact.rep [] (a0.Heads : Int))]) ty24 rfl rfl (Has.s rfl) rfl (HasGs.cons (HasG.s rfl) (HasGs.cons (HasG.s rfl) (HasGs.cons (HasG.s rfl) (HasGs.cons (HasG.s rfl) (HasGs.cons (HasG.s rfl) (HasGs.cons (HasG.s rfl) HasGs.nil))))))) ?_
 refine wo (Spec.loadObj (ls := [(false, 1, Fact.rep [] (a1.Stripe : Int)), (false, 1, Fact.rep [0] (a1.Blocks : List (List UInt8))), (false, 1, Fact.rep [0] (a1.Dirty : List Bool)), (false, 1, Fact.rep [] (a1.Phase : UInt8)), (false, 1, Fact.rep [] (a1.Deals : Bool)), (false, 1, Fact.rep [] (a1.Seq : UInt32))]) ty28 rfl rfl (Has.s rfl) rfl (HasGs.cons (HasG.s rfl) (HasGs.cons (HasG.s rfl) (HasGs.cons (HasG.s rfl) (HasGs.cons (HasG.s rfl) (HasGs.cons (HasG.s rfl) (HasGs.cons (HasG.s rfl) HasGs.nil))))))) ?_
 obtain ⟨x1, hx1, hm⟩ := bind_some hm
 refine wo (f := Fact.rep [] (x1 : Int)) (Spec.callE [0] 24 rfl en24 (head_Check_c a0 a1 hx1) (HasAll.cons (Has.fl (Has.cv (Has.s rfl) (Cv.trans (Cv.flds (CvL.cons Cv.fl (CvL.cons Cv.fl (CvL.cons Cv.fl (CvL.cons Cv.fl (CvL.cons Cv.fl (CvL.cons Cv.fl CvL.nil))))))) (Cv.close (T := []) (chConfig a0))))) (HasAll.cons (Has.m (Has.cv (Has.s rfl) (Cv.trans (Cv.flds (CvL.cons Cv.fl (CvL.cons (Cv.m rfl) (CvL.cons (Cv.m rfl) (CvL.cons Cv.fl (CvL.cons Cv.fl (CvL.cons Cv.fl CvL.nil))))))) (Cv.close (T := [0]) (chHead a1)))) rfl) HasAll.nil))) ?_
 refine wo (Spec.assign (Has.s rfl)) ?_
 refine Walk.nil ?_
 refine Leaf.thenN ?_
 refine CWalk.seq ?_
 refine CWalk.region ?_
 refine mv ?_
 refine wo (Spec.neqI (Has.s rfl) Has.int) ?_
 refine Walk.nil ?_
 refine Leaf.thenN ?_
 refine CWalk.cond rfl (fun hb => ?_) (fun hb => ?_)
 ·have hm := cond_t hb hm
  refine CWalk.seq ?_
  refine CWalk.region ?_
  refine mv ?_
  refine wo (Spec.assign Has.nilv) ?_
  refine wo (Spec.assign Has.bool) ?_
  refine wo (Spec.assign (Has.s rfl)) ?_
  refine Walk.nil ?_
  refine Leaf.thenN ?_
  refine CWalk.ret ?_
  refine Leaf.thenR ?_
  obtain rfl := Option.some.inj hm
  exact Leaf.retC3 rfl (HasR.cv (HasR.tmp (Has.s rfl)) (Cv.trans Cv.nilOw (Cv.owF (T := []) (te := []) rfl))) (HasR.cv (HasR.tmp (Has.s rfl)) Cv.fl) (HasR.cv (HasR.tmp (Has.s rfl)) Cv.fl)
 ·have hm := cond_f hb hm
  refine CWalk.skip ?_
  refine Leaf.thenN ?_
  refine CWalk.seq ?_
  refine CWalk.seq ?_
  refine CWalk.region ?_
  refine mv ?_
  refine wo (Spec.lssI (Has.s rfl) Has.int) ?_
  refine mv ?_
  refine wg rfl rfl (fun hb => Spec.move (Has.s rfl)) ?_
  refine wg rfl rfl (fun hb => Spec.fieldAddrO fd24_1 (Has.cv (Has.s rfl) (Cv.isvP rfl))) ?_
  refine wg rfl rfl (fun hb => Spec.loadF (i := 1) ty3 rfl (Has.u rfl hb) rfl (HasG.s rfl)) ?_
  refine wg rfl rfl (fun hb => Spec.subI (Has.u rfl hb) Has.int) ?_
  refine wg rfl rfl (fun hb => Spec.geqI (Has.u rfl hb) (Has.u rfl hb)) ?_
  refine wo (Spec.or (Has.s rfl) (fun h => Has.u rfl h)) ?_
  refine Walk.nil ?_
  refine Leaf.thenN ?_
  refine CWalk.cond rfl (fun hb => ?_) (fun hb => ?_)
  ·have hm := cond_t hb hm
   refine CWalk.seq ?_
   refine CWalk.region ?_
   refine wo (Spec.assign Has.nilv) ?_
   refine wo (Spec.assign Has.bool) ?_
   refine wo (Spec.assign Has.int) ?_
   refine Walk.nil ?_
   refine Leaf.thenN ?_
   refine CWalk.ret ?_
   refine Leaf.thenR ?_
   obtain rfl := Option.some.inj hm
   exact Leaf.retC3 rfl (HasR.cv (HasR.tmp (Has.s rfl)) (Cv.trans Cv.nilOw (Cv.owF (T := []) (te := []) rfl))) (HasR.cv (HasR.tmp (Has.s rfl)) Cv.fl) (HasR.cv (HasR.tmp (Has.s rfl)) Cv.fl)
  ·have hm := cond_f hb hm
   refine CWalk.skip ?_
   refine Leaf.thenN ?_
   refine CWalk.seq ?_
   refine CWalk.region ?_
   refine wo (Spec.fieldAddrO fd28_1 (Has.cv (Has.s rfl) (Cv.isvP rfl))) ?_
   refine wo (Spec.loadF (i := 1) ty25 rfl (Has.s rfl) rfl (HasG.s rfl)) ?_
   refine mv ?_
   obtain ⟨x2, hx2, hm⟩ := bind_some hm
   refine wo (Spec.indexAddr hx2 sl25 (Has.s rfl) (Has.s rfl)) ?_
   refine wo (Spec.load ty31 (Has.s rfl)) ?_
   obtain ⟨x3, hx3, hm⟩ := bind_some hm
   refine wo (f := Fact.ow [25] [] 5 (x3 : List UInt8)) (Spec.callE [0] 25 rfl en44 (slices_Clone_byte_byte_c x2 hx3) (HasAll.cons (Has.m (Has.s rfl) rfl) HasAll.nil)) ?_
   refine wo (Spec.assign (Has.s rfl)) ?_
   refine Walk.nil ?_
   refine Leaf.thenN ?_
   refine CWalk.seq ?_
   refine CWalk.region ?_
   refine mv ?_
   refine mv ?_
   refine wo (Spec.len (Has.cv (Has.s rfl) (Cv.trans Cv.owSl (Cv.slRep (T' := [25]) rfl rfl))) Try.underlying31) ?_
   refine wo (Spec.gtrI (Has.s rfl) Has.int) ?_
   refine wo (Spec.assign (Has.s rfl)) ?_
   refine wo (Spec.assign (Has.s rfl)) ?_
   refine wo (Spec.assign Has.int) ?_
   refine Walk.nil ?_
   refine Leaf.thenN ?_
   refine CWalk.ret ?_
   obtain rfl := Option.some.inj hm
   exact Leaf.retC3 rfl (HasR.cv (HasR.tmp (Has.s rfl)) (Cv.owF (T := [25]) (te := []) rfl)) (HasR.cv (HasR.tmp (Has.s rfl)) Cv.fl) (HasR.cv (HasR.tmp (Has.s rfl)) Cv.fl)

/-- freeboard/freeboardref06.in -/
def ref06_in (a0 : Int) (a1 : Int) (a2 : Int) : Option (Bool) :=
  some ((decide (a0 ≥ a1)) && (decide (a0 ≤ a2)))
set_option maxRecDepth 100000 in
set_option maxHeartbeats 2000000 in
theorem ref06_in_c (a0 : Int) (a1 : Int) (a2 : Int) {r : Bool} (hm : ref06_in a0 a1 a2 = some r) : Ctr Try.prog 74 [.rep 0 a0, .rep 0 a1, .rep 0 a2] (.fl r) [] := by
 refine ctr_of_walk [[]] 15 Try.func74 rfl rfl rfl rfl (fun w0 om => ?_)
 unfold ref06_in at hm
 refine CWalk.sub (G' := [.fact 0 (Fact.rep [] (a0 : Int)), .fact 1 (Fact.rep [] (a1 : Int)), .fact 2 (Fact.rep [] (a2 : Int))]) (Sub.cons (Has.fl (Has.s rfl)) (Sub.cons (Has.fl (Has.s rfl)) (Sub.cons (Has.fl (Has.s rfl)) Sub.nil))) ?_
 refine CWalk.seq ?_
 refine CWalk.region ?_
 refine wo (Spec.assign Has.bool) ?_
 refine Walk.nil ?_
 refine Leaf.thenN ?_
 refine CWalk.seq ?_
 refine CWalk.region ?_
 refine mv ?_
 refine mv ?_
 refine wo (Spec.geqI (Has.s rfl) (Has.s rfl)) ?_
 refine mv ?_
 refine wg rfl rfl (fun hb => Spec.move (Has.s rfl)) ?_
 refine wg rfl rfl (fun hb => Spec.move (Has.s rfl)) ?_
 refine wg rfl rfl (fun hb => Spec.leqI (Has.u rfl hb) (Has.u rfl hb)) ?_
 refine wo (Spec.and (Has.s rfl) (fun h => Has.u rfl h)) ?_
 refine wo (Spec.assign (Has.s rfl)) ?_
 refine Walk.nil ?_
 refine Leaf.thenN ?_
 refine CWalk.ret ?_
 obtain rfl := Option.some.inj hm
 exact Leaf.retC1 rfl (HasR.cv (HasR.tmp (Has.s rfl)) Cv.fl)

/-- freeboard/freeboardref06.Need -/
def ref06_Need (a0 : Config) : Option (Int) :=
  some (wI (a0.Members + (1 : Int)))
set_option maxRecDepth 100000 in
set_option maxHeartbeats 2000000 in
theorem ref06_Need_c (a0 : Config) {r : Int} (hm : ref06_Need a0 = some r) : Ctr Try.prog 75 [.rep 0 a0] (.fl r) [] := by
 refine ctr_of_walk [[]] 6 Try.func75 rfl rfl rfl rfl (fun w0 om => ?_)
 unfold ref06_Need at hm
 refine CWalk.sub (G' := [.fact 0 (Fact.rep [] (a0 : Config))]) (Sub.cons (Has.fl (Has.s rfl)) Sub.nil) ?_
 refine CWalk.seq ?_
 refine CWalk.region ?_
 refine ws (Step.boxObj (ls := [(false, 1, Fact.rep [] (a0.Id : UInt32)), (false, 1, Fact.rep [] (a0.Members : Int)), (false, 1, Fact.rep [] (a0.Chunk : Int)), (false, 1, Fact.rep [] (a0.Rows : Int)), (false, 1, Fact.rep [] (a0.Log : Int)), (false, 1, Fact.rep [] (a0.Heads : Int))]) 10 rfl rfl rfl rfl (HasL.flds (Has.cv (Has.s rfl) (Cv.trans (Cv.opens (chConfig a0)) (Cv.flds (CvL.cons Cv.fl (CvL.cons Cv.fl (CvL.cons Cv.fl (CvL.cons Cv.fl (CvL.cons Cv.fl (CvL.cons Cv.fl CvL.nil))))))))))) ?_
 refine wo (Spec.assign Has.int) ?_
 refine Walk.nil ?_
 refine Leaf.thenN ?_
 refine CWalk.seq ?_
 refine CWalk.region ?_
 refine wo (Spec.fieldAddrO fd24_1 (Has.cv (Has.s rfl) (Cv.isvP rfl))) ?_
 refine wo (Spec.loadF (i := 1) ty3 rfl (Has.s rfl) rfl (HasG.s rfl)) ?_
 refine wo (Spec.addI (Has.s rfl) Has.int) ?_
 refine wo (Spec.assign (Has.s rfl)) ?_
 refine Walk.nil ?_
 refine Leaf.thenN ?_
 refine CWalk.ret ?_
 obtain rfl := Option.some.inj hm
 exact Leaf.retC1 rfl (HasR.cv (HasR.tmp (Has.s rfl)) Cv.fl)

/-- freeboard/freeboardref06.May -/
def ref06_May (a0 : Config) : Option (Bool) :=
  Option.bind (ref06_in a0.Members (3 : Int) (16 : Int)) (fun x1 => Option.bind (gO (!(!x1)) (ref06_in a0.Chunk (1 : Int) (8 : Int))) (fun x2 => Option.bind (gO (!((!x1) || (!x2))) (ref06_in a0.Rows (1 : Int) (8 : Int))) (fun x3 => Option.bind (gO (!(((!x1) || (!x2)) || (!x3))) (ref06_in a0.Heads (2 : Int) (8 : Int))) (fun x4 => (bif ((((!x1) || (!x2)) || (!x3)) || (!x4)) then some false else Option.bind (ref06_Need a0) (fun x5 => Option.bind (ref06_in a0.Log (wI (x5 * (wI (a0.Heads + (1 : Int))))) (255 : Int)) (fun x6 => some x6)))))))
set_option maxRecDepth 100000 in
set_option maxHeartbeats 2000000 in
theorem ref06_May_c (a0 : Config) {r : Bool} (hm : ref06_May a0 = some r) : Ctr Try.prog 53 [.rep 0 a0] (.fl r) [] := by
 refine ctr_of_walk [[]] 34 Try.func53 rfl rfl rfl rfl (fun w0 om => ?_)
 unfold ref06_May at hm
 refine CWalk.sub (G' := [.fact 0 (Fact.rep [] (a0 : Config))]) (Sub.cons (Has.fl (Has.s rfl)) Sub.nil) ?_
 refine CWalk.seq ?_
 refine CWalk.region ?_
 refine ws (Step.boxObj (ls := [(false, 1, Fact.rep [] (a0.Id : UInt32)), (false, 1, Fact.rep [] (a0.Members : Int)), (false, 1, Fact.rep [] (a0.Chunk : Int)), (false, 1, Fact.rep [] (a0.Rows : Int)), (false, 1, Fact.rep [] (a0.Log : Int)), (false, 1, Fact.rep [] (a0.Heads : Int))]) 10 rfl rfl rfl rfl (HasL.flds (Has.cv (Has.s rfl) (Cv.trans (Cv.opens (chConfig a0)) (Cv.flds (CvL.cons Cv.fl (CvL.cons Cv.fl (CvL.cons Cv.fl (CvL.cons Cv.fl (CvL.cons Cv.fl (CvL.cons Cv.fl CvL.nil))))))))))) ?_
 refine wo (Spec.assign Has.bool) ?_
 refine Walk.nil ?_
 refine Leaf.thenN ?_
 refine CWalk.seq ?_
 refine CWalk.seq ?_
 refine CWalk.region ?_
 refine wo (Spec.fieldAddrO fd24_1 (Has.cv (Has.s rfl) (Cv.isvP rfl))) ?_
 refine wo (Spec.loadF (i := 1) ty3 rfl (Has.s rfl) rfl (HasG.s rfl)) ?_
 obtain ⟨x1, hx1, hm⟩ := bind_some hm
 refine wo (f := Fact.rep [] (x1 : Bool)) (Spec.callE [] 17 rfl en74 (ref06_in_c a0.Members (3 : Int) (16 : Int) hx1) (HasAll.cons (Has.fl (Has.s rfl)) (HasAll.cons (Has.fl Has.int) (HasAll.cons (Has.fl Has.int) HasAll.nil)))) ?_
 refine wo (Spec.not (Has.s rfl)) ?_
 refine mv ?_
 refine wg rfl rfl (fun hb => Spec.fieldAddrO fd24_2 (Has.cv (Has.s rfl) (Cv.isvP rfl))) ?_
 refine wg rfl rfl (fun hb => Spec.loadF (i := 2) ty3 rfl (Has.u rfl hb) rfl (HasG.s rfl)) ?_
 obtain ⟨x2, hx2, hm⟩ := bind_some hm
 refine wg (f := Fact.rep [] (x2 : Bool)) rfl rfl (fun hb => Spec.callE [] 18 rfl en74 (ref06_in_c a0.Chunk (1 : Int) (8 : Int) (gO_t hx2 (not_t hb))) (HasAll.cons (Has.fl (Has.u rfl hb)) (HasAll.cons (Has.fl Has.int) (HasAll.cons (Has.fl Has.int) HasAll.nil)))) ?_
 refine wg rfl rfl (fun hb => Spec.not (Has.u rfl hb)) ?_
 refine wo (Spec.or (Has.s rfl) (fun h => Has.u rfl h)) ?_
 refine mv ?_
 refine wg rfl rfl (fun hb => Spec.fieldAddrO fd24_3 (Has.cv (Has.s rfl) (Cv.isvP rfl))) ?_
 refine wg rfl rfl (fun hb => Spec.loadF (i := 3) ty3 rfl (Has.u rfl hb) rfl (HasG.s rfl)) ?_
 obtain ⟨x3, hx3, hm⟩ := bind_some hm
 refine wg (f := Fact.rep [] (x3 : Bool)) rfl rfl (fun hb => Spec.callE [] 19 rfl en74 (ref06_in_c a0.Rows (1 : Int) (8 : Int) (gO_t hx3 (not_t hb))) (HasAll.cons (Has.fl (Has.u rfl hb)) (HasAll.cons (Has.fl Has.int) (HasAll.cons (Has.fl Has.int) HasAll.nil)))) ?_
 refine wg rfl rfl (fun hb => Spec.not (Has.u rfl hb)) ?_
 refine wo (Spec.or (Has.s rfl) (fun h => Has.u rfl h)) ?_
 refine mv ?_
 refine wg rfl rfl (fun hb => Spec.fieldAddrO fd24_5 (Has.cv (Has.s rfl) (Cv.isvP rfl))) ?_
 refine wg rfl rfl (fun hb => Spec.loadF (i := 5) ty3 rfl (Has.u rfl hb) rfl (HasG.s rfl)) ?_
 obtain ⟨x4, hx4, hm⟩ := bind_some hm
 refine wg (f := Fact.rep [] (x4 : Bool)) rfl rfl (fun hb => Spec.callE [] 20 rfl en74 (ref06_in_c a0.Heads (2 : Int) (8 : Int) (gO_t hx4 (not_t hb))) (HasAll.cons (Has.fl (Has.u rfl hb)) (HasAll.cons (Has.fl Has.int) (HasAll.cons (Has.fl Has.int) HasAll.nil)))) ?_
 refine wg rfl rfl (fun hb => Spec.not (Has.u rfl hb)) ?_
 refine wo (Spec.or (Has.s rfl) (fun h => Has.u rfl h)) ?_
 refine Walk.nil ?_
 refine Leaf.thenN ?_
 refine CWalk.cond rfl (fun hb => ?_) (fun hb => ?_)
 ·have hm := cond_t hb hm
  refine CWalk.seq ?_
  refine CWalk.region ?_
  refine wo (Spec.assign Has.bool) ?_
  refine Walk.nil ?_
  refine Leaf.thenN ?_
  refine CWalk.ret ?_
  refine Leaf.thenR ?_
  obtain rfl := Option.some.inj hm
  exact Leaf.retC1 rfl (HasR.cv (HasR.tmp (Has.s rfl)) Cv.fl)
 ·have hm := cond_f hb hm
  refine CWalk.skip ?_
  refine Leaf.thenN ?_
  refine CWalk.seq ?_
  obtain ⟨x5, hx5, hm⟩ := bind_some hm
  obtain ⟨x6, hx6, hm⟩ := bind_some hm
  refine CWalk.drawM [[], [0], [], [2], [], [4], [4, 5], [2, 3, 4, 5, 6], [0, 1, 2, 3, 4, 5, 6, 7], [0, 1, 2, 3, 4, 5, 6, 7, 8]] [[.fact 25 (Fact.pto 10 4)], [.fact 26 (Fact.rep [] (a0.Log : Int))], [.fact 27 (Fact.flds [(false, 1, Fact.rep [] (a0.Id : UInt32)), (false, 1, Fact.rep [] (a0.Members : Int)), (false, 1, Fact.rep [] (a0.Chunk : Int)), (false, 1, Fact.rep [] (a0.Rows : Int)), (false, 1, Fact.rep [] (a0.Log : Int)), (false, 1, Fact.rep [] (a0.Heads : Int))])], [.fact 28 (Fact.rep [] (x5 : Int))], [.fact 29 (Fact.pto 10 5)], [.fact 30 (Fact.rep [] (a0.Heads : Int))], [.fact 31 (Fact.rep [] ((wI (a0.Heads + (1 : Int))) : Int))], [.fact 32 (Fact.rep [] ((wI (x5 * (wI (a0.Heads + (1 : Int))))) : Int))], [.fact 33 (Fact.rep [] (x6 : Bool))], [.fact 2 (Fact.rep [] (x6 : Bool))]] mixed (by kernel_rfl) (ao (so (Spec.fieldAddrO fd24_4 (Has.cv (Has.s rfl) (Cv.isvP rfl)))) (ao (so (Spec.loadF (i := 4) ty3 rfl (Has.s rfl) rfl (HasG.s rfl))) (ao (so (Spec.loadObj (ls := [(false, 1, Fact.rep [] (a0.Id : UInt32)), (false, 1, Fact.rep [] (a0.Members : Int)), (false, 1, Fact.rep [] (a0.Chunk : Int)), (false, 1, Fact.rep [] (a0.Rows : Int)), (false, 1, Fact.rep [] (a0.Log : Int)), (false, 1, Fact.rep [] (a0.Heads : Int))]) ty24 rfl rfl (Has.s rfl) rfl (HasGs.cons (HasG.s rfl) (HasGs.cons (HasG.s rfl) (HasGs.cons (HasG.s rfl) (HasGs.cons (HasG.s rfl) (HasGs.cons (HasG.s rfl) (HasGs.cons (HasG.s rfl) HasGs.nil)))))))) (ao (so (Spec.callE [] 21 rfl en75 (ref06_Need_c a0 hx5) (HasAll.cons (Has.fl (Has.cv (Has.s rfl) (Cv.trans (Cv.flds (CvL.cons Cv.fl (CvL.cons Cv.fl (CvL.cons Cv.fl (CvL.cons Cv.fl (CvL.cons Cv.fl (CvL.cons Cv.fl CvL.nil))))))) (Cv.close (T := []) (chConfig a0))))) HasAll.nil))) (ao (so (Spec.fieldAddrO fd24_5 (Has.cv (Has.s rfl) (Cv.isvP rfl)))) (ao (so (Spec.loadF (i := 5) ty3 rfl (Has.s rfl) rfl (HasG.s rfl))) (ao (so (Spec.addI (Has.s rfl) Has.int)) (ao (so (Spec.mulI (Has.s rfl) (Has.s rfl))) (ao (so (Spec.callE [] 22 rfl en74 (ref06_in_c a0.Log (wI (x5 * (wI (a0.Heads + (1 : Int))))) (255 : Int) hx6) (HasAll.cons (Has.fl (Has.s rfl)) (HasAll.cons (Has.fl (Has.s rfl)) (HasAll.cons (Has.fl Has.int) HasAll.nil))))) (ao (so (Spec.assign (Has.s rfl))) AllM.nil)))))))))) ?_
  refine Leaf.thenN ?_
  refine CWalk.ret ?_
  obtain rfl := Option.some.inj hm
  exact Leaf.retC1 rfl (HasR.cv (HasR.tmp (Has.s rfl)) Cv.fl)

/-- freeboard/freeboardref06.Stripes -/
def ref06_Stripes (a0 : Config) : Option (Int) :=
  some (wI (a0.Chunk * a0.Rows))
set_option maxRecDepth 100000 in
set_option maxHeartbeats 2000000 in
theorem ref06_Stripes_c (a0 : Config) {r : Int} (hm : ref06_Stripes a0 = some r) : Ctr Try.prog 54 [.rep 0 a0] (.fl r) [] := by
 refine ctr_of_walk [[]] 8 Try.func54 rfl rfl rfl rfl (fun w0 om => ?_)
 unfold ref06_Stripes at hm
 refine CWalk.sub (G' := [.fact 0 (Fact.rep [] (a0 : Config))]) (Sub.cons (Has.fl (Has.s rfl)) Sub.nil) ?_
 refine CWalk.seq ?_
 refine CWalk.region ?_
 refine ws (Step.boxObj (ls := [(false, 1, Fact.rep [] (a0.Id : UInt32)), (false, 1, Fact.rep [] (a0.Members : Int)), (false, 1, Fact.rep [] (a0.Chunk : Int)), (false, 1, Fact.rep [] (a0.Rows : Int)), (false, 1, Fact.rep [] (a0.Log : Int)), (false, 1, Fact.rep [] (a0.Heads : Int))]) 10 rfl rfl rfl rfl (HasL.flds (Has.cv (Has.s rfl) (Cv.trans (Cv.opens (chConfig a0)) (Cv.flds (CvL.cons Cv.fl (CvL.cons Cv.fl (CvL.cons Cv.fl (CvL.cons Cv.fl (CvL.cons Cv.fl (CvL.cons Cv.fl CvL.nil))))))))))) ?_
 refine wo (Spec.assign Has.int) ?_
 refine Walk.nil ?_
 refine Leaf.thenN ?_
 refine CWalk.seq ?_
 refine CWalk.region ?_
 refine wo (Spec.fieldAddrO fd24_2 (Has.cv (Has.s rfl) (Cv.isvP rfl))) ?_
 refine wo (Spec.loadF (i := 2) ty3 rfl (Has.s rfl) rfl (HasG.s rfl)) ?_
 refine wo (Spec.fieldAddrO fd24_3 (Has.cv (Has.s rfl) (Cv.isvP rfl))) ?_
 refine wo (Spec.loadF (i := 3) ty3 rfl (Has.s rfl) rfl (HasG.s rfl)) ?_
 refine wo (Spec.mulI (Has.s rfl) (Has.s rfl)) ?_
 refine wo (Spec.assign (Has.s rfl)) ?_
 refine Walk.nil ?_
 refine Leaf.thenN ?_
 refine CWalk.ret ?_
 obtain rfl := Option.some.inj hm
 exact Leaf.retC1 rfl (HasR.cv (HasR.tmp (Has.s rfl)) Cv.fl)

/-- freeboard/freeboardref04.Sized -/
def ref04_Sized (a0 : List UInt8) : Option (Bool) :=
  some ((((a0).length : Int) == (0 : Int)) || (((a0).length : Int) == (128 : Int)))
set_option maxRecDepth 100000 in
set_option maxHeartbeats 2000000 in
theorem ref04_Sized_c (a0 : List UInt8) {r : Bool} (hm : ref04_Sized a0 = some r) : Ctr Try.prog 65 [.rep 0 a0] (.fl r) [] := by
 refine ctr_of_walk [[]] 11 Try.func65 rfl rfl rfl rfl (fun w0 om => ?_)
 unfold ref04_Sized at hm
 refine CWalk.sub (G' := [.fact 0 (Fact.rep [0] (a0 : List UInt8))]) (sn Sub.nil) ?_
 refine CWalk.seq ?_
 refine CWalk.region ?_
 refine wo (Spec.assign Has.bool) ?_
 refine Walk.nil ?_
 refine Leaf.thenN ?_
 refine CWalk.seq ?_
 refine CWalk.region ?_
 refine mv ?_
 refine wo (Spec.len (Has.s rfl) Try.underlying31) ?_
 refine wo (Spec.eqlI (Has.s rfl) Has.int) ?_
 refine mv ?_
 refine wg rfl rfl (fun hb => Spec.move (Has.s rfl)) ?_
 refine wg rfl rfl (fun hb => Spec.len (Has.u rfl hb) Try.underlying31) ?_
 refine wg rfl rfl (fun hb => Spec.eqlI (Has.u rfl hb) Has.int) ?_
 refine wo (Spec.or (Has.s rfl) (fun h => Has.u rfl h)) ?_
 refine wo (Spec.assign (Has.s rfl)) ?_
 refine Walk.nil ?_
 refine Leaf.thenN ?_
 refine CWalk.ret ?_
 obtain rfl := Option.some.inj hm
 exact Leaf.retC1 rfl (HasR.cv (HasR.tmp (Has.s rfl)) Cv.fl)

def ref16_Dirty_L1 (a0 : Head) (s1 : Int) : Option (Ctl (Int) ((Unit) ⊕ (Unit))) :=
  (bif (decide (s1 < ((a0.Dirty).length : Int))) then Option.bind (idx a0.Dirty s1) (fun x3 => (bif x3 then some (Ctl.brk (Sum.inr ())) else some (Ctl.next (wI (s1 + (1 : Int)))))) else some (Ctl.brk (Sum.inl ())))
/-- freeboard/freeboardref16.Dirty -/
def ref16_Dirty (a0 : Head) : Option (Bool) :=
  Option.bind (loopM (fun s : Int => ref16_Dirty_L1 a0 s) FUEL (0 : Int)) (fun b4 => Sum.elim (fun b5 => some false) (fun b6 => some true) b4)
set_option maxRecDepth 100000 in
set_option maxHeartbeats 2000000 in
theorem ref16_Dirty_c (a0 : Head) {r : Bool} (hm : ref16_Dirty a0 = some r) : Ctr Try.prog 66 [.rep 0 a0] (.fl r) [] := by
 refine ctr_of_walk [[]] 16 Try.func66 rfl rfl rfl rfl (fun w0 om => ?_)
 unfold ref16_Dirty at hm
 refine CWalk.sub (G' := [.fact 0 (Fact.rep [0] (a0 : Head))]) (sn Sub.nil) ?_
 refine CWalk.seq ?_
 refine CWalk.region ?_
 refine ws (Step.boxObj (ls := [(false, 1, Fact.rep [] (a0.Stripe : Int)), (false, 1, Fact.rep [0] (a0.Blocks : List (List UInt8))), (false, 1, Fact.rep [0] (a0.Dirty : List Bool)), (false, 1, Fact.rep [] (a0.Phase : UInt8)), (false, 1, Fact.rep [] (a0.Deals : Bool)), (false, 1, Fact.rep [] (a0.Seq : UInt32))]) 10 rfl rfl rfl rfl (HasL.flds (Has.cv (Has.s rfl) (Cv.trans (Cv.opens (chHead a0)) (Cv.flds (CvL.cons Cv.fl (CvL.cons Cv.refl (CvL.cons Cv.refl (CvL.cons Cv.fl (CvL.cons Cv.fl (CvL.cons Cv.fl CvL.nil))))))))))) ?_
 refine wo (Spec.assign Has.bool) ?_
 refine Walk.nil ?_
 refine Leaf.thenN ?_
 refine CWalk.seq ?_
 refine CWalk.seq ?_
 refine CWalk.region ?_
 refine wo (Spec.assign Has.int) ?_
 refine Walk.nil ?_
 refine Leaf.thenN ?_
 refine CWalk.block ?_
 obtain ⟨b4, hb4, hm⟩ := bind_some hm
 refine CWalk.loop (fun s : Int => [.fact 1 (Fact.isv 10), .fact 3 (Fact.rep [] (s : Int)), .fact 100011 (Fact.at 11 (Fact.rep [] (a0.Stripe : Int))), .fact 100012 (Fact.at 12 (Fact.rep [0] (a0.Blocks : List (List UInt8)))), .fact 100013 (Fact.at 13 (Fact.rep [0] (a0.Dirty : List Bool))), .fact 100014 (Fact.at 14 (Fact.rep [] (a0.Phase : UInt8))), .fact 100015 (Fact.at 15 (Fact.rep [] (a0.Deals : Bool))), .fact 100016 (Fact.at 16 (Fact.rep [] (a0.Seq : UInt32))), .fact 100010 (Fact.obj 10 [(false, 1), (false, 1), (false, 1), (false, 1), (false, 1), (false, 1)])]) (fun b : (Unit) ⊕ (Unit) => Sum.elim (fun b => (Exit.exit 0, [])) (fun b => (Exit.ret, [.fact 2 (Fact.rep [] (true : Bool))])) b) hb4 (sn (st (sf (sm (sm (sf (sf (sf (sn Sub.nil))))))))) ?_ ?_
 ·rintro s1 c2 hm
  replace hm : ref16_Dirty_L1 a0 s1 = some c2 := hm
  unfold ref16_Dirty_L1 at hm
  show CWalk _ [.fact 1 (Fact.isv 10), .fact 3 (Fact.rep [] (s1 : Int)), .fact 100011 (Fact.at 11 (Fact.rep [] (a0.Stripe : Int))), .fact 100012 (Fact.at 12 (Fact.rep [0] (a0.Blocks : List (List UInt8)))), .fact 100013 (Fact.at 13 (Fact.rep [0] (a0.Dirty : List Bool))), .fact 100014 (Fact.at 14 (Fact.rep [] (a0.Phase : UInt8))), .fact 100015 (Fact.at 15 (Fact.rep [] (a0.Deals : Bool))), .fact 100016 (Fact.at 16 (Fact.rep [] (a0.Seq : UInt32))), .fact 100010 (Fact.obj 10 [(false, 1), (false, 1), (false, 1), (false, 1), (false, 1), (false, 1)])] _ _
  refine CWalk.seq ?_
  refine CWalk.seq ?_
  refine CWalk.region ?_
  refine mv ?_
  refine wo (Spec.fieldAddrO fd28_2 (Has.cv (Has.s rfl) (Cv.isvP rfl))) ?_
  refine wo (Spec.loadF (i := 2) ty26 rfl (Has.s rfl) rfl (HasG.s rfl)) ?_
  refine wo (Spec.len (Has.s rfl) Try.underlying26) ?_
  refine wo (Spec.lssI (Has.s rfl) (Has.s rfl)) ?_
  refine Walk.nil ?_
  refine Leaf.thenN ?_
  refine CWalk.cond rfl (fun hb => ?_) (fun hb => ?_)
  ·have hm := cond_t hb hm
   refine CWalk.skip ?_
   refine Leaf.thenN ?_
   refine CWalk.seq ?_
   refine CWalk.block ?_
   refine CWalk.seq ?_
   refine CWalk.region ?_
   refine wo (Spec.fieldAddrO fd28_2 (Has.cv (Has.s rfl) (Cv.isvP rfl))) ?_
   refine wo (Spec.loadF (i := 2) ty26 rfl (Has.s rfl) rfl (HasG.s rfl)) ?_
   refine mv ?_
   obtain ⟨x3, hx3, hm⟩ := bind_some hm
   refine wo (Spec.indexAddr hx3 sl26 (Has.s rfl) (Has.s rfl)) ?_
   refine wo ((Spec.load ty4 (Has.s rfl)).flat (T' := [])) ?_
   refine Walk.nil ?_
   refine Leaf.thenN ?_
   refine CWalk.cond rfl (fun hb => ?_) (fun hb => ?_)
   ·have hm := cond_t hb hm
    refine CWalk.seq ?_
    refine CWalk.region ?_
    refine wo (Spec.assign Has.bool) ?_
    refine Walk.nil ?_
    refine Leaf.thenN ?_
    refine CWalk.ret ?_
    refine Leaf.blockR ?_
    refine Leaf.thenR ?_
    exact Leaf.brk hm (fun h => nomatch h) rfl (st Sub.nil)
   ·have hm := cond_f hb hm
    refine CWalk.skip ?_
    refine Leaf.blockN ?_
    refine Leaf.thenN ?_
    refine CWalk.region ?_
    refine mv ?_
    refine wo (Spec.addI (Has.s rfl) Has.int) ?_
    refine wo (Spec.assign (Has.s rfl)) ?_
    refine Walk.nil ?_
    exact Leaf.next hm (sn (st (sf (sm (sm (sf (sf (sf (sn Sub.nil)))))))))
  ·have hm := cond_f hb hm
   refine CWalk.exit ?_
   refine Leaf.thenE ?_
   exact Leaf.brk hm (fun h => nomatch h) rfl (Sub.nil)
 ·intro _
  rcases b4 with b5 | b6
  ·have hm := selim_l hm
   refine Leaf.blockE ?_
   refine Leaf.thenN ?_
   refine CWalk.seq ?_
   refine CWalk.region ?_
   refine wo (Spec.assign Has.bool) ?_
   refine Walk.nil ?_
   refine Leaf.thenN ?_
   refine CWalk.ret ?_
   obtain rfl := Option.some.inj hm
   exact Leaf.retC1 rfl (HasR.cv (HasR.tmp (Has.s rfl)) Cv.fl)
  ·have hm := selim_r hm
   refine Leaf.blockR ?_
   refine Leaf.thenR ?_
   obtain rfl := Option.some.inj hm
   exact Leaf.retC1 rfl (HasR.cv (HasR.tmp (Has.s rfl)) Cv.fl)

def ref16_May_L1 (a0 : Config) (a1 : Head) (s2 : Int) : Option (Ctl (Int) ((Unit) ⊕ (Unit))) :=
  (bif (decide (s2 < a0.Members)) then Option.bind (idx a1.Blocks s2) (fun x4 => Option.bind (ref04_Sized x4) (fun x5 => Option.bind (gO ((!(!x5)) && ((decide (s2 < (wI (a0.Members - (1 : Int))))))) (idx a1.Dirty s2)) (fun x6 => Option.bind (gO ((!(!x5)) && (((decide (s2 < (wI (a0.Members - (1 : Int))))) && x6))) (idx a1.Blocks s2)) (fun x7 => (bif ((!x5) || (((decide (s2 < (wI (a0.Members - (1 : Int))))) && x6) && (((x7).length : Int) == (0 : Int)))) then some (Ctl.brk (Sum.inr ())) else some (Ctl.next (wI (s2 + (1 : Int))))))))) else some (Ctl.brk (Sum.inl ())))
/-- freeboard/freeboardref16.May -/
def ref16_May (a0 : Config) (a1 : Head) : Option (Bool) :=
  Option.bind (gO (!(decide (a1.Stripe < (0 : Int)))) (ref06_Stripes a0)) (fun x1 => (bif (((((decide (a1.Stripe < (0 : Int))) || (decide (a1.Stripe ≥ x1))) || (((a1.Blocks).length : Int) != a0.Members)) || (((a1.Dirty).length : Int) != (wI (a0.Members - (1 : Int))))) || (decide ((a1.Phase.toNat : Int) > ((4 : UInt8).toNat : Int)))) then some false else Option.bind (loopM (fun s : Int => ref16_May_L1 a0 a1 s) FUEL (0 : Int)) (fun b8 => Sum.elim (fun b9 => Option.bind (gO ((a1.Phase == (0 : UInt8))) (idx a1.Blocks (wI (a0.Members - (1 : Int))))) (fun x10 => (bif ((a1.Phase == (0 : UInt8)) && ((decide (((x10).length : Int) > (0 : Int))) || ((a1.Seq.toNat : Int) != ((0 : UInt32).toNat : Int)))) then some false else Option.bind (gO ((decide ((a1.Phase.toNat : Int) > ((0 : UInt8).toNat : Int)))) (idx a1.Blocks (wI (a0.Members - (1 : Int))))) (fun x11 => Option.bind (gO (((decide ((a1.Phase.toNat : Int) > ((0 : UInt8).toNat : Int)))) && (!(((x11).length : Int) == (0 : Int)))) (ref16_Dirty a1)) (fun x12 => (bif (((decide ((a1.Phase.toNat : Int) > ((0 : UInt8).toNat : Int))) && ((((x11).length : Int) == (0 : Int)) || (!x12))) || ((a1.Phase == (1 : UInt8)) && ((a1.Seq.toNat : Int) != ((0 : UInt32).toNat : Int)))) then some false else Option.bind (gO (!(!a1.Deals)) (ref16_Dirty a1)) (fun x13 => some ((!a1.Deals) || (x13 && (decide ((a1.Phase.toNat : Int) ≤ ((1 : UInt8).toNat : Int)))))))))))) (fun b14 => some false) b8)))
set_option maxRecDepth 100000 in
set_option maxHeartbeats 2000000 in
theorem ref16_May_c (a0 : Config) (a1 : Head) {r : Bool} (hm : ref16_May a0 a1 = some r) : Ctr Try.prog 59 [.rep 0 a0, .rep 0 a1] (.fl r) [] := by
 refine ctr_of_walk [[]] 131 Try.func59 rfl rfl rfl rfl (fun w0 om => ?_)
 unfold ref16_May at hm
 refine CWalk.sub (G' := [.fact 0 (Fact.rep [] (a0 : Config)), .fact 1 (Fact.rep [0] (a1 : Head))]) (Sub.cons (Has.fl (Has.s rfl)) (sn Sub.nil)) ?_
 refine CWalk.seq ?_
 refine CWalk.region ?_
 refine ws (Step.boxObj (ls := [(false, 1, Fact.rep [] (a0.Id : UInt32)), (false, 1, Fact.rep [] (a0.Members : Int)), (false, 1, Fact.rep [] (a0.Chunk : Int)), (false, 1, Fact.rep [] (a0.Rows : Int)), (false, 1, Fact.rep [] (a0.Log : Int)), (false, 1, Fact.rep [] (a0.Heads : Int))]) 10 rfl rfl rfl rfl (HasL.flds (Has.cv (Has.s rfl) (Cv.trans (Cv.opens (chConfig a0)) (Cv.flds (CvL.cons Cv.fl (CvL.cons Cv.fl (CvL.cons Cv.fl (CvL.cons Cv.fl (CvL.cons Cv.fl (CvL.cons Cv.fl CvL.nil))))))))))) ?_
 refine ws (Step.boxObj (ls := [(false, 1, Fact.rep [] (a1.Stripe : Int)), (false, 1, Fact.rep [0] (a1.Blocks : List (List UInt8))), (false, 1, Fact.rep [0] (a1.Dirty : List Bool)), (false, 1, Fact.rep [] (a1.Phase : UInt8)), (false, 1, Fact.rep [] (a1.Deals : Bool)), (false, 1, Fact.rep [] (a1.Seq : UInt32))]) 17 rfl rfl rfl rfl (HasL.flds (Has.cv (Has.s rfl) (Cv.trans (Cv.opens (chHead a1)) (Cv.flds (CvL.cons Cv.fl (CvL.cons Cv.refl (CvL.cons Cv.refl (CvL.cons Cv.fl (CvL.cons Cv.fl (CvL.cons Cv.fl CvL.nil))))))))))) ?_
 refine wo (Spec.assign Has.bool) ?_
 refine Walk.nil ?_
 refine Leaf.thenN ?_
 refine CWalk.seq ?_
 refine CWalk.region ?_
 refine wo (Spec.fieldAddrO fd24_1 (Has.cv (Has.s rfl) (Cv.isvP rfl))) ?_
 refine wo (Spec.loadF (i := 1) ty3 rfl (Has.s rfl) rfl (HasG.s rfl)) ?_
 refine wo (Spec.assign (Has.s rfl)) ?_
 refine Walk.nil ?_
 refine Leaf.thenN ?_
 refine CWalk.seq ?_
 refine CWalk.seq ?_
 obtain ⟨x1, hx1, hm⟩ := bind_some hm
 refine CWalk.drawM [[], [0], [0, 1], [0, 1, 2], [0, 1, 2, 3], [0, 1, 2, 3, 4], [0, 1, 2, 3], [0, 1, 2, 3, 6], [0, 1, 2, 3, 4, 5, 6, 7], [0, 1, 2, 3, 4, 5, 6, 7, 8], [0, 1, 2, 3, 4, 5, 6, 7, 8, 9], [0, 1, 2, 3, 4, 5, 6, 7, 8, 9, 10], [0, 1, 2, 3, 4, 5, 6, 7, 8, 9, 10, 11], [0, 1, 2, 3, 4, 5, 6, 7, 8, 9, 10, 11, 12], [0, 1, 2, 3, 4, 5, 6, 7, 8, 9, 10], [0, 1, 2, 3, 4, 5, 6, 7, 8, 9, 10, 11, 12, 13, 14], [0, 1, 2, 3, 4, 5, 6, 7, 8, 9, 10, 11, 12, 13, 14, 15], [0, 1, 2, 3, 4, 5, 6, 7, 8, 9, 10, 11, 12, 13, 14, 15, 16], [0, 1, 2, 3, 4, 5, 6, 7, 8, 9, 10, 11, 12, 13, 14, 15, 16, 17], [0, 1, 2, 3, 4, 5, 6, 7, 8, 9, 10, 11, 12, 13, 14, 15, 16, 17, 18], [0, 1, 2, 3, 4, 5, 6, 7, 8, 9, 10, 11, 12, 13, 14, 15, 16, 17, 18, 19], [0, 1, 2, 3, 4, 5, 6, 7, 8, 9, 10, 11, 12, 13, 14, 15, 16, 17], [0, 1, 2, 3, 4, 5, 6, 7, 8, 9, 10, 11, 12, 13, 14, 15, 16, 17, 21], [0, 1, 2, 3, 4, 5, 6, 7, 8, 9, 10, 11, 12, 13, 14, 15, 16, 17, 18, 19, 20, 21, 22], [0, 1, 2, 3, 4, 5, 6, 7, 8, 9, 10, 11, 12, 13, 14, 15, 16, 17, 18, 19, 20, 21, 22, 23], [0, 1, 2, 3, 4, 5, 6, 7, 8, 9, 10, 11, 12, 13, 14, 15, 16, 17, 18, 19, 20, 21, 22, 23, 24], [0, 1, 2, 3, 4, 5, 6, 7, 8, 9, 10, 11, 12, 13, 14, 15, 16, 17, 18, 19, 20, 21, 22, 23, 24, 25], [0, 1, 2, 3, 4, 5, 6, 7, 8, 9, 10, 11, 12, 13, 14, 15, 16, 17, 18, 19, 20, 21, 22, 23, 24, 25, 26], [0, 1, 2, 3, 4, 5, 6, 7, 8, 9, 10, 11, 12, 13, 14, 15, 16, 17, 18, 19, 20, 21, 22, 23, 24, 25, 26, 27], [0, 1, 2, 3, 4, 5, 6, 7, 8, 9, 10, 11, 12, 13, 14, 15, 16, 17, 18, 19, 20, 21, 22, 23, 24, 25, 26, 27, 28]] [[.fact 9 (Fact.pto 17 0)], [.fact 10 (Fact.rep [] (a1.Stripe : Int))], [.fact 11 (Fact.rep [] ((decide (a1.Stripe < (0 : Int))) : Bool))], [.fact 12 (Fact.rep [] ((decide (a1.Stripe < (0 : Int))) : Bool))], [.fact 13 (Fact.under ((decide (a1.Stripe < (0 : Int))) = false) (.pto 17 0))], [.fact 14 (Fact.under ((decide (a1.Stripe < (0 : Int))) = false) (.rep [] (a1.Stripe : Int)))], [.fact 15 (Fact.under ((decide (a1.Stripe < (0 : Int))) = false) (.flds [(false, 1, Fact.rep [] (a0.Id : UInt32)), (false, 1, Fact.rep [] (a0.Members : Int)), (false, 1, Fact.rep [] (a0.Chunk : Int)), (false, 1, Fact.rep [] (a0.Rows : Int)), (false, 1, Fact.rep [] (a0.Log : Int)), (false, 1, Fact.rep [] (a0.Heads : Int))]))], [.fact 16 (Fact.under ((decide (a1.Stripe < (0 : Int))) = false) (.rep [] (x1 : Int)))], [.fact 17 (Fact.under ((decide (a1.Stripe < (0 : Int))) = false) (.rep [] ((decide (a1.Stripe ≥ x1)) : Bool)))], [.fact 18 (Fact.rep [] (((decide (a1.Stripe < (0 : Int))) || (decide (a1.Stripe ≥ x1))) : Bool))], [.fact 19 (Fact.rep [] (((decide (a1.Stripe < (0 : Int))) || (decide (a1.Stripe ≥ x1))) : Bool))], [.fact 20 (Fact.under (((decide (a1.Stripe < (0 : Int))) || (decide (a1.Stripe ≥ x1))) = false) (.pto 17 1))], [.fact 21 (Fact.under (((decide (a1.Stripe < (0 : Int))) || (decide (a1.Stripe ≥ x1))) = false) (.rep [0] (a1.Blocks : List (List UInt8))))], [.fact 22 (Fact.under (((decide (a1.Stripe < (0 : Int))) || (decide (a1.Stripe ≥ x1))) = false) (.rep [] (((a1.Blocks).length : Int) : Int)))], [.fact 23 (Fact.under (((decide (a1.Stripe < (0 : Int))) || (decide (a1.Stripe ≥ x1))) = false) (.rep [] (a0.Members : Int)))], [.fact 24 (Fact.under (((decide (a1.Stripe < (0 : Int))) || (decide (a1.Stripe ≥ x1))) = false) (.rep [] ((((a1.Blocks).length : Int) != a0.Members) : Bool)))], [.fact 25 (Fact.rep [] ((((decide (a1.Stripe < (0 : Int))) || (decide (a1.Stripe ≥ x1))) || (((a1.Blocks).length : Int) != a0.Members)) : Bool))], [.fact 26 (Fact.rep [] ((((decide (a1.Stripe < (0 : Int))) || (decide (a1.Stripe ≥ x1))) || (((a1.Blocks).length : Int) != a0.Members)) : Bool))], [.fact 27 (Fact.under ((((decide (a1.Stripe < (0 : Int))) || (decide (a1.Stripe ≥ x1))) || (((a1.Blocks).length : Int) != a0.Members)) = false) (.pto 17 2))], [.fact 28 (Fact.under ((((decide (a1.Stripe < (0 : Int))) || (decide (a1.Stripe ≥ x1))) || (((a1.Blocks).length : Int) != a0.Members)) = false) (.rep [0] (a1.Dirty : List Bool)))], [.fact 29 (Fact.under ((((decide (a1.Stripe < (0 : Int))) || (decide (a1.Stripe ≥ x1))) || (((a1.Blocks).length : Int) != a0.Members)) = false) (.rep [] (((a1.Dirty).length : Int) : Int)))], [.fact 30 (Fact.under ((((decide (a1.Stripe < (0 : Int))) || (decide (a1.Stripe ≥ x1))) || (((a1.Blocks).length : Int) != a0.Members)) = false) (.rep [] (a0.Members : Int)))], [.fact 31 (Fact.under ((((decide (a1.Stripe < (0 : Int))) || (decide (a1.Stripe ≥ x1))) || (((a1.Blocks).length : Int) != a0.Members)) = false) (.rep [] ((wI (a0.Members - (1 : Int))) : Int)))], [.fact 32 (Fact.under ((((decide (a1.Stripe < (0 : Int))) || (decide (a1.Stripe ≥ x1))) || (((a1.Blocks).length : Int) != a0.Members)) = false) (.rep [] ((((a1.Dirty).length : Int) != (wI (a0.Members - (1 : Int)))) : Bool)))], [.fact 33 (Fact.rep [] (((((decide (a1.Stripe < (0 : Int))) || (decide (a1.Stripe ≥ x1))) || (((a1.Blocks).length : Int) != a0.Members)) || (((a1.Dirty).length : Int) != (wI (a0.Members - (1 : Int))))) : Bool))], [.fact 34 (Fact.rep [] (((((decide (a1.Stripe < (0 : Int))) || (decide (a1.Stripe ≥ x1))) || (((a1.Blocks).length : Int) != a0.Members)) || (((a1.Dirty).length : Int) != (wI (a0.Members - (1 : Int))))) : Bool))], [.fact 35 (Fact.under (((((decide (a1.Stripe < (0 : Int))) || (decide (a1.Stripe ≥ x1))) || (((a1.Blocks).length : Int) != a0.Members)) || (((a1.Dirty).length : Int) != (wI (a0.Members - (1 : Int))))) = false) (.pto 17 3))], [.fact 36 (Fact.under (((((decide (a1.Stripe < (0 : Int))) || (decide (a1.Stripe ≥ x1))) || (((a1.Blocks).length : Int) != a0.Members)) || (((a1.Dirty).length : Int) != (wI (a0.Members - (1 : Int))))) = false) (.rep [] (a1.Phase : UInt8)))], [.fact 37 (Fact.under (((((decide (a1.Stripe < (0 : Int))) || (decide (a1.Stripe ≥ x1))) || (((a1.Blocks).length : Int) != a0.Members)) || (((a1.Dirty).length : Int) != (wI (a0.Members - (1 : Int))))) = false) (.rep [] ((decide ((a1.Phase.toNat : Int) > ((4 : UInt8).toNat : Int))) : Bool)))], [.fact 38 (Fact.rep [] ((((((decide (a1.Stripe < (0 : Int))) || (decide (a1.Stripe ≥ x1))) || (((a1.Blocks).length : Int) != a0.Members)) || (((a1.Dirty).length : Int) != (wI (a0.Members - (1 : Int))))) || (decide ((a1.Phase.toNat : Int) > ((4 : UInt8).toNat : Int)))) : Bool))]] mixed (by kernel_rfl) (ao (so (Spec.fieldAddrO fd28_0 (Has.cv (Has.s rfl) (Cv.isvP rfl)))) (ao (so (Spec.loadF (i := 0) ty3 rfl (Has.s rfl) rfl (HasG.s rfl))) (ao (so (Spec.lssI (Has.s rfl) Has.int)) (ao (so (Spec.move (Has.s rfl))) (ao (StepG.opg rfl rfl rfl (fun hb => Spec.fieldAddrO fd28_0 (Has.cv (Has.s rfl) (Cv.isvP rfl)))) (ao (StepG.opg rfl rfl rfl (fun hb => Spec.loadF (i := 0) ty3 rfl (Has.u rfl hb) rfl (HasG.s rfl))) (ao (StepG.opg rfl rfl rfl (fun hb => Spec.loadObj (ls := [(false, 1, Fact.rep [] (a0.Id : UInt32)), (false, 1, Fact.rep [] (a0.Members : Int)), (false, 1, Fact.rep [] (a0.Chunk : Int)), (false, 1, Fact.rep [] (a0.Rows : Int)), (false, 1, Fact.rep [] (a0.Log : Int)), (false, 1, Fact.rep [] (a0.Heads : Int))]) ty24 rfl rfl (Has.s rfl) rfl (HasGs.cons (HasG.s rfl) (HasGs.cons (HasG.s rfl) (HasGs.cons (HasG.s rfl) (HasGs.cons (HasG.s rfl) (HasGs.cons (HasG.s rfl) (HasGs.cons (HasG.s rfl) HasGs.nil)))))))) (ao (StepG.opg rfl rfl rfl (fun hb => Spec.callE [] 24 rfl en54 (ref06_Stripes_c a0 (gO_t hx1 (not_t hb))) (HasAll.cons (Has.fl (Has.cv (Has.u rfl hb) (Cv.trans (Cv.flds (CvL.cons Cv.fl (CvL.cons Cv.fl (CvL.cons Cv.fl (CvL.cons Cv.fl (CvL.cons Cv.fl (CvL.cons Cv.fl CvL.nil))))))) (Cv.close (T := []) (chConfig a0))))) HasAll.nil))) (ao (StepG.opg rfl rfl rfl (fun hb => Spec.geqI (Has.u rfl hb) (Has.u rfl hb))) (ao (so (Spec.or (Has.s rfl) (fun h => Has.u rfl h))) (ao (so (Spec.move (Has.s rfl))) (ao (StepG.opg rfl rfl rfl (fun hb => Spec.fieldAddrO fd28_1 (Has.cv (Has.s rfl) (Cv.isvP rfl)))) (ao (StepG.opg rfl rfl rfl (fun hb => Spec.loadF (i := 1) ty25 rfl (Has.u rfl hb) rfl (HasG.s rfl))) (ao (StepG.opg rfl rfl rfl (fun hb => Spec.len (Has.u rfl hb) Try.underlying25)) (ao (StepG.opg rfl rfl rfl (fun hb => Spec.move (Has.s rfl))) (ao (StepG.opg rfl rfl rfl (fun hb => Spec.neqI (Has.u rfl hb) (Has.u rfl hb))) (ao (so (Spec.or (Has.s rfl) (fun h => Has.u rfl h))) (ao (so (Spec.move (Has.s rfl))) (ao (StepG.opg rfl rfl rfl (fun hb => Spec.fieldAddrO fd28_2 (Has.cv (Has.s rfl) (Cv.isvP rfl)))) (ao (StepG.opg rfl rfl rfl (fun hb => Spec.loadF (i := 2) ty26 rfl (Has.u rfl hb) rfl (HasG.s rfl))) (ao (StepG.opg rfl rfl rfl (fun hb => Spec.len (Has.u rfl hb) Try.underlying26)) (ao (StepG.opg rfl rfl rfl (fun hb => Spec.move (Has.s rfl))) (ao (StepG.opg rfl rfl rfl (fun hb => Spec.subI (Has.u rfl hb) Has.int)) (ao (StepG.opg rfl rfl rfl (fun hb => Spec.neqI (Has.u rfl hb) (Has.u rfl hb))) (ao (so (Spec.or (Has.s rfl) (fun h => Has.u rfl h))) (ao (so (Spec.move (Has.s rfl))) (ao (StepG.opg rfl rfl rfl (fun hb => Spec.fieldAddrO fd28_3 (Has.cv (Has.s rfl) (Cv.isvP rfl)))) (ao (StepG.opg rfl rfl rfl (fun hb => Spec.loadF (i := 3) ty5 rfl (Has.u rfl hb) rfl (HasG.s rfl))) (ao (StepG.opg rfl rfl rfl (fun hb => Spec.gtrN (α := UInt8) (Has.u rfl hb) (Has.u8 4 rfl))) (ao (so (Spec.or (Has.s rfl) (fun h => Has.u rfl h))) AllM.nil)))))))))))))))))))))))))))))) ?_
 refine Leaf.thenN ?_
 refine CWalk.cond rfl (fun hb => ?_) (fun hb => ?_)
 ·have hm := cond_t hb hm
  refine CWalk.seq ?_
  refine CWalk.region ?_
  refine wo (Spec.assign Has.bool) ?_
  refine Walk.nil ?_
  refine Leaf.thenN ?_
  refine CWalk.ret ?_
  refine Leaf.thenR ?_
  obtain rfl := Option.some.inj hm
  exact Leaf.retC1 rfl (HasR.cv (HasR.tmp (Has.s rfl)) Cv.fl)
 ·have hm := cond_f hb hm
  refine CWalk.skip ?_
  refine Leaf.thenN ?_
  refine CWalk.seq ?_
  refine CWalk.seq ?_
  refine CWalk.region ?_
  refine wo (Spec.assign Has.int) ?_
  refine Walk.nil ?_
  refine Leaf.thenN ?_
  refine CWalk.block ?_
  obtain ⟨b8, hb8, hm⟩ := bind_some hm
  refine CWalk.loop (fun s : Int => [.fact 3 (Fact.isv 17), .fact 5 (Fact.rep [] (a0.Members : Int)), .fact 6 (Fact.rep [] (s : Int)), .fact 100018 (Fact.at 18 (Fact.rep [] (a1.Stripe : Int))), .fact 100019 (Fact.at 19 (Fact.rep [0] (a1.Blocks : List (List UInt8)))), .fact 100020 (Fact.at 20 (Fact.rep [0] (a1.Dirty : List Bool))), .fact 100021 (Fact.at 21 (Fact.rep [] (a1.Phase : UInt8))), .fact 100022 (Fact.at 22 (Fact.rep [] (a1.Deals : Bool))), .fact 100023 (Fact.at 23 (Fact.rep [] (a1.Seq : UInt32))), .fact 100017 (Fact.obj 17 [(false, 1), (false, 1), (false, 1), (false, 1), (false, 1), (false, 1)])]) (fun b : (Unit) ⊕ (Unit) => Sum.elim (fun b => (Exit.exit 0, [.fact 3 (Fact.isv 17), .fact 5 (Fact.rep [] (a0.Members : Int)), .fact 100018 (Fact.at 18 (Fact.rep [] (a1.Stripe : Int))), .fact 100019 (Fact.at 19 (Fact.rep [0] (a1.Blocks : List (List UInt8)))), .fact 100020 (Fact.at 20 (Fact.rep [0] (a1.Dirty : List Bool))), .fact 100021 (Fact.at 21 (Fact.rep [] (a1.Phase : UInt8))), .fact 100022 (Fact.at 22 (Fact.rep [] (a1.Deals : Bool))), .fact 100023 (Fact.at 23 (Fact.rep [] (a1.Seq : UInt32))), .fact 100017 (Fact.obj 17 [(false, 1), (false, 1), (false, 1), (false, 1), (false, 1), (false, 1)])])) (fun b => (Exit.ret, [.fact 4 (Fact.rep [] (false : Bool))])) b) hb8 (sn (st (st (sf (sm (sm (sf (sf (sf (sn Sub.nil)))))))))) ?_ ?_
  ·rintro s2 c3 hm
   replace hm : ref16_May_L1 a0 a1 s2 = some c3 := hm
   unfold ref16_May_L1 at hm
   show CWalk _ [.fact 3 (Fact.isv 17), .fact 5 (Fact.rep [] (a0.Members : Int)), .fact 6 (Fact.rep [] (s2 : Int)), .fact 100018 (Fact.at 18 (Fact.rep [] (a1.Stripe : Int))), .fact 100019 (Fact.at 19 (Fact.rep [0] (a1.Blocks : List (List UInt8)))), .fact 100020 (Fact.at 20 (Fact.rep [0] (a1.Dirty : List Bool))), .fact 100021 (Fact.at 21 (Fact.rep [] (a1.Phase : UInt8))), .fact 100022 (Fact.at 22 (Fact.rep [] (a1.Deals : Bool))), .fact 100023 (Fact.at 23 (Fact.rep [] (a1.Seq : UInt32))), .fact 100017 (Fact.obj 17 [(false, 1), (false, 1), (false, 1), (false, 1), (false, 1), (false, 1)])] _ _
   refine CWalk.seq ?_
   refine CWalk.seq ?_
   refine CWalk.region ?_
   refine mv ?_
   refine mv ?_
   refine wo (Spec.lssI (Has.s rfl) (Has.s rfl)) ?_
   refine Walk.nil ?_
   refine Leaf.thenN ?_
   refine CWalk.cond rfl (fun hb => ?_) (fun hb => ?_)
   ·have hm := cond_t hb hm
    refine CWalk.skip ?_
    refine Leaf.thenN ?_
    refine CWalk.seq ?_
    refine CWalk.block ?_
    refine CWalk.seq ?_
    refine CWalk.region ?_
    refine wo (Spec.fieldAddrO fd28_1 (Has.cv (Has.s rfl) (Cv.isvP rfl))) ?_
    refine wo (Spec.loadF (i := 1) ty25 rfl (Has.s rfl) rfl (HasG.s rfl)) ?_
    refine mv ?_
    obtain ⟨x4, hx4, hm⟩ := bind_some hm
    refine wo (Spec.indexAddr hx4 sl25 (Has.s rfl) (Has.s rfl)) ?_
    refine wo (Spec.load ty31 (Has.s rfl)) ?_
    obtain ⟨x5, hx5, hm⟩ := bind_some hm
    refine wo (f := Fact.rep [] (x5 : Bool)) (Spec.callE [0] 25 rfl en65 (ref04_Sized_c x4 hx5) (HasAll.cons (Has.m (Has.s rfl) rfl) HasAll.nil)) ?_
    refine wo (Spec.not (Has.s rfl)) ?_
    refine mv ?_
    refine wg rfl rfl (fun hb => Spec.move (Has.s rfl)) ?_
    refine wg rfl rfl (fun hb => Spec.move (Has.s rfl)) ?_
    refine wg rfl rfl (fun hb => Spec.subI (Has.u rfl hb) Has.int) ?_
    refine wg rfl rfl (fun hb => Spec.lssI (Has.u rfl hb) (Has.u rfl hb)) ?_
    refine wg rfl rfl (fun hb => Spec.move (Has.u rfl hb)) ?_
    refine Walk.opgu rfl rfl rfl (fun hb => Spec.fieldAddrO fd28_2 (Has.cv (Has.s rfl) (Cv.isvP rfl))) ?_
    refine Walk.opgu rfl rfl rfl (fun hb => Spec.loadF (i := 2) ty26 rfl (Has.u rfl hb) rfl (HasG.s rfl)) ?_
    refine Walk.opgu rfl rfl rfl (fun hb => Spec.move (Has.s rfl)) ?_
    obtain ⟨x6, hx6, hm⟩ := bind_some hm
    refine Walk.opgu rfl rfl rfl (fun hb => Spec.indexAddr (gO_t hx6 (and_t (not_t hb.1) hb.2)) sl26 (Has.u rfl hb) (Has.u rfl hb)) ?_
    refine Walk.opgu rfl rfl rfl (fun hb => (Spec.load ty4 (Has.u rfl hb)).flat (T' := [])) ?_
    refine wg rfl rfl (fun hb => Spec.and (Has.u rfl hb) (fun h => Has.u rfl ⟨hb, h⟩)) ?_
    refine wg rfl rfl (fun hb => Spec.move (Has.u rfl hb)) ?_
    refine Walk.opgu rfl rfl rfl (fun hb => Spec.fieldAddrO fd28_1 (Has.cv (Has.s rfl) (Cv.isvP rfl))) ?_
    refine Walk.opgu rfl rfl rfl (fun hb => Spec.loadF (i := 1) ty25 rfl (Has.u rfl hb) rfl (HasG.s rfl)) ?_
    refine Walk.opgu rfl rfl rfl (fun hb => Spec.move (Has.s rfl)) ?_
    obtain ⟨x7, hx7, hm⟩ := bind_some hm
    refine Walk.opgu rfl rfl rfl (fun hb => Spec.indexAddr (gO_t hx7 (and_t (not_t hb.1) hb.2)) sl25 (Has.u rfl hb) (Has.u rfl hb)) ?_
    refine Walk.opgu rfl rfl rfl (fun hb => Spec.load ty31 (Has.u rfl hb)) ?_
    refine Walk.opgu rfl rfl rfl (fun hb => Spec.len (Has.u rfl hb) Try.underlying31) ?_
    refine Walk.opgu rfl rfl rfl (fun hb => Spec.eqlI (Has.u rfl hb) Has.int) ?_
    refine wg rfl rfl (fun hb => Spec.and (Has.u rfl hb) (fun h => Has.u rfl ⟨hb, h⟩)) ?_
    refine wo (Spec.or (Has.s rfl) (fun h => Has.u rfl h)) ?_
    refine Walk.nil ?_
    refine Leaf.thenN ?_
    refine CWalk.cond rfl (fun hb => ?_) (fun hb => ?_)
    ·have hm := cond_t hb hm
     refine CWalk.seq ?_
     refine CWalk.region ?_
     refine wo (Spec.assign Has.bool) ?_
     refine Walk.nil ?_
     refine Leaf.thenN ?_
     refine CWalk.ret ?_
     refine Leaf.blockR ?_
     refine Leaf.thenR ?_
     exact Leaf.brk hm (fun h => nomatch h) rfl (st Sub.nil)
    ·have hm := cond_f hb hm
     refine CWalk.skip ?_
     refine Leaf.blockN ?_
     refine Leaf.thenN ?_
     refine CWalk.region ?_
     refine mv ?_
     refine wo (Spec.addI (Has.s rfl) Has.int) ?_
     refine wo (Spec.assign (Has.s rfl)) ?_
     refine Walk.nil ?_
     exact Leaf.next hm (sn (st (st (sf (sm (sm (sf (sf (sf (sn Sub.nil))))))))))
   ·have hm := cond_f hb hm
    refine CWalk.exit ?_
    refine Leaf.thenE ?_
    exact Leaf.brk hm (fun h => nomatch h) rfl (sn (st (sf (sm (sm (sf (sf (sf (sn Sub.nil)))))))))
  ·intro _
   rcases b8 with b9 | b14
   ·have hm := selim_l hm
    refine Leaf.blockE ?_
    refine Leaf.thenN ?_
    refine CWalk.seq ?_
    refine CWalk.seq ?_
    refine CWalk.region ?_
    refine wo (Spec.fieldAddrO fd28_3 (Has.cv (Has.s rfl) (Cv.isvP rfl))) ?_
    refine wo (Spec.loadF (i := 3) ty5 rfl (Has.s rfl) rfl (HasG.s rfl)) ?_
    refine wo (Spec.eqlB (Has.s rfl) (Has.u8 0 rfl)) ?_
    refine mv ?_
    refine wg rfl rfl (fun hb => Spec.fieldAddrO fd28_1 (Has.cv (Has.s rfl) (Cv.isvP rfl))) ?_
    refine wg rfl rfl (fun hb => Spec.loadF (i := 1) ty25 rfl (Has.u rfl hb) rfl (HasG.s rfl)) ?_
    refine wg rfl rfl (fun hb => Spec.move (Has.s rfl)) ?_
    refine wg rfl rfl (fun hb => Spec.subI (Has.u rfl hb) Has.int) ?_
    obtain ⟨x10, hx10, hm⟩ := bind_some hm
    refine wg rfl rfl (fun hb => Spec.indexAddr (gO_t hx10 hb) sl25 (Has.u rfl hb) (Has.u rfl hb)) ?_
    refine wg rfl rfl (fun hb => Spec.load ty31 (Has.u rfl hb)) ?_
    refine wg rfl rfl (fun hb => Spec.len (Has.u rfl hb) Try.underlying31) ?_
    refine wg rfl rfl (fun hb => Spec.gtrI (Has.u rfl hb) Has.int) ?_
    refine wg rfl rfl (fun hb => Spec.move (Has.u rfl hb)) ?_
    refine Walk.opgu rfl rfl rfl (fun hb => Spec.fieldAddrO fd28_5 (Has.cv (Has.s rfl) (Cv.isvP rfl))) ?_
    refine Walk.opgu rfl rfl rfl (fun hb => Spec.loadF (i := 5) ty22 rfl (Has.u rfl hb) rfl (HasG.s rfl)) ?_
    refine Walk.opgu rfl rfl rfl (fun hb => Spec.neqN (α := UInt32) (Has.u rfl hb) (Has.u32 0 rfl)) ?_
    refine wg rfl rfl (fun hb => Spec.or (Has.u rfl hb) (fun h => Has.u rfl ⟨hb, h⟩)) ?_
    refine wo (Spec.and (Has.s rfl) (fun h => Has.u rfl h)) ?_
    refine Walk.nil ?_
    refine Leaf.thenN ?_
    refine CWalk.cond rfl (fun hb => ?_) (fun hb => ?_)
    ·have hm := cond_t hb hm
     refine CWalk.seq ?_
     refine CWalk.region ?_
     refine wo (Spec.assign Has.bool) ?_
     refine Walk.nil ?_
     refine Leaf.thenN ?_
     refine CWalk.ret ?_
     refine Leaf.thenR ?_
     obtain rfl := Option.some.inj hm
     exact Leaf.retC1 rfl (HasR.cv (HasR.tmp (Has.s rfl)) Cv.fl)
    ·have hm := cond_f hb hm
     refine CWalk.skip ?_
     refine Leaf.thenN ?_
     refine CWalk.seq ?_
     refine CWalk.seq ?_
     refine CWalk.region ?_
     refine wo (Spec.fieldAddrO fd28_3 (Has.cv (Has.s rfl) (Cv.isvP rfl))) ?_
     refine wo (Spec.loadF (i := 3) ty5 rfl (Has.s rfl) rfl (HasG.s rfl)) ?_
     refine wo (Spec.gtrN (α := UInt8) (Has.s rfl) (Has.u8 0 rfl)) ?_
     refine mv ?_
     refine wg rfl rfl (fun hb => Spec.fieldAddrO fd28_1 (Has.cv (Has.s rfl) (Cv.isvP rfl))) ?_
     refine wg rfl rfl (fun hb => Spec.loadF (i := 1) ty25 rfl (Has.u rfl hb) rfl (HasG.s rfl)) ?_
     refine wg rfl rfl (fun hb => Spec.move (Has.s rfl)) ?_
     refine wg rfl rfl (fun hb => Spec.subI (Has.u rfl hb) Has.int) ?_
     obtain ⟨x11, hx11, hm⟩ := bind_some hm
     refine wg rfl rfl (fun hb => Spec.indexAddr (gO_t hx11 hb) sl25 (Has.u rfl hb) (Has.u rfl hb)) ?_
     refine wg rfl rfl (fun hb => Spec.load ty31 (Has.u rfl hb)) ?_
     refine wg rfl rfl (fun hb => Spec.len (Has.u rfl hb) Try.underlying31) ?_
     refine wg rfl rfl (fun hb => Spec.eqlI (Has.u rfl hb) Has.int) ?_
     refine wg rfl rfl (fun hb => Spec.move (Has.u rfl hb)) ?_
     refine Walk.opgu rfl rfl rfl (fun hb => Spec.loadObj (ls := [(false, 1, Fact.rep [] (a1.Stripe : Int)), (false, 1, Fact.rep [0] (a1.Blocks : List (List UInt8))), (false, 1, Fact.rep [0] (a1.Dirty : List Bool)), (false, 1, Fact.rep [] (a1.Phase : UInt8)), (false, 1, Fact.rep [] (a1.Deals : Bool)), (false, 1, Fact.rep [] (a1.Seq : UInt32))]) ty28 rfl rfl (Has.s rfl) rfl (HasGs.cons (HasG.s rfl) (HasGs.cons (HasG.s rfl) (HasGs.cons (HasG.s rfl) (HasGs.cons (HasG.s rfl) (HasGs.cons (HasG.s rfl) (HasGs.cons (HasG.s rfl) HasGs.nil))))))) ?_
     obtain ⟨x12, hx12, hm⟩ := bind_some hm
     refine Walk.opgu (f := Fact.rep [] (x12 : Bool)) rfl rfl rfl (fun hb => Spec.callE [0] 26 rfl en66 (ref16_Dirty_c a1 (gO_t hx12 (and_t hb.1 (not_t hb.2)))) (HasAll.cons (Has.m (Has.cv (Has.u rfl hb) (Cv.trans (Cv.flds (CvL.cons Cv.fl (CvL.cons (Cv.m rfl) (CvL.cons (Cv.m rfl) (CvL.cons Cv.fl (CvL.cons Cv.fl (CvL.cons Cv.fl CvL.nil))))))) (Cv.close (T := [0]) (chHead a1)))) rfl) HasAll.nil)) ?_
     refine Walk.opgu rfl rfl rfl (fun hb => Spec.not (Has.u rfl hb)) ?_
     refine wg rfl rfl (fun hb => Spec.or (Has.u rfl hb) (fun h => Has.u rfl ⟨hb, h⟩)) ?_
     refine wo (Spec.and (Has.s rfl) (fun h => Has.u rfl h)) ?_
     refine mv ?_
     refine wg rfl rfl (fun hb => Spec.fieldAddrO fd28_3 (Has.cv (Has.s rfl) (Cv.isvP rfl))) ?_
     refine wg rfl rfl (fun hb => Spec.loadF (i := 3) ty5 rfl (Has.u rfl hb) rfl (HasG.s rfl)) ?_
     refine wg rfl rfl (fun hb => Spec.eqlB (Has.u rfl hb) (Has.u8 1 rfl)) ?_
     refine wg rfl rfl (fun hb => Spec.move (Has.u rfl hb)) ?_
     refine Walk.opgu rfl rfl rfl (fun hb => Spec.fieldAddrO fd28_5 (Has.cv (Has.s rfl) (Cv.isvP rfl))) ?_
     refine Walk.opgu rfl rfl rfl (fun hb => Spec.loadF (i := 5) ty22 rfl (Has.u rfl hb) rfl (HasG.s rfl)) ?_
     refine Walk.opgu rfl rfl rfl (fun hb => Spec.neqN (α := UInt32) (Has.u rfl hb) (Has.u32 0 rfl)) ?_
     refine wg rfl rfl (fun hb => Spec.and (Has.u rfl hb) (fun h => Has.u rfl ⟨hb, h⟩)) ?_
     refine wo (Spec.or (Has.s rfl) (fun h => Has.u rfl h)) ?_
     refine Walk.nil ?_
     refine Leaf.thenN ?_
     refine CWalk.cond rfl (fun hb => ?_) (fun hb => ?_)
     ·have hm := cond_t hb hm
      refine CWalk.seq ?_
      refine CWalk.region ?_
      refine wo (Spec.assign Has.bool) ?_
      refine Walk.nil ?_
      refine Leaf.thenN ?_
      refine CWalk.ret ?_
      refine Leaf.thenR ?_
      obtain rfl := Option.some.inj hm
      exact Leaf.retC1 rfl (HasR.cv (HasR.tmp (Has.s rfl)) Cv.fl)
     ·have hm := cond_f hb hm
      refine CWalk.skip ?_
      refine Leaf.thenN ?_
      refine CWalk.seq ?_
      refine CWalk.region ?_
      refine wo (Spec.fieldAddrO fd28_4 (Has.cv (Has.s rfl) (Cv.isvP rfl))) ?_
      refine wo (Spec.loadF (i := 4) ty4 rfl (Has.s rfl) rfl (HasG.s rfl)) ?_
      refine wo (Spec.not (Has.s rfl)) ?_
      refine mv ?_
      refine wg rfl rfl (fun hb => Spec.loadObj (ls := [(false, 1, Fact.rep [] (a1.Stripe : Int)), (false, 1, Fact.rep [0] (a1.Blocks : List (List UInt8))), (false, 1, Fact.rep [0] (a1.Dirty : List Bool)), (false, 1, Fact.rep [] (a1.Phase : UInt8)), (false, 1, Fact.rep [] (a1.Deals : Bool)), (false, 1, Fact.rep [] (a1.Seq : UInt32))]) ty28 rfl rfl (Has.s rfl) rfl (HasGs.cons (HasG.s rfl) (HasGs.cons (HasG.s rfl) (HasGs.cons (HasG.s rfl) (HasGs.cons (HasG.s rfl) (HasGs.cons (HasG.s rfl) (HasGs.cons (HasG.s rfl) HasGs.nil))))))) ?_
      obtain ⟨x13, hx13, hm⟩ := bind_some hm
      refine wg (f := Fact.rep [] (x13 : Bool)) rfl rfl (fun hb => Spec.callE [0] 27 rfl en66 (ref16_Dirty_c a1 (gO_t hx13 (not_t hb))) (HasAll.cons (Has.m (Has.cv (Has.u rfl hb) (Cv.trans (Cv.flds (CvL.cons Cv.fl (CvL.cons (Cv.m rfl) (CvL.cons (Cv.m rfl) (CvL.cons Cv.fl (CvL.cons Cv.fl (CvL.cons Cv.fl CvL.nil))))))) (Cv.close (T := [0]) (chHead a1)))) rfl) HasAll.nil)) ?_
      refine wg rfl rfl (fun hb => Spec.move (Has.u rfl hb)) ?_
      refine Walk.opgu rfl rfl rfl (fun hb => Spec.fieldAddrO fd28_3 (Has.cv (Has.s rfl) (Cv.isvP rfl))) ?_
      refine Walk.opgu rfl rfl rfl (fun hb => Spec.loadF (i := 3) ty5 rfl (Has.u rfl hb) rfl (HasG.s rfl)) ?_
      refine Walk.opgu rfl rfl rfl (fun hb => Spec.leqN (α := UInt8) (Has.u rfl hb) (Has.u8 1 rfl)) ?_
      refine wg rfl rfl (fun hb => Spec.and (Has.u rfl hb) (fun h => Has.u rfl ⟨hb, h⟩)) ?_
      refine wo (Spec.or (Has.s rfl) (fun h => Has.u rfl h)) ?_
      refine wo (Spec.assign (Has.s rfl)) ?_
      refine Walk.nil ?_
      refine Leaf.thenN ?_
      refine CWalk.ret ?_
      obtain rfl := Option.some.inj hm
      exact Leaf.retC1 rfl (HasR.cv (HasR.tmp (Has.s rfl)) Cv.fl)
   ·have hm := selim_r hm
    refine Leaf.blockR ?_
    refine Leaf.thenR ?_
    obtain rfl := Option.some.inj hm
    exact Leaf.retC1 rfl (HasR.cv (HasR.tmp (Has.s rfl)) Cv.fl)

/-- freeboard/freeboardref16.Check -/
def ref16_Check (a0 : Config) (a1 : Head) : Option (Int) :=
  Option.bind (ref06_May a0) (fun x1 => Option.bind (gO (!(!x1)) (ref16_May a0 a1)) (fun x2 => (bif ((!x1) || (!x2)) then some (8 : Int) else some (0 : Int))))
set_option maxRecDepth 100000 in
set_option maxHeartbeats 2000000 in
theorem ref16_Check_c (a0 : Config) (a1 : Head) {r : Int} (hm : ref16_Check a0 a1 = some r) : Ctr Try.prog 25 [.rep 0 a0, .rep 0 a1] (.fl r) [] := by
 refine ctr_of_walk [[]] 14 Try.func25 rfl rfl rfl rfl (fun w0 om => ?_)
 unfold ref16_Check at hm
 refine CWalk.sub (G' := [.fact 0 (Fact.rep [] (a0 : Config)), .fact 1 (Fact.rep [0] (a1 : Head))]) (Sub.cons (Has.fl (Has.s rfl)) (sn Sub.nil)) ?_
 refine CWalk.seq ?_
 refine CWalk.region ?_
 refine ws (Step.boxObj (ls := [(false, 1, Fact.rep [] (a0.Id : UInt32)), (false, 1, Fact.rep [] (a0.Members : Int)), (false, 1, Fact.rep [] (a0.Chunk : Int)), (false, 1, Fact.rep [] (a0.Rows : Int)), (false, 1, Fact.rep [] (a0.Log : Int)), (false, 1, Fact.rep [] (a0.Heads : Int))]) 10 rfl rfl rfl rfl (HasL.flds (Has.cv (Has.s rfl) (Cv.trans (Cv.opens (chConfig a0)) (Cv.flds (CvL.cons Cv.fl (CvL.cons Cv.fl (CvL.cons Cv.fl (CvL.cons Cv.fl (CvL.cons Cv.fl (CvL.cons Cv.fl CvL.nil))))))))))) ?_
 refine ws (Step.boxObj (ls := [(false, 1, Fact.rep [] (a1.Stripe : Int)), (false, 1, Fact.rep [0] (a1.Blocks : List (List UInt8))), (false, 1, Fact.rep [0] (a1.Dirty : List Bool)), (false, 1, Fact.rep [] (a1.Phase : UInt8)), (false, 1, Fact.rep [] (a1.Deals : Bool)), (false, 1, Fact.rep [] (a1.Seq : UInt32))]) 17 rfl rfl rfl rfl (HasL.flds (Has.cv (Has.s rfl) (Cv.trans (Cv.opens (chHead a1)) (Cv.flds (CvL.cons Cv.fl (CvL.cons Cv.refl (CvL.cons Cv.refl (CvL.cons Cv.fl (CvL.cons Cv.fl (CvL.cons Cv.fl CvL.nil))))))))))) ?_
 refine wo (Spec.assign Has.int) ?_
 refine Walk.nil ?_
 refine Leaf.thenN ?_
 refine CWalk.seq ?_
 refine CWalk.seq ?_
 refine CWalk.region ?_
 refine wo (Spec.loadObj (ls := [(false, 1, Fact.rep [] (a0.Id : UInt32)), (false, 1, Fact.rep [] (a0.Members : Int)), (false, 1, Fact.rep [] (a0.Chunk : Int)), (false, 1, Fact.rep [] (a0.Rows : Int)), (false, 1, Fact.rep [] (a0.Log : Int)), (false, 1, Fact.rep [] (a0.Heads : Int))]) ty24 rfl rfl (Has.s rfl) rfl (HasGs.cons (HasG.s rfl) (HasGs.cons (HasG.s rfl) (HasGs.cons (HasG.s rfl) (HasGs.cons (HasG.s rfl) (HasGs.cons (HasG.s rfl) (HasGs.cons (HasG.s rfl) HasGs.nil))))))) ?_
 obtain ⟨x1, hx1, hm⟩ := bind_some hm
 refine wo (f := Fact.rep [] (x1 : Bool)) (Spec.callE [] 24 rfl en53 (ref06_May_c a0 hx1) (HasAll.cons (Has.fl (Has.cv (Has.s rfl) (Cv.trans (Cv.flds (CvL.cons Cv.fl (CvL.cons Cv.fl (CvL.cons Cv.fl (CvL.cons Cv.fl (CvL.cons Cv.fl (CvL.cons Cv.fl CvL.nil))))))) (Cv.close (T := []) (chConfig a0))))) HasAll.nil)) ?_
 refine wo (Spec.not (Has.s rfl)) ?_
 refine mv ?_
 refine wg rfl rfl (fun hb => Spec.loadObj (ls := [(false, 1, Fact.rep [] (a0.Id : UInt32)), (false, 1, Fact.rep [] (a0.Members : Int)), (false, 1, Fact.rep [] (a0.Chunk : Int)), (false, 1, Fact.rep [] (a0.Rows : Int)), (false, 1, Fact.rep [] (a0.Log : Int)), (false, 1, Fact.rep [] (a0.Heads : Int))]) ty24 rfl rfl (Has.s rfl) rfl (HasGs.cons (HasG.s rfl) (HasGs.cons (HasG.s rfl) (HasGs.cons (HasG.s rfl) (HasGs.cons (HasG.s rfl) (HasGs.cons (HasG.s rfl) (HasGs.cons (HasG.s rfl) HasGs.nil))))))) ?_
 refine wg rfl rfl (fun hb => Spec.loadObj (ls := [(false, 1, Fact.rep [] (a1.Stripe : Int)), (false, 1, Fact.rep [0] (a1.Blocks : List (List UInt8))), (false, 1, Fact.rep [0] (a1.Dirty : List Bool)), (false, 1, Fact.rep [] (a1.Phase : UInt8)), (false, 1, Fact.rep [] (a1.Deals : Bool)), (false, 1, Fact.rep [] (a1.Seq : UInt32))]) ty28 rfl rfl (Has.s rfl) rfl (HasGs.cons (HasG.s rfl) (HasGs.cons (HasG.s rfl) (HasGs.cons (HasG.s rfl) (HasGs.cons (HasG.s rfl) (HasGs.cons (HasG.s rfl) (HasGs.cons (HasG.s rfl) HasGs.nil))))))) ?_
 obtain ⟨x2, hx2, hm⟩ := bind_some hm
 refine wg (f := Fact.rep [] (x2 : Bool)) rfl rfl (fun hb => Spec.callE [0] 25 rfl en59 (ref16_May_c a0 a1 (gO_t hx2 (not_t hb))) (HasAll.cons (Has.fl (Has.cv (Has.u rfl hb) (Cv.trans (Cv.flds (CvL.cons Cv.fl (CvL.cons Cv.fl (CvL.cons Cv.fl (CvL.cons Cv.fl (CvL.cons Cv.fl (CvL.cons Cv.fl CvL.nil))))))) (Cv.close (T := []) (chConfig a0))))) (HasAll.cons (Has.m (Has.cv (Has.u rfl hb) (Cv.trans (Cv.flds (CvL.cons Cv.fl (CvL.cons (Cv.m rfl) (CvL.cons (Cv.m rfl) (CvL.cons Cv.fl (CvL.cons Cv.fl (CvL.cons Cv.fl CvL.nil))))))) (Cv.close (T := [0]) (chHead a1)))) rfl) HasAll.nil))) ?_
 refine wg rfl rfl (fun hb => Spec.not (Has.u rfl hb)) ?_
 refine wo (Spec.or (Has.s rfl) (fun h => Has.u rfl h)) ?_
 refine Walk.nil ?_
 refine Leaf.thenN ?_
 refine CWalk.cond rfl (fun hb => ?_) (fun hb => ?_)
 ·have hm := cond_t hb hm
  refine CWalk.seq ?_
  refine CWalk.region ?_
  refine wo (Spec.assign Has.int) ?_
  refine Walk.nil ?_
  refine Leaf.thenN ?_
  refine CWalk.ret ?_
  refine Leaf.thenR ?_
  obtain rfl := Option.some.inj hm
  exact Leaf.retC1 rfl (HasR.cv (HasR.tmp (Has.s rfl)) Cv.fl)
 ·have hm := cond_f hb hm
  refine CWalk.skip ?_
  refine Leaf.thenN ?_
  refine CWalk.seq ?_
  refine CWalk.region ?_
  refine wo (Spec.assign Has.int) ?_
  refine Walk.nil ?_
  refine Leaf.thenN ?_
  refine CWalk.ret ?_
  obtain rfl := Option.some.inj hm
  exact Leaf.retC1 rfl (HasR.cv (HasR.tmp (Has.s rfl)) Cv.fl)

/-- freeboard/freeboardref16.asked -/
def ref16_asked (a0 : Config) (a1 : Head) (a2 : Int) (a3 : List UInt8) : Option (Int) :=
  Option.bind (ref16_Check a0 a1) (fun x1 => (bif (x1 != (0 : Int)) then some x1 else (bif ((decide (a2 < (0 : Int))) || (decide (a2 ≥ (wI (a0.Members - (1 : Int)))))) then some (2 : Int) else Option.bind (ref04_Sized a3) (fun x2 => (bif (!x2) then some (3 : Int) else some (0 : Int))))))
set_option maxRecDepth 100000 in
set_option maxHeartbeats 2000000 in
theorem ref16_asked_c (a0 : Config) (a1 : Head) (a2 : Int) (a3 : List UInt8) {r : Int} (hm : ref16_asked a0 a1 a2 a3 = some r) : Ctr Try.prog 45 [.rep 0 a0, .rep 0 a1, .rep 0 a2, .rep 0 a3] (.fl r) [] := by
 refine ctr_of_walk [[]] 28 Try.func45 rfl rfl rfl rfl (fun w0 om => ?_)
 unfold ref16_asked at hm
 refine CWalk.sub (G' := [.fact 0 (Fact.rep [] (a0 : Config)), .fact 1 (Fact.rep [0] (a1 : Head)), .fact 2 (Fact.rep [] (a2 : Int)), .fact 3 (Fact.rep [0] (a3 : List UInt8))]) (Sub.cons (Has.fl (Has.s rfl)) (sn (Sub.cons (Has.fl (Has.s rfl)) (sn Sub.nil)))) ?_
 refine CWalk.seq ?_
 refine CWalk.region ?_
 refine ws (Step.boxObj (ls := [(false, 1, Fact.rep [] (a0.Id : UInt32)), (false, 1, Fact.rep [] (a0.Members : Int)), (false, 1, Fact.rep [] (a0.Chunk : Int)), (false, 1, Fact.rep [] (a0.Rows : Int)), (false, 1, Fact.rep [] (a0.Log : Int)), (false, 1, Fact.rep [] (a0.Heads : Int))]) 10 rfl rfl rfl rfl (HasL.flds (Has.cv (Has.s rfl) (Cv.trans (Cv.opens (chConfig a0)) (Cv.flds (CvL.cons Cv.fl (CvL.cons Cv.fl (CvL.cons Cv.fl (CvL.cons Cv.fl (CvL.cons Cv.fl (CvL.cons Cv.fl CvL.nil))))))))))) ?_
 refine ws (Step.boxObj (ls := [(false, 1, Fact.rep [] (a1.Stripe : Int)), (false, 1, Fact.rep [0] (a1.Blocks : List (List UInt8))), (false, 1, Fact.rep [0] (a1.Dirty : List Bool)), (false, 1, Fact.rep [] (a1.Phase : UInt8)), (false, 1, Fact.rep [] (a1.Deals : Bool)), (false, 1, Fact.rep [] (a1.Seq : UInt32))]) 17 rfl rfl rfl rfl (HasL.flds (Has.cv (Has.s rfl) (Cv.trans (Cv.opens (chHead a1)) (Cv.flds (CvL.cons Cv.fl (CvL.cons Cv.refl (CvL.cons Cv.refl (CvL.cons Cv.fl (CvL.cons Cv.fl (CvL.cons Cv.fl CvL.nil))))))))))) ?_
 refine wo (Spec.assign Has.int) ?_
 refine Walk.nil ?_
 refine Leaf.thenN ?_
 refine CWalk.seq ?_
 refine CWalk.region ?_
 refine wo (Spec.loadObj (ls := [(false, 1, Fact.rep [] (a0.Id : UInt32)), (false, 1, Fact.rep [] (a0.Members : Int)), (false, 1, Fact.rep [] (a0.Chunk : Int)), (false, 1, Fact.rep [] (a0.Rows : Int)), (false, 1, Fact.rep [] (a0.Log : Int)), (false, 1, Fact.rep [] (a0.Heads : Int))]) ty24 rfl rfl (Has.s rfl) rfl (HasGs.cons (HasG.s rfl) (HasGs.cons (HasG.s rfl) (HasGs.cons (HasG.s rfl) (HasGs.cons (HasG.s rfl) (HasGs.cons (HasG.s rfl) (HasGs.cons (HasG.s rfl) HasGs.nil))))))) ?_
 refine wo (Spec.loadObj (ls := [(false, 1, Fact.rep [] (a1.Stripe : Int)), (false, 1, Fact.rep [0] (a1.Blocks : List (List UInt8))), (false, 1, Fact.rep [0] (a1.Dirty : List Bool)), (false, 1, Fact.rep [] (a1.Phase : UInt8)), (false, 1, Fact.rep [] (a1.Deals : Bool)), (false, 1, Fact.rep [] (a1.Seq : UInt32))]) ty28 rfl rfl (Has.s rfl) rfl (HasGs.cons (HasG.s rfl) (HasGs.cons (HasG.s rfl) (HasGs.cons (HasG.s rfl) (HasGs.cons (HasG.s rfl) (HasGs.cons (HasG.s rfl) (HasGs.cons (HasG.s rfl) HasGs.nil))))))) ?_
 obtain ⟨x1, hx1, hm⟩ := bind_some hm
 refine wo (f := Fact.rep [] (x1 : Int)) (Spec.callE [0] 24 rfl en25 (ref16_Check_c a0 a1 hx1) (HasAll.cons (Has.fl (Has.cv (Has.s rfl) (Cv.trans (Cv.flds (CvL.cons Cv.fl (CvL.cons Cv.fl (CvL.cons Cv.fl (CvL.cons Cv.fl (CvL.cons Cv.fl (CvL.cons Cv.fl CvL.nil))))))) (Cv.close (T := []) (chConfig a0))))) (HasAll.cons (Has.m (Has.cv (Has.s rfl) (Cv.trans (Cv.flds (CvL.cons Cv.fl (CvL.cons (Cv.m rfl) (CvL.cons (Cv.m rfl) (CvL.cons Cv.fl (CvL.cons Cv.fl (CvL.cons Cv.fl CvL.nil))))))) (Cv.close (T := [0]) (chHead a1)))) rfl) HasAll.nil))) ?_
 refine wo (Spec.assign (Has.s rfl)) ?_
 refine Walk.nil ?_
 refine Leaf.thenN ?_
 refine CWalk.seq ?_
 refine CWalk.seq ?_
 refine CWalk.region ?_
 refine mv ?_
 refine wo (Spec.neqI (Has.s rfl) Has.int) ?_
 refine Walk.nil ?_
 refine Leaf.thenN ?_
 refine CWalk.cond rfl (fun hb => ?_) (fun hb => ?_)
 ·have hm := cond_t hb hm
  refine CWalk.seq ?_
  refine CWalk.region ?_
  refine mv ?_
  refine wo (Spec.assign (Has.s rfl)) ?_
  refine Walk.nil ?_
  refine Leaf.thenN ?_
  refine CWalk.ret ?_
  refine Leaf.thenR ?_
  obtain rfl := Option.some.inj hm
  exact Leaf.retC1 rfl (HasR.cv (HasR.tmp (Has.s rfl)) Cv.fl)
 ·have hm := cond_f hb hm
  refine CWalk.skip ?_
  refine Leaf.thenN ?_
  refine CWalk.seq ?_
  refine CWalk.seq ?_
  refine CWalk.region ?_
  refine mv ?_
  refine wo (Spec.lssI (Has.s rfl) Has.int) ?_
  refine mv ?_
  refine wg rfl rfl (fun hb => Spec.move (Has.s rfl)) ?_
  refine wg rfl rfl (fun hb => Spec.fieldAddrO fd24_1 (Has.cv (Has.s rfl) (Cv.isvP rfl))) ?_
  refine wg rfl rfl (fun hb => Spec.loadF (i := 1) ty3 rfl (Has.u rfl hb) rfl (HasG.s rfl)) ?_
  refine wg rfl rfl (fun hb => Spec.subI (Has.u rfl hb) Has.int) ?_
  refine wg rfl rfl (fun hb => Spec.geqI (Has.u rfl hb) (Has.u rfl hb)) ?_
  refine wo (Spec.or (Has.s rfl) (fun h => Has.u rfl h)) ?_
  refine Walk.nil ?_
  refine Leaf.thenN ?_
  refine CWalk.cond rfl (fun hb => ?_) (fun hb => ?_)
  ·have hm := cond_t hb hm
   refine CWalk.seq ?_
   refine CWalk.region ?_
   refine wo (Spec.assign Has.int) ?_
   refine Walk.nil ?_
   refine Leaf.thenN ?_
   refine CWalk.ret ?_
   refine Leaf.thenR ?_
   obtain rfl := Option.some.inj hm
   exact Leaf.retC1 rfl (HasR.cv (HasR.tmp (Has.s rfl)) Cv.fl)
  ·have hm := cond_f hb hm
   refine CWalk.skip ?_
   refine Leaf.thenN ?_
   refine CWalk.seq ?_
   refine CWalk.seq ?_
   refine CWalk.region ?_
   refine mv ?_
   obtain ⟨x2, hx2, hm⟩ := bind_some hm
   refine wo (f := Fact.rep [] (x2 : Bool)) (Spec.callE [0] 25 rfl en65 (ref04_Sized_c a3 hx2) (HasAll.cons (Has.m (Has.s rfl) rfl) HasAll.nil)) ?_
   refine wo (Spec.not (Has.s rfl)) ?_
   refine Walk.nil ?_
   refine Leaf.thenN ?_
   refine CWalk.cond rfl (fun hb => ?_) (fun hb => ?_)
   ·have hm := cond_t hb hm
    refine CWalk.seq ?_
    refine CWalk.region ?_
    refine wo (Spec.assign Has.int) ?_
    refine Walk.nil ?_
    refine Leaf.thenN ?_
    refine CWalk.ret ?_
    refine Leaf.thenR ?_
    obtain rfl := Option.some.inj hm
    exact Leaf.retC1 rfl (HasR.cv (HasR.tmp (Has.s rfl)) Cv.fl)
   ·have hm := cond_f hb hm
    refine CWalk.skip ?_
    refine Leaf.thenN ?_
    refine CWalk.seq ?_
    refine CWalk.region ?_
    refine wo (Spec.assign Has.int) ?_
    refine Walk.nil ?_
    refine Leaf.thenN ?_
    refine CWalk.ret ?_
    obtain rfl := Option.some.inj hm
    exact Leaf.retC1 rfl (HasR.cv (HasR.tmp (Has.s rfl)) Cv.fl)

/-- freeboard/freeboardref04.Full -/
def ref04_Full (a0 : List UInt8) : Option ((List UInt8)) :=
  (bif (((a0).length : Int) == (0 : Int)) then Option.bind (makeL (0 : UInt8) (128 : Int)) (fun x1 => some x1) else Option.bind (app ([] : List UInt8) a0) (fun x2 => some x2))
set_option maxRecDepth 100000 in
set_option maxHeartbeats 2000000 in
theorem ref04_Full_c (a0 : List UInt8) {r : (List UInt8)} (hm : ref04_Full a0 = some r) : Ctr Try.prog 46 [.rep 0 a0] (.own 0 none 5 r) [] := by
 refine ctr_of_walk [[10, 11]] 11 Try.func46 rfl rfl rfl rfl (fun w0 om => ?_)
 unfold ref04_Full at hm
 refine CWalk.sub (G' := [.fact 0 (Fact.rep [0] (a0 : List UInt8))]) (sn Sub.nil) ?_
 refine CWalk.seq ?_
 refine CWalk.region ?_
 refine wo (Spec.assign Has.nilv) ?_
 refine Walk.nil ?_
 refine Leaf.thenN ?_
 refine CWalk.seq ?_
 refine CWalk.seq ?_
 refine CWalk.region ?_
 refine mv ?_
 refine wo (Spec.len (Has.s rfl) Try.underlying31) ?_
 refine wo (Spec.eqlI (Has.s rfl) Has.int) ?_
 refine Walk.nil ?_
 refine Leaf.thenN ?_
 refine CWalk.cond rfl (fun hb => ?_) (fun hb => ?_)
 ·have hm := cond_t hb hm
  refine CWalk.seq ?_
  refine CWalk.region ?_
  obtain ⟨x1, hx1, hm⟩ := bind_some hm
  refine ws (Step.makeOwn 10 hx1 rfl rfl ow31 zt5 Has.int) ?_
  refine wo (Spec.assign (Has.s rfl)) ?_
  refine Walk.nil ?_
  refine Leaf.thenN ?_
  refine CWalk.ret ?_
  refine Leaf.thenR ?_
  obtain rfl := Option.some.inj hm
  exact Leaf.retC1 rfl (HasR.cv (HasR.tmp (Has.s rfl)) (Cv.trans (Cv.isvOw rfl) (Cv.owF (T := [10]) (te := []) rfl)))
 ·have hm := cond_f hb hm
  refine CWalk.skip ?_
  refine Leaf.thenN ?_
  refine CWalk.seq ?_
  refine CWalk.region ?_
  refine wo (Spec.assign Has.nilv) ?_
  refine Walk.nil ?_
  refine Leaf.thenN ?_
  refine CWalk.seq ?_
  refine CWalk.region ?_
  refine mv ?_
  refine mv ?_
  obtain ⟨x2, hx2, hm⟩ := bind_some hm
  refine wo (Spec.appNilO (te' := []) 11 hx2 rfl ow31 (Has.s rfl) (Has.s rfl) ElKeep.flat) ?_
  refine wo (Spec.assign (Has.s rfl)) ?_
  refine Walk.nil ?_
  refine Leaf.thenN ?_
  refine CWalk.ret ?_
  obtain rfl := Option.some.inj hm
  exact Leaf.retC1 rfl (HasR.cv (HasR.tmp (Has.s rfl)) (Cv.owF (T := [11]) (te := []) rfl))

/-- freeboard/freeboardref16.Tell -/
def ref16_Tell (a0 : Config) (a1 : Head) (a2 : Int) : Option ((List UInt8) × Bool × Int) :=
  Option.bind (ref16_asked a0 a1 a2 ([] : List UInt8)) (fun x1 => Option.bind (gO (!(x1 != (0 : Int))) (idx a1.Blocks a2)) (fun x2 => (bif ((x1 != (0 : Int)) || (((x2).length : Int) == (0 : Int))) then some (([] : List UInt8), false, x1) else Option.bind (idx a1.Blocks a2) (fun x3 => Option.bind (ref04_Full x3) (fun x4 => some (x4, true, (0 : Int)))))))
set_option maxRecDepth 100000 in
set_option maxHeartbeats 2000000 in
theorem ref16_Tell_c (a0 : Config) (a1 : Head) (a2 : Int) {r : (List UInt8) × Bool × Int} (hm : ref16_Tell a0 a1 a2 = some r) : Ctr Try.prog 12 [.rep 0 a0, .rep 0 a1, .rep 0 a2] (.tup3 (.own 0 none 5 r.1) (.fl r.2.1) (.fl r.2.2)) [] := by
 refine ctr_of_walk [[25]] 32 Try.func12 rfl rfl rfl rfl (fun w0 om => ?_)
 unfold ref16_Tell at hm
 refine CWalk.sub (G' := [.fact 0 (Fact.rep [] (a0 : Config)), .fact 1 (Fact.rep [0] (a1 : Head)), .fact 2 (Fact.rep [] (a2 : Int))]) (Sub.cons (Has.fl (Has.s rfl)) (sn (Sub.cons (Has.fl (Has.s rfl)) Sub.nil))) ?_
 refine CWalk.seq ?_
 refine CWalk.region ?_
 refine ws (Step.boxObj (ls := [(false, 1, Fact.rep [] (a0.Id : UInt32)), (false, 1, Fact.rep [] (a0.Members : Int)), (false, 1, Fact.rep [] (a0.Chunk : Int)), (false, 1, Fact.rep [] (a0.Rows : Int)), (false, 1, Fact.rep [] (a0.Log : Int)), (false, 1, Fact.rep [] (a0.Heads : Int))]) 10 rfl rfl rfl rfl (HasL.flds (Has.cv (Has.s rfl) (Cv.trans (Cv.opens (chConfig a0)) (Cv.flds (CvL.cons Cv.fl (CvL.cons Cv.fl (CvL.cons Cv.fl (CvL.cons Cv.fl (CvL.cons Cv.fl (CvL.cons Cv.fl CvL.nil))))))))))) ?_
 refine ws (Step.boxObj (ls := [(false, 1, Fact.rep [] (a1.Stripe : Int)), (false, 1, Fact.rep [0] (a1.Blocks : List (List UInt8))), (false, 1, Fact.rep [0] (a1.Dirty : List Bool)), (false, 1, Fact.rep [] (a1.Phase : UInt8)), (false, 1, Fact.rep [] (a1.Deals : Bool)), (false, 1, Fact.rep [] (a1.Seq : UInt32))]) 17 rfl rfl rfl rfl (HasL.flds (Has.cv (Has.s rfl) (Cv.trans (Cv.opens (chHead a1)) (Cv.flds (CvL.cons Cv.fl (CvL.cons Cv.refl (CvL.cons Cv.refl (CvL.cons Cv.fl (CvL.cons Cv.fl (CvL.cons Cv.fl CvL.nil))))))))))) ?_
 refine wo (Spec.assign Has.nilv) ?_
 refine wo (Spec.assign Has.bool) ?_
 refine wo (Spec.assign Has.int) ?_
 refine Walk.nil ?_
 refine Leaf.thenN ?_
 refine CWalk.seq ?_
 refine CWalk.region ?_
 refine wo (Spec.loadObj (ls := [(false, 1, Fact.rep [] (a0.Id : UInt32)), (false, 1, Fact.rep [] (a0.Members : Int)), (false, 1, Fact.rep [] (a0.Chunk : Int)), (false, 1, Fact.rep [] (a0.Rows : Int)), (false, 1, Fact.rep [] (a0.Log : Int)), (false, 1, Fact.rep [] (a0.Heads : Int))]) ty24 rfl rfl (Has.s rfl) rfl (HasGs.cons (HasG.s rfl) (HasGs.cons (HasG.s rfl) (HasGs.cons (HasG.s rfl) (HasGs.cons (HasG.s rfl) (HasGs.cons (HasG.s rfl) (HasGs.cons (HasG.s rfl) HasGs.nil))))))) ?_
 refine wo (Spec.loadObj (ls := [(false, 1, Fact.rep [] (a1.Stripe : Int)), (false, 1, Fact.rep [0] (a1.Blocks : List (List UInt8))), (false, 1, Fact.rep [0] (a1.Dirty : List Bool)), (false, 1, Fact.rep [] (a1.Phase : UInt8)), (false, 1, Fact.rep [] (a1.Deals : Bool)), (false, 1, Fact.rep [] (a1.Seq : UInt32))]) ty28 rfl rfl (Has.s rfl) rfl (HasGs.cons (HasG.s rfl) (HasGs.cons (HasG.s rfl) (HasGs.cons (HasG.s rfl) (HasGs.cons (HasG.s rfl) (HasGs.cons (HasG.s rfl) (HasGs.cons (HasG.s rfl) HasGs.nil))))))) ?_
 refine mv ?_
 obtain ⟨x1, hx1, hm⟩ := bind_some hm
 refine wo (f := Fact.rep [] (x1 : Int)) (Spec.callE [0] 24 rfl en45 (ref16_asked_c a0 a1 a2 ([] : List UInt8) hx1) (HasAll.cons (Has.fl (Has.cv (Has.s rfl) (Cv.trans (Cv.flds (CvL.cons Cv.fl (CvL.cons Cv.fl (CvL.cons Cv.fl (CvL.cons Cv.fl (CvL.cons Cv.fl (CvL.cons Cv.fl CvL.nil))))))) (Cv.close (T := []) (chConfig a0))))) (HasAll.cons (Has.m (Has.cv (Has.s rfl) (Cv.trans (Cv.flds (CvL.cons Cv.fl (CvL.cons (Cv.m rfl) (CvL.cons (Cv.m rfl) (CvL.cons Cv.fl (CvL.cons Cv.fl (CvL.cons Cv.fl CvL.nil))))))) (Cv.close (T := [0]) (chHead a1)))) rfl) (HasAll.cons (Has.fl (Has.s rfl)) (HasAll.cons (Has.m (Has.nil UInt8) rfl) HasAll.nil))))) ?_
 refine wo (Spec.assign (Has.s rfl)) ?_
 refine Walk.nil ?_
 refine Leaf.thenN ?_
 refine CWalk.seq ?_
 refine CWalk.seq ?_
 refine CWalk.region ?_
 refine mv ?_
 refine wo (Spec.neqI (Has.s rfl) Has.int) ?_
 refine mv ?_
 refine wg rfl rfl (fun hb => Spec.fieldAddrO fd28_1 (Has.cv (Has.s rfl) (Cv.isvP rfl))) ?_
 refine wg rfl rfl (fun hb => Spec.loadF (i := 1) ty25 rfl (Has.u rfl hb) rfl (HasG.s rfl)) ?_
 refine wg rfl rfl (fun hb => Spec.move (Has.s rfl)) ?_
 obtain ⟨x2, hx2, hm⟩ := bind_some hm
 refine wg rfl rfl (fun hb => Spec.indexAddr (gO_t hx2 (not_t hb)) sl25 (Has.u rfl hb) (Has.u rfl hb)) ?_
 refine wg rfl rfl (fun hb => Spec.load ty31 (Has.u rfl hb)) ?_
 refine wg rfl rfl (fun hb => Spec.len (Has.u rfl hb) Try.underlying31) ?_
 refine wg rfl rfl (fun hb => Spec.eqlI (Has.u rfl hb) Has.int) ?_
 refine wo (Spec.or (Has.s rfl) (fun h => Has.u rfl h)) ?_
 refine Walk.nil ?_
 refine Leaf.thenN ?_
 refine CWalk.cond rfl (fun hb => ?_) (fun hb => ?_)
 ·have hm := cond_t hb hm
  refine CWalk.seq ?_
  refine CWalk.region ?_
  refine mv ?_
  refine wo (Spec.assign Has.nilv) ?_
  refine wo (Spec.assign Has.bool) ?_
  refine wo (Spec.assign (Has.s rfl)) ?_
  refine Walk.nil ?_
  refine Leaf.thenN ?_
  refine CWalk.ret ?_
  refine Leaf.thenR ?_
  obtain rfl := Option.some.inj hm
  exact Leaf.retC3 rfl (HasR.cv (HasR.tmp (Has.s rfl)) (Cv.trans Cv.nilOw (Cv.owF (T := []) (te := []) rfl))) (HasR.cv (HasR.tmp (Has.s rfl)) Cv.fl) (HasR.cv (HasR.tmp (Has.s rfl)) Cv.fl)
 ·have hm := cond_f hb hm
  refine CWalk.skip ?_
  refine Leaf.thenN ?_
  refine CWalk.seq ?_
  refine CWalk.region ?_
  refine wo (Spec.fieldAddrO fd28_1 (Has.cv (Has.s rfl) (Cv.isvP rfl))) ?_
  refine wo (Spec.loadF (i := 1) ty25 rfl (Has.s rfl) rfl (HasG.s rfl)) ?_
  refine mv ?_
  obtain ⟨x3, hx3, hm⟩ := bind_some hm
  refine wo (Spec.indexAddr hx3 sl25 (Has.s rfl) (Has.s rfl)) ?_
  refine wo (Spec.load ty31 (Has.s rfl)) ?_
  obtain ⟨x4, hx4, hm⟩ := bind_some hm
  refine wo (f := Fact.ow [25] [] 5 (x4 : List UInt8)) (Spec.callE [0] 25 rfl en46 (ref04_Full_c x3 hx4) (HasAll.cons (Has.m (Has.s rfl) rfl) HasAll.nil)) ?_
  refine wo (Spec.assign (Has.s rfl)) ?_
  refine wo (Spec.assign Has.bool) ?_
  refine wo (Spec.assign Has.int) ?_
  refine Walk.nil ?_
  refine Leaf.thenN ?_
  refine CWalk.ret ?_
  obtain rfl := Option.some.inj hm
  exact Leaf.retC3 rfl (HasR.cv (HasR.tmp (Has.s rfl)) (Cv.owF (T := [25]) (te := []) rfl)) (HasR.cv (HasR.tmp (Has.s rfl)) Cv.fl) (HasR.cv (HasR.tmp (Has.s rfl)) Cv.fl)

def head_Deal_J2 (s4 : Int) (j8 : List Int) (j9 : List (List UInt8)) : Option (Ctl (Int × (List Int) × (List (List UInt8))) ((List Int) × (List (List UInt8)))) :=
  some (Ctl.next ((wI (s4 + (1 : Int))), j8, j9))
def head_Deal_L1 (a1 : Head) (s4 : Int) (s5 : List Int) (s6 : List (List UInt8)) : Option (Ctl (Int × (List Int) × (List (List UInt8))) ((List Int) × (List (List UInt8)))) :=
  (bif (decide (s4 < ((a1.Dirty).length : Int))) then Option.bind (idx a1.Dirty s4) (fun x10 => (bif x10 then Option.bind (app s5 ([s4])) (fun x11 => Option.bind (idx a1.Blocks s4) (fun x12 => Option.bind (slices_Clone_byte_byte x12) (fun x13 => Option.bind (app s6 ([x13])) (fun x14 => (head_Deal_J2 s4 x11 x14))))) else (head_Deal_J2 s4 s5 s6))) else some (Ctl.brk (s5, s6)))
/-- freeboard/head.Deal -/
def head_Deal (a0 : Config) (a1 : Head) : Option (Deal × Int) :=
  Option.bind (head_Check a0 a1) (fun x1 => (bif (x1 != (0 : Int)) then some ((Deal.mk (0 : Int) ([] : List Int) ([] : List (List UInt8)) ([] : List UInt8)), x1) else (bif (a1.Phase == (0 : UInt8)) then some ((Deal.mk (0 : Int) ([] : List Int) ([] : List (List UInt8)) ([] : List UInt8)), (6 : Int)) else Option.bind (idx a1.Blocks (wI (a0.Members - (1 : Int)))) (fun x2 => Option.bind (slices_Clone_byte_byte x2) (fun x3 => Option.bind (loopM (fun s : Int × (List Int) × (List (List UInt8)) => head_Deal_L1 a1 s.1 s.2.1 s.2.2) FUEL ((0 : Int), ([] : List Int), ([] : List (List UInt8)))) (fun b15 => some ((Deal.mk a1.Stripe b15.1 b15.2 x3), (0 : Int))))))))
set_option maxRecDepth 100000 in
set_option maxHeartbeats 2000000 in
theorem head_Deal_c (a0 : Config) (a1 : Head) {r : Deal × Int} (hm : head_Deal a0 a1 = some r) : Ctr Try.prog 13 [.rep 0 a0, .rep 0 a1] (.tup2 (.flds [(false, 1, (.fl r.1.Stripe)), (false, 1, (.own 0 none 3 r.1.Slots)), (false, 1, (.own 1 (some 2) 31 r.1.Blocks)), (false, 1, (.own 3 none 5 r.1.Parity))]) (.fl r.2)) [] := by
 refine ctr_of_walk [[37], [40], [38, 39], [30]] 60 Try.func13 rfl rfl rfl rfl (fun w0 om => ?_)
 unfold head_Deal at hm
 refine CWalk.sub (G' := [.fact 0 (Fact.rep [] (a0 : Config)), .fact 1 (Fact.rep [0] (a1 : Head))]) (Sub.cons (Has.fl (Has.s rfl)) (sn Sub.nil)) ?_
 refine CWalk.seq ?_
 refine CWalk.region ?_
 refine ws (Step.boxObj (ls := [(false, 1, Fact.rep [] (a0.Id : UInt32)), (false, 1, Fact.rep [] (a0.Members : Int)), (false, 1, Fact.rep [] (a0.Chunk : Int)), (false, 1, Fact.rep [] (a0.Rows : Int)), (false, 1, Fact.rep [] (a0.Log : Int)), (false, 1, Fact.rep [] (a0.Heads : Int))]) 10 rfl rfl rfl rfl (HasL.flds (Has.cv (Has.s rfl) (Cv.trans (Cv.opens (chConfig a0)) (Cv.flds (CvL.cons Cv.fl (CvL.cons Cv.fl (CvL.cons Cv.fl (CvL.cons Cv.fl (CvL.cons Cv.fl (CvL.cons Cv.fl CvL.nil))))))))))) ?_
 refine ws (Step.boxObj (ls := [(false, 1, Fact.rep [] (a1.Stripe : Int)), (false, 1, Fact.rep [0] (a1.Blocks : List (List UInt8))), (false, 1, Fact.rep [0] (a1.Dirty : List Bool)), (false, 1, Fact.rep [] (a1.Phase : UInt8)), (false, 1, Fact.rep [] (a1.Deals : Bool)), (false, 1, Fact.rep [] (a1.Seq : UInt32))]) 17 rfl rfl rfl rfl (HasL.flds (Has.cv (Has.s rfl) (Cv.trans (Cv.opens (chHead a1)) (Cv.flds (CvL.cons Cv.fl (CvL.cons Cv.refl (CvL.cons Cv.refl (CvL.cons Cv.fl (CvL.cons Cv.fl (CvL.cons Cv.fl CvL.nil))))))))))) ?_
 refine ws (Step.allocObj (ls := [(false, 1, Fact.rep [] ((0 : Int) : Int)), (false, 1, Fact.nilv), (false, 1, Fact.nilv), (false, 1, Fact.nilv)]) 24 rfl rfl rfl rfl zl39) ?_
 refine wo (Spec.assign Has.int) ?_
 refine Walk.nil ?_
 refine Leaf.thenN ?_
 refine CWalk.seq ?_
 refine CWalk.seq ?_
 refine CWalk.region ?_
 refine wo (Spec.loadObj (ls := [(false, 1, Fact.rep [] (a0.Id : UInt32)), (false, 1, Fact.rep [] (a0.Members : Int)), (false, 1, Fact.rep [] (a0.Chunk : Int)), (false, 1, Fact.rep [] (a0.Rows : Int)), (false, 1, Fact.rep [] (a0.Log : Int)), (false, 1, Fact.rep [] (a0.Heads : Int))]) ty24 rfl rfl (Has.s rfl) rfl (HasGs.cons (HasG.s rfl) (HasGs.cons (HasG.s rfl) (HasGs.cons (HasG.s rfl) (HasGs.cons (HasG.s rfl) (HasGs.cons (HasG.s rfl) (HasGs.cons (HasG.s rfl) HasGs.nil))))))) ?_
 refine wo (Spec.loadObj (ls := [(false, 1, Fact.rep [] (a1.Stripe : Int)), (false, 1, Fact.rep [0] (a1.Blocks : List (List UInt8))), (false, 1, Fact.rep [0] (a1.Dirty : List Bool)), (false, 1, Fact.rep [] (a1.Phase : UInt8)), (false, 1, Fact.rep [] (a1.Deals : Bool)), (false, 1, Fact.rep [] (a1.Seq : UInt32))]) ty28 rfl rfl (Has.s rfl) rfl (HasGs.cons (HasG.s rfl) (HasGs.cons (HasG.s rfl) (HasGs.cons (HasG.s rfl) (HasGs.cons (HasG.s rfl) (HasGs.cons (HasG.s rfl) (HasGs.cons (HasG.s rfl) HasGs.nil))))))) ?_
 obtain ⟨x1, hx1, hm⟩ := bind_some hm
 refine wo (f := Fact.rep [] (x1 : Int)) (Spec.callE [0] 29 rfl en24 (head_Check_c a0 a1 hx1) (HasAll.cons (Has.fl (Has.cv (Has.s rfl) (Cv.trans (Cv.flds (CvL.cons Cv.fl (CvL.cons Cv.fl (CvL.cons Cv.fl (CvL.cons Cv.fl (CvL.cons Cv.fl (CvL.cons Cv.fl CvL.nil))))))) (Cv.close (T := []) (chConfig a0))))) (HasAll.cons (Has.m (Has.cv (Has.s rfl) (Cv.trans (Cv.flds (CvL.cons Cv.fl (CvL.cons (Cv.m rfl) (CvL.cons (Cv.m rfl) (CvL.cons Cv.fl (CvL.cons Cv.fl (CvL.cons Cv.fl CvL.nil))))))) (Cv.close (T := [0]) (chHead a1)))) rfl) HasAll.nil))) ?_
 refine wo (Spec.assign (Has.s rfl)) ?_
 refine Walk.nil ?_
 refine Leaf.thenN ?_
 refine CWalk.seq ?_
 refine CWalk.region ?_
 refine mv ?_
 refine wo (Spec.neqI (Has.s rfl) Has.int) ?_
 refine Walk.nil ?_
 refine Leaf.thenN ?_
 refine CWalk.cond rfl (fun hb => ?_) (fun hb => ?_)
 ·have hm := cond_t hb hm
  refine CWalk.seq ?_
  refine CWalk.region ?_
  refine wo (Spec.build (us := []) (ls' := [(false, 1, Fact.rep [] ((0 : Int) : Int)), (false, 1, Fact.nilv), (false, 1, Fact.nilv), (false, 1, Fact.nilv)]) bd39 rfl BP.nil) ?_
  refine mv ?_
  refine ws (Step.storeObj (ls := [(false, 1, Fact.rep [] ((0 : Int) : Int)), (false, 1, Fact.nilv), (false, 1, Fact.nilv), (false, 1, Fact.nilv)]) rfl ty39 rfl rfl (Has.s rfl) rfl (HasL.flds (Has.s rfl)) rfl) ?_
  refine wo (Spec.assign (Has.s rfl)) ?_
  refine Walk.nil ?_
  refine Leaf.thenN ?_
  refine CWalk.ret ?_
  refine Leaf.thenR ?_
  obtain rfl := Option.some.inj hm
  exact Leaf.retC2 rfl (HasR.cv (HasR.obj (ls := [(false, 1, Fact.rep [] ((0 : Int) : Int)), (false, 1, Fact.nilv), (false, 1, Fact.nilv), (false, 1, Fact.nilv)]) ty39 rfl rfl (Has.s rfl) rfl (HasGs.cons (HasG.s rfl) (HasGs.cons (HasG.s rfl) (HasGs.cons (HasG.s rfl) (HasGs.cons (HasG.s rfl) HasGs.nil))))) (Cv.flds (CvL.cons Cv.fl (CvL.cons (Cv.trans Cv.nilOw (Cv.owF (T := []) (te := []) rfl)) (CvL.cons (Cv.trans Cv.nilOw (Cv.owM (T := []) (te := []) rfl rfl)) (CvL.cons (Cv.trans Cv.nilOw (Cv.owF (T := []) (te := []) rfl)) CvL.nil)))))) (HasR.cv (HasR.tmp (Has.s rfl)) Cv.fl)
 ·have hm := cond_f hb hm
  refine CWalk.skip ?_
  refine Leaf.thenN ?_
  refine CWalk.seq ?_
  refine CWalk.seq ?_
  refine CWalk.region ?_
  refine wo (Spec.fieldAddrO fd28_3 (Has.cv (Has.s rfl) (Cv.isvP rfl))) ?_
  refine wo (Spec.loadF (i := 3) ty5 rfl (Has.s rfl) rfl (HasG.s rfl)) ?_
  refine wo (Spec.eqlB (Has.s rfl) (Has.u8 0 rfl)) ?_
  refine Walk.nil ?_
  refine Leaf.thenN ?_
  refine CWalk.cond rfl (fun hb => ?_) (fun hb => ?_)
  ·have hm := cond_t hb hm
   refine CWalk.seq ?_
   refine CWalk.region ?_
   refine wo (Spec.build (us := []) (ls' := [(false, 1, Fact.rep [] ((0 : Int) : Int)), (false, 1, Fact.nilv), (false, 1, Fact.nilv), (false, 1, Fact.nilv)]) bd39 rfl BP.nil) ?_
   refine ws (Step.storeObj (ls := [(false, 1, Fact.rep [] ((0 : Int) : Int)), (false, 1, Fact.nilv), (false, 1, Fact.nilv), (false, 1, Fact.nilv)]) rfl ty39 rfl rfl (Has.s rfl) rfl (HasL.flds (Has.s rfl)) rfl) ?_
   refine wo (Spec.assign Has.int) ?_
   refine Walk.nil ?_
   refine Leaf.thenN ?_
   refine CWalk.ret ?_
   refine Leaf.thenR ?_
   obtain rfl := Option.some.inj hm
   exact Leaf.retC2 rfl (HasR.cv (HasR.obj (ls := [(false, 1, Fact.rep [] ((0 : Int) : Int)), (false, 1, Fact.nilv), (false, 1, Fact.nilv), (false, 1, Fact.nilv)]) ty39 rfl rfl (Has.s rfl) rfl (HasGs.cons (HasG.s rfl) (HasGs.cons (HasG.s rfl) (HasGs.cons (HasG.s rfl) (HasGs.cons (HasG.s rfl) HasGs.nil))))) (Cv.flds (CvL.cons Cv.fl (CvL.cons (Cv.trans Cv.nilOw (Cv.owF (T := []) (te := []) rfl)) (CvL.cons (Cv.trans Cv.nilOw (Cv.owM (T := []) (te := []) rfl rfl)) (CvL.cons (Cv.trans Cv.nilOw (Cv.owF (T := []) (te := []) rfl)) CvL.nil)))))) (HasR.cv (HasR.tmp (Has.s rfl)) Cv.fl)
  ·have hm := cond_f hb hm
   refine CWalk.skip ?_
   refine Leaf.thenN ?_
   refine CWalk.seq ?_
   obtain ⟨x2, hx2, hm⟩ := bind_some hm
   obtain ⟨x3, hx3, hm⟩ := bind_some hm
   refine CWalk.drawM [[], [0], [], [2], [], [4], [4, 5], [2, 3, 4, 5, 6], [2, 3, 4, 5, 6, 7], [2, 3, 4, 5, 6, 7, 8], [0, 1, 2, 3, 4, 5, 6, 7, 8, 9], [], [0, 1, 2, 3, 4, 5, 6, 7, 8, 9, 10, 11]] [[.fact 21 (Fact.pto 17 0)], [.fact 22 (Fact.rep [] (a1.Stripe : Int))], [.fact 23 (Fact.pto 17 1)], [.fact 24 (Fact.rep [0] (a1.Blocks : List (List UInt8)))], [.fact 25 (Fact.pto 10 1)], [.fact 26 (Fact.rep [] (a0.Members : Int))], [.fact 27 (Fact.rep [] ((wI (a0.Members - (1 : Int))) : Int))], [.fact 28 (Fact.ptr [0] (x2 : List UInt8))], [.fact 29 (Fact.rep [0] (x2 : List UInt8))], [.fact 30 (Fact.ow [30] [] 5 (x3 : List UInt8))], [.fact 31 (Fact.flds [(false, 1, Fact.rep [] (a1.Stripe : Int)), (false, 1, Fact.nilv), (false, 1, Fact.nilv), (false, 1, Fact.ow [30] [] 5 (x3 : List UInt8))])], [.fact 7 (.isv 31), .fact 100031 (Fact.obj 31 [(false, 1), (false, 1), (false, 1), (false, 1)]), .fact 100032 (Fact.at 32 (Fact.rep [] ((0 : Int) : Int))), .fact 100033 (Fact.at 33 (Fact.nilv)), .fact 100034 (Fact.at 34 (Fact.nilv)), .fact 100035 (Fact.at 35 (Fact.nilv)), .killId 31, .killId 32, .killId 33, .killId 34, .killId 35], [.fact 100031 (Fact.obj 31 [(false, 1), (false, 1), (false, 1), (false, 1)]), .fact 100032 (Fact.at 32 (Fact.rep [] (a1.Stripe : Int))), .fact 100033 (Fact.at 33 (Fact.nilv)), .fact 100034 (Fact.at 34 (Fact.nilv)), .fact 100035 (Fact.at 35 (Fact.ow [30] [] 5 (x3 : List UInt8))), .kill 31, .killId 32, .killId 33, .killId 34, .killId 35]] mixed (by kernel_rfl) (ao (so (Spec.fieldAddrO fd28_0 (Has.cv (Has.s rfl) (Cv.isvP rfl)))) (ao (so (Spec.loadF (i := 0) ty3 rfl (Has.s rfl) rfl (HasG.s rfl))) (ao (so (Spec.fieldAddrO fd28_1 (Has.cv (Has.s rfl) (Cv.isvP rfl)))) (ao (so (Spec.loadF (i := 1) ty25 rfl (Has.s rfl) rfl (HasG.s rfl))) (ao (so (Spec.fieldAddrO fd24_1 (Has.cv (Has.s rfl) (Cv.isvP rfl)))) (ao (so (Spec.loadF (i := 1) ty3 rfl (Has.s rfl) rfl (HasG.s rfl))) (ao (so (Spec.subI (Has.s rfl) Has.int)) (ao (so (Spec.indexAddr hx2 sl25 (Has.s rfl) (Has.s rfl))) (ao (so (Spec.load ty31 (Has.s rfl))) (ao (so (Spec.callE [0] 30 rfl en44 (slices_Clone_byte_byte_c x2 hx3) (HasAll.cons (Has.m (Has.s rfl) rfl) HasAll.nil))) (ao (so (Spec.build (us := [(0, .tmp 22), (3, .tmp 30)]) (ls' := [(false, 1, Fact.rep [] (a1.Stripe : Int)), (false, 1, Fact.nilv), (false, 1, Fact.nilv), (false, 1, Fact.ow [30] [] 5 (x3 : List UInt8))]) bd39 rfl (BP.cons rfl rfl (Has.s rfl) (Has.s rfl) (BP.cons rfl rfl (Has.cv (Has.s rfl) (Cv.trans Cv.owSl (Cv.slRep (T' := [30]) rfl rfl))) (Has.s rfl) BP.nil)))) (ao (StepG.stE (Step.allocObj (ls := [(false, 1, Fact.rep [] ((0 : Int) : Int)), (false, 1, Fact.nilv), (false, 1, Fact.nilv), (false, 1, Fact.nilv)]) 31 rfl rfl rfl rfl zl39)) (ao (StepG.stE (Step.storeObj (ls := [(false, 1, Fact.rep [] (a1.Stripe : Int)), (false, 1, Fact.nilv), (false, 1, Fact.nilv), (false, 1, Fact.ow [30] [] 5 (x3 : List UInt8))]) rfl ty39 rfl rfl (Has.s rfl) rfl (HasL.flds (Has.s rfl)) rfl)) AllM.nil))))))))))))) ?_
   refine Leaf.thenN ?_
   refine CWalk.seq ?_
   refine CWalk.seq ?_
   refine CWalk.region ?_
   refine wo (Spec.fieldAddrO fd28_2 (Has.cv (Has.s rfl) (Cv.isvP rfl))) ?_
   refine wo (Spec.loadF (i := 2) ty26 rfl (Has.s rfl) rfl (HasG.s rfl)) ?_
   refine wo (Spec.len (Has.s rfl) Try.underlying26) ?_
   refine wo (Spec.move Has.int) ?_
   refine Walk.nil ?_
   refine Leaf.thenN ?_
   refine CWalk.block ?_
   obtain ⟨b15, hb15, hm⟩ := bind_some hm
   refine CWalk.loop (fun s : Int × (List Int) × (List (List UInt8)) => [.fact 3 (Fact.isv 17), .fact 4 (Fact.isv 24), .fact 7 (Fact.isv 31), .fact 33 (Fact.rep [0] (a1.Dirty : List Bool)), .fact 34 (Fact.rep [] (((a1.Dirty).length : Int) : Int)), .fact 35 (Fact.rep [] (s.1 : Int)), .fact 100018 (Fact.at 18 (Fact.rep [] (a1.Stripe : Int))), .fact 100019 (Fact.at 19 (Fact.rep [0] (a1.Blocks : List (List UInt8)))), .fact 100020 (Fact.at 20 (Fact.rep [0] (a1.Dirty : List Bool))), .fact 100021 (Fact.at 21 (Fact.rep [] (a1.Phase : UInt8))), .fact 100022 (Fact.at 22 (Fact.rep [] (a1.Deals : Bool))), .fact 100023 (Fact.at 23 (Fact.rep [] (a1.Seq : UInt32))), .fact 100025 (Fact.at 25 (Fact.rep [] ((0 : Int) : Int))), .fact 100026 (Fact.at 26 (Fact.nilv)), .fact 100027 (Fact.at 27 (Fact.nilv)), .fact 100028 (Fact.at 28 (Fact.nilv)), .fact 100032 (Fact.at 32 (Fact.rep [] (a1.Stripe : Int))), .fact 100033 (Fact.at 33 (Fact.ow [37] [] 3 (s.2.1 : List Int))), .fact 100034 (Fact.at 34 (Fact.ow [40] [38, 39] 31 (s.2.2 : List (List UInt8)))), .fact 100035 (Fact.at 35 (Fact.ow [30] [] 5 (x3 : List UInt8))), .fact 100017 (Fact.obj 17 [(false, 1), (false, 1), (false, 1), (false, 1), (false, 1), (false, 1)]), .fact 100024 (Fact.obj 24 [(false, 1), (false, 1), (false, 1), (false, 1)]), .fact 100031 (Fact.obj 31 [(false, 1), (false, 1), (false, 1), (false, 1)])]) (fun b : (List Int) × (List (List UInt8)) => (Exit.exit 0, [.fact 4 (Fact.isv 24), .fact 7 (Fact.isv 31), .fact 100025 (Fact.at 25 (Fact.rep [] ((0 : Int) : Int))), .fact 100026 (Fact.at 26 (Fact.nilv)), .fact 100027 (Fact.at 27 (Fact.nilv)), .fact 100028 (Fact.at 28 (Fact.nilv)), .fact 100032 (Fact.at 32 (Fact.rep [] (a1.Stripe : Int))), .fact 100033 (Fact.at 33 (Fact.ow [37] [] 3 (b.1 : List Int))), .fact 100034 (Fact.at 34 (Fact.ow [40] [38, 39] 31 (b.2 : List (List UInt8)))), .fact 100035 (Fact.at 35 (Fact.ow [30] [] 5 (x3 : List UInt8))), .fact 100024 (Fact.obj 24 [(false, 1), (false, 1), (false, 1), (false, 1)]), .fact 100031 (Fact.obj 31 [(false, 1), (false, 1), (false, 1), (false, 1)])])) hb15 (sn (sn (sn (su (st (st (sf (sm (sm (sf (sf (sf (sf (sg (sg (sg (sf (Sub.cons (Has.at (HasG.cv (HasG.s rfl) (Cv.trans Cv.nilOw (Cv.owF (T := []) (te := []) rfl)))) (Sub.cons (Has.at (HasG.cv (HasG.s rfl) (Cv.trans Cv.nilOw (Cv.owM (T := []) (te := []) rfl rfl)))) (Sub.cons (Has.at (HasG.cv (HasG.s rfl) (Cv.owF (T := [30]) (te := []) rfl))) (sn (sn (sn Sub.nil))))))))))))))))))))))) ?_ ?_
   ·rintro ⟨s4, s5, s6⟩ c7 hm
    replace hm : head_Deal_L1 a1 s4 s5 s6 = some c7 := hm
    unfold head_Deal_L1 at hm
    show CWalk _ [.fact 3 (Fact.isv 17), .fact 4 (Fact.isv 24), .fact 7 (Fact.isv 31), .fact 33 (Fact.rep [0] (a1.Dirty : List Bool)), .fact 34 (Fact.rep [] (((a1.Dirty).length : Int) : Int)), .fact 35 (Fact.rep [] (s4 : Int)), .fact 100018 (Fact.at 18 (Fact.rep [] (a1.Stripe : Int))), .fact 100019 (Fact.at 19 (Fact.rep [0] (a1.Blocks : List (List UInt8)))), .fact 100020 (Fact.at 20 (Fact.rep [0] (a1.Dirty : List Bool))), .fact 100021 (Fact.at 21 (Fact.rep [] (a1.Phase : UInt8))), .fact 100022 (Fact.at 22 (Fact.rep [] (a1.Deals : Bool))), .fact 100023 (Fact.at 23 (Fact.rep [] (a1.Seq : UInt32))), .fact 100025 (Fact.at 25 (Fact.rep [] ((0 : Int) : Int))), .fact 100026 (Fact.at 26 (Fact.nilv)), .fact 100027 (Fact.at 27 (Fact.nilv)), .fact 100028 (Fact.at 28 (Fact.nilv)), .fact 100032 (Fact.at 32 (Fact.rep [] (a1.Stripe : Int))), .fact 100033 (Fact.at 33 (Fact.ow [37] [] 3 (s5 : List Int))), .fact 100034 (Fact.at 34 (Fact.ow [40] [38, 39] 31 (s6 : List (List UInt8)))), .fact 100035 (Fact.at 35 (Fact.ow [30] [] 5 (x3 : List UInt8))), .fact 100017 (Fact.obj 17 [(false, 1), (false, 1), (false, 1), (false, 1), (false, 1), (false, 1)]), .fact 100024 (Fact.obj 24 [(false, 1), (false, 1), (false, 1), (false, 1)]), .fact 100031 (Fact.obj 31 [(false, 1), (false, 1), (false, 1), (false, 1)])] _ _
    refine CWalk.seq ?_
    refine CWalk.region ?_
    refine wo (Spec.lssI (Has.s rfl) (Has.s rfl)) ?_
    refine Walk.nil ?_
    refine Leaf.thenN ?_
    refine CWalk.seq ?_
    refine CWalk.cond rfl (fun hb => ?_) (fun hb => ?_)
    ·have hm := cond_t hb hm
     refine CWalk.skip ?_
     refine Leaf.thenN ?_
     refine CWalk.seqJ (fun p : (List Int) × (List (List UInt8)) => [.fact 3 (Fact.isv 17), .fact 4 (Fact.isv 24), .fact 7 (Fact.isv 31), .fact 33 (Fact.rep [0] (a1.Dirty : List Bool)), .fact 34 (Fact.rep [] (((a1.Dirty).length : Int) : Int)), .fact 35 (Fact.rep [] (s4 : Int)), .fact 100018 (Fact.at 18 (Fact.rep [] (a1.Stripe : Int))), .fact 100019 (Fact.at 19 (Fact.rep [0] (a1.Blocks : List (List UInt8)))), .fact 100020 (Fact.at 20 (Fact.rep [0] (a1.Dirty : List Bool))), .fact 100021 (Fact.at 21 (Fact.rep [] (a1.Phase : UInt8))), .fact 100022 (Fact.at 22 (Fact.rep [] (a1.Deals : Bool))), .fact 100023 (Fact.at 23 (Fact.rep [] (a1.Seq : UInt32))), .fact 100025 (Fact.at 25 (Fact.rep [] ((0 : Int) : Int))), .fact 100026 (Fact.at 26 (Fact.nilv)), .fact 100027 (Fact.at 27 (Fact.nilv)), .fact 100028 (Fact.at 28 (Fact.nilv)), .fact 100032 (Fact.at 32 (Fact.rep [] (a1.Stripe : Int))), .fact 100033 (Fact.at 33 (Fact.ow [37] [] 3 (p.1 : List Int))), .fact 100034 (Fact.at 34 (Fact.ow [40] [38, 39] 31 (p.2 : List (List UInt8)))), .fact 100035 (Fact.at 35 (Fact.ow [30] [] 5 (x3 : List UInt8))), .fact 100017 (Fact.obj 17 [(false, 1), (false, 1), (false, 1), (false, 1), (false, 1), (false, 1)]), .fact 100024 (Fact.obj 24 [(false, 1), (false, 1), (false, 1), (false, 1)]), .fact 100031 (Fact.obj 31 [(false, 1), (false, 1), (false, 1), (false, 1)])]) (fun p : (List Int) × (List (List UInt8)) => head_Deal_J2 s4 p.1 p.2 = some c7) ?_ ?_
     ·rintro ⟨j8, j9⟩ hm
      replace hm : head_Deal_J2 s4 j8 j9 = some c7 := hm
      unfold head_Deal_J2 at hm
      show CWalk _ [.fact 3 (Fact.isv 17), .fact 4 (Fact.isv 24), .fact 7 (Fact.isv 31), .fact 33 (Fact.rep [0] (a1.Dirty : List Bool)), .fact 34 (Fact.rep [] (((a1.Dirty).length : Int) : Int)), .fact 35 (Fact.rep [] (s4 : Int)), .fact 100018 (Fact.at 18 (Fact.rep [] (a1.Stripe : Int))), .fact 100019 (Fact.at 19 (Fact.rep [0] (a1.Blocks : List (List UInt8)))), .fact 100020 (Fact.at 20 (Fact.rep [0] (a1.Dirty : List Bool))), .fact 100021 (Fact.at 21 (Fact.rep [] (a1.Phase : UInt8))), .fact 100022 (Fact.at 22 (Fact.rep [] (a1.Deals : Bool))), .fact 100023 (Fact.at 23 (Fact.rep [] (a1.Seq : UInt32))), .fact 100025 (Fact.at 25 (Fact.rep [] ((0 : Int) : Int))), .fact 100026 (Fact.at 26 (Fact.nilv)), .fact 100027 (Fact.at 27 (Fact.nilv)), .fact 100028 (Fact.at 28 (Fact.nilv)), .fact 100032 (Fact.at 32 (Fact.rep [] (a1.Stripe : Int))), .fact 100033 (Fact.at 33 (Fact.ow [37] [] 3 (j8 : List Int))), .fact 100034 (Fact.at 34 (Fact.ow [40] [38, 39] 31 (j9 : List (List UInt8)))), .fact 100035 (Fact.at 35 (Fact.ow [30] [] 5 (x3 : List UInt8))), .fact 100017 (Fact.obj 17 [(false, 1), (false, 1), (false, 1), (false, 1), (false, 1), (false, 1)]), .fact 100024 (Fact.obj 24 [(false, 1), (false, 1), (false, 1), (false, 1)]), .fact 100031 (Fact.obj 31 [(false, 1), (false, 1), (false, 1), (false, 1)])] _ _
      refine CWalk.region ?_
      refine wo (Spec.addI (Has.s rfl) Has.int) ?_
      refine mv ?_
      refine Walk.nil ?_
      exact Leaf.next hm (sn (sn (sn (su (st (st (sf (sm (sm (sf (sf (sf (sf (sg (sg (sg (sf (Sub.cons (Has.at (HasG.cv (HasG.s rfl) (Cv.owF (T := [37]) (te := []) rfl))) (Sub.cons (Has.at (HasG.cv (HasG.s rfl) (Cv.owM (T := [40]) (te := [38, 39]) rfl rfl))) (Sub.cons (Has.at (HasG.cv (HasG.s rfl) (Cv.owF (T := [30]) (te := []) rfl))) (sn (sn (sn Sub.nil)))))))))))))))))))))))
     ·refine CWalk.block ?_
      refine CWalk.seq ?_
      refine CWalk.region ?_
      refine mv ?_
      obtain ⟨x10, hx10, hm⟩ := bind_some hm
      refine wo (Spec.indexAddr hx10 sl26 (Has.s rfl) (Has.s rfl)) ?_
      refine wo ((Spec.load ty4 (Has.s rfl)).flat (T' := [])) ?_
      refine wo (Spec.assign (Has.s rfl)) ?_
      refine wo (Spec.assign (Has.s rfl)) ?_
      refine Walk.nil ?_
      refine Leaf.thenN ?_
      refine CWalk.seq ?_
      refine CWalk.region ?_
      refine mv ?_
      refine Walk.nil ?_
      refine Leaf.thenN ?_
      refine CWalk.cond rfl (fun hb => ?_) (fun hb => ?_)
      ·have hm := cond_t hb hm
       obtain ⟨x11, hx11, hm⟩ := bind_some hm
       obtain ⟨x12, hx12, hm⟩ := bind_some hm
       obtain ⟨x13, hx13, hm⟩ := bind_some hm
       obtain ⟨x14, hx14, hm⟩ := bind_some hm
       refine CWalk.drawM [[], [0], [], [2], [0, 1, 2, 3], [], [5], [], [7], [], [7, 8, 9], [7, 8, 9, 10], [0, 1, 2, 3, 4, 7, 8, 9, 10, 11], [0, 1, 2, 3, 4, 7, 8, 9, 10, 11, 12], [0, 1, 2, 3, 4, 5, 6, 7, 8, 9, 10, 11, 12, 13], [0, 1, 2, 3, 4, 5, 6], [0, 1, 2, 3, 4, 5, 6, 7, 8, 9, 10, 11, 12, 13, 14, 15], [0, 1, 2, 3, 4, 5, 6, 7, 8, 9, 10, 11, 12, 13, 14, 15, 16], [0, 1, 2, 3, 4, 5, 6, 7, 8, 9, 10, 11, 12, 13, 14, 15, 16, 17]] [[.fact 41 (Fact.pto 31 1)], [.fact 42 (Fact.ow [37] [] 3 (s5 : List Int))], [.fact 43 (Fact.rep [] (s4 : Int))], [.fact 44 (Fact.rep [36] ([s4] : List Int))], [.fact 45 (Fact.ow [37] [] 3 (x11 : List Int)), .kill 37], [.fact 46 (Fact.pto 31 2)], [.fact 47 (Fact.ow [40] [38, 39] 31 (s6 : List (List UInt8)))], [.fact 48 (Fact.pto 17 1)], [.fact 49 (Fact.rep [0] (a1.Blocks : List (List UInt8)))], [.fact 50 (Fact.rep [] (s4 : Int))], [.fact 51 (Fact.ptr [0] (x12 : List UInt8))], [.fact 52 (Fact.rep [0] (x12 : List UInt8))], [.fact 53 (Fact.ow [38] [] 5 (x13 : List UInt8))], [.fact 54 (Fact.rep [39, 38] ([x13] : List (List UInt8)))], [.fact 55 (Fact.ow [40] [38, 39] 31 (x14 : List (List UInt8))), .kill 40], [.fact 56 (Fact.pto 31 1)], [.fact 100033 (Fact.at 33 (Fact.ow [37] [] 3 (x11 : List Int))), .fact 100031 (Fact.obj 31 [(false, 1), (false, 1), (false, 1), (false, 1)]), .kill 31, .killId 33], [.fact 57 (Fact.pto 31 2)], [.fact 100034 (Fact.at 34 (Fact.ow [40] [38, 39] 31 (x14 : List (List UInt8)))), .fact 100031 (Fact.obj 31 [(false, 1), (false, 1), (false, 1), (false, 1)]), .kill 31, .killId 34]] mixed (by kernel_rfl) (ao (so (Spec.fieldAddrO fd39_1 (Has.cv (Has.s rfl) (Cv.isvP rfl)))) (ao (so (Spec.loadF (i := 1) ty37 rfl (Has.s rfl) rfl (HasG.s rfl))) (ao (so (Spec.move (Has.s rfl))) (ao (so (Spec.lit (xs := [.tmp 43]) (T := []) 36 rfl ow37 rfl rfl rfl rfl (HasEach.cons (Has.fl (Has.s rfl)) HasEach.nil))) (ao (StepG.stE (Step.appendOw (T := [37]) (te' := []) hx11 rfl rfl rfl ow37 (Has.s rfl) (Has.s rfl) ElKeeps.flat ElKeeps.flat)) (ao (so (Spec.fieldAddrO fd39_2 (Has.cv (Has.s rfl) (Cv.isvP rfl)))) (ao (so (Spec.loadF (i := 2) ty25 rfl (Has.s rfl) rfl (HasG.s rfl))) (ao (so (Spec.fieldAddrO fd28_1 (Has.cv (Has.s rfl) (Cv.isvP rfl)))) (ao (so (Spec.loadF (i := 1) ty25 rfl (Has.s rfl) rfl (HasG.s rfl))) (ao (so (Spec.move (Has.s rfl))) (ao (so (Spec.indexAddr hx12 sl25 (Has.s rfl) (Has.s rfl))) (ao (so (Spec.load ty31 (Has.s rfl))) (ao (so (Spec.callE [0] 38 rfl en44 (slices_Clone_byte_byte_c x12 hx13) (HasAll.cons (Has.m (Has.s rfl) rfl) HasAll.nil))) (ao (so (Spec.lit (xs := [.tmp 53]) (T := [38]) 39 rfl ow25 rfl rfl rfl rfl (HasEach.cons (Has.m (Has.cv (Has.s rfl) (Cv.trans Cv.owSl (Cv.slRep (T' := [38]) rfl rfl))) rfl) HasEach.nil))) (ao (StepG.stE (Step.appendOw (T := [40]) (te' := [38, 39]) hx14 rfl rfl rfl ow25 (Has.s rfl) (Has.s rfl) (ElKeeps.tags rfl rfl) (ElKeeps.tags rfl rfl))) (ao (so (Spec.fieldAddrO fd39_1 (Has.cv (Has.s rfl) (Cv.isvP rfl)))) (ao (StepG.stE (Step.storeF (i := 1) (f := Fact.ow [37] [] 3 (x11 : List Int)) rfl ty37 rfl (Has.s rfl) rfl (Has.cv (Has.s rfl) (Cv.trans Cv.owSl (Cv.slRep (T' := [37]) rfl rfl))) (Has.s rfl) rfl)) (ao (so (Spec.fieldAddrO fd39_2 (Has.cv (Has.s rfl) (Cv.isvP rfl)))) (ao (StepG.stE (Step.storeF (i := 2) (f := Fact.ow [40] [38, 39] 31 (x14 : List (List UInt8))) rfl ty25 rfl (Has.s rfl) rfl (Has.cv (Has.s rfl) (Cv.trans Cv.owSl (Cv.slRep (T' := [38, 39, 40]) rfl rfl))) (Has.s rfl) rfl)) AllM.nil))))))))))))))))))) ?_
       refine Leaf.blockN ?_
       exact Leaf.join (x11, x14) hm (sn (sn (sn (su (st (st (sf (sm (sm (sf (sf (sf (sf (sg (sg (sg (sf (Sub.cons (Has.at (HasG.cv (HasG.s rfl) (Cv.owF (T := [37]) (te := []) rfl))) (Sub.cons (Has.at (HasG.cv (HasG.s rfl) (Cv.owM (T := [40]) (te := [38, 39]) rfl rfl))) (Sub.cons (Has.at (HasG.cv (HasG.s rfl) (Cv.owF (T := [30]) (te := []) rfl))) (sn (sn (sn Sub.nil)))))))))))))))))))))))
      ·have hm := cond_f hb hm
       refine CWalk.skip ?_
       refine Leaf.blockN ?_
       exact Leaf.join (s5, s6) hm (sn (sn (sn (su (st (st (sf (sm (sm (sf (sf (sf (sf (sg (sg (sg (sf (Sub.cons (Has.at (HasG.cv (HasG.s rfl) (Cv.owF (T := [37]) (te := []) rfl))) (Sub.cons (Has.at (HasG.cv (HasG.s rfl) (Cv.owM (T := [40]) (te := [38, 39]) rfl rfl))) (Sub.cons (Has.at (HasG.cv (HasG.s rfl) (Cv.owF (T := [30]) (te := []) rfl))) (sn (sn (sn Sub.nil)))))))))))))))))))))))
    ·have hm := cond_f hb hm
     refine CWalk.exit ?_
     refine Leaf.thenE ?_
     exact Leaf.brk hm (fun h => nomatch h) rfl (sn (sn (sf (sg (sg (sg (sf (Sub.cons (Has.at (HasG.cv (HasG.s rfl) (Cv.owF (T := [37]) (te := []) rfl))) (Sub.cons (Has.at (HasG.cv (HasG.s rfl) (Cv.owM (T := [40]) (te := [38, 39]) rfl rfl))) (Sub.cons (Has.at (HasG.cv (HasG.s rfl) (Cv.owF (T := [30]) (te := []) rfl))) (sn (sn Sub.nil))))))))))))
   ·intro _
    refine Leaf.blockE ?_
    refine Leaf.thenN ?_
    refine CWalk.seq ?_
    refine CWalk.region ?_
    refine wo (Spec.loadObj (ls := [(false, 1, Fact.rep [] (a1.Stripe : Int)), (false, 1, Fact.ow [37] [] 3 (b15.1 : List Int)), (false, 1, Fact.ow [40] [38, 39] 31 (b15.2 : List (List UInt8))), (false, 1, Fact.ow [30] [] 5 (x3 : List UInt8))]) ty39 rfl rfl (Has.s rfl) rfl (HasGs.cons (HasG.s rfl) (HasGs.cons (HasG.s rfl) (HasGs.cons (HasG.s rfl) (HasGs.cons (HasG.s rfl) HasGs.nil))))) ?_
    refine ws (Step.storeObj (ls := [(false, 1, Fact.rep [] (a1.Stripe : Int)), (false, 1, Fact.ow [37] [] 3 (b15.1 : List Int)), (false, 1, Fact.ow [40] [38, 39] 31 (b15.2 : List (List UInt8))), (false, 1, Fact.ow [30] [] 5 (x3 : List UInt8))]) rfl ty39 rfl rfl (Has.s rfl) rfl (HasL.flds (Has.s rfl)) rfl) ?_
    refine wo (Spec.assign Has.int) ?_
    refine Walk.nil ?_
    refine Leaf.thenN ?_
    refine CWalk.ret ?_
    obtain rfl := Option.some.inj hm
    exact Leaf.retC2 rfl (HasR.cv (HasR.obj (ls := [(false, 1, Fact.rep [] (a1.Stripe : Int)), (false, 1, Fact.ow [37] [] 3 (b15.1 : List Int)), (false, 1, Fact.ow [40] [38, 39] 31 (b15.2 : List (List UInt8))), (false, 1, Fact.ow [30] [] 5 (x3 : List UInt8))]) ty39 rfl rfl (Has.s rfl) rfl (HasGs.cons (HasG.s rfl) (HasGs.cons (HasG.s rfl) (HasGs.cons (HasG.s rfl) (HasGs.cons (HasG.s rfl) HasGs.nil))))) (Cv.flds (CvL.cons Cv.fl (CvL.cons (Cv.owF (T := [37]) (te := []) rfl) (CvL.cons (Cv.owM (T := [40]) (te := [38, 39]) rfl rfl) (CvL.cons (Cv.owF (T := [30]) (te := []) rfl) CvL.nil)))))) (HasR.cv (HasR.tmp (Has.s rfl)) Cv.fl)

def ref16_Dealt_J2 (s3 : Int) (j7 : List Int) (j8 : List (List UInt8)) : Option (Ctl (Int × (List Int) × (List (List UInt8))) ((List Int) × (List (List UInt8)))) :=
  some (Ctl.next ((wI (s3 + (1 : Int))), j7, j8))
def ref16_Dealt_L1 (a0 : Config) (a1 : Head) (s3 : Int) (s4 : List Int) (s5 : List (List UInt8)) : Option (Ctl (Int × (List Int) × (List (List UInt8))) ((List Int) × (List (List UInt8)))) :=
  (bif (decide (s3 < (wI (a0.Members - (1 : Int))))) then Option.bind (idx a1.Dirty s3) (fun x9 => (bif x9 then Option.bind (app s4 ([s3])) (fun x10 => Option.bind (idx a1.Blocks s3) (fun x11 => Option.bind (ref04_Full x11) (fun x12 => Option.bind (app s5 ([x12])) (fun x13 => (ref16_Dealt_J2 s3 x10 x13))))) else (ref16_Dealt_J2 s3 s4 s5))) else some (Ctl.brk (s4, s5)))
/-- freeboard/freeboardref16.Dealt -/
def ref16_Dealt (a0 : Config) (a1 : Head) : Option (Deal) :=
  Option.bind (idx a1.Blocks (wI (a0.Members - (1 : Int)))) (fun x1 => Option.bind (ref04_Full x1) (fun x2 => Option.bind (loopM (fun s : Int × (List Int) × (List (List UInt8)) => ref16_Dealt_L1 a0 a1 s.1 s.2.1 s.2.2) FUEL ((0 : Int), ([] : List Int), ([] : List (List UInt8)))) (fun b14 => some (Deal.mk a1.Stripe b14.1 b14.2 x2))))
set_option maxRecDepth 100000 in
set_option maxHeartbeats 2000000 in
theorem ref16_Dealt_c (a0 : Config) (a1 : Head) {r : Deal} (hm : ref16_Dealt a0 a1 = some r) : Ctr Try.prog 47 [.rep 0 a0, .rep 0 a1] (.flds [(false, 1, (.fl r.Stripe)), (false, 1, (.own 0 none 3 r.Slots)), (false, 1, (.own 1 (some 2) 31 r.Blocks)), (false, 1, (.own 3 none 5 r.Parity))]) [] := by
 refine ctr_of_walk [[36], [39], [37, 38], [29]] 48 Try.func47 rfl rfl rfl rfl (fun w0 om => ?_)
 unfold ref16_Dealt at hm
 refine CWalk.sub (G' := [.fact 0 (Fact.rep [] (a0 : Config)), .fact 1 (Fact.rep [0] (a1 : Head))]) (Sub.cons (Has.fl (Has.s rfl)) (sn Sub.nil)) ?_
 refine CWalk.seq ?_
 refine CWalk.region ?_
 refine ws (Step.boxObj (ls := [(false, 1, Fact.rep [] (a0.Id : UInt32)), (false, 1, Fact.rep [] (a0.Members : Int)), (false, 1, Fact.rep [] (a0.Chunk : Int)), (false, 1, Fact.rep [] (a0.Rows : Int)), (false, 1, Fact.rep [] (a0.Log : Int)), (false, 1, Fact.rep [] (a0.Heads : Int))]) 10 rfl rfl rfl rfl (HasL.flds (Has.cv (Has.s rfl) (Cv.trans (Cv.opens (chConfig a0)) (Cv.flds (CvL.cons Cv.fl (CvL.cons Cv.fl (CvL.cons Cv.fl (CvL.cons Cv.fl (CvL.cons Cv.fl (CvL.cons Cv.fl CvL.nil))))))))))) ?_
 refine ws (Step.boxObj (ls := [(false, 1, Fact.rep [] (a1.Stripe : Int)), (false, 1, Fact.rep [0] (a1.Blocks : List (List UInt8))), (false, 1, Fact.rep [0] (a1.Dirty : List Bool)), (false, 1, Fact.rep [] (a1.Phase : UInt8)), (false, 1, Fact.rep [] (a1.Deals : Bool)), (false, 1, Fact.rep [] (a1.Seq : UInt32))]) 17 rfl rfl rfl rfl (HasL.flds (Has.cv (Has.s rfl) (Cv.trans (Cv.opens (chHead a1)) (Cv.flds (CvL.cons Cv.fl (CvL.cons Cv.refl (CvL.cons Cv.refl (CvL.cons Cv.fl (CvL.cons Cv.fl (CvL.cons Cv.fl CvL.nil))))))))))) ?_
 refine ws (Step.allocObj (ls := [(false, 1, Fact.rep [] ((0 : Int) : Int)), (false, 1, Fact.nilv), (false, 1, Fact.nilv), (false, 1, Fact.nilv)]) 24 rfl rfl rfl rfl zl39) ?_
 refine Walk.nil ?_
 refine Leaf.thenN ?_
 refine CWalk.seq ?_
 obtain ⟨x1, hx1, hm⟩ := bind_some hm
 obtain ⟨x2, hx2, hm⟩ := bind_some hm
 refine CWalk.drawM [[], [0], [], [2], [], [4], [4, 5], [2, 3, 4, 5, 6], [2, 3, 4, 5, 6, 7], [2, 3, 4, 5, 6, 7, 8], [0, 1, 2, 3, 4, 5, 6, 7, 8, 9], [], [0, 1, 2, 3, 4, 5, 6, 7, 8, 9, 10, 11]] [[.fact 7 (Fact.pto 17 0)], [.fact 8 (Fact.rep [] (a1.Stripe : Int))], [.fact 9 (Fact.pto 17 1)], [.fact 10 (Fact.rep [0] (a1.Blocks : List (List UInt8)))], [.fact 11 (Fact.pto 10 1)], [.fact 12 (Fact.rep [] (a0.Members : Int))], [.fact 13 (Fact.rep [] ((wI (a0.Members - (1 : Int))) : Int))], [.fact 14 (Fact.ptr [0] (x1 : List UInt8))], [.fact 15 (Fact.rep [0] (x1 : List UInt8))], [.fact 16 (Fact.ow [29] [] 5 (x2 : List UInt8))], [.fact 17 (Fact.flds [(false, 1, Fact.rep [] (a1.Stripe : Int)), (false, 1, Fact.nilv), (false, 1, Fact.nilv), (false, 1, Fact.ow [29] [] 5 (x2 : List UInt8))])], [.fact 5 (.isv 30), .fact 100030 (Fact.obj 30 [(false, 1), (false, 1), (false, 1), (false, 1)]), .fact 100031 (Fact.at 31 (Fact.rep [] ((0 : Int) : Int))), .fact 100032 (Fact.at 32 (Fact.nilv)), .fact 100033 (Fact.at 33 (Fact.nilv)), .fact 100034 (Fact.at 34 (Fact.nilv)), .killId 30, .killId 31, .killId 32, .killId 33, .killId 34], [.fact 100030 (Fact.obj 30 [(false, 1), (false, 1), (false, 1), (false, 1)]), .fact 100031 (Fact.at 31 (Fact.rep [] (a1.Stripe : Int))), .fact 100032 (Fact.at 32 (Fact.nilv)), .fact 100033 (Fact.at 33 (Fact.nilv)), .fact 100034 (Fact.at 34 (Fact.ow [29] [] 5 (x2 : List UInt8))), .kill 30, .killId 31, .killId 32, .killId 33, .killId 34]] mixed (by kernel_rfl) (ao (so (Spec.fieldAddrO fd28_0 (Has.cv (Has.s rfl) (Cv.isvP rfl)))) (ao (so (Spec.loadF (i := 0) ty3 rfl (Has.s rfl) rfl (HasG.s rfl))) (ao (so (Spec.fieldAddrO fd28_1 (Has.cv (Has.s rfl) (Cv.isvP rfl)))) (ao (so (Spec.loadF (i := 1) ty25 rfl (Has.s rfl) rfl (HasG.s rfl))) (ao (so (Spec.fieldAddrO fd24_1 (Has.cv (Has.s rfl) (Cv.isvP rfl)))) (ao (so (Spec.loadF (i := 1) ty3 rfl (Has.s rfl) rfl (HasG.s rfl))) (ao (so (Spec.subI (Has.s rfl) Has.int)) (ao (so (Spec.indexAddr hx1 sl25 (Has.s rfl) (Has.s rfl))) (ao (so (Spec.load ty31 (Has.s rfl))) (ao (so (Spec.callE [0] 29 rfl en46 (ref04_Full_c x1 hx2) (HasAll.cons (Has.m (Has.s rfl) rfl) HasAll.nil))) (ao (so (Spec.build (us := [(0, .tmp 8), (3, .tmp 16)]) (ls' := [(false, 1, Fact.rep [] (a1.Stripe : Int)), (false, 1, Fact.nilv), (false, 1, Fact.nilv), (false, 1, Fact.ow [29] [] 5 (x2 : List UInt8))]) bd39 rfl (BP.cons rfl rfl (Has.s rfl) (Has.s rfl) (BP.cons rfl rfl (Has.cv (Has.s rfl) (Cv.trans Cv.owSl (Cv.slRep (T' := [29]) rfl rfl))) (Has.s rfl) BP.nil)))) (ao (StepG.stE (Step.allocObj (ls := [(false, 1, Fact.rep [] ((0 : Int) : Int)), (false, 1, Fact.nilv), (false, 1, Fact.nilv), (false, 1, Fact.nilv)]) 30 rfl rfl rfl rfl zl39)) (ao (StepG.stE (Step.storeObj (ls := [(false, 1, Fact.rep [] (a1.Stripe : Int)), (false, 1, Fact.nilv), (false, 1, Fact.nilv), (false, 1, Fact.ow [29] [] 5 (x2 : List UInt8))]) rfl ty39 rfl rfl (Has.s rfl) rfl (HasL.flds (Has.s rfl)) rfl)) AllM.nil))))))))))))) ?_
 refine Leaf.thenN ?_
 refine CWalk.seq ?_
 refine CWalk.seq ?_
 refine CWalk.region ?_
 refine wo (Spec.assign Has.int) ?_
 refine Walk.nil ?_
 refine Leaf.thenN ?_
 refine CWalk.block ?_
 obtain ⟨b14, hb14, hm⟩ := bind_some hm
 refine CWalk.loop (fun s : Int × (List Int) × (List (List UInt8)) => [.fact 2 (Fact.isv 10), .fact 3 (Fact.isv 17), .fact 4 (Fact.isv 24), .fact 5 (Fact.isv 30), .fact 6 (Fact.rep [] (s.1 : Int)), .fact 100011 (Fact.at 11 (Fact.rep [] (a0.Id : UInt32))), .fact 100012 (Fact.at 12 (Fact.rep [] (a0.Members : Int))), .fact 100013 (Fact.at 13 (Fact.rep [] (a0.Chunk : Int))), .fact 100014 (Fact.at 14 (Fact.rep [] (a0.Rows : Int))), .fact 100015 (Fact.at 15 (Fact.rep [] (a0.Log : Int))), .fact 100016 (Fact.at 16 (Fact.rep [] (a0.Heads : Int))), .fact 100018 (Fact.at 18 (Fact.rep [] (a1.Stripe : Int))), .fact 100019 (Fact.at 19 (Fact.rep [0] (a1.Blocks : List (List UInt8)))), .fact 100020 (Fact.at 20 (Fact.rep [0] (a1.Dirty : List Bool))), .fact 100021 (Fact.at 21 (Fact.rep [] (a1.Phase : UInt8))), .fact 100022 (Fact.at 22 (Fact.rep [] (a1.Deals : Bool))), .fact 100023 (Fact.at 23 (Fact.rep [] (a1.Seq : UInt32))), .fact 100025 (Fact.at 25 (Fact.rep [] ((0 : Int) : Int))), .fact 100026 (Fact.at 26 (Fact.nilv)), .fact 100027 (Fact.at 27 (Fact.nilv)), .fact 100028 (Fact.at 28 (Fact.nilv)), .fact 100031 (Fact.at 31 (Fact.rep [] (a1.Stripe : Int))), .fact 100032 (Fact.at 32 (Fact.ow [36] [] 3 (s.2.1 : List Int))), .fact 100033 (Fact.at 33 (Fact.ow [39] [37, 38] 31 (s.2.2 : List (List UInt8)))), .fact 100034 (Fact.at 34 (Fact.ow [29] [] 5 (x2 : List UInt8))), .fact 100010 (Fact.obj 10 [(false, 1), (false, 1), (false, 1), (false, 1), (false, 1), (false, 1)]), .fact 100017 (Fact.obj 17 [(false, 1), (false, 1), (false, 1), (false, 1), (false, 1), (false, 1)]), .fact 100024 (Fact.obj 24 [(false, 1), (false, 1), (false, 1), (false, 1)]), .fact 100030 (Fact.obj 30 [(false, 1), (false, 1), (false, 1), (false, 1)])]) (fun b : (List Int) × (List (List UInt8)) => (Exit.exit 0, [.fact 4 (Fact.isv 24), .fact 5 (Fact.isv 30), .fact 100025 (Fact.at 25 (Fact.rep [] ((0 : Int) : Int))), .fact 100026 (Fact.at 26 (Fact.nilv)), .fact 100027 (Fact.at 27 (Fact.nilv)), .fact 100028 (Fact.at 28 (Fact.nilv)), .fact 100031 (Fact.at 31 (Fact.rep [] (a1.Stripe : Int))), .fact 100032 (Fact.at 32 (Fact.ow [36] [] 3 (b.1 : List Int))), .fact 100033 (Fact.at 33 (Fact.ow [39] [37, 38] 31 (b.2 : List (List UInt8)))), .fact 100034 (Fact.at 34 (Fact.ow [29] [] 5 (x2 : List UInt8))), .fact 100024 (Fact.obj 24 [(false, 1), (false, 1), (false, 1), (false, 1)]), .fact 100030 (Fact.obj 30 [(false, 1), (false, 1), (false, 1), (false, 1)])])) hb14 (sn (sn (sn (sn (st (sf (sf (sf (sf (sf (sf (sf (sm (sm (sf (sf (sf (sf (sg (sg (sg (sf (Sub.cons (Has.at (HasG.cv (HasG.s rfl) (Cv.trans Cv.nilOw (Cv.owF (T := []) (te := []) rfl)))) (Sub.cons (Has.at (HasG.cv (HasG.s rfl) (Cv.trans Cv.nilOw (Cv.owM (T := []) (te := []) rfl rfl)))) (Sub.cons (Has.at (HasG.cv (HasG.s rfl) (Cv.owF (T := [29]) (te := []) rfl))) (sn (sn (sn (sn Sub.nil))))))))))))))))))))))))))))) ?_ ?_
 ·rintro ⟨s3, s4, s5⟩ c6 hm
  replace hm : ref16_Dealt_L1 a0 a1 s3 s4 s5 = some c6 := hm
  unfold ref16_Dealt_L1 at hm
  show CWalk _ [.fact 2 (Fact.isv 10), .fact 3 (Fact.isv 17), .fact 4 (Fact.isv 24), .fact 5 (Fact.isv 30), .fact 6 (Fact.rep [] (s3 : Int)), .fact 100011 (Fact.at 11 (Fact.rep [] (a0.Id : UInt32))), .fact 100012 (Fact.at 12 (Fact.rep [] (a0.Members : Int))), .fact 100013 (Fact.at 13 (Fact.rep [] (a0.Chunk : Int))), .fact 100014 (Fact.at 14 (Fact.rep [] (a0.Rows : Int))), .fact 100015 (Fact.at 15 (Fact.rep [] (a0.Log : Int))), .fact 100016 (Fact.at 16 (Fact.rep [] (a0.Heads : Int))), .fact 100018 (Fact.at 18 (Fact.rep [] (a1.Stripe : Int))), .fact 100019 (Fact.at 19 (Fact.rep [0] (a1.Blocks : List (List UInt8)))), .fact 100020 (Fact.at 20 (Fact.rep [0] (a1.Dirty : List Bool))), .fact 100021 (Fact.at 21 (Fact.rep [] (a1.Phase : UInt8))), .fact 100022 (Fact.at 22 (Fact.rep [] (a1.Deals : Bool))), .fact 100023 (Fact.at 23 (Fact.rep [] (a1.Seq : UInt32))), .fact 100025 (Fact.at 25 (Fact.rep [] ((0 : Int) : Int))), .fact 100026 (Fact.at 26 (Fact.nilv)), .fact 100027 (Fact.at 27 (Fact.nilv)), .fact 100028 (Fact.at 28 (Fact.nilv)), .fact 100031 (Fact.at 31 (Fact.rep [] (a1.Stripe : Int))), .fact 100032 (Fact.at 32 (Fact.ow [36] [] 3 (s4 : List Int))), .fact 100033 (Fact.at 33 (Fact.ow [39] [37, 38] 31 (s5 : List (List UInt8)))), .fact 100034 (Fact.at 34 (Fact.ow [29] [] 5 (x2 : List UInt8))), .fact 100010 (Fact.obj 10 [(false, 1), (false, 1), (false, 1), (false, 1), (false, 1), (false, 1)]), .fact 100017 (Fact.obj 17 [(false, 1), (false, 1), (false, 1), (false, 1), (false, 1), (false, 1)]), .fact 100024 (Fact.obj 24 [(false, 1), (false, 1), (false, 1), (false, 1)]), .fact 100030 (Fact.obj 30 [(false, 1), (false, 1), (false, 1), (false, 1)])] _ _
  refine CWalk.seq ?_
  refine CWalk.seq ?_
  refine CWalk.region ?_
  refine mv ?_
  refine wo (Spec.fieldAddrO fd24_1 (Has.cv (Has.s rfl) (Cv.isvP rfl))) ?_
  refine wo (Spec.loadF (i := 1) ty3 rfl (Has.s rfl) rfl (HasG.s rfl)) ?_
  refine wo (Spec.subI (Has.s rfl) Has.int) ?_
  refine wo (Spec.lssI (Has.s rfl) (Has.s rfl)) ?_
  refine Walk.nil ?_
  refine Leaf.thenN ?_
  refine CWalk.cond rfl (fun hb => ?_) (fun hb => ?_)
  ·have hm := cond_t hb hm
   refine CWalk.skip ?_
   refine Leaf.thenN ?_
   refine CWalk.seqJ (fun p : (List Int) × (List (List UInt8)) => [.fact 2 (Fact.isv 10), .fact 3 (Fact.isv 17), .fact 4 (Fact.isv 24), .fact 5 (Fact.isv 30), .fact 6 (Fact.rep [] (s3 : Int)), .fact 100011 (Fact.at 11 (Fact.rep [] (a0.Id : UInt32))), .fact 100012 (Fact.at 12 (Fact.rep [] (a0.Members : Int))), .fact 100013 (Fact.at 13 (Fact.rep [] (a0.Chunk : Int))), .fact 100014 (Fact.at 14 (Fact.rep [] (a0.Rows : Int))), .fact 100015 (Fact.at 15 (Fact.rep [] (a0.Log : Int))), .fact 100016 (Fact.at 16 (Fact.rep [] (a0.Heads : Int))), .fact 100018 (Fact.at 18 (Fact.rep [] (a1.Stripe : Int))), .fact 100019 (Fact.at 19 (Fact.rep [0] (a1.Blocks : List (List UInt8)))), .fact 100020 (Fact.at 20 (Fact.rep [0] (a1.Dirty : List Bool))), .fact 100021 (Fact.at 21 (Fact.rep [] (a1.Phase : UInt8))), .fact 100022 (Fact.at 22 (Fact.rep [] (a1.Deals : Bool))), .fact 100023 (Fact.at 23 (Fact.rep [] (a1.Seq : UInt32))), .fact 100025 (Fact.at 25 (Fact.rep [] ((0 : Int) : Int))), .fact 100026 (Fact.at 26 (Fact.nilv)), .fact 100027 (Fact.at 27 (Fact.nilv)), .fact 100028 (Fact.at 28 (Fact.nilv)), .fact 100031 (Fact.at 31 (Fact.rep [] (a1.Stripe : Int))), .fact 100032 (Fact.at 32 (Fact.ow [36] [] 3 (p.1 : List Int))), .fact 100033 (Fact.at 33 (Fact.ow [39] [37, 38] 31 (p.2 : List (List UInt8)))), .fact 100034 (Fact.at 34 (Fact.ow [29] [] 5 (x2 : List UInt8))), .fact 100010 (Fact.obj 10 [(false, 1), (false, 1), (false, 1), (false, 1), (false, 1), (false, 1)]), .fact 100017 (Fact.obj 17 [(false, 1), (false, 1), (false, 1), (false, 1), (false, 1), (false, 1)]), .fact 100024 (Fact.obj 24 [(false, 1), (false, 1), (false, 1), (false, 1)]), .fact 100030 (Fact.obj 30 [(false, 1), (false, 1), (false, 1), (false, 1)])]) (fun p : (List Int) × (List (List UInt8)) => ref16_Dealt_J2 s3 p.1 p.2 = some c6) ?_ ?_
   ·rintro ⟨j7, j8⟩ hm
    replace hm : ref16_Dealt_J2 s3 j7 j8 = some c6 := hm
    unfold ref16_Dealt_J2 at hm
    show CWalk _ [.fact 2 (Fact.isv 10), .fact 3 (Fact.isv 17), .fact 4 (Fact.isv 24), .fact 5 (Fact.isv 30), .fact 6 (Fact.rep [] (s3 : Int)), .fact 100011 (Fact.at 11 (Fact.rep [] (a0.Id : UInt32))), .fact 100012 (Fact.at 12 (Fact.rep [] (a0.Members : Int))), .fact 100013 (Fact.at 13 (Fact.rep [] (a0.Chunk : Int))), .fact 100014 (Fact.at 14 (Fact.rep [] (a0.Rows : Int))), .fact 100015 (Fact.at 15 (Fact.rep [] (a0.Log : Int))), .fact 100016 (Fact.at 16 (Fact.rep [] (a0.Heads : Int))), .fact 100018 (Fact.at 18 (Fact.rep [] (a1.Stripe : Int))), .fact 100019 (Fact.at 19 (Fact.rep [0] (a1.Blocks : List (List UInt8)))), .fact 100020 (Fact.at 20 (Fact.rep [0] (a1.Dirty : List Bool))), .fact 100021 (Fact.at 21 (Fact.rep [] (a1.Phase : UInt8))), .fact 100022 (Fact.at 22 (Fact.rep [] (a1.Deals : Bool))), .fact 100023 (Fact.at 23 (Fact.rep [] (a1.Seq : UInt32))), .fact 100025 (Fact.at 25 (Fact.rep [] ((0 : Int) : Int))), .fact 100026 (Fact.at 26 (Fact.nilv)), .fact 100027 (Fact.at 27 (Fact.nilv)), .fact 100028 (Fact.at 28 (Fact.nilv)), .fact 100031 (Fact.at 31 (Fact.rep [] (a1.Stripe : Int))), .fact 100032 (Fact.at 32 (Fact.ow [36] [] 3 (j7 : List Int))), .fact 100033 (Fact.at 33 (Fact.ow [39] [37, 38] 31 (j8 : List (List UInt8)))), .fact 100034 (Fact.at 34 (Fact.ow [29] [] 5 (x2 : List UInt8))), .fact 100010 (Fact.obj 10 [(false, 1), (false, 1), (false, 1), (false, 1), (false, 1), (false, 1)]), .fact 100017 (Fact.obj 17 [(false, 1), (false, 1), (false, 1), (false, 1), (false, 1), (false, 1)]), .fact 100024 (Fact.obj 24 [(false, 1), (false, 1), (false, 1), (false, 1)]), .fact 100030 (Fact.obj 30 [(false, 1), (false, 1), (false, 1), (false, 1)])] _ _
    refine CWalk.region ?_
    refine mv ?_
    refine wo (Spec.addI (Has.s rfl) Has.int) ?_
    refine wo (Spec.assign (Has.s rfl)) ?_
    refine Walk.nil ?_
    exact Leaf.next hm (sn (sn (sn (sn (st (sf (sf (sf (sf (sf (sf (sf (sm (sm (sf (sf (sf (sf (sg (sg (sg (sf (Sub.cons (Has.at (HasG.cv (HasG.s rfl) (Cv.owF (T := [36]) (te := []) rfl))) (Sub.cons (Has.at (HasG.cv (HasG.s rfl) (Cv.owM (T := [39]) (te := [37, 38]) rfl rfl))) (Sub.cons (Has.at (HasG.cv (HasG.s rfl) (Cv.owF (T := [29]) (te := []) rfl))) (sn (sn (sn (sn Sub.nil)))))))))))))))))))))))))))))
   ·refine CWalk.block ?_
    refine CWalk.seq ?_
    refine CWalk.region ?_
    refine wo (Spec.fieldAddrO fd28_2 (Has.cv (Has.s rfl) (Cv.isvP rfl))) ?_
    refine wo (Spec.loadF (i := 2) ty26 rfl (Has.s rfl) rfl (HasG.s rfl)) ?_
    refine mv ?_
    obtain ⟨x9, hx9, hm⟩ := bind_some hm
    refine wo (Spec.indexAddr hx9 sl26 (Has.s rfl) (Has.s rfl)) ?_
    refine wo ((Spec.load ty4 (Has.s rfl)).flat (T' := [])) ?_
    refine Walk.nil ?_
    refine Leaf.thenN ?_
    refine CWalk.cond rfl (fun hb => ?_) (fun hb => ?_)
    ·have hm := cond_t hb hm
     refine CWalk.seq ?_
     refine CWalk.region ?_
     refine wo (Spec.fieldAddrO fd39_1 (Has.cv (Has.s rfl) (Cv.isvP rfl))) ?_
     refine wo (Spec.loadF (i := 1) ty37 rfl (Has.s rfl) rfl (HasG.s rfl)) ?_
     refine mv ?_
     refine wo (Spec.lit (xs := [.tmp 32]) (T := []) 35 rfl ow37 rfl rfl rfl rfl (HasEach.cons (Has.fl (Has.s rfl)) HasEach.nil)) ?_
     obtain ⟨x10, hx10, hm⟩ := bind_some hm
     refine ws (Step.appendOw (T := [36]) (te' := []) hx10 rfl rfl rfl ow37 (Has.s rfl) (Has.s rfl) ElKeeps.flat ElKeeps.flat) ?_
     refine wo (Spec.fieldAddrO fd39_1 (Has.cv (Has.s rfl) (Cv.isvP rfl))) ?_
     refine ws (Step.storeF (i := 1) (f := Fact.ow [36] [] 3 (x10 : List Int)) rfl ty37 rfl (Has.s rfl) rfl (Has.cv (Has.s rfl) (Cv.trans Cv.owSl (Cv.slRep (T' := [36]) rfl rfl))) (Has.s rfl) rfl) ?_
     refine Walk.nil ?_
     refine Leaf.thenN ?_
     obtain ⟨x11, hx11, hm⟩ := bind_some hm
     obtain ⟨x12, hx12, hm⟩ := bind_some hm
     obtain ⟨x13, hx13, hm⟩ := bind_some hm
     refine CWalk.drawM [[], [0], [], [2], [], [2, 3, 4], [2, 3, 4, 5], [2, 3, 4, 5, 6], [2, 3, 4, 5, 6, 7], [0, 1, 2, 3, 4, 5, 6, 7, 8], [0, 1, 2, 3, 4, 5, 6, 7, 8, 9], [0, 1, 2, 3, 4, 5, 6, 7, 8, 9, 10]] [[.fact 36 (Fact.pto 30 2)], [.fact 37 (Fact.ow [39] [37, 38] 31 (s5 : List (List UInt8)))], [.fact 38 (Fact.pto 17 1)], [.fact 39 (Fact.rep [0] (a1.Blocks : List (List UInt8)))], [.fact 40 (Fact.rep [] (s3 : Int))], [.fact 41 (Fact.ptr [0] (x11 : List UInt8))], [.fact 42 (Fact.rep [0] (x11 : List UInt8))], [.fact 43 (Fact.ow [37] [] 5 (x12 : List UInt8))], [.fact 44 (Fact.rep [38, 37] ([x12] : List (List UInt8)))], [.fact 45 (Fact.ow [39] [37, 38] 31 (x13 : List (List UInt8))), .kill 39], [.fact 46 (Fact.pto 30 2)], [.fact 100033 (Fact.at 33 (Fact.ow [39] [37, 38] 31 (x13 : List (List UInt8)))), .fact 100030 (Fact.obj 30 [(false, 1), (false, 1), (false, 1), (false, 1)]), .kill 30, .killId 33]] mixed (by kernel_rfl) (ao (so (Spec.fieldAddrO fd39_2 (Has.cv (Has.s rfl) (Cv.isvP rfl)))) (ao (so (Spec.loadF (i := 2) ty25 rfl (Has.s rfl) rfl (HasG.s rfl))) (ao (so (Spec.fieldAddrO fd28_1 (Has.cv (Has.s rfl) (Cv.isvP rfl)))) (ao (so (Spec.loadF (i := 1) ty25 rfl (Has.s rfl) rfl (HasG.s rfl))) (ao (so (Spec.move (Has.s rfl))) (ao (so (Spec.indexAddr hx11 sl25 (Has.s rfl) (Has.s rfl))) (ao (so (Spec.load ty31 (Has.s rfl))) (ao (so (Spec.callE [0] 37 rfl en46 (ref04_Full_c x11 hx12) (HasAll.cons (Has.m (Has.s rfl) rfl) HasAll.nil))) (ao (so (Spec.lit (xs := [.tmp 43]) (T := [37]) 38 rfl ow25 rfl rfl rfl rfl (HasEach.cons (Has.m (Has.cv (Has.s rfl) (Cv.trans Cv.owSl (Cv.slRep (T' := [37]) rfl rfl))) rfl) HasEach.nil))) (ao (StepG.stE (Step.appendOw (T := [39]) (te' := [37, 38]) hx13 rfl rfl rfl ow25 (Has.s rfl) (Has.s rfl) (ElKeeps.tags rfl rfl) (ElKeeps.tags rfl rfl))) (ao (so (Spec.fieldAddrO fd39_2 (Has.cv (Has.s rfl) (Cv.isvP rfl)))) (ao (StepG.stE (Step.storeF (i := 2) (f := Fact.ow [39] [37, 38] 31 (x13 : List (List UInt8))) rfl ty25 rfl (Has.s rfl) rfl (Has.cv (Has.s rfl) (Cv.trans Cv.owSl (Cv.slRep (T' := [37, 38, 39]) rfl rfl))) (Has.s rfl) rfl)) AllM.nil)))))))))))) ?_
     refine Leaf.blockN ?_
     exact Leaf.join (x10, x13) hm (sn (sn (sn (sn (st (sf (sf (sf (sf (sf (sf (sf (sm (sm (sf (sf (sf (sf (sg (sg (sg (sf (Sub.cons (Has.at (HasG.cv (HasG.s rfl) (Cv.owF (T := [36]) (te := []) rfl))) (Sub.cons (Has.at (HasG.cv (HasG.s rfl) (Cv.owM (T := [39]) (te := [37, 38]) rfl rfl))) (Sub.cons (Has.at (HasG.cv (HasG.s rfl) (Cv.owF (T := [29]) (te := []) rfl))) (sn (sn (sn (sn Sub.nil)))))))))))))))))))))))))))))
    ·have hm := cond_f hb hm
     refine CWalk.skip ?_
     refine Leaf.blockN ?_
     exact Leaf.join (s4, s5) hm (sn (sn (sn (sn (st (sf (sf (sf (sf (sf (sf (sf (sm (sm (sf (sf (sf (sf (sg (sg (sg (sf (Sub.cons (Has.at (HasG.cv (HasG.s rfl) (Cv.owF (T := [36]) (te := []) rfl))) (Sub.cons (Has.at (HasG.cv (HasG.s rfl) (Cv.owM (T := [39]) (te := [37, 38]) rfl rfl))) (Sub.cons (Has.at (HasG.cv (HasG.s rfl) (Cv.owF (T := [29]) (te := []) rfl))) (sn (sn (sn (sn Sub.nil)))))))))))))))))))))))))))))
  ·have hm := cond_f hb hm
   refine CWalk.exit ?_
   refine Leaf.thenE ?_
   exact Leaf.brk hm (fun h => nomatch h) rfl (sn (sn (sf (sg (sg (sg (sf (Sub.cons (Has.at (HasG.cv (HasG.s rfl) (Cv.owF (T := [36]) (te := []) rfl))) (Sub.cons (Has.at (HasG.cv (HasG.s rfl) (Cv.owM (T := [39]) (te := [37, 38]) rfl rfl))) (Sub.cons (Has.at (HasG.cv (HasG.s rfl) (Cv.owF (T := [29]) (te := []) rfl))) (sn (sn Sub.nil))))))))))))
 ·intro _
  refine Leaf.blockE ?_
  refine Leaf.thenN ?_
  refine CWalk.seq ?_
  refine CWalk.region ?_
  refine wo (Spec.loadObj (ls := [(false, 1, Fact.rep [] (a1.Stripe : Int)), (false, 1, Fact.ow [36] [] 3 (b14.1 : List Int)), (false, 1, Fact.ow [39] [37, 38] 31 (b14.2 : List (List UInt8))), (false, 1, Fact.ow [29] [] 5 (x2 : List UInt8))]) ty39 rfl rfl (Has.s rfl) rfl (HasGs.cons (HasG.s rfl) (HasGs.cons (HasG.s rfl) (HasGs.cons (HasG.s rfl) (HasGs.cons (HasG.s rfl) HasGs.nil))))) ?_
  refine ws (Step.storeObj (ls := [(false, 1, Fact.rep [] (a1.Stripe : Int)), (false, 1, Fact.ow [36] [] 3 (b14.1 : List Int)), (false, 1, Fact.ow [39] [37, 38] 31 (b14.2 : List (List UInt8))), (false, 1, Fact.ow [29] [] 5 (x2 : List UInt8))]) rfl ty39 rfl rfl (Has.s rfl) rfl (HasL.flds (Has.s rfl)) rfl) ?_
  refine Walk.nil ?_
  refine Leaf.thenN ?_
  refine CWalk.ret ?_
  obtain rfl := Option.some.inj hm
  exact Leaf.retC1 rfl (HasR.cv (HasR.obj (ls := [(false, 1, Fact.rep [] (a1.Stripe : Int)), (false, 1, Fact.ow [36] [] 3 (b14.1 : List Int)), (false, 1, Fact.ow [39] [37, 38] 31 (b14.2 : List (List UInt8))), (false, 1, Fact.ow [29] [] 5 (x2 : List UInt8))]) ty39 rfl rfl (Has.s rfl) rfl (HasGs.cons (HasG.s rfl) (HasGs.cons (HasG.s rfl) (HasGs.cons (HasG.s rfl) (HasGs.cons (HasG.s rfl) HasGs.nil))))) (Cv.flds (CvL.cons Cv.fl (CvL.cons (Cv.owF (T := [36]) (te := []) rfl) (CvL.cons (Cv.owM (T := [39]) (te := [37, 38]) rfl rfl) (CvL.cons (Cv.owF (T := [29]) (te := []) rfl) CvL.nil))))))

def ref16_Deal_J1 (a0 : Config) (a1 : Head) (j2 : Int) : Option (Deal × Int) :=
  (bif (j2 != (0 : Int)) then some ((Deal.mk (0 : Int) ([] : List Int) ([] : List (List UInt8)) ([] : List UInt8)), j2) else Option.bind (ref16_Dealt a0 a1) (fun x3 => some (x3, (0 : Int))))
/-- freeboard/freeboardref16.Deal -/
def ref16_Deal (a0 : Config) (a1 : Head) : Option (Deal × Int) :=
  Option.bind (ref16_Check a0 a1) (fun x1 => (bif ((x1 == (0 : Int)) && (a1.Phase == (0 : UInt8))) then (ref16_Deal_J1 a0 a1 (6 : Int)) else (ref16_Deal_J1 a0 a1 x1)))
set_option maxRecDepth 100000 in
set_option maxHeartbeats 2000000 in
theorem ref16_Deal_c (a0 : Config) (a1 : Head) {r : Deal × Int} (hm : ref16_Deal a0 a1 = some r) : Ctr Try.prog 14 [.rep 0 a0, .rep 0 a1] (.tup2 (.flds [(false, 1, (.fl r.1.Stripe)), (false, 1, (.own 0 none 3 r.1.Slots)), (false, 1, (.own 1 (some 2) 31 r.1.Blocks)), (false, 1, (.own 3 none 5 r.1.Parity))]) (.fl r.2)) [] := by
 refine ctr_of_walk [[30], [31], [32], [33]] 24 Try.func14 rfl rfl rfl rfl (fun w0 om => ?_)
 unfold ref16_Deal at hm
 refine CWalk.sub (G' := [.fact 0 (Fact.rep [] (a0 : Config)), .fact 1 (Fact.rep [0] (a1 : Head))]) (Sub.cons (Has.fl (Has.s rfl)) (sn Sub.nil)) ?_
 refine CWalk.seq ?_
 refine CWalk.region ?_
 refine ws (Step.boxObj (ls := [(false, 1, Fact.rep [] (a0.Id : UInt32)), (false, 1, Fact.rep [] (a0.Members : Int)), (false, 1, Fact.rep [] (a0.Chunk : Int)), (false, 1, Fact.rep [] (a0.Rows : Int)), (false, 1, Fact.rep [] (a0.Log : Int)), (false, 1, Fact.rep [] (a0.Heads : Int))]) 10 rfl rfl rfl rfl (HasL.flds (Has.cv (Has.s rfl) (Cv.trans (Cv.opens (chConfig a0)) (Cv.flds (CvL.cons Cv.fl (CvL.cons Cv.fl (CvL.cons Cv.fl (CvL.cons Cv.fl (CvL.cons Cv.fl (CvL.cons Cv.fl CvL.nil))))))))))) ?_
 refine ws (Step.boxObj (ls := [(false, 1, Fact.rep [] (a1.Stripe : Int)), (false, 1, Fact.rep [0] (a1.Blocks : List (List UInt8))), (false, 1, Fact.rep [0] (a1.Dirty : List Bool)), (false, 1, Fact.rep [] (a1.Phase : UInt8)), (false, 1, Fact.rep [] (a1.Deals : Bool)), (false, 1, Fact.rep [] (a1.Seq : UInt32))]) 17 rfl rfl rfl rfl (HasL.flds (Has.cv (Has.s rfl) (Cv.trans (Cv.opens (chHead a1)) (Cv.flds (CvL.cons Cv.fl (CvL.cons Cv.refl (CvL.cons Cv.refl (CvL.cons Cv.fl (CvL.cons Cv.fl (CvL.cons Cv.fl CvL.nil))))))))))) ?_
 refine ws (Step.allocObj (ls := [(false, 1, Fact.rep [] ((0 : Int) : Int)), (false, 1, Fact.nilv), (false, 1, Fact.nilv), (false, 1, Fact.nilv)]) 24 rfl rfl rfl rfl zl39) ?_
 refine wo (Spec.assign Has.int) ?_
 refine Walk.nil ?_
 refine Leaf.thenN ?_
 refine CWalk.seq ?_
 refine CWalk.region ?_
 refine wo (Spec.loadObj (ls := [(false, 1, Fact.rep [] (a0.Id : UInt32)), (false, 1, Fact.rep [] (a0.Members : Int)), (false, 1, Fact.rep [] (a0.Chunk : Int)), (false, 1, Fact.rep [] (a0.Rows : Int)), (false, 1, Fact.rep [] (a0.Log : Int)), (false, 1, Fact.rep [] (a0.Heads : Int))]) ty24 rfl rfl (Has.s rfl) rfl (HasGs.cons (HasG.s rfl) (HasGs.cons (HasG.s rfl) (HasGs.cons (HasG.s rfl) (HasGs.cons (HasG.s rfl) (HasGs.cons (HasG.s rfl) (HasGs.cons (HasG.s rfl) HasGs.nil))))))) ?_
 refine wo (Spec.loadObj (ls := [(false, 1, Fact.rep [] (a1.Stripe : Int)), (false, 1, Fact.rep [0] (a1.Blocks : List (List UInt8))), (false, 1, Fact.rep [0] (a1.Dirty : List Bool)), (false, 1, Fact.rep [] (a1.Phase : UInt8)), (false, 1, Fact.rep [] (a1.Deals : Bool)), (false, 1, Fact.rep [] (a1.Seq : UInt32))]) ty28 rfl rfl (Has.s rfl) rfl (HasGs.cons (HasG.s rfl) (HasGs.cons (HasG.s rfl) (HasGs.cons (HasG.s rfl) (HasGs.cons (HasG.s rfl) (HasGs.cons (HasG.s rfl) (HasGs.cons (HasG.s rfl) HasGs.nil))))))) ?_
 obtain ⟨x1, hx1, hm⟩ := bind_some hm
 refine wo (f := Fact.rep [] (x1 : Int)) (Spec.callE [0] 29 rfl en25 (ref16_Check_c a0 a1 hx1) (HasAll.cons (Has.fl (Has.cv (Has.s rfl) (Cv.trans (Cv.flds (CvL.cons Cv.fl (CvL.cons Cv.fl (CvL.cons Cv.fl (CvL.cons Cv.fl (CvL.cons Cv.fl (CvL.cons Cv.fl CvL.nil))))))) (Cv.close (T := []) (chConfig a0))))) (HasAll.cons (Has.m (Has.cv (Has.s rfl) (Cv.trans (Cv.flds (CvL.cons Cv.fl (CvL.cons (Cv.m rfl) (CvL.cons (Cv.m rfl) (CvL.cons Cv.fl (CvL.cons Cv.fl (CvL.cons Cv.fl CvL.nil))))))) (Cv.close (T := [0]) (chHead a1)))) rfl) HasAll.nil))) ?_
 refine wo (Spec.assign (Has.s rfl)) ?_
 refine Walk.nil ?_
 refine Leaf.thenN ?_
 refine CWalk.seqJ (fun p : Int => [.fact 2 (Fact.isv 10), .fact 3 (Fact.isv 17), .fact 4 (Fact.isv 24), .fact 6 (Fact.rep [] (p : Int)), .fact 100011 (Fact.at 11 (Fact.rep [] (a0.Id : UInt32))), .fact 100012 (Fact.at 12 (Fact.rep [] (a0.Members : Int))), .fact 100013 (Fact.at 13 (Fact.rep [] (a0.Chunk : Int))), .fact 100014 (Fact.at 14 (Fact.rep [] (a0.Rows : Int))), .fact 100015 (Fact.at 15 (Fact.rep [] (a0.Log : Int))), .fact 100016 (Fact.at 16 (Fact.rep [] (a0.Heads : Int))), .fact 100018 (Fact.at 18 (Fact.rep [] (a1.Stripe : Int))), .fact 100019 (Fact.at 19 (Fact.rep [0] (a1.Blocks : List (List UInt8)))), .fact 100020 (Fact.at 20 (Fact.rep [0] (a1.Dirty : List Bool))), .fact 100021 (Fact.at 21 (Fact.rep [] (a1.Phase : UInt8))), .fact 100022 (Fact.at 22 (Fact.rep [] (a1.Deals : Bool))), .fact 100023 (Fact.at 23 (Fact.rep [] (a1.Seq : UInt32))), .fact 100025 (Fact.at 25 (Fact.rep [] ((0 : Int) : Int))), .fact 100026 (Fact.at 26 (Fact.nilv)), .fact 100027 (Fact.at 27 (Fact.nilv)), .fact 100028 (Fact.at 28 (Fact.nilv)), .fact 100010 (Fact.obj 10 [(false, 1), (false, 1), (false, 1), (false, 1), (false, 1), (false, 1)]), .fact 100017 (Fact.obj 17 [(false, 1), (false, 1), (false, 1), (false, 1), (false, 1), (false, 1)]), .fact 100024 (Fact.obj 24 [(false, 1), (false, 1), (false, 1), (false, 1)])]) (fun p : Int => ref16_Deal_J1 a0 a1 p = some r) ?_ ?_
 ·rintro j2 hm
  replace hm : ref16_Deal_J1 a0 a1 j2 = some r := hm
  unfold ref16_Deal_J1 at hm
  show CWalk _ [.fact 2 (Fact.isv 10), .fact 3 (Fact.isv 17), .fact 4 (Fact.isv 24), .fact 6 (Fact.rep [] (j2 : Int)), .fact 100011 (Fact.at 11 (Fact.rep [] (a0.Id : UInt32))), .fact 100012 (Fact.at 12 (Fact.rep [] (a0.Members : Int))), .fact 100013 (Fact.at 13 (Fact.rep [] (a0.Chunk : Int))), .fact 100014 (Fact.at 14 (Fact.rep [] (a0.Rows : Int))), .fact 100015 (Fact.at 15 (Fact.rep [] (a0.Log : Int))), .fact 100016 (Fact.at 16 (Fact.rep [] (a0.Heads : Int))), .fact 100018 (Fact.at 18 (Fact.rep [] (a1.Stripe : Int))), .fact 100019 (Fact.at 19 (Fact.rep [0] (a1.Blocks : List (List UInt8)))), .fact 100020 (Fact.at 20 (Fact.rep [0] (a1.Dirty : List Bool))), .fact 100021 (Fact.at 21 (Fact.rep [] (a1.Phase : UInt8))), .fact 100022 (Fact.at 22 (Fact.rep [] (a1.Deals : Bool))), .fact 100023 (Fact.at 23 (Fact.rep [] (a1.Seq : UInt32))), .fact 100025 (Fact.at 25 (Fact.rep [] ((0 : Int) : Int))), .fact 100026 (Fact.at 26 (Fact.nilv)), .fact 100027 (Fact.at 27 (Fact.nilv)), .fact 100028 (Fact.at 28 (Fact.nilv)), .fact 100010 (Fact.obj 10 [(false, 1), (false, 1), (false, 1), (false, 1), (false, 1), (false, 1)]), .fact 100017 (Fact.obj 17 [(false, 1), (false, 1), (false, 1), (false, 1), (false, 1), (false, 1)]), .fact 100024 (Fact.obj 24 [(false, 1), (false, 1), (false, 1), (false, 1)])] _ _
  refine CWalk.seq ?_
  refine CWalk.seq ?_
  refine CWalk.region ?_
  refine mv ?_
  refine wo (Spec.neqI (Has.s rfl) Has.int) ?_
  refine Walk.nil ?_
  refine Leaf.thenN ?_
  refine CWalk.cond rfl (fun hb => ?_) (fun hb => ?_)
  ·have hm := cond_t hb hm
   refine CWalk.seq ?_
   refine CWalk.region ?_
   refine wo (Spec.build (us := []) (ls' := [(false, 1, Fact.rep [] ((0 : Int) : Int)), (false, 1, Fact.nilv), (false, 1, Fact.nilv), (false, 1, Fact.nilv)]) bd39 rfl BP.nil) ?_
   refine mv ?_
   refine ws (Step.storeObj (ls := [(false, 1, Fact.rep [] ((0 : Int) : Int)), (false, 1, Fact.nilv), (false, 1, Fact.nilv), (false, 1, Fact.nilv)]) rfl ty39 rfl rfl (Has.s rfl) rfl (HasL.flds (Has.s rfl)) rfl) ?_
   refine wo (Spec.assign (Has.s rfl)) ?_
   refine Walk.nil ?_
   refine Leaf.thenN ?_
   refine CWalk.ret ?_
   refine Leaf.thenR ?_
   obtain rfl := Option.some.inj hm
   exact Leaf.retC2 rfl (HasR.cv (HasR.obj (ls := [(false, 1, Fact.rep [] ((0 : Int) : Int)), (false, 1, Fact.nilv), (false, 1, Fact.nilv), (false, 1, Fact.nilv)]) ty39 rfl rfl (Has.s rfl) rfl (HasGs.cons (HasG.s rfl) (HasGs.cons (HasG.s rfl) (HasGs.cons (HasG.s rfl) (HasGs.cons (HasG.s rfl) HasGs.nil))))) (Cv.flds (CvL.cons Cv.fl (CvL.cons (Cv.trans Cv.nilOw (Cv.owF (T := []) (te := []) rfl)) (CvL.cons (Cv.trans Cv.nilOw (Cv.owM (T := []) (te := []) rfl rfl)) (CvL.cons (Cv.trans Cv.nilOw (Cv.owF (T := []) (te := []) rfl)) CvL.nil)))))) (HasR.cv (HasR.tmp (Has.s rfl)) Cv.fl)
  ·have hm := cond_f hb hm
   refine CWalk.skip ?_
   refine Leaf.thenN ?_
   refine CWalk.seq ?_
   refine CWalk.region ?_
   refine wo (Spec.loadObj (ls := [(false, 1, Fact.rep [] (a0.Id : UInt32)), (false, 1, Fact.rep [] (a0.Members : Int)), (false, 1, Fact.rep [] (a0.Chunk : Int)), (false, 1, Fact.rep [] (a0.Rows : Int)), (false, 1, Fact.rep [] (a0.Log : Int)), (false, 1, Fact.rep [] (a0.Heads : Int))]) ty24 rfl rfl (Has.s rfl) rfl (HasGs.cons (HasG.s rfl) (HasGs.cons (HasG.s rfl) (HasGs.cons (HasG.s rfl) (HasGs.cons (HasG.s rfl) (HasGs.cons (HasG.s rfl) (HasGs.cons (HasG.s rfl) HasGs.nil))))))) ?_
   refine wo (Spec.loadObj (ls := [(false, 1, Fact.rep [] (a1.Stripe : Int)), (false, 1, Fact.rep [0] (a1.Blocks : List (List UInt8))), (false, 1, Fact.rep [0] (a1.Dirty : List Bool)), (false, 1, Fact.rep [] (a1.Phase : UInt8)), (false, 1, Fact.rep [] (a1.Deals : Bool)), (false, 1, Fact.rep [] (a1.Seq : UInt32))]) ty28 rfl rfl (Has.s rfl) rfl (HasGs.cons (HasG.s rfl) (HasGs.cons (HasG.s rfl) (HasGs.cons (HasG.s rfl) (HasGs.cons (HasG.s rfl) (HasGs.cons (HasG.s rfl) (HasGs.cons (HasG.s rfl) HasGs.nil))))))) ?_
   obtain ⟨x3, hx3, hm⟩ := bind_some hm
   refine wo (f := Fact.flds [(false, 1, Fact.rep [] (x3.Stripe : Int)), (false, 1, Fact.ow [30] [] 3 (x3.Slots : List Int)), (false, 1, Fact.ow [31] [32] 31 (x3.Blocks : List (List UInt8))), (false, 1, Fact.ow [33] [] 5 (x3.Parity : List UInt8))]) (Spec.callE [0] 30 rfl en47 (ref16_Dealt_c a0 a1 hx3) (HasAll.cons (Has.fl (Has.cv (Has.s rfl) (Cv.trans (Cv.flds (CvL.cons Cv.fl (CvL.cons Cv.fl (CvL.cons Cv.fl (CvL.cons Cv.fl (CvL.cons Cv.fl (CvL.cons Cv.fl CvL.nil))))))) (Cv.close (T := []) (chConfig a0))))) (HasAll.cons (Has.m (Has.cv (Has.s rfl) (Cv.trans (Cv.flds (CvL.cons Cv.fl (CvL.cons (Cv.m rfl) (CvL.cons (Cv.m rfl) (CvL.cons Cv.fl (CvL.cons Cv.fl (CvL.cons Cv.fl CvL.nil))))))) (Cv.close (T := [0]) (chHead a1)))) rfl) HasAll.nil))) ?_
   refine ws (Step.storeObj (ls := [(false, 1, Fact.rep [] (x3.Stripe : Int)), (false, 1, Fact.ow [30] [] 3 (x3.Slots : List Int)), (false, 1, Fact.ow [31] [32] 31 (x3.Blocks : List (List UInt8))), (false, 1, Fact.ow [33] [] 5 (x3.Parity : List UInt8))]) rfl ty39 rfl rfl (Has.s rfl) rfl (HasL.flds (Has.s rfl)) rfl) ?_
   refine wo (Spec.assign Has.int) ?_
   refine Walk.nil ?_
   refine Leaf.thenN ?_
   refine CWalk.ret ?_
   obtain rfl := Option.some.inj hm
   exact Leaf.retC2 rfl (HasR.cv (HasR.obj (ls := [(false, 1, Fact.rep [] (x3.Stripe : Int)), (false, 1, Fact.ow [30] [] 3 (x3.Slots : List Int)), (false, 1, Fact.ow [31] [32] 31 (x3.Blocks : List (List UInt8))), (false, 1, Fact.ow [33] [] 5 (x3.Parity : List UInt8))]) ty39 rfl rfl (Has.s rfl) rfl (HasGs.cons (HasG.s rfl) (HasGs.cons (HasG.s rfl) (HasGs.cons (HasG.s rfl) (HasGs.cons (HasG.s rfl) HasGs.nil))))) (Cv.flds (CvL.cons Cv.fl (CvL.cons (Cv.owF (T := [30]) (te := []) rfl) (CvL.cons (Cv.owM (T := [31]) (te := [32]) rfl rfl) (CvL.cons (Cv.owF (T := [33]) (te := []) rfl) CvL.nil)))))) (HasR.cv (HasR.tmp (Has.s rfl)) Cv.fl)
 ·refine CWalk.seq ?_
  refine CWalk.region ?_
  refine mv ?_
  refine wo (Spec.eqlI (Has.s rfl) Has.int) ?_
  refine mv ?_
  refine wg rfl rfl (fun hb => Spec.fieldAddrO fd28_3 (Has.cv (Has.s rfl) (Cv.isvP rfl))) ?_
  refine wg rfl rfl (fun hb => Spec.loadF (i := 3) ty5 rfl (Has.u rfl hb) rfl (HasG.s rfl)) ?_
  refine wg rfl rfl (fun hb => Spec.eqlB (Has.u rfl hb) (Has.u8 0 rfl)) ?_
  refine wo (Spec.and (Has.s rfl) (fun h => Has.u rfl h)) ?_
  refine Walk.nil ?_
  refine Leaf.thenN ?_
  refine CWalk.cond rfl (fun hb => ?_) (fun hb => ?_)
  ·have hm := cond_t hb hm
   refine CWalk.region ?_
   refine wo (Spec.assign Has.int) ?_
   refine Walk.nil ?_
   exact Leaf.join (6 : Int) hm (sn (sn (sn (st (sf (sf (sf (sf (sf (sf (sf (sm (sm (sf (sf (sf (sf (sg (sg (sg (sn (sn (sn Sub.nil)))))))))))))))))))))))
  ·have hm := cond_f hb hm
   refine CWalk.skip ?_
   exact Leaf.join x1 hm (sn (sn (sn (st (sf (sf (sf (sf (sf (sf (sf (sm (sm (sf (sf (sf (sf (sg (sg (sg (sn (sn (sn Sub.nil)))))))))))))))))))))))

def ref16_SameDeal_L1 (a0 : Deal) (a1 : Deal) (s1 : Int) : Option (Ctl (Int) ((Unit) ⊕ (Unit))) :=
  (bif (decide (s1 < ((a0.Slots).length : Int))) then Option.bind (idx a0.Slots s1) (fun x3 => Option.bind (idx a1.Slots s1) (fun x4 => (bif (x3 != x4) then some (Ctl.brk (Sum.inr ())) else some (Ctl.next (wI (s1 + (1 : Int))))))) else some (Ctl.brk (Sum.inl ())))
def ref16_SameDeal_L2 (a0 : Deal) (a1 : Deal) (s7 : Int) : Option (Ctl (Int) ((Unit) ⊕ (Unit))) :=
  (bif (decide (s7 < ((a0.Blocks).length : Int))) then Option.bind (idx a0.Blocks s7) (fun x9 => Option.bind (idx a1.Blocks s7) (fun x10 => (bif (!((Str.mk x9).s == (Str.mk x10).s)) then some (Ctl.brk (Sum.inr ())) else some (Ctl.next (wI (s7 + (1 : Int))))))) else some (Ctl.brk (Sum.inl ())))
/-- freeboard/freeboardref16.SameDeal -/
def ref16_SameDeal (a0 : Deal) (a1 : Deal) : Option (Bool) :=
  (bif ((((a0.Stripe != a1.Stripe) || (((a0.Slots).length : Int) != ((a1.Slots).length : Int))) || (((a0.Blocks).length : Int) != ((a1.Blocks).length : Int))) || (!((Str.mk a0.Parity).s == (Str.mk a1.Parity).s))) then some false else Option.bind (loopM (fun s : Int => ref16_SameDeal_L1 a0 a1 s) FUEL (0 : Int)) (fun b5 => Sum.elim (fun b6 => Option.bind (loopM (fun s : Int => ref16_SameDeal_L2 a0 a1 s) FUEL (0 : Int)) (fun b11 => Sum.elim (fun b12 => some true) (fun b13 => some false) b11)) (fun b14 => some false) b5))
set_option maxRecDepth 100000 in
set_option maxHeartbeats 2000000 in
theorem ref16_SameDeal_c (a0 : Deal) (a1 : Deal) {r : Bool} (hm : ref16_SameDeal a0 a1 = some r) : Ctr Try.prog 15 [.rep 0 a0, .rep 0 a1] (.fl r) [] := by
 refine ctr_of_walk [[]] 77 Try.func15 rfl rfl rfl rfl (fun w0 om => ?_)
 unfold ref16_SameDeal at hm
 refine CWalk.sub (G' := [.fact 0 (Fact.rep [0] (a0 : Deal)), .fact 1 (Fact.rep [0] (a1 : Deal))]) (sn (sn Sub.nil)) ?_
 refine CWalk.seq ?_
 refine CWalk.region ?_
 refine ws (Step.boxObj (ls := [(false, 1, Fact.rep [] (a0.Stripe : Int)), (false, 1, Fact.rep [0] (a0.Slots : List Int)), (false, 1, Fact.rep [0] (a0.Blocks : List (List UInt8))), (false, 1, Fact.rep [0] (a0.Parity : List UInt8))]) 10 rfl rfl rfl rfl (HasL.flds (Has.cv (Has.s rfl) (Cv.trans (Cv.opens (chDeal a0)) (Cv.flds (CvL.cons Cv.fl (CvL.cons Cv.refl (CvL.cons Cv.refl (CvL.cons Cv.refl CvL.nil))))))))) ?_
 refine ws (Step.boxObj (ls := [(false, 1, Fact.rep [] (a1.Stripe : Int)), (false, 1, Fact.rep [0] (a1.Slots : List Int)), (false, 1, Fact.rep [0] (a1.Blocks : List (List UInt8))), (false, 1, Fact.rep [0] (a1.Parity : List UInt8))]) 15 rfl rfl rfl rfl (HasL.flds (Has.cv (Has.s rfl) (Cv.trans (Cv.opens (chDeal a1)) (Cv.flds (CvL.cons Cv.fl (CvL.cons Cv.refl (CvL.cons Cv.refl (CvL.cons Cv.refl CvL.nil))))))))) ?_
 refine wo (Spec.assign Has.bool) ?_
 refine Walk.nil ?_
 refine Leaf.thenN ?_
 refine CWalk.seq ?_
 refine CWalk.seq ?_
 refine CWalk.region ?_
 refine wo (Spec.fieldAddrO fd39_0 (Has.cv (Has.s rfl) (Cv.isvP rfl))) ?_
 refine wo (Spec.loadF (i := 0) ty3 rfl (Has.s rfl) rfl (HasG.s rfl)) ?_
 refine wo (Spec.fieldAddrO fd39_0 (Has.cv (Has.s rfl) (Cv.isvP rfl))) ?_
 refine wo (Spec.loadF (i := 0) ty3 rfl (Has.s rfl) rfl (HasG.s rfl)) ?_
 refine wo (Spec.neqI (Has.s rfl) (Has.s rfl)) ?_
 refine mv ?_
 refine wg rfl rfl (fun hb => Spec.fieldAddrO fd39_1 (Has.cv (Has.s rfl) (Cv.isvP rfl))) ?_
 refine wg rfl rfl (fun hb => Spec.loadF (i := 1) ty37 rfl (Has.u rfl hb) rfl (HasG.s rfl)) ?_
 refine wg rfl rfl (fun hb => Spec.len (Has.u rfl hb) Try.underlying37) ?_
 refine wg rfl rfl (fun hb => Spec.fieldAddrO fd39_1 (Has.cv (Has.s rfl) (Cv.isvP rfl))) ?_
 refine wg rfl rfl (fun hb => Spec.loadF (i := 1) ty37 rfl (Has.u rfl hb) rfl (HasG.s rfl)) ?_
 refine wg rfl rfl (fun hb => Spec.len (Has.u rfl hb) Try.underlying37) ?_
 refine wg rfl rfl (fun hb => Spec.neqI (Has.u rfl hb) (Has.u rfl hb)) ?_
 refine wo (Spec.or (Has.s rfl) (fun h => Has.u rfl h)) ?_
 refine mv ?_
 refine wg rfl rfl (fun hb => Spec.fieldAddrO fd39_2 (Has.cv (Has.s rfl) (Cv.isvP rfl))) ?_
 refine wg rfl rfl (fun hb => Spec.loadF (i := 2) ty25 rfl (Has.u rfl hb) rfl (HasG.s rfl)) ?_
 refine wg rfl rfl (fun hb => Spec.len (Has.u rfl hb) Try.underlying25) ?_
 refine wg rfl rfl (fun hb => Spec.fieldAddrO fd39_2 (Has.cv (Has.s rfl) (Cv.isvP rfl))) ?_
 refine wg rfl rfl (fun hb => Spec.loadF (i := 2) ty25 rfl (Has.u rfl hb) rfl (HasG.s rfl)) ?_
 refine wg rfl rfl (fun hb => Spec.len (Has.u rfl hb) Try.underlying25) ?_
 refine wg rfl rfl (fun hb => Spec.neqI (Has.u rfl hb) (Has.u rfl hb)) ?_
 refine wo (Spec.or (Has.s rfl) (fun h => Has.u rfl h)) ?_
 refine mv ?_
 refine wg rfl rfl (fun hb => Spec.fieldAddrO fd39_3 (Has.cv (Has.s rfl) (Cv.isvP rfl))) ?_
 refine wg rfl rfl (fun hb => Spec.loadF (i := 3) ty31 rfl (Has.u rfl hb) rfl (HasG.s rfl)) ?_
 refine wg rfl rfl (fun hb => Spec.toStr Try.underlying31 Try.underlying5 Try.underlying9 (Has.u rfl hb)) ?_
 refine wg rfl rfl (fun hb => Spec.fieldAddrO fd39_3 (Has.cv (Has.s rfl) (Cv.isvP rfl))) ?_
 refine wg rfl rfl (fun hb => Spec.loadF (i := 3) ty31 rfl (Has.u rfl hb) rfl (HasG.s rfl)) ?_
 refine wg rfl rfl (fun hb => Spec.toStr Try.underlying31 Try.underlying5 Try.underlying9 (Has.u rfl hb)) ?_
 refine wg rfl rfl (fun hb => Spec.neqS (Has.u rfl hb) (Has.u rfl hb)) ?_
 refine wo (Spec.or (Has.s rfl) (fun h => Has.u rfl h)) ?_
 refine Walk.nil ?_
 refine Leaf.thenN ?_
 refine CWalk.cond rfl (fun hb => ?_) (fun hb => ?_)
 ·have hm := cond_t hb hm
  refine CWalk.seq ?_
  refine CWalk.region ?_
  refine wo (Spec.assign Has.bool) ?_
  refine Walk.nil ?_
  refine Leaf.thenN ?_
  refine CWalk.ret ?_
  refine Leaf.thenR ?_
  obtain rfl := Option.some.inj hm
  exact Leaf.retC1 rfl (HasR.cv (HasR.tmp (Has.s rfl)) Cv.fl)
 ·have hm := cond_f hb hm
  refine CWalk.skip ?_
  refine Leaf.thenN ?_
  refine CWalk.seq ?_
  refine CWalk.seq ?_
  refine CWalk.region ?_
  refine wo (Spec.assign Has.int) ?_
  refine Walk.nil ?_
  refine Leaf.thenN ?_
  refine CWalk.block ?_
  obtain ⟨b5, hb5, hm⟩ := bind_some hm
  refine CWalk.loop (fun s : Int => [.fact 2 (Fact.isv 10), .fact 3 (Fact.isv 15), .fact 5 (Fact.rep [] (s : Int)), .fact 100011 (Fact.at 11 (Fact.rep [] (a0.Stripe : Int))), .fact 100012 (Fact.at 12 (Fact.rep [0] (a0.Slots : List Int))), .fact 100013 (Fact.at 13 (Fact.rep [0] (a0.Blocks : List (List UInt8)))), .fact 100014 (Fact.at 14 (Fact.rep [0] (a0.Parity : List UInt8))), .fact 100016 (Fact.at 16 (Fact.rep [] (a1.Stripe : Int))), .fact 100017 (Fact.at 17 (Fact.rep [0] (a1.Slots : List Int))), .fact 100018 (Fact.at 18 (Fact.rep [0] (a1.Blocks : List (List UInt8)))), .fact 100019 (Fact.at 19 (Fact.rep [0] (a1.Parity : List UInt8))), .fact 100010 (Fact.obj 10 [(false, 1), (false, 1), (false, 1), (false, 1)]), .fact 100015 (Fact.obj 15 [(false, 1), (false, 1), (false, 1), (false, 1)])]) (fun b : (Unit) ⊕ (Unit) => Sum.elim (fun b => (Exit.exit 0, [.fact 2 (Fact.isv 10), .fact 3 (Fact.isv 15), .fact 100011 (Fact.at 11 (Fact.rep [] (a0.Stripe : Int))), .fact 100012 (Fact.at 12 (Fact.rep [0] (a0.Slots : List Int))), .fact 100013 (Fact.at 13 (Fact.rep [0] (a0.Blocks : List (List UInt8)))), .fact 100014 (Fact.at 14 (Fact.rep [0] (a0.Parity : List UInt8))), .fact 100016 (Fact.at 16 (Fact.rep [] (a1.Stripe : Int))), .fact 100017 (Fact.at 17 (Fact.rep [0] (a1.Slots : List Int))), .fact 100018 (Fact.at 18 (Fact.rep [0] (a1.Blocks : List (List UInt8)))), .fact 100019 (Fact.at 19 (Fact.rep [0] (a1.Parity : List UInt8))), .fact 100010 (Fact.obj 10 [(false, 1), (false, 1), (false, 1), (false, 1)]), .fact 100015 (Fact.obj 15 [(false, 1), (false, 1), (false, 1), (false, 1)])])) (fun b => (Exit.ret, [.fact 4 (Fact.rep [] (false : Bool))])) b) hb5 (sn (sn (st (sf (sm (sm (sm (sf (sm (sm (sm (sn (sn Sub.nil))))))))))))) ?_ ?_
  ·rintro s1 c2 hm
   replace hm : ref16_SameDeal_L1 a0 a1 s1 = some c2 := hm
   unfold ref16_SameDeal_L1 at hm
   show CWalk _ [.fact 2 (Fact.isv 10), .fact 3 (Fact.isv 15), .fact 5 (Fact.rep [] (s1 : Int)), .fact 100011 (Fact.at 11 (Fact.rep [] (a0.Stripe : Int))), .fact 100012 (Fact.at 12 (Fact.rep [0] (a0.Slots : List Int))), .fact 100013 (Fact.at 13 (Fact.rep [0] (a0.Blocks : List (List UInt8)))), .fact 100014 (Fact.at 14 (Fact.rep [0] (a0.Parity : List UInt8))), .fact 100016 (Fact.at 16 (Fact.rep [] (a1.Stripe : Int))), .fact 100017 (Fact.at 17 (Fact.rep [0] (a1.Slots : List Int))), .fact 100018 (Fact.at 18 (Fact.rep [0] (a1.Blocks : List (List UInt8)))), .fact 100019 (Fact.at 19 (Fact.rep [0] (a1.Parity : List UInt8))), .fact 100010 (Fact.obj 10 [(false, 1), (false, 1), (false, 1), (false, 1)]), .fact 100015 (Fact.obj 15 [(false, 1), (false, 1), (false, 1), (false, 1)])] _ _
   refine CWalk.seq ?_
   refine CWalk.seq ?_
   refine CWalk.region ?_
   refine mv ?_
   refine wo (Spec.fieldAddrO fd39_1 (Has.cv (Has.s rfl) (Cv.isvP rfl))) ?_
   refine wo (Spec.loadF (i := 1) ty37 rfl (Has.s rfl) rfl (HasG.s rfl)) ?_
   refine wo (Spec.len (Has.s rfl) Try.underlying37) ?_
   refine wo (Spec.lssI (Has.s rfl) (Has.s rfl)) ?_
   refine Walk.nil ?_
   refine Leaf.thenN ?_
   refine CWalk.cond rfl (fun hb => ?_) (fun hb => ?_)
   ·have hm := cond_t hb hm
    refine CWalk.skip ?_
    refine Leaf.thenN ?_
    refine CWalk.seq ?_
    refine CWalk.block ?_
    refine CWalk.seq ?_
    obtain ⟨x3, hx3, hm⟩ := bind_some hm
    obtain ⟨x4, hx4, hm⟩ := bind_some hm
    refine CWalk.drawM [[], [0], [], [0, 1, 2], [0, 1, 2, 3], [], [5], [], [5, 6, 7], [5, 6, 7, 8], [0, 1, 2, 3, 4, 5, 6, 7, 8, 9]] [[.fact 46 (Fact.pto 10 1)], [.fact 47 (Fact.rep [0] (a0.Slots : List Int))], [.fact 48 (Fact.rep [] (s1 : Int))], [.fact 49 (Fact.ptr [0] (x3 : Int))], [.fact 50 (Fact.rep [] (x3 : Int))], [.fact 51 (Fact.pto 15 1)], [.fact 52 (Fact.rep [0] (a1.Slots : List Int))], [.fact 53 (Fact.rep [] (s1 : Int))], [.fact 54 (Fact.ptr [0] (x4 : Int))], [.fact 55 (Fact.rep [] (x4 : Int))], [.fact 56 (Fact.rep [] ((x3 != x4) : Bool))]] mixed (by kernel_rfl) (ao (so (Spec.fieldAddrO fd39_1 (Has.cv (Has.s rfl) (Cv.isvP rfl)))) (ao (so (Spec.loadF (i := 1) ty37 rfl (Has.s rfl) rfl (HasG.s rfl))) (ao (so (Spec.move (Has.s rfl))) (ao (so (Spec.indexAddr hx3 sl37 (Has.s rfl) (Has.s rfl))) (ao (so ((Spec.load ty3 (Has.s rfl)).flat (T' := []))) (ao (so (Spec.fieldAddrO fd39_1 (Has.cv (Has.s rfl) (Cv.isvP rfl)))) (ao (so (Spec.loadF (i := 1) ty37 rfl (Has.s rfl) rfl (HasG.s rfl))) (ao (so (Spec.move (Has.s rfl))) (ao (so (Spec.indexAddr hx4 sl37 (Has.s rfl) (Has.s rfl))) (ao (so ((Spec.load ty3 (Has.s rfl)).flat (T' := []))) (ao (so (Spec.neqI (Has.s rfl) (Has.s rfl))) AllM.nil))))))))))) ?_
    refine Leaf.thenN ?_
    refine CWalk.cond rfl (fun hb => ?_) (fun hb => ?_)
    ·have hm := cond_t hb hm
     refine CWalk.seq ?_
     refine CWalk.region ?_
     refine wo (Spec.assign Has.bool) ?_
     refine Walk.nil ?_
     refine Leaf.thenN ?_
     refine CWalk.ret ?_
     refine Leaf.blockR ?_
     refine Leaf.thenR ?_
     exact Leaf.brk hm (fun h => nomatch h) rfl (st Sub.nil)
    ·have hm := cond_f hb hm
     refine CWalk.skip ?_
     refine Leaf.blockN ?_
     refine Leaf.thenN ?_
     refine CWalk.region ?_
     refine mv ?_
     refine wo (Spec.addI (Has.s rfl) Has.int) ?_
     refine wo (Spec.assign (Has.s rfl)) ?_
     refine Walk.nil ?_
     exact Leaf.next hm (sn (sn (st (sf (sm (sm (sm (sf (sm (sm (sm (sn (sn Sub.nil)))))))))))))
   ·have hm := cond_f hb hm
    refine CWalk.exit ?_
    refine Leaf.thenE ?_
    exact Leaf.brk hm (fun h => nomatch h) rfl (sn (sn (sf (sm (sm (sm (sf (sm (sm (sm (sn (sn Sub.nil))))))))))))
  ·intro _
   rcases b5 with b6 | b14
   ·have hm := selim_l hm
    refine Leaf.blockE ?_
    refine Leaf.thenN ?_
    refine CWalk.seq ?_
    refine CWalk.seq ?_
    refine CWalk.region ?_
    refine wo (Spec.assign Has.int) ?_
    refine Walk.nil ?_
    refine Leaf.thenN ?_
    refine CWalk.block ?_
    obtain ⟨b11, hb11, hm⟩ := bind_some hm
    refine CWalk.loop (fun s : Int => [.fact 2 (Fact.isv 10), .fact 3 (Fact.isv 15), .fact 6 (Fact.rep [] (s : Int)), .fact 100011 (Fact.at 11 (Fact.rep [] (a0.Stripe : Int))), .fact 100012 (Fact.at 12 (Fact.rep [0] (a0.Slots : List Int))), .fact 100013 (Fact.at 13 (Fact.rep [0] (a0.Blocks : List (List UInt8)))), .fact 100014 (Fact.at 14 (Fact.rep [0] (a0.Parity : List UInt8))), .fact 100016 (Fact.at 16 (Fact.rep [] (a1.Stripe : Int))), .fact 100017 (Fact.at 17 (Fact.rep [0] (a1.Slots : List Int))), .fact 100018 (Fact.at 18 (Fact.rep [0] (a1.Blocks : List (List UInt8)))), .fact 100019 (Fact.at 19 (Fact.rep [0] (a1.Parity : List UInt8))), .fact 100010 (Fact.obj 10 [(false, 1), (false, 1), (false, 1), (false, 1)]), .fact 100015 (Fact.obj 15 [(false, 1), (false, 1), (false, 1), (false, 1)])]) (fun b : (Unit) ⊕ (Unit) => Sum.elim (fun b => (Exit.exit 2, [])) (fun b => (Exit.ret, [.fact 4 (Fact.rep [] (false : Bool))])) b) hb11 (sn (sn (st (sf (sm (sm (sm (sf (sm (sm (sm (sn (sn Sub.nil))))))))))))) ?_ ?_
    ·rintro s7 c8 hm
     replace hm : ref16_SameDeal_L2 a0 a1 s7 = some c8 := hm
     unfold ref16_SameDeal_L2 at hm
     show CWalk _ [.fact 2 (Fact.isv 10), .fact 3 (Fact.isv 15), .fact 6 (Fact.rep [] (s7 : Int)), .fact 100011 (Fact.at 11 (Fact.rep [] (a0.Stripe : Int))), .fact 100012 (Fact.at 12 (Fact.rep [0] (a0.Slots : List Int))), .fact 100013 (Fact.at 13 (Fact.rep [0] (a0.Blocks : List (List UInt8)))), .fact 100014 (Fact.at 14 (Fact.rep [0] (a0.Parity : List UInt8))), .fact 100016 (Fact.at 16 (Fact.rep [] (a1.Stripe : Int))), .fact 100017 (Fact.at 17 (Fact.rep [0] (a1.Slots : List Int))), .fact 100018 (Fact.at 18 (Fact.rep [0] (a1.Blocks : List (List UInt8)))), .fact 100019 (Fact.at 19 (Fact.rep [0] (a1.Parity : List UInt8))), .fact 100010 (Fact.obj 10 [(false, 1), (false, 1), (false, 1), (false, 1)]), .fact 100015 (Fact.obj 15 [(false, 1), (false, 1), (false, 1), (false, 1)])] _ _
     refine CWalk.seq ?_
     refine CWalk.seq ?_
     refine CWalk.region ?_
     refine mv ?_
     refine wo (Spec.fieldAddrO fd39_2 (Has.cv (Has.s rfl) (Cv.isvP rfl))) ?_
     refine wo (Spec.loadF (i := 2) ty25 rfl (Has.s rfl) rfl (HasG.s rfl)) ?_
     refine wo (Spec.len (Has.s rfl) Try.underlying25) ?_
     refine wo (Spec.lssI (Has.s rfl) (Has.s rfl)) ?_
     refine Walk.nil ?_
     refine Leaf.thenN ?_
     refine CWalk.cond rfl (fun hb => ?_) (fun hb => ?_)
     ·have hm := cond_t hb hm
      refine CWalk.skip ?_
      refine Leaf.thenN ?_
      refine CWalk.seq ?_
      refine CWalk.block ?_
      refine CWalk.seq ?_
      obtain ⟨x9, hx9, hm⟩ := bind_some hm
      obtain ⟨x10, hx10, hm⟩ := bind_some hm
      refine CWalk.drawM [[], [0], [], [0, 1, 2], [0, 1, 2, 3], [0, 1, 2, 3, 4], [], [6], [], [6, 7, 8], [6, 7, 8, 9], [6, 7, 8, 9, 10], [0, 1, 2, 3, 4, 5, 6, 7, 8, 9, 10, 11]] [[.fact 64 (Fact.pto 10 2)], [.fact 65 (Fact.rep [0] (a0.Blocks : List (List UInt8)))], [.fact 66 (Fact.rep [] (s7 : Int))], [.fact 67 (Fact.ptr [0] (x9 : List UInt8))], [.fact 68 (Fact.rep [0] (x9 : List UInt8))], [.fact 69 (Fact.rep [] ((Str.mk x9) : Str))], [.fact 70 (Fact.pto 15 2)], [.fact 71 (Fact.rep [0] (a1.Blocks : List (List UInt8)))], [.fact 72 (Fact.rep [] (s7 : Int))], [.fact 73 (Fact.ptr [0] (x10 : List UInt8))], [.fact 74 (Fact.rep [0] (x10 : List UInt8))], [.fact 75 (Fact.rep [] ((Str.mk x10) : Str))], [.fact 76 (Fact.rep [] ((!((Str.mk x9).s == (Str.mk x10).s)) : Bool))]] mixed (by kernel_rfl) (ao (so (Spec.fieldAddrO fd39_2 (Has.cv (Has.s rfl) (Cv.isvP rfl)))) (ao (so (Spec.loadF (i := 2) ty25 rfl (Has.s rfl) rfl (HasG.s rfl))) (ao (so (Spec.move (Has.s rfl))) (ao (so (Spec.indexAddr hx9 sl25 (Has.s rfl) (Has.s rfl))) (ao (so (Spec.load ty31 (Has.s rfl))) (ao (so (Spec.toStr Try.underlying31 Try.underlying5 Try.underlying9 (Has.s rfl))) (ao (so (Spec.fieldAddrO fd39_2 (Has.cv (Has.s rfl) (Cv.isvP rfl)))) (ao (so (Spec.loadF (i := 2) ty25 rfl (Has.s rfl) rfl (HasG.s rfl))) (ao (so (Spec.move (Has.s rfl))) (ao (so (Spec.indexAddr hx10 sl25 (Has.s rfl) (Has.s rfl))) (ao (so (Spec.load ty31 (Has.s rfl))) (ao (so (Spec.toStr Try.underlying31 Try.underlying5 Try.underlying9 (Has.s rfl))) (ao (so (Spec.neqS (Has.s rfl) (Has.s rfl))) AllM.nil))))))))))))) ?_
      refine Leaf.thenN ?_
      refine CWalk.cond rfl (fun hb => ?_) (fun hb => ?_)
      ·have hm := cond_t hb hm
       refine CWalk.seq ?_
       refine CWalk.region ?_
       refine wo (Spec.assign Has.bool) ?_
       refine Walk.nil ?_
       refine Leaf.thenN ?_
       refine CWalk.ret ?_
       refine Leaf.blockR ?_
       refine Leaf.thenR ?_
       exact Leaf.brk hm (fun h => nomatch h) rfl (st Sub.nil)
      ·have hm := cond_f hb hm
       refine CWalk.skip ?_
       refine Leaf.blockN ?_
       refine Leaf.thenN ?_
       refine CWalk.region ?_
       refine mv ?_
       refine wo (Spec.addI (Has.s rfl) Has.int) ?_
       refine wo (Spec.assign (Has.s rfl)) ?_
       refine Walk.nil ?_
       exact Leaf.next hm (sn (sn (st (sf (sm (sm (sm (sf (sm (sm (sm (sn (sn Sub.nil)))))))))))))
     ·have hm := cond_f hb hm
      refine CWalk.exit ?_
      refine Leaf.thenE ?_
      exact Leaf.brk hm (fun h => nomatch h) rfl (Sub.nil)
    ·intro _
     rcases b11 with b12 | b13
     ·have hm := selim_l hm
      refine Leaf.blockE ?_
      refine Leaf.thenN ?_
      refine CWalk.seq ?_
      refine CWalk.region ?_
      refine wo (Spec.assign Has.bool) ?_
      refine Walk.nil ?_
      refine Leaf.thenN ?_
      refine CWalk.ret ?_
      obtain rfl := Option.some.inj hm
      exact Leaf.retC1 rfl (HasR.cv (HasR.tmp (Has.s rfl)) Cv.fl)
     ·have hm := selim_r hm
      refine Leaf.blockR ?_
      refine Leaf.thenR ?_
      obtain rfl := Option.some.inj hm
      exact Leaf.retC1 rfl (HasR.cv (HasR.tmp (Has.s rfl)) Cv.fl)
   ·have hm := selim_r hm
    refine Leaf.blockR ?_
    refine Leaf.thenR ?_
    obtain rfl := Option.some.inj hm
    exact Leaf.retC1 rfl (HasR.cv (HasR.tmp (Has.s rfl)) Cv.fl)

def ref16_Same_L1 (a0 : Head) (a1 : Head) (s1 : Int) : Option (Ctl (Int) ((Unit) ⊕ (Unit))) :=
  (bif (decide (s1 < ((a0.Blocks).length : Int))) then Option.bind (idx a0.Blocks s1) (fun x3 => Option.bind (idx a1.Blocks s1) (fun x4 => (bif (!((Str.mk x3).s == (Str.mk x4).s)) then some (Ctl.brk (Sum.inr ())) else some (Ctl.next (wI (s1 + (1 : Int))))))) else some (Ctl.brk (Sum.inl ())))
def ref16_Same_L2 (a0 : Head) (a1 : Head) (s7 : Int) : Option (Ctl (Int) ((Unit) ⊕ (Unit))) :=
  (bif (decide (s7 < ((a0.Dirty).length : Int))) then Option.bind (idx a0.Dirty s7) (fun x9 => Option.bind (idx a1.Dirty s7) (fun x10 => (bif (x9 != x10) then some (Ctl.brk (Sum.inr ())) else some (Ctl.next (wI (s7 + (1 : Int))))))) else some (Ctl.brk (Sum.inl ())))
/-- freeboard/freeboardref16.Same -/
def ref16_Same (a0 : Head) (a1 : Head) : Option (Bool) :=
  (bif ((((((a0.Stripe != a1.Stripe) || (a0.Phase != a1.Phase)) || (a0.Deals != a1.Deals)) || ((a0.Seq.toNat : Int) != (a1.Seq.toNat : Int))) || (((a0.Blocks).length : Int) != ((a1.Blocks).length : Int))) || (((a0.Dirty).length : Int) != ((a1.Dirty).length : Int))) then some false else Option.bind (loopM (fun s : Int => ref16_Same_L1 a0 a1 s) FUEL (0 : Int)) (fun b5 => Sum.elim (fun b6 => Option.bind (loopM (fun s : Int => ref16_Same_L2 a0 a1 s) FUEL (0 : Int)) (fun b11 => Sum.elim (fun b12 => some true) (fun b13 => some false) b11)) (fun b14 => some false) b5))
set_option maxRecDepth 100000 in
set_option maxHeartbeats 2000000 in
theorem ref16_Same_c (a0 : Head) (a1 : Head) {r : Bool} (hm : ref16_Same a0 a1 = some r) : Ctr Try.prog 16 [.rep 0 a0, .rep 0 a1] (.fl r) [] := by
 refine ctr_of_walk [[]] 89 Try.func16 rfl rfl rfl rfl (fun w0 om => ?_)
 unfold ref16_Same at hm
 refine CWalk.sub (G' := [.fact 0 (Fact.rep [0] (a0 : Head)), .fact 1 (Fact.rep [0] (a1 : Head))]) (sn (sn Sub.nil)) ?_
 refine CWalk.seq ?_
 refine CWalk.region ?_
 refine ws (Step.boxObj (ls := [(false, 1, Fact.rep [] (a0.Stripe : Int)), (false, 1, Fact.rep [0] (a0.Blocks : List (List UInt8))), (false, 1, Fact.rep [0] (a0.Dirty : List Bool)), (false, 1, Fact.rep [] (a0.Phase : UInt8)), (false, 1, Fact.rep [] (a0.Deals : Bool)), (false, 1, Fact.rep [] (a0.Seq : UInt32))]) 10 rfl rfl rfl rfl (HasL.flds (Has.cv (Has.s rfl) (Cv.trans (Cv.opens (chHead a0)) (Cv.flds (CvL.cons Cv.fl (CvL.cons Cv.refl (CvL.cons Cv.refl (CvL.cons Cv.fl (CvL.cons Cv.fl (CvL.cons Cv.fl CvL.nil))))))))))) ?_
 refine ws (Step.boxObj (ls := [(false, 1, Fact.rep [] (a1.Stripe : Int)), (false, 1, Fact.rep [0] (a1.Blocks : List (List UInt8))), (false, 1, Fact.rep [0] (a1.Dirty : List Bool)), (false, 1, Fact.rep [] (a1.Phase : UInt8)), (false, 1, Fact.rep [] (a1.Deals : Bool)), (false, 1, Fact.rep [] (a1.Seq : UInt32))]) 17 rfl rfl rfl rfl (HasL.flds (Has.cv (Has.s rfl) (Cv.trans (Cv.opens (chHead a1)) (Cv.flds (CvL.cons Cv.fl (CvL.cons Cv.refl (CvL.cons Cv.refl (CvL.cons Cv.fl (CvL.cons Cv.fl (CvL.cons Cv.fl CvL.nil))))))))))) ?_
 refine wo (Spec.assign Has.bool) ?_
 refine Walk.nil ?_
 refine Leaf.thenN ?_
 refine CWalk.seq ?_
 refine CWalk.seq ?_
 refine CWalk.region ?_
 refine wo (Spec.fieldAddrO fd28_0 (Has.cv (Has.s rfl) (Cv.isvP rfl))) ?_
 refine wo (Spec.loadF (i := 0) ty3 rfl (Has.s rfl) rfl (HasG.s rfl)) ?_
 refine wo (Spec.fieldAddrO fd28_0 (Has.cv (Has.s rfl) (Cv.isvP rfl))) ?_
 refine wo (Spec.loadF (i := 0) ty3 rfl (Has.s rfl) rfl (HasG.s rfl)) ?_
 refine wo (Spec.neqI (Has.s rfl) (Has.s rfl)) ?_
 refine mv ?_
 refine wg rfl rfl (fun hb => Spec.fieldAddrO fd28_3 (Has.cv (Has.s rfl) (Cv.isvP rfl))) ?_
 refine wg rfl rfl (fun hb => Spec.loadF (i := 3) ty5 rfl (Has.u rfl hb) rfl (HasG.s rfl)) ?_
 refine wg rfl rfl (fun hb => Spec.fieldAddrO fd28_3 (Has.cv (Has.s rfl) (Cv.isvP rfl))) ?_
 refine wg rfl rfl (fun hb => Spec.loadF (i := 3) ty5 rfl (Has.u rfl hb) rfl (HasG.s rfl)) ?_
 refine wg rfl rfl (fun hb => Spec.neqB (Has.u rfl hb) (Has.u rfl hb)) ?_
 refine wo (Spec.or (Has.s rfl) (fun h => Has.u rfl h)) ?_
 refine mv ?_
 refine wg rfl rfl (fun hb => Spec.fieldAddrO fd28_4 (Has.cv (Has.s rfl) (Cv.isvP rfl))) ?_
 refine wg rfl rfl (fun hb => Spec.loadF (i := 4) ty4 rfl (Has.u rfl hb) rfl (HasG.s rfl)) ?_
 refine wg rfl rfl (fun hb => Spec.fieldAddrO fd28_4 (Has.cv (Has.s rfl) (Cv.isvP rfl))) ?_
 refine wg rfl rfl (fun hb => Spec.loadF (i := 4) ty4 rfl (Has.u rfl hb) rfl (HasG.s rfl)) ?_
 refine wg rfl rfl (fun hb => Spec.neqT (Has.u rfl hb) (Has.u rfl hb) Try.underlying4) ?_
 refine wo (Spec.or (Has.s rfl) (fun h => Has.u rfl h)) ?_
 refine mv ?_
 refine wg rfl rfl (fun hb => Spec.fieldAddrO fd28_5 (Has.cv (Has.s rfl) (Cv.isvP rfl))) ?_
 refine wg rfl rfl (fun hb => Spec.loadF (i := 5) ty22 rfl (Has.u rfl hb) rfl (HasG.s rfl)) ?_
 refine wg rfl rfl (fun hb => Spec.fieldAddrO fd28_5 (Has.cv (Has.s rfl) (Cv.isvP rfl))) ?_
 refine wg rfl rfl (fun hb => Spec.loadF (i := 5) ty22 rfl (Has.u rfl hb) rfl (HasG.s rfl)) ?_
 refine wg rfl rfl (fun hb => Spec.neqN (α := UInt32) (Has.u rfl hb) (Has.u rfl hb)) ?_
 refine wo (Spec.or (Has.s rfl) (fun h => Has.u rfl h)) ?_
 refine mv ?_
 refine wg rfl rfl (fun hb => Spec.fieldAddrO fd28_1 (Has.cv (Has.s rfl) (Cv.isvP rfl))) ?_
 refine wg rfl rfl (fun hb => Spec.loadF (i := 1) ty25 rfl (Has.u rfl hb) rfl (HasG.s rfl)) ?_
 refine wg rfl rfl (fun hb => Spec.len (Has.u rfl hb) Try.underlying25) ?_
 refine wg rfl rfl (fun hb => Spec.fieldAddrO fd28_1 (Has.cv (Has.s rfl) (Cv.isvP rfl))) ?_
 refine wg rfl rfl (fun hb => Spec.loadF (i := 1) ty25 rfl (Has.u rfl hb) rfl (HasG.s rfl)) ?_
 refine wg rfl rfl (fun hb => Spec.len (Has.u rfl hb) Try.underlying25) ?_
 refine wg rfl rfl (fun hb => Spec.neqI (Has.u rfl hb) (Has.u rfl hb)) ?_
 refine wo (Spec.or (Has.s rfl) (fun h => Has.u rfl h)) ?_
 refine mv ?_
 refine wg rfl rfl (fun hb => Spec.fieldAddrO fd28_2 (Has.cv (Has.s rfl) (Cv.isvP rfl))) ?_
 refine wg rfl rfl (fun hb => Spec.loadF (i := 2) ty26 rfl (Has.u rfl hb) rfl (HasG.s rfl)) ?_
 refine wg rfl rfl (fun hb => Spec.len (Has.u rfl hb) Try.underlying26) ?_
 refine wg rfl rfl (fun hb => Spec.fieldAddrO fd28_2 (Has.cv (Has.s rfl) (Cv.isvP rfl))) ?_
 refine wg rfl rfl (fun hb => Spec.loadF (i := 2) ty26 rfl (Has.u rfl hb) rfl (HasG.s rfl)) ?_
 refine wg rfl rfl (fun hb => Spec.len (Has.u rfl hb) Try.underlying26) ?_
 refine wg rfl rfl (fun hb => Spec.neqI (Has.u rfl hb) (Has.u rfl hb)) ?_
 refine wo (Spec.or (Has.s rfl) (fun h => Has.u rfl h)) ?_
 refine Walk.nil ?_
 refine Leaf.thenN ?_
 refine CWalk.cond rfl (fun hb => ?_) (fun hb => ?_)
 ·have hm := cond_t hb hm
  refine CWalk.seq ?_
  refine CWalk.region ?_
  refine wo (Spec.assign Has.bool) ?_
  refine Walk.nil ?_
  refine Leaf.thenN ?_
  refine CWalk.ret ?_
  refine Leaf.thenR ?_
  obtain rfl := Option.some.inj hm
  exact Leaf.retC1 rfl (HasR.cv (HasR.tmp (Has.s rfl)) Cv.fl)
 ·have hm := cond_f hb hm
  refine CWalk.skip ?_
  refine Leaf.thenN ?_
  refine CWalk.seq ?_
  refine CWalk.seq ?_
  refine CWalk.region ?_
  refine wo (Spec.assign Has.int) ?_
  refine Walk.nil ?_
  refine Leaf.thenN ?_
  refine CWalk.block ?_
  obtain ⟨b5, hb5, hm⟩ := bind_some hm
  refine CWalk.loop (fun s : Int => [.fact 2 (Fact.isv 10), .fact 3 (Fact.isv 17), .fact 5 (Fact.rep [] (s : Int)), .fact 100011 (Fact.at 11 (Fact.rep [] (a0.Stripe : Int))), .fact 100012 (Fact.at 12 (Fact.rep [0] (a0.Blocks : List (List UInt8)))), .fact 100013 (Fact.at 13 (Fact.rep [0] (a0.Dirty : List Bool))), .fact 100014 (Fact.at 14 (Fact.rep [] (a0.Phase : UInt8))), .fact 100015 (Fact.at 15 (Fact.rep [] (a0.Deals : Bool))), .fact 100016 (Fact.at 16 (Fact.rep [] (a0.Seq : UInt32))), .fact 100018 (Fact.at 18 (Fact.rep [] (a1.Stripe : Int))), .fact 100019 (Fact.at 19 (Fact.rep [0] (a1.Blocks : List (List UInt8)))), .fact 100020 (Fact.at 20 (Fact.rep [0] (a1.Dirty : List Bool))), .fact 100021 (Fact.at 21 (Fact.rep [] (a1.Phase : UInt8))), .fact 100022 (Fact.at 22 (Fact.rep [] (a1.Deals : Bool))), .fact 100023 (Fact.at 23 (Fact.rep [] (a1.Seq : UInt32))), .fact 100010 (Fact.obj 10 [(false, 1), (false, 1), (false, 1), (false, 1), (false, 1), (false, 1)]), .fact 100017 (Fact.obj 17 [(false, 1), (false, 1), (false, 1), (false, 1), (false, 1), (false, 1)])]) (fun b : (Unit) ⊕ (Unit) => Sum.elim (fun b => (Exit.exit 0, [.fact 2 (Fact.isv 10), .fact 3 (Fact.isv 17), .fact 100011 (Fact.at 11 (Fact.rep [] (a0.Stripe : Int))), .fact 100012 (Fact.at 12 (Fact.rep [0] (a0.Blocks : List (List UInt8)))), .fact 100013 (Fact.at 13 (Fact.rep [0] (a0.Dirty : List Bool))), .fact 100014 (Fact.at 14 (Fact.rep [] (a0.Phase : UInt8))), .fact 100015 (Fact.at 15 (Fact.rep [] (a0.Deals : Bool))), .fact 100016 (Fact.at 16 (Fact.rep [] (a0.Seq : UInt32))), .fact 100018 (Fact.at 18 (Fact.rep [] (a1.Stripe : Int))), .fact 100019 (Fact.at 19 (Fact.rep [0] (a1.Blocks : List (List UInt8)))), .fact 100020 (Fact.at 20 (Fact.rep [0] (a1.Dirty : List Bool))), .fact 100021 (Fact.at 21 (Fact.rep [] (a1.Phase : UInt8))), .fact 100022 (Fact.at 22 (Fact.rep [] (a1.Deals : Bool))), .fact 100023 (Fact.at 23 (Fact.rep [] (a1.Seq : UInt32))), .fact 100010 (Fact.obj 10 [(false, 1), (false, 1), (false, 1), (false, 1), (false, 1), (false, 1)]), .fact 100017 (Fact.obj 17 [(false, 1), (false, 1), (false, 1), (false, 1), (false, 1), (false, 1)])])) (fun b => (Exit.ret, [.fact 4 (Fact.rep [] (false : Bool))])) b) hb5 (sn (sn (st (sf (sm (sm (sf (sf (sf (sf (sm (sm (sf (sf (sf (sn (sn Sub.nil))))))))))))))))) ?_ ?_
  ·rintro s1 c2 hm
   replace hm : ref16_Same_L1 a0 a1 s1 = some c2 := hm
   unfold ref16_Same_L1 at hm
   show CWalk _ [.fact 2 (Fact.isv 10), .fact 3 (Fact.isv 17), .fact 5 (Fact.rep [] (s1 : Int)), .fact 100011 (Fact.at 11 (Fact.rep [] (a0.Stripe : Int))), .fact 100012 (Fact.at 12 (Fact.rep [0] (a0.Blocks : List (List UInt8)))), .fact 100013 (Fact.at 13 (Fact.rep [0] (a0.Dirty : List Bool))), .fact 100014 (Fact.at 14 (Fact.rep [] (a0.Phase : UInt8))), .fact 100015 (Fact.at 15 (Fact.rep [] (a0.Deals : Bool))), .fact 100016 (Fact.at 16 (Fact.rep [] (a0.Seq : UInt32))), .fact 100018 (Fact.at 18 (Fact.rep [] (a1.Stripe : Int))), .fact 100019 (Fact.at 19 (Fact.rep [0] (a1.Blocks : List (List UInt8)))), .fact 100020 (Fact.at 20 (Fact.rep [0] (a1.Dirty : List Bool))), .fact 100021 (Fact.at 21 (Fact.rep [] (a1.Phase : UInt8))), .fact 100022 (Fact.at 22 (Fact.rep [] (a1.Deals : Bool))), .fact 100023 (Fact.at 23 (Fact.rep [] (a1.Seq : UInt32))), .fact 100010 (Fact.obj 10 [(false, 1), (false, 1), (false, 1), (false, 1), (false, 1), (false, 1)]), .fact 100017 (Fact.obj 17 [(false, 1), (false, 1), (false, 1), (false, 1), (false, 1), (false, 1)])] _ _
   refine CWalk.seq ?_
   refine CWalk.seq ?_
   refine CWalk.region ?_
   refine mv ?_
   refine wo (Spec.fieldAddrO fd28_1 (Has.cv (Has.s rfl) (Cv.isvP rfl))) ?_
   refine wo (Spec.loadF (i := 1) ty25 rfl (Has.s rfl) rfl (HasG.s rfl)) ?_
   refine wo (Spec.len (Has.s rfl) Try.underlying25) ?_
   refine wo (Spec.lssI (Has.s rfl) (Has.s rfl)) ?_
   refine Walk.nil ?_
   refine Leaf.thenN ?_
   refine CWalk.cond rfl (fun hb => ?_) (fun hb => ?_)
   ·have hm := cond_t hb hm
    refine CWalk.skip ?_
    refine Leaf.thenN ?_
    refine CWalk.seq ?_
    refine CWalk.block ?_
    refine CWalk.seq ?_
    obtain ⟨x3, hx3, hm⟩ := bind_some hm
    obtain ⟨x4, hx4, hm⟩ := bind_some hm
    refine CWalk.drawM [[], [0], [], [0, 1, 2], [0, 1, 2, 3], [0, 1, 2, 3, 4], [], [6], [], [6, 7, 8], [6, 7, 8, 9], [6, 7, 8, 9, 10], [0, 1, 2, 3, 4, 5, 6, 7, 8, 9, 10, 11]] [[.fact 58 (Fact.pto 10 1)], [.fact 59 (Fact.rep [0] (a0.Blocks : List (List UInt8)))], [.fact 60 (Fact.rep [] (s1 : Int))], [.fact 61 (Fact.ptr [0] (x3 : List UInt8))], [.fact 62 (Fact.rep [0] (x3 : List UInt8))], [.fact 63 (Fact.rep [] ((Str.mk x3) : Str))], [.fact 64 (Fact.pto 17 1)], [.fact 65 (Fact.rep [0] (a1.Blocks : List (List UInt8)))], [.fact 66 (Fact.rep [] (s1 : Int))], [.fact 67 (Fact.ptr [0] (x4 : List UInt8))], [.fact 68 (Fact.rep [0] (x4 : List UInt8))], [.fact 69 (Fact.rep [] ((Str.mk x4) : Str))], [.fact 70 (Fact.rep [] ((!((Str.mk x3).s == (Str.mk x4).s)) : Bool))]] mixed (by kernel_rfl) (ao (so (Spec.fieldAddrO fd28_1 (Has.cv (Has.s rfl) (Cv.isvP rfl)))) (ao (so (Spec.loadF (i := 1) ty25 rfl (Has.s rfl) rfl (HasG.s rfl))) (ao (so (Spec.move (Has.s rfl))) (ao (so (Spec.indexAddr hx3 sl25 (Has.s rfl) (Has.s rfl))) (ao (so (Spec.load ty31 (Has.s rfl))) (ao (so (Spec.toStr Try.underlying31 Try.underlying5 Try.underlying9 (Has.s rfl))) (ao (so (Spec.fieldAddrO fd28_1 (Has.cv (Has.s rfl) (Cv.isvP rfl)))) (ao (so (Spec.loadF (i := 1) ty25 rfl (Has.s rfl) rfl (HasG.s rfl))) (ao (so (Spec.move (Has.s rfl))) (ao (so (Spec.indexAddr hx4 sl25 (Has.s rfl) (Has.s rfl))) (ao (so (Spec.load ty31 (Has.s rfl))) (ao (so (Spec.toStr Try.underlying31 Try.underlying5 Try.underlying9 (Has.s rfl))) (ao (so (Spec.neqS (Has.s rfl) (Has.s rfl))) AllM.nil))))))))))))) ?_
    refine Leaf.thenN ?_
    refine CWalk.cond rfl (fun hb => ?_) (fun hb => ?_)
    ·have hm := cond_t hb hm
     refine CWalk.seq ?_
     refine CWalk.region ?_
     refine wo (Spec.assign Has.bool) ?_
     refine Walk.nil ?_
     refine Leaf.thenN ?_
     refine CWalk.ret ?_
     refine Leaf.blockR ?_
     refine Leaf.thenR ?_
     exact Leaf.brk hm (fun h => nomatch h) rfl (st Sub.nil)
    ·have hm := cond_f hb hm
     refine CWalk.skip ?_
     refine Leaf.blockN ?_
     refine Leaf.thenN ?_
     refine CWalk.region ?_
     refine mv ?_
     refine wo (Spec.addI (Has.s rfl) Has.int) ?_
     refine wo (Spec.assign (Has.s rfl)) ?_
     refine Walk.nil ?_
     exact Leaf.next hm (sn (sn (st (sf (sm (sm (sf (sf (sf (sf (sm (sm (sf (sf (sf (sn (sn Sub.nil)))))))))))))))))
   ·have hm := cond_f hb hm
    refine CWalk.exit ?_
    refine Leaf.thenE ?_
    exact Leaf.brk hm (fun h => nomatch h) rfl (sn (sn (sf (sm (sm (sf (sf (sf (sf (sm (sm (sf (sf (sf (sn (sn Sub.nil))))))))))))))))
  ·intro _
   rcases b5 with b6 | b14
   ·have hm := selim_l hm
    refine Leaf.blockE ?_
    refine Leaf.thenN ?_
    refine CWalk.seq ?_
    refine CWalk.seq ?_
    refine CWalk.region ?_
    refine wo (Spec.assign Has.int) ?_
    refine Walk.nil ?_
    refine Leaf.thenN ?_
    refine CWalk.block ?_
    obtain ⟨b11, hb11, hm⟩ := bind_some hm
    refine CWalk.loop (fun s : Int => [.fact 2 (Fact.isv 10), .fact 3 (Fact.isv 17), .fact 6 (Fact.rep [] (s : Int)), .fact 100011 (Fact.at 11 (Fact.rep [] (a0.Stripe : Int))), .fact 100012 (Fact.at 12 (Fact.rep [0] (a0.Blocks : List (List UInt8)))), .fact 100013 (Fact.at 13 (Fact.rep [0] (a0.Dirty : List Bool))), .fact 100014 (Fact.at 14 (Fact.rep [] (a0.Phase : UInt8))), .fact 100015 (Fact.at 15 (Fact.rep [] (a0.Deals : Bool))), .fact 100016 (Fact.at 16 (Fact.rep [] (a0.Seq : UInt32))), .fact 100018 (Fact.at 18 (Fact.rep [] (a1.Stripe : Int))), .fact 100019 (Fact.at 19 (Fact.rep [0] (a1.Blocks : List (List UInt8)))), .fact 100020 (Fact.at 20 (Fact.rep [0] (a1.Dirty : List Bool))), .fact 100021 (Fact.at 21 (Fact.rep [] (a1.Phase : UInt8))), .fact 100022 (Fact.at 22 (Fact.rep [] (a1.Deals : Bool))), .fact 100023 (Fact.at 23 (Fact.rep [] (a1.Seq : UInt32))), .fact 100010 (Fact.obj 10 [(false, 1), (false, 1), (false, 1), (false, 1), (false, 1), (false, 1)]), .fact 100017 (Fact.obj 17 [(false, 1), (false, 1), (false, 1), (false, 1), (false, 1), (false, 1)])]) (fun b : (Unit) ⊕ (Unit) => Sum.elim (fun b => (Exit.exit 2, [])) (fun b => (Exit.ret, [.fact 4 (Fact.rep [] (false : Bool))])) b) hb11 (sn (sn (st (sf (sm (sm (sf (sf (sf (sf (sm (sm (sf (sf (sf (sn (sn Sub.nil))))))))))))))))) ?_ ?_
    ·rintro s7 c8 hm
     replace hm : ref16_Same_L2 a0 a1 s7 = some c8 := hm
     unfold ref16_Same_L2 at hm
     show CWalk _ [.fact 2 (Fact.isv 10), .fact 3 (Fact.isv 17), .fact 6 (Fact.rep [] (s7 : Int)), .fact 100011 (Fact.at 11 (Fact.rep [] (a0.Stripe : Int))), .fact 100012 (Fact.at 12 (Fact.rep [0] (a0.Blocks : List (List UInt8)))), .fact 100013 (Fact.at 13 (Fact.rep [0] (a0.Dirty : List Bool))), .fact 100014 (Fact.at 14 (Fact.rep [] (a0.Phase : UInt8))), .fact 100015 (Fact.at 15 (Fact.rep [] (a0.Deals : Bool))), .fact 100016 (Fact.at 16 (Fact.rep [] (a0.Seq : UInt32))), .fact 100018 (Fact.at 18 (Fact.rep [] (a1.Stripe : Int))), .fact 100019 (Fact.at 19 (Fact.rep [0] (a1.Blocks : List (List UInt8)))), .fact 100020 (Fact.at 20 (Fact.rep [0] (a1.Dirty : List Bool))), .fact 100021 (Fact.at 21 (Fact.rep [] (a1.Phase : UInt8))), .fact 100022 (Fact.at 22 (Fact.rep [] (a1.Deals : Bool))), .fact 100023 (Fact.at 23 (Fact.rep [] (a1.Seq : UInt32))), .fact 100010 (Fact.obj 10 [(false, 1), (false, 1), (false, 1), (false, 1), (false, 1), (false, 1)]), .fact 100017 (Fact.obj 17 [(false, 1), (false, 1), (false, 1), (false, 1), (false, 1), (false, 1)])] _ _
     refine CWalk.seq ?_
     refine CWalk.seq ?_
     refine CWalk.region ?_
     refine mv ?_
     refine wo (Spec.fieldAddrO fd28_2 (Has.cv (Has.s rfl) (Cv.isvP rfl))) ?_
     refine wo (Spec.loadF (i := 2) ty26 rfl (Has.s rfl) rfl (HasG.s rfl)) ?_
     refine wo (Spec.len (Has.s rfl) Try.underlying26) ?_
     refine wo (Spec.lssI (Has.s rfl) (Has.s rfl)) ?_
     refine Walk.nil ?_
     refine Leaf.thenN ?_
     refine CWalk.cond rfl (fun hb => ?_) (fun hb => ?_)
     ·have hm := cond_t hb hm
      refine CWalk.skip ?_
      refine Leaf.thenN ?_
      refine CWalk.seq ?_
      refine CWalk.block ?_
      refine CWalk.seq ?_
      obtain ⟨x9, hx9, hm⟩ := bind_some hm
      obtain ⟨x10, hx10, hm⟩ := bind_some hm
      refine CWalk.drawM [[], [0], [], [0, 1, 2], [0, 1, 2, 3], [], [5], [], [5, 6, 7], [5, 6, 7, 8], [0, 1, 2, 3, 4, 5, 6, 7, 8, 9]] [[.fact 78 (Fact.pto 10 2)], [.fact 79 (Fact.rep [0] (a0.Dirty : List Bool))], [.fact 80 (Fact.rep [] (s7 : Int))], [.fact 81 (Fact.ptr [0] (x9 : Bool))], [.fact 82 (Fact.rep [] (x9 : Bool))], [.fact 83 (Fact.pto 17 2)], [.fact 84 (Fact.rep [0] (a1.Dirty : List Bool))], [.fact 85 (Fact.rep [] (s7 : Int))], [.fact 86 (Fact.ptr [0] (x10 : Bool))], [.fact 87 (Fact.rep [] (x10 : Bool))], [.fact 88 (Fact.rep [] ((x9 != x10) : Bool))]] mixed (by kernel_rfl) (ao (so (Spec.fieldAddrO fd28_2 (Has.cv (Has.s rfl) (Cv.isvP rfl)))) (ao (so (Spec.loadF (i := 2) ty26 rfl (Has.s rfl) rfl (HasG.s rfl))) (ao (so (Spec.move (Has.s rfl))) (ao (so (Spec.indexAddr hx9 sl26 (Has.s rfl) (Has.s rfl))) (ao (so ((Spec.load ty4 (Has.s rfl)).flat (T' := []))) (ao (so (Spec.fieldAddrO fd28_2 (Has.cv (Has.s rfl) (Cv.isvP rfl)))) (ao (so (Spec.loadF (i := 2) ty26 rfl (Has.s rfl) rfl (HasG.s rfl))) (ao (so (Spec.move (Has.s rfl))) (ao (so (Spec.indexAddr hx10 sl26 (Has.s rfl) (Has.s rfl))) (ao (so ((Spec.load ty4 (Has.s rfl)).flat (T' := []))) (ao (so (Spec.neqT (Has.s rfl) (Has.s rfl) Try.underlying4)) AllM.nil))))))))))) ?_
      refine Leaf.thenN ?_
      refine CWalk.cond rfl (fun hb => ?_) (fun hb => ?_)
      ·have hm := cond_t hb hm
       refine CWalk.seq ?_
       refine CWalk.region ?_
       refine wo (Spec.assign Has.bool) ?_
       refine Walk.nil ?_
       refine Leaf.thenN ?_
       refine CWalk.ret ?_
       refine Leaf.blockR ?_
       refine Leaf.thenR ?_
       exact Leaf.brk hm (fun h => nomatch h) rfl (st Sub.nil)
      ·have hm := cond_f hb hm
       refine CWalk.skip ?_
       refine Leaf.blockN ?_
       refine Leaf.thenN ?_
       refine CWalk.region ?_
       refine mv ?_
       refine wo (Spec.addI (Has.s rfl) Has.int) ?_
       refine wo (Spec.assign (Has.s rfl)) ?_
       refine Walk.nil ?_
       exact Leaf.next hm (sn (sn (st (sf (sm (sm (sf (sf (sf (sf (sm (sm (sf (sf (sf (sn (sn Sub.nil)))))))))))))))))
     ·have hm := cond_f hb hm
      refine CWalk.exit ?_
      refine Leaf.thenE ?_
      exact Leaf.brk hm (fun h => nomatch h) rfl (Sub.nil)
    ·intro _
     rcases b11 with b12 | b13
     ·have hm := selim_l hm
      refine Leaf.blockE ?_
      refine Leaf.thenN ?_
      refine CWalk.seq ?_
      refine CWalk.region ?_
      refine wo (Spec.assign Has.bool) ?_
      refine Walk.nil ?_
      refine Leaf.thenN ?_
      refine CWalk.ret ?_
      obtain rfl := Option.some.inj hm
      exact Leaf.retC1 rfl (HasR.cv (HasR.tmp (Has.s rfl)) Cv.fl)
     ·have hm := selim_r hm
      refine Leaf.blockR ?_
      refine Leaf.thenR ?_
      obtain rfl := Option.some.inj hm
      exact Leaf.retC1 rfl (HasR.cv (HasR.tmp (Has.s rfl)) Cv.fl)
   ·have hm := selim_r hm
    refine Leaf.blockR ?_
    refine Leaf.thenR ?_
    obtain rfl := Option.some.inj hm
    exact Leaf.retC1 rfl (HasR.cv (HasR.tmp (Has.s rfl)) Cv.fl)

end Go.Proofs.Ytjefieckineneaa
