/- Printed by a program of ours: models of functions, and that calls do what they say. -/
import Derived.Test.YtjefieckineneaaGt1
namespace Go.Proofs.Ytjefieckineneaa
open Go GL
set_option linter.unusedVariables false

def law16_HeadTells_L1 (x3 : (List UInt8) × Bool × Int) (s8 : Int) : Option (Ctl (Int) (Unit)) :=
  (bif (decide (s8 < ((x3.1).length : Int))) then Option.bind (idx x3.1 s8) (fun x10 => Option.bind (idx x3.1 s8) (fun x11 => some (Ctl.next (wI (s8 + (1 : Int)))))) else some (Ctl.brk ()))
def law16_HeadTells_L2 (x5 : Deal × Int) (s13 : Int) : Option (Ctl (Int) (Unit)) :=
  (bif (decide (s13 < ((x5.1.Parity).length : Int))) then Option.bind (idx x5.1.Parity s13) (fun x15 => Option.bind (idx x5.1.Parity s13) (fun x16 => some (Ctl.next (wI (s13 + (1 : Int)))))) else some (Ctl.brk ()))
def law16_HeadTells_L4 (x5 : Deal × Int) (s18 : Int) (s20 : Int) : Option (Ctl (Int) (Unit)) :=
  Option.bind (idx x5.1.Blocks s18) (fun x22 => (bif (decide (s20 < ((x22).length : Int))) then Option.bind (idx x5.1.Blocks s18) (fun x23 => Option.bind (idx x23 s20) (fun x24 => Option.bind (idx x23 s20) (fun x25 => some (Ctl.next (wI (s20 + (1 : Int))))))) else some (Ctl.brk ())))
def law16_HeadTells_L3 (x5 : Deal × Int) (s18 : Int) : Option (Ctl (Int) (Unit)) :=
  (bif (decide (s18 < ((x5.1.Blocks).length : Int))) then Option.bind (loopM (fun s : Int => law16_HeadTells_L4 x5 s18 s) FUEL (0 : Int)) (fun b26 => some (Ctl.next (wI (s18 + (1 : Int))))) else some (Ctl.brk ()))
/-- freeboard/freeboardlaw16.HeadTells -/
def law16_HeadTells (a0 : Config) (a1 : Head) (a2 : Int) : Option (Bool) :=
  Option.bind (ref16_Great a1) (fun x1 => (bif x1 then some true else Option.bind (ref16_Twin a1) (fun x2 => Option.bind (head_Tell a0 x2 a2) (fun x3 => Option.bind (ref16_Tell a0 a1 a2) (fun x4 => Option.bind (head_Deal a0 x2) (fun x5 => Option.bind (ref16_Deal a0 a1) (fun x6 => Option.bind (gO (((((Str.mk x3.1).s == (Str.mk x4.1).s) && (x3.2.1 == x4.2.1)) && (x3.2.2 == x4.2.2))) (ref16_SameDeal x5.1 x6.1)) (fun x7 => Option.bind (loopM (fun s : Int => law16_HeadTells_L1 x3 s) FUEL (0 : Int)) (fun b12 => Option.bind (loopM (fun s : Int => law16_HeadTells_L2 x5 s) FUEL (0 : Int)) (fun b17 => Option.bind (loopM (fun s : Int => law16_HeadTells_L3 x5 s) FUEL (0 : Int)) (fun b27 => Option.bind (gO (((((((Str.mk x3.1).s == (Str.mk x4.1).s) && (x3.2.1 == x4.2.1)) && (x3.2.2 == x4.2.2)) && x7) && (x5.2 == x6.2))) (ref16_Same x2 a1)) (fun x28 => some (((((((Str.mk x3.1).s == (Str.mk x4.1).s) && (x3.2.1 == x4.2.1)) && (x3.2.2 == x4.2.2)) && x7) && (x5.2 == x6.2)) && x28)))))))))))))
set_option maxRecDepth 100000 in
set_option maxHeartbeats 2000000 in
theorem law16_HeadTells_c (a0 : Config) (a1 : Head) (a2 : Int) {r : Bool} (hm : law16_HeadTells a0 a1 a2 = some r) : Ctr Try.prog 3 [.rep 0 a0, .rep 0 a1, .rep 0 a2] (.fl r) [] := by
 refine ctr_of_walk [[]] 139 Try.func3 rfl rfl rfl rfl (fun w0 om => ?_)
 unfold law16_HeadTells at hm
 refine CWalk.sub (G' := [.fact 0 (Fact.rep [] (a0 : Config)), .fact 1 (Fact.rep [0] (a1 : Head)), .fact 2 (Fact.rep [] (a2 : Int))]) (Sub.cons (Has.fl (Has.s rfl)) (sn (Sub.cons (Has.fl (Has.s rfl)) Sub.nil))) ?_
 refine CWalk.seq ?_
 refine CWalk.region ?_
 refine ws (Step.boxObj (ls := [(false, 1, Fact.rep [] (a0.Id : UInt32)), (false, 1, Fact.rep [] (a0.Members : Int)), (false, 1, Fact.rep [] (a0.Chunk : Int)), (false, 1, Fact.rep [] (a0.Rows : Int)), (false, 1, Fact.rep [] (a0.Log : Int)), (false, 1, Fact.rep [] (a0.Heads : Int))]) 10 rfl rfl rfl rfl (HasL.flds (Has.cv (Has.s rfl) (Cv.trans (Cv.opens (chConfig a0)) (Cv.flds (CvL.cons Cv.fl (CvL.cons Cv.fl (CvL.cons Cv.fl (CvL.cons Cv.fl (CvL.cons Cv.fl (CvL.cons Cv.fl CvL.nil))))))))))) ?_
 refine ws (Step.boxObj (ls := [(false, 1, Fact.rep [] (a1.Stripe : Int)), (false, 1, Fact.rep [0] (a1.Blocks : List (List UInt8))), (false, 1, Fact.rep [0] (a1.Dirty : List Bool)), (false, 1, Fact.rep [] (a1.Phase : UInt8)), (false, 1, Fact.rep [] (a1.Deals : Bool)), (false, 1, Fact.rep [] (a1.Seq : UInt32))]) 17 rfl rfl rfl rfl (HasL.flds (Has.cv (Has.s rfl) (Cv.trans (Cv.opens (chHead a1)) (Cv.flds (CvL.cons Cv.fl (CvL.cons Cv.refl (CvL.cons Cv.refl (CvL.cons Cv.fl (CvL.cons Cv.fl (CvL.cons Cv.fl CvL.nil))))))))))) ?_
 refine wo (Spec.assign Has.bool) ?_
 refine Walk.nil ?_
 refine Leaf.thenN ?_
 refine CWalk.seq ?_
 refine CWalk.seq ?_
 refine CWalk.region ?_
 refine wo (Spec.loadObj (ls := [(false, 1, Fact.rep [] (a1.Stripe : Int)), (false, 1, Fact.rep [0] (a1.Blocks : List (List UInt8))), (false, 1, Fact.rep [0] (a1.Dirty : List Bool)), (false, 1, Fact.rep [] (a1.Phase : UInt8)), (false, 1, Fact.rep [] (a1.Deals : Bool)), (false, 1, Fact.rep [] (a1.Seq : UInt32))]) ty28 rfl rfl (Has.s rfl) rfl (HasGs.cons (HasG.s rfl) (HasGs.cons (HasG.s rfl) (HasGs.cons (HasG.s rfl) (HasGs.cons (HasG.s rfl) (HasGs.cons (HasG.s rfl) (HasGs.cons (HasG.s rfl) HasGs.nil))))))) ?_
 obtain ⟨x1, hx1, hm⟩ := bind_some hm
 refine wo (f := Fact.rep [] (x1 : Bool)) (Spec.callE [0] 24 rfl en9 (ref16_Great_c a1 hx1) (HasAll.cons (Has.m (Has.cv (Has.s rfl) (Cv.trans (Cv.flds (CvL.cons Cv.fl (CvL.cons (Cv.m rfl) (CvL.cons (Cv.m rfl) (CvL.cons Cv.fl (CvL.cons Cv.fl (CvL.cons Cv.fl CvL.nil))))))) (Cv.close (T := [0]) (chHead a1)))) rfl) HasAll.nil)) ?_
 refine Walk.nil ?_
 refine Leaf.thenN ?_
 refine CWalk.cond rfl (fun hb => ?_) (fun hb => ?_)
 ·have hm := cond_t hb hm
  refine CWalk.seq ?_
  refine CWalk.region ?_
  refine wo (Spec.assign Has.bool) ?_
  refine Walk.nil ?_
  refine Leaf.thenN ?_
  refine CWalk.ret ?_
  refine Leaf.thenR ?_
  obtain rfl := Option.some.inj hm
  exact Leaf.retC1 rfl (HasR.cv (HasR.tmp (Has.s rfl)) Cv.fl)
 ·have hm := cond_f hb hm
  refine CWalk.skip ?_
  refine Leaf.thenN ?_
  refine CWalk.seq ?_
  refine CWalk.region ?_
  refine wo (Spec.loadObj (ls := [(false, 1, Fact.rep [] (a1.Stripe : Int)), (false, 1, Fact.rep [0] (a1.Blocks : List (List UInt8))), (false, 1, Fact.rep [0] (a1.Dirty : List Bool)), (false, 1, Fact.rep [] (a1.Phase : UInt8)), (false, 1, Fact.rep [] (a1.Deals : Bool)), (false, 1, Fact.rep [] (a1.Seq : UInt32))]) ty28 rfl rfl (Has.s rfl) rfl (HasGs.cons (HasG.s rfl) (HasGs.cons (HasG.s rfl) (HasGs.cons (HasG.s rfl) (HasGs.cons (HasG.s rfl) (HasGs.cons (HasG.s rfl) (HasGs.cons (HasG.s rfl) HasGs.nil))))))) ?_
  obtain ⟨x2, hx2, hm⟩ := bind_some hm
  refine wo (f := Fact.flds [(false, 1, Fact.rep [] (x2.Stripe : Int)), (false, 1, Fact.ow [25] [26] 31 (x2.Blocks : List (List UInt8))), (false, 1, Fact.ow [27] [] 4 (x2.Dirty : List Bool)), (false, 1, Fact.rep [] (x2.Phase : UInt8)), (false, 1, Fact.rep [] (x2.Deals : Bool)), (false, 1, Fact.rep [] (x2.Seq : UInt32))]) (Spec.callE [0] 25 rfl en10 (ref16_Twin_c a1 hx2) (HasAll.cons (Has.m (Has.cv (Has.s rfl) (Cv.trans (Cv.flds (CvL.cons Cv.fl (CvL.cons (Cv.m rfl) (CvL.cons (Cv.m rfl) (CvL.cons Cv.fl (CvL.cons Cv.fl (CvL.cons Cv.fl CvL.nil))))))) (Cv.close (T := [0]) (chHead a1)))) rfl) HasAll.nil)) ?_
  refine ws (Step.allocObj (ls := [(false, 1, Fact.rep [] ((0 : Int) : Int)), (false, 1, Fact.nilv), (false, 1, Fact.nilv), (false, 1, Fact.rep [] ((0 : UInt8) : UInt8)), (false, 1, Fact.rep [] (false : Bool)), (false, 1, Fact.rep [] ((0 : UInt32) : UInt32))]) 28 rfl rfl rfl rfl zl28) ?_
  refine ws (Step.storeObj (ls := [(false, 1, Fact.rep [] (x2.Stripe : Int)), (false, 1, Fact.ow [25] [26] 31 (x2.Blocks : List (List UInt8))), (false, 1, Fact.ow [27] [] 4 (x2.Dirty : List Bool)), (false, 1, Fact.rep [] (x2.Phase : UInt8)), (false, 1, Fact.rep [] (x2.Deals : Bool)), (false, 1, Fact.rep [] (x2.Seq : UInt32))]) rfl ty28 rfl rfl (Has.s rfl) rfl (HasL.flds (Has.s rfl)) rfl) ?_
  refine Walk.nil ?_
  refine Leaf.thenN ?_
  refine CWalk.seq ?_
  refine CWalk.region ?_
  refine wo (Spec.loadObj (ls := [(false, 1, Fact.rep [] (a0.Id : UInt32)), (false, 1, Fact.rep [] (a0.Members : Int)), (false, 1, Fact.rep [] (a0.Chunk : Int)), (false, 1, Fact.rep [] (a0.Rows : Int)), (false, 1, Fact.rep [] (a0.Log : Int)), (false, 1, Fact.rep [] (a0.Heads : Int))]) ty24 rfl rfl (Has.s rfl) rfl (HasGs.cons (HasG.s rfl) (HasGs.cons (HasG.s rfl) (HasGs.cons (HasG.s rfl) (HasGs.cons (HasG.s rfl) (HasGs.cons (HasG.s rfl) (HasGs.cons (HasG.s rfl) HasGs.nil))))))) ?_
  refine wo (Spec.loadObj (ls := [(false, 1, Fact.rep [] (x2.Stripe : Int)), (false, 1, Fact.ow [25] [26] 31 (x2.Blocks : List (List UInt8))), (false, 1, Fact.ow [27] [] 4 (x2.Dirty : List Bool)), (false, 1, Fact.rep [] (x2.Phase : UInt8)), (false, 1, Fact.rep [] (x2.Deals : Bool)), (false, 1, Fact.rep [] (x2.Seq : UInt32))]) ty28 rfl rfl (Has.s rfl) rfl (HasGs.cons (HasG.s rfl) (HasGs.cons (HasG.s rfl) (HasGs.cons (HasG.s rfl) (HasGs.cons (HasG.s rfl) (HasGs.cons (HasG.s rfl) (HasGs.cons (HasG.s rfl) HasGs.nil))))))) ?_
  refine mv ?_
  obtain ⟨x3, hx3, hm⟩ := bind_some hm
  refine wo (f := Fact.tup3 (Fact.ow [35] [] 5 (x3.1 : List UInt8)) (Fact.rep [] (x3.2.1 : Bool)) (Fact.rep [] (x3.2.2 : Int))) (Spec.callE [25, 26, 27] 35 rfl en11 (head_Tell_c a0 x2 a2 hx3) (HasAll.cons (Has.fl (Has.cv (Has.s rfl) (Cv.trans (Cv.flds (CvL.cons Cv.fl (CvL.cons Cv.fl (CvL.cons Cv.fl (CvL.cons Cv.fl (CvL.cons Cv.fl (CvL.cons Cv.fl CvL.nil))))))) (Cv.close (T := []) (chConfig a0))))) (HasAll.cons (Has.m (Has.cv (Has.s rfl) (Cv.trans (Cv.flds (CvL.cons Cv.fl (CvL.cons (Cv.trans (Cv.trans Cv.owSl (Cv.slRep (T' := [25, 26]) rfl rfl)) (Cv.m rfl)) (CvL.cons (Cv.trans (Cv.trans Cv.owSl (Cv.slRep (T' := [27]) rfl rfl)) (Cv.m rfl)) (CvL.cons Cv.fl (CvL.cons Cv.fl (CvL.cons Cv.fl CvL.nil))))))) (Cv.close (T := [25, 26, 27]) (chHead x2)))) rfl) (HasAll.cons (Has.fl (Has.s rfl)) HasAll.nil)))) ?_
  refine mv ?_
  refine wo (Spec.ext0_3 (Has.s rfl)) ?_
  refine wo (Spec.ext1_3 (Has.s rfl)) ?_
  refine wo (Spec.ext2_3 (Has.s rfl)) ?_
  refine wo (Spec.assign (Has.s rfl)) ?_
  refine wo (Spec.assign (Has.s rfl)) ?_
  refine wo (Spec.assign (Has.s rfl)) ?_
  refine Walk.nil ?_
  refine Leaf.thenN ?_
  refine CWalk.seq ?_
  refine CWalk.region ?_
  refine wo (Spec.loadObj (ls := [(false, 1, Fact.rep [] (a0.Id : UInt32)), (false, 1, Fact.rep [] (a0.Members : Int)), (false, 1, Fact.rep [] (a0.Chunk : Int)), (false, 1, Fact.rep [] (a0.Rows : Int)), (false, 1, Fact.rep [] (a0.Log : Int)), (false, 1, Fact.rep [] (a0.Heads : Int))]) ty24 rfl rfl (Has.s rfl) rfl (HasGs.cons (HasG.s rfl) (HasGs.cons (HasG.s rfl) (HasGs.cons (HasG.s rfl) (HasGs.cons (HasG.s rfl) (HasGs.cons (HasG.s rfl) (HasGs.cons (HasG.s rfl) HasGs.nil))))))) ?_
  refine wo (Spec.loadObj (ls := [(false, 1, Fact.rep [] (a1.Stripe : Int)), (false, 1, Fact.rep [0] (a1.Blocks : List (List UInt8))), (false, 1, Fact.rep [0] (a1.Dirty : List Bool)), (false, 1, Fact.rep [] (a1.Phase : UInt8)), (false, 1, Fact.rep [] (a1.Deals : Bool)), (false, 1, Fact.rep [] (a1.Seq : UInt32))]) ty28 rfl rfl (Has.s rfl) rfl (HasGs.cons (HasG.s rfl) (HasGs.cons (HasG.s rfl) (HasGs.cons (HasG.s rfl) (HasGs.cons (HasG.s rfl) (HasGs.cons (HasG.s rfl) (HasGs.cons (HasG.s rfl) HasGs.nil))))))) ?_
  refine mv ?_
  obtain ⟨x4, hx4, hm⟩ := bind_some hm
  refine wo (f := Fact.tup3 (Fact.ow [36] [] 5 (x4.1 : List UInt8)) (Fact.rep [] (x4.2.1 : Bool)) (Fact.rep [] (x4.2.2 : Int))) (Spec.callE [0] 36 rfl en12 (ref16_Tell_c a0 a1 a2 hx4) (HasAll.cons (Has.fl (Has.cv (Has.s rfl) (Cv.trans (Cv.flds (CvL.cons Cv.fl (CvL.cons Cv.fl (CvL.cons Cv.fl (CvL.cons Cv.fl (CvL.cons Cv.fl (CvL.cons Cv.fl CvL.nil))))))) (Cv.close (T := []) (chConfig a0))))) (HasAll.cons (Has.m (Has.cv (Has.s rfl) (Cv.trans (Cv.flds (CvL.cons Cv.fl (CvL.cons (Cv.m rfl) (CvL.cons (Cv.m rfl) (CvL.cons Cv.fl (CvL.cons Cv.fl (CvL.cons Cv.fl CvL.nil))))))) (Cv.close (T := [0]) (chHead a1)))) rfl) (HasAll.cons (Has.fl (Has.s rfl)) HasAll.nil)))) ?_
  refine mv ?_
  refine wo (Spec.ext0_3 (Has.s rfl)) ?_
  refine wo (Spec.ext1_3 (Has.s rfl)) ?_
  refine wo (Spec.ext2_3 (Has.s rfl)) ?_
  refine wo (Spec.assign (Has.s rfl)) ?_
  refine wo (Spec.assign (Has.s rfl)) ?_
  refine wo (Spec.assign (Has.s rfl)) ?_
  refine Walk.nil ?_
  refine Leaf.thenN ?_
  refine CWalk.seq ?_
  refine CWalk.region ?_
  refine wo (Spec.loadObj (ls := [(false, 1, Fact.rep [] (a0.Id : UInt32)), (false, 1, Fact.rep [] (a0.Members : Int)), (false, 1, Fact.rep [] (a0.Chunk : Int)), (false, 1, Fact.rep [] (a0.Rows : Int)), (false, 1, Fact.rep [] (a0.Log : Int)), (false, 1, Fact.rep [] (a0.Heads : Int))]) ty24 rfl rfl (Has.s rfl) rfl (HasGs.cons (HasG.s rfl) (HasGs.cons (HasG.s rfl) (HasGs.cons (HasG.s rfl) (HasGs.cons (HasG.s rfl) (HasGs.cons (HasG.s rfl) (HasGs.cons (HasG.s rfl) HasGs.nil))))))) ?_
  refine wo (Spec.loadObj (ls := [(false, 1, Fact.rep [] (x2.Stripe : Int)), (false, 1, Fact.ow [25] [26] 31 (x2.Blocks : List (List UInt8))), (false, 1, Fact.ow [27] [] 4 (x2.Dirty : List Bool)), (false, 1, Fact.rep [] (x2.Phase : UInt8)), (false, 1, Fact.rep [] (x2.Deals : Bool)), (false, 1, Fact.rep [] (x2.Seq : UInt32))]) ty28 rfl rfl (Has.s rfl) rfl (HasGs.cons (HasG.s rfl) (HasGs.cons (HasG.s rfl) (HasGs.cons (HasG.s rfl) (HasGs.cons (HasG.s rfl) (HasGs.cons (HasG.s rfl) (HasGs.cons (HasG.s rfl) HasGs.nil))))))) ?_
  obtain ⟨x5, hx5, hm⟩ := bind_some hm
  refine wo (f := Fact.tup2 (Fact.flds [(false, 1, Fact.rep [] (x5.1.Stripe : Int)), (false, 1, Fact.ow [37] [] 3 (x5.1.Slots : List Int)), (false, 1, Fact.ow [38] [39] 31 (x5.1.Blocks : List (List UInt8))), (false, 1, Fact.ow [40] [] 5 (x5.1.Parity : List UInt8))]) (Fact.rep [] (x5.2 : Int))) (Spec.callE [25, 26, 27] 37 rfl en13 (head_Deal_c a0 x2 hx5) (HasAll.cons (Has.fl (Has.cv (Has.s rfl) (Cv.trans (Cv.flds (CvL.cons Cv.fl (CvL.cons Cv.fl (CvL.cons Cv.fl (CvL.cons Cv.fl (CvL.cons Cv.fl (CvL.cons Cv.fl CvL.nil))))))) (Cv.close (T := []) (chConfig a0))))) (HasAll.cons (Has.m (Has.cv (Has.s rfl) (Cv.trans (Cv.flds (CvL.cons Cv.fl (CvL.cons (Cv.trans (Cv.trans Cv.owSl (Cv.slRep (T' := [25, 26]) rfl rfl)) (Cv.m rfl)) (CvL.cons (Cv.trans (Cv.trans Cv.owSl (Cv.slRep (T' := [27]) rfl rfl)) (Cv.m rfl)) (CvL.cons Cv.fl (CvL.cons Cv.fl (CvL.cons Cv.fl CvL.nil))))))) (Cv.close (T := [25, 26, 27]) (chHead x2)))) rfl) HasAll.nil))) ?_
  refine mv ?_
  refine wo (Spec.ext0 (Has.s rfl)) ?_
  refine wo (Spec.ext1 (Has.s rfl)) ?_
  refine ws (Step.allocObj (ls := [(false, 1, Fact.rep [] ((0 : Int) : Int)), (false, 1, Fact.nilv), (false, 1, Fact.nilv), (false, 1, Fact.nilv)]) 41 rfl rfl rfl rfl zl39) ?_
  refine ws (Step.storeObj (ls := [(false, 1, Fact.rep [] (x5.1.Stripe : Int)), (false, 1, Fact.ow [37] [] 3 (x5.1.Slots : List Int)), (false, 1, Fact.ow [38] [39] 31 (x5.1.Blocks : List (List UInt8))), (false, 1, Fact.ow [40] [] 5 (x5.1.Parity : List UInt8))]) rfl ty39 rfl rfl (Has.s rfl) rfl (HasL.flds (Has.s rfl)) rfl) ?_
  refine wo (Spec.assign (Has.s rfl)) ?_
  refine Walk.nil ?_
  refine Leaf.thenN ?_
  refine CWalk.seq ?_
  refine CWalk.region ?_
  refine wo (Spec.loadObj (ls := [(false, 1, Fact.rep [] (a0.Id : UInt32)), (false, 1, Fact.rep [] (a0.Members : Int)), (false, 1, Fact.rep [] (a0.Chunk : Int)), (false, 1, Fact.rep [] (a0.Rows : Int)), (false, 1, Fact.rep [] (a0.Log : Int)), (false, 1, Fact.rep [] (a0.Heads : Int))]) ty24 rfl rfl (Has.s rfl) rfl (HasGs.cons (HasG.s rfl) (HasGs.cons (HasG.s rfl) (HasGs.cons (HasG.s rfl) (HasGs.cons (HasG.s rfl) (HasGs.cons (HasG.s rfl) (HasGs.cons (HasG.s rfl) HasGs.nil))))))) ?_
  refine wo (Spec.loadObj (ls := [(false, 1, Fact.rep [] (a1.Stripe : Int)), (false, 1, Fact.rep [0] (a1.Blocks : List (List UInt8))), (false, 1, Fact.rep [0] (a1.Dirty : List Bool)), (false, 1, Fact.rep [] (a1.Phase : UInt8)), (false, 1, Fact.rep [] (a1.Deals : Bool)), (false, 1, Fact.rep [] (a1.Seq : UInt32))]) ty28 rfl rfl (Has.s rfl) rfl (HasGs.cons (HasG.s rfl) (HasGs.cons (HasG.s rfl) (HasGs.cons (HasG.s rfl) (HasGs.cons (HasG.s rfl) (HasGs.cons (HasG.s rfl) (HasGs.cons (HasG.s rfl) HasGs.nil))))))) ?_
  obtain ⟨x6, hx6, hm⟩ := bind_some hm
  refine wo (f := Fact.tup2 (Fact.flds [(false, 1, Fact.rep [] (x6.1.Stripe : Int)), (false, 1, Fact.ow [46] [] 3 (x6.1.Slots : List Int)), (false, 1, Fact.ow [47] [48] 31 (x6.1.Blocks : List (List UInt8))), (false, 1, Fact.ow [49] [] 5 (x6.1.Parity : List UInt8))]) (Fact.rep [] (x6.2 : Int))) (Spec.callE [0] 46 rfl en14 (ref16_Deal_c a0 a1 hx6) (HasAll.cons (Has.fl (Has.cv (Has.s rfl) (Cv.trans (Cv.flds (CvL.cons Cv.fl (CvL.cons Cv.fl (CvL.cons Cv.fl (CvL.cons Cv.fl (CvL.cons Cv.fl (CvL.cons Cv.fl CvL.nil))))))) (Cv.close (T := []) (chConfig a0))))) (HasAll.cons (Has.m (Has.cv (Has.s rfl) (Cv.trans (Cv.flds (CvL.cons Cv.fl (CvL.cons (Cv.m rfl) (CvL.cons (Cv.m rfl) (CvL.cons Cv.fl (CvL.cons Cv.fl (CvL.cons Cv.fl CvL.nil))))))) (Cv.close (T := [0]) (chHead a1)))) rfl) HasAll.nil))) ?_
  refine mv ?_
  refine wo (Spec.ext0 (Has.s rfl)) ?_
  refine wo (Spec.ext1 (Has.s rfl)) ?_
  refine ws (Step.allocObj (ls := [(false, 1, Fact.rep [] ((0 : Int) : Int)), (false, 1, Fact.nilv), (false, 1, Fact.nilv), (false, 1, Fact.nilv)]) 50 rfl rfl rfl rfl zl39) ?_
  refine ws (Step.storeObj (ls := [(false, 1, Fact.rep [] (x6.1.Stripe : Int)), (false, 1, Fact.ow [46] [] 3 (x6.1.Slots : List Int)), (false, 1, Fact.ow [47] [48] 31 (x6.1.Blocks : List (List UInt8))), (false, 1, Fact.ow [49] [] 5 (x6.1.Parity : List UInt8))]) rfl ty39 rfl rfl (Has.s rfl) rfl (HasL.flds (Has.s rfl)) rfl) ?_
  refine wo (Spec.assign (Has.s rfl)) ?_
  refine Walk.nil ?_
  refine Leaf.thenN ?_
  refine CWalk.seq ?_
  refine CWalk.region ?_
  refine mv ?_
  refine wo (Spec.toStr Try.underlying31 Try.underlying5 Try.underlying9 (Has.cv (Has.s rfl) (Cv.trans Cv.owSl (Cv.slRep (T' := [35]) rfl rfl)))) ?_
  refine mv ?_
  refine wo (Spec.toStr Try.underlying31 Try.underlying5 Try.underlying9 (Has.cv (Has.s rfl) (Cv.trans Cv.owSl (Cv.slRep (T' := [36]) rfl rfl)))) ?_
  refine wo (Spec.eqlS (Has.s rfl) (Has.s rfl)) ?_
  refine mv ?_
  refine wg rfl rfl (fun hb => Spec.move (Has.s rfl)) ?_
  refine wg rfl rfl (fun hb => Spec.move (Has.s rfl)) ?_
  refine wg rfl rfl (fun hb => Spec.eqlT (Has.u rfl hb) (Has.u rfl hb) Try.underlying4) ?_
  refine wo (Spec.and (Has.s rfl) (fun h => Has.u rfl h)) ?_
  refine mv ?_
  refine wg rfl rfl (fun hb => Spec.move (Has.s rfl)) ?_
  refine wg rfl rfl (fun hb => Spec.move (Has.s rfl)) ?_
  refine wg rfl rfl (fun hb => Spec.eqlI (Has.u rfl hb) (Has.u rfl hb)) ?_
  refine wo (Spec.and (Has.s rfl) (fun h => Has.u rfl h)) ?_
  refine mv ?_
  refine wg rfl rfl (fun hb => Spec.loadObj (ls := [(false, 1, Fact.rep [] (x5.1.Stripe : Int)), (false, 1, Fact.ow [37] [] 3 (x5.1.Slots : List Int)), (false, 1, Fact.ow [38] [39] 31 (x5.1.Blocks : List (List UInt8))), (false, 1, Fact.ow [40] [] 5 (x5.1.Parity : List UInt8))]) ty39 rfl rfl (Has.s rfl) rfl (HasGs.cons (HasG.s rfl) (HasGs.cons (HasG.s rfl) (HasGs.cons (HasG.s rfl) (HasGs.cons (HasG.s rfl) HasGs.nil))))) ?_
  refine wg rfl rfl (fun hb => Spec.loadObj (ls := [(false, 1, Fact.rep [] (x6.1.Stripe : Int)), (false, 1, Fact.ow [46] [] 3 (x6.1.Slots : List Int)), (false, 1, Fact.ow [47] [48] 31 (x6.1.Blocks : List (List UInt8))), (false, 1, Fact.ow [49] [] 5 (x6.1.Parity : List UInt8))]) ty39 rfl rfl (Has.s rfl) rfl (HasGs.cons (HasG.s rfl) (HasGs.cons (HasG.s rfl) (HasGs.cons (HasG.s rfl) (HasGs.cons (HasG.s rfl) HasGs.nil))))) ?_
  obtain ⟨x7, hx7, hm⟩ := bind_some hm
  refine wg (f := Fact.rep [] (x7 : Bool)) rfl rfl (fun hb => Spec.callE [37, 38, 39, 40, 46, 47, 48, 49] 55 rfl en15 (ref16_SameDeal_c x5.1 x6.1 (gO_t hx7 hb)) (HasAll.cons (Has.m (Has.cv (Has.u rfl hb) (Cv.trans (Cv.flds (CvL.cons Cv.fl (CvL.cons (Cv.trans (Cv.trans Cv.owSl (Cv.slRep (T' := [37]) rfl rfl)) (Cv.m rfl)) (CvL.cons (Cv.trans (Cv.trans Cv.owSl (Cv.slRep (T' := [38, 39]) rfl rfl)) (Cv.m rfl)) (CvL.cons (Cv.trans (Cv.trans Cv.owSl (Cv.slRep (T' := [40]) rfl rfl)) (Cv.m rfl)) CvL.nil))))) (Cv.close (T := [37, 38, 39, 40]) (chDeal x5.1)))) rfl) (HasAll.cons (Has.m (Has.cv (Has.u rfl hb) (Cv.trans (Cv.flds (CvL.cons Cv.fl (CvL.cons (Cv.trans (Cv.trans Cv.owSl (Cv.slRep (T' := [46]) rfl rfl)) (Cv.m rfl)) (CvL.cons (Cv.trans (Cv.trans Cv.owSl (Cv.slRep (T' := [47, 48]) rfl rfl)) (Cv.m rfl)) (CvL.cons (Cv.trans (Cv.trans Cv.owSl (Cv.slRep (T' := [49]) rfl rfl)) (Cv.m rfl)) CvL.nil))))) (Cv.close (T := [46, 47, 48, 49]) (chDeal x6.1)))) rfl) HasAll.nil))) ?_
  refine wo (Spec.and (Has.s rfl) (fun h => Has.u rfl h)) ?_
  refine mv ?_
  refine wg rfl rfl (fun hb => Spec.move (Has.s rfl)) ?_
  refine wg rfl rfl (fun hb => Spec.move (Has.s rfl)) ?_
  refine wg rfl rfl (fun hb => Spec.eqlI (Has.u rfl hb) (Has.u rfl hb)) ?_
  refine wo (Spec.and (Has.s rfl) (fun h => Has.u rfl h)) ?_
  refine wo (Spec.assign (Has.s rfl)) ?_
  refine Walk.nil ?_
  refine Leaf.thenN ?_
  refine CWalk.seq ?_
  refine CWalk.seq ?_
  refine CWalk.region ?_
  refine wo (Spec.assign Has.int) ?_
  refine Walk.nil ?_
  refine Leaf.thenN ?_
  refine CWalk.block ?_
  obtain ⟨b12, hb12, hm⟩ := bind_some hm
  refine CWalk.loop (fun s : Int => [.fact 4 (Fact.isv 17), .fact 7 (Fact.isv 28), .fact 8 (Fact.lo [35] (x3.1 : List UInt8)), .fact 14 (Fact.isv 41), .fact 18 (Fact.rep [] (((((((Str.mk x3.1).s == (Str.mk x4.1).s) && (x3.2.1 == x4.2.1)) && (x3.2.2 == x4.2.2)) && x7) && (x5.2 == x6.2)) : Bool)), .fact 19 (Fact.rep [] (s : Int)), .fact 100018 (Fact.at 18 (Fact.rep [] (a1.Stripe : Int))), .fact 100019 (Fact.at 19 (Fact.rep [0] (a1.Blocks : List (List UInt8)))), .fact 100020 (Fact.at 20 (Fact.rep [0] (a1.Dirty : List Bool))), .fact 100021 (Fact.at 21 (Fact.rep [] (a1.Phase : UInt8))), .fact 100022 (Fact.at 22 (Fact.rep [] (a1.Deals : Bool))), .fact 100023 (Fact.at 23 (Fact.rep [] (a1.Seq : UInt32))), .fact 100029 (Fact.at 29 (Fact.rep [] (x2.Stripe : Int))), .fact 100030 (Fact.at 30 (Fact.ow [25] [26] 31 (x2.Blocks : List (List UInt8)))), .fact 100031 (Fact.at 31 (Fact.ow [27] [] 4 (x2.Dirty : List Bool))), .fact 100032 (Fact.at 32 (Fact.rep [] (x2.Phase : UInt8))), .fact 100033 (Fact.at 33 (Fact.rep [] (x2.Deals : Bool))), .fact 100034 (Fact.at 34 (Fact.rep [] (x2.Seq : UInt32))), .fact 100042 (Fact.at 42 (Fact.rep [] (x5.1.Stripe : Int))), .fact 100043 (Fact.at 43 (Fact.ow [37] [] 3 (x5.1.Slots : List Int))), .fact 100044 (Fact.at 44 (Fact.ow [38] [39] 31 (x5.1.Blocks : List (List UInt8)))), .fact 100045 (Fact.at 45 (Fact.ow [40] [] 5 (x5.1.Parity : List UInt8))), .fact 100017 (Fact.obj 17 [(false, 1), (false, 1), (false, 1), (false, 1), (false, 1), (false, 1)]), .fact 100028 (Fact.obj 28 [(false, 1), (false, 1), (false, 1), (false, 1), (false, 1), (false, 1)]), .fact 100041 (Fact.obj 41 [(false, 1), (false, 1), (false, 1), (false, 1)])]) (fun b : Unit => (Exit.exit 0, [.fact 4 (Fact.isv 17), .fact 7 (Fact.isv 28), .fact 14 (Fact.isv 41), .fact 18 (Fact.rep [] (((((((Str.mk x3.1).s == (Str.mk x4.1).s) && (x3.2.1 == x4.2.1)) && (x3.2.2 == x4.2.2)) && x7) && (x5.2 == x6.2)) : Bool)), .fact 100018 (Fact.at 18 (Fact.rep [] (a1.Stripe : Int))), .fact 100019 (Fact.at 19 (Fact.rep [0] (a1.Blocks : List (List UInt8)))), .fact 100020 (Fact.at 20 (Fact.rep [0] (a1.Dirty : List Bool))), .fact 100021 (Fact.at 21 (Fact.rep [] (a1.Phase : UInt8))), .fact 100022 (Fact.at 22 (Fact.rep [] (a1.Deals : Bool))), .fact 100023 (Fact.at 23 (Fact.rep [] (a1.Seq : UInt32))), .fact 100029 (Fact.at 29 (Fact.rep [] (x2.Stripe : Int))), .fact 100030 (Fact.at 30 (Fact.ow [25] [26] 31 (x2.Blocks : List (List UInt8)))), .fact 100031 (Fact.at 31 (Fact.ow [27] [] 4 (x2.Dirty : List Bool))), .fact 100032 (Fact.at 32 (Fact.rep [] (x2.Phase : UInt8))), .fact 100033 (Fact.at 33 (Fact.rep [] (x2.Deals : Bool))), .fact 100034 (Fact.at 34 (Fact.rep [] (x2.Seq : UInt32))), .fact 100042 (Fact.at 42 (Fact.rep [] (x5.1.Stripe : Int))), .fact 100043 (Fact.at 43 (Fact.ow [37] [] 3 (x5.1.Slots : List Int))), .fact 100044 (Fact.at 44 (Fact.ow [38] [39] 31 (x5.1.Blocks : List (List UInt8)))), .fact 100045 (Fact.at 45 (Fact.ow [40] [] 5 (x5.1.Parity : List UInt8))), .fact 100017 (Fact.obj 17 [(false, 1), (false, 1), (false, 1), (false, 1), (false, 1), (false, 1)]), .fact 100028 (Fact.obj 28 [(false, 1), (false, 1), (false, 1), (false, 1), (false, 1), (false, 1)]), .fact 100041 (Fact.obj 41 [(false, 1), (false, 1), (false, 1), (false, 1)])])) hb12 (sn (sn (Sub.cons (Has.cv (Has.s rfl) (Cv.trans (Cv.trans Cv.owSl (Cv.slRep (T' := [35]) rfl rfl)) (Cv.lo rfl))) (sn (st (st (sf (sm (sm (sf (sf (sf (sf (Sub.cons (Has.at (HasG.cv (HasG.s rfl) (Cv.owM (T := [25]) (te := [26]) rfl rfl))) (Sub.cons (Has.at (HasG.cv (HasG.s rfl) (Cv.owF (T := [27]) (te := []) rfl))) (sf (sf (sf (sf (Sub.cons (Has.at (HasG.cv (HasG.s rfl) (Cv.owF (T := [37]) (te := []) rfl))) (Sub.cons (Has.at (HasG.cv (HasG.s rfl) (Cv.owM (T := [38]) (te := [39]) rfl rfl))) (Sub.cons (Has.at (HasG.cv (HasG.s rfl) (Cv.owF (T := [40]) (te := []) rfl))) (sn (sn (sn Sub.nil))))))))))))))))))))))))) ?_ ?_
  ·rintro s8 c9 hm
   replace hm : law16_HeadTells_L1 x3 s8 = some c9 := hm
   unfold law16_HeadTells_L1 at hm
   show CWalk _ [.fact 4 (Fact.isv 17), .fact 7 (Fact.isv 28), .fact 8 (Fact.lo [35] (x3.1 : List UInt8)), .fact 14 (Fact.isv 41), .fact 18 (Fact.rep [] (((((((Str.mk x3.1).s == (Str.mk x4.1).s) && (x3.2.1 == x4.2.1)) && (x3.2.2 == x4.2.2)) && x7) && (x5.2 == x6.2)) : Bool)), .fact 19 (Fact.rep [] (s8 : Int)), .fact 100018 (Fact.at 18 (Fact.rep [] (a1.Stripe : Int))), .fact 100019 (Fact.at 19 (Fact.rep [0] (a1.Blocks : List (List UInt8)))), .fact 100020 (Fact.at 20 (Fact.rep [0] (a1.Dirty : List Bool))), .fact 100021 (Fact.at 21 (Fact.rep [] (a1.Phase : UInt8))), .fact 100022 (Fact.at 22 (Fact.rep [] (a1.Deals : Bool))), .fact 100023 (Fact.at 23 (Fact.rep [] (a1.Seq : UInt32))), .fact 100029 (Fact.at 29 (Fact.rep [] (x2.Stripe : Int))), .fact 100030 (Fact.at 30 (Fact.ow [25] [26] 31 (x2.Blocks : List (List UInt8)))), .fact 100031 (Fact.at 31 (Fact.ow [27] [] 4 (x2.Dirty : List Bool))), .fact 100032 (Fact.at 32 (Fact.rep [] (x2.Phase : UInt8))), .fact 100033 (Fact.at 33 (Fact.rep [] (x2.Deals : Bool))), .fact 100034 (Fact.at 34 (Fact.rep [] (x2.Seq : UInt32))), .fact 100042 (Fact.at 42 (Fact.rep [] (x5.1.Stripe : Int))), .fact 100043 (Fact.at 43 (Fact.ow [37] [] 3 (x5.1.Slots : List Int))), .fact 100044 (Fact.at 44 (Fact.ow [38] [39] 31 (x5.1.Blocks : List (List UInt8)))), .fact 100045 (Fact.at 45 (Fact.ow [40] [] 5 (x5.1.Parity : List UInt8))), .fact 100017 (Fact.obj 17 [(false, 1), (false, 1), (false, 1), (false, 1), (false, 1), (false, 1)]), .fact 100028 (Fact.obj 28 [(false, 1), (false, 1), (false, 1), (false, 1), (false, 1), (false, 1)]), .fact 100041 (Fact.obj 41 [(false, 1), (false, 1), (false, 1), (false, 1)])] _ _
   refine CWalk.seq ?_
   refine CWalk.seq ?_
   refine CWalk.region ?_
   refine mv ?_
   refine mv ?_
   refine wo (Spec.lenLo (Has.s rfl) Try.underlying31) ?_
   refine wo (Spec.lssI (Has.s rfl) (Has.s rfl)) ?_
   refine Walk.nil ?_
   refine Leaf.thenN ?_
   refine CWalk.cond rfl (fun hb => ?_) (fun hb => ?_)
   ·have hm := cond_t hb hm
    refine CWalk.skip ?_
    refine Leaf.thenN ?_
    refine CWalk.seq ?_
    refine CWalk.block ?_
    refine CWalk.region ?_
    refine mv ?_
    refine mv ?_
    obtain ⟨x10, hx10, hm⟩ := bind_some hm
    refine wo (Spec.idxLo hx10 sl31 (Has.s rfl) (Has.s rfl)) ?_
    refine wo (Spec.loadLo ty5 (Has.s rfl)) ?_
    refine wo (Spec.add8Lo (Has.s rfl) (Has.u8 1 rfl)) ?_
    obtain ⟨x11, hx11, hm⟩ := bind_some hm
    refine wo (Spec.idxLo hx11 sl31 (Has.s rfl) (Has.s rfl)) ?_
    refine ws (Step.storeL (T := [35]) (LL := [.fact 8 (Fact.lo [35] (x3.1 : List UInt8)), .fact 81 (Fact.lo [35] (x3.1 : List UInt8)), .fact 86 (Fact.lo [35] (x3.1 : List UInt8)), .fact 88 (Fact.lptr [35] (x10 : UInt8)), .fact 89 (Fact.lo [35] (x10 : UInt8))]) rfl ty5 (Has.s rfl) (Has.s rfl) (LooseL.lo rfl (LooseL.lo rfl (LooseL.lo rfl (LooseL.lptr rfl (LooseL.lo rfl LooseL.nil)))))) ?_
    refine Walk.nil ?_
    refine Leaf.blockN ?_
    refine Leaf.thenN ?_
    refine CWalk.region ?_
    refine mv ?_
    refine wo (Spec.addI (Has.s rfl) Has.int) ?_
    refine wo (Spec.assign (Has.s rfl)) ?_
    refine Walk.nil ?_
    exact Leaf.next hm (sn (sn (sn (sn (st (st (sf (sm (sm (sf (sf (sf (sf (Sub.cons (Has.at (HasG.cv (HasG.s rfl) (Cv.owM (T := [25]) (te := [26]) rfl rfl))) (Sub.cons (Has.at (HasG.cv (HasG.s rfl) (Cv.owF (T := [27]) (te := []) rfl))) (sf (sf (sf (sf (Sub.cons (Has.at (HasG.cv (HasG.s rfl) (Cv.owF (T := [37]) (te := []) rfl))) (Sub.cons (Has.at (HasG.cv (HasG.s rfl) (Cv.owM (T := [38]) (te := [39]) rfl rfl))) (Sub.cons (Has.at (HasG.cv (HasG.s rfl) (Cv.owF (T := [40]) (te := []) rfl))) (sn (sn (sn Sub.nil)))))))))))))))))))))))))
   ·have hm := cond_f hb hm
    refine CWalk.exit ?_
    refine Leaf.thenE ?_
    exact Leaf.brk hm (fun h => nomatch h) rfl (sn (sn (sn (st (sf (sm (sm (sf (sf (sf (sf (Sub.cons (Has.at (HasG.cv (HasG.s rfl) (Cv.owM (T := [25]) (te := [26]) rfl rfl))) (Sub.cons (Has.at (HasG.cv (HasG.s rfl) (Cv.owF (T := [27]) (te := []) rfl))) (sf (sf (sf (sf (Sub.cons (Has.at (HasG.cv (HasG.s rfl) (Cv.owF (T := [37]) (te := []) rfl))) (Sub.cons (Has.at (HasG.cv (HasG.s rfl) (Cv.owM (T := [38]) (te := [39]) rfl rfl))) (Sub.cons (Has.at (HasG.cv (HasG.s rfl) (Cv.owF (T := [40]) (te := []) rfl))) (sn (sn (sn Sub.nil)))))))))))))))))))))))
  ·intro _
   refine Leaf.blockE ?_
   refine Leaf.thenN ?_
   refine CWalk.seq ?_
   refine CWalk.seq ?_
   refine CWalk.region ?_
   refine wo (Spec.assign Has.int) ?_
   refine Walk.nil ?_
   refine Leaf.thenN ?_
   refine CWalk.block ?_
   obtain ⟨b17, hb17, hm⟩ := bind_some hm
   refine CWalk.loop (fun s : Int => [.fact 4 (Fact.isv 17), .fact 7 (Fact.isv 28), .fact 14 (Fact.isv 41), .fact 18 (Fact.rep [] (((((((Str.mk x3.1).s == (Str.mk x4.1).s) && (x3.2.1 == x4.2.1)) && (x3.2.2 == x4.2.2)) && x7) && (x5.2 == x6.2)) : Bool)), .fact 20 (Fact.rep [] (s : Int)), .fact 100018 (Fact.at 18 (Fact.rep [] (a1.Stripe : Int))), .fact 100019 (Fact.at 19 (Fact.rep [0] (a1.Blocks : List (List UInt8)))), .fact 100020 (Fact.at 20 (Fact.rep [0] (a1.Dirty : List Bool))), .fact 100021 (Fact.at 21 (Fact.rep [] (a1.Phase : UInt8))), .fact 100022 (Fact.at 22 (Fact.rep [] (a1.Deals : Bool))), .fact 100023 (Fact.at 23 (Fact.rep [] (a1.Seq : UInt32))), .fact 100029 (Fact.at 29 (Fact.rep [] (x2.Stripe : Int))), .fact 100030 (Fact.at 30 (Fact.ow [25] [26] 31 (x2.Blocks : List (List UInt8)))), .fact 100031 (Fact.at 31 (Fact.ow [27] [] 4 (x2.Dirty : List Bool))), .fact 100032 (Fact.at 32 (Fact.rep [] (x2.Phase : UInt8))), .fact 100033 (Fact.at 33 (Fact.rep [] (x2.Deals : Bool))), .fact 100034 (Fact.at 34 (Fact.rep [] (x2.Seq : UInt32))), .fact 100042 (Fact.at 42 (Fact.rep [] (x5.1.Stripe : Int))), .fact 100043 (Fact.at 43 (Fact.ow [37] [] 3 (x5.1.Slots : List Int))), .fact 100044 (Fact.at 44 (Fact.ow [38] [39] 31 (x5.1.Blocks : List (List UInt8)))), .fact 100045 (Fact.at 45 (Fact.lo [40] (x5.1.Parity : List UInt8))), .fact 100017 (Fact.obj 17 [(false, 1), (false, 1), (false, 1), (false, 1), (false, 1), (false, 1)]), .fact 100028 (Fact.obj 28 [(false, 1), (false, 1), (false, 1), (false, 1), (false, 1), (false, 1)]), .fact 100041 (Fact.obj 41 [(false, 1), (false, 1), (false, 1), (false, 1)])]) (fun b : Unit => (Exit.exit 2, [.fact 4 (Fact.isv 17), .fact 7 (Fact.isv 28), .fact 14 (Fact.isv 41), .fact 18 (Fact.rep [] (((((((Str.mk x3.1).s == (Str.mk x4.1).s) && (x3.2.1 == x4.2.1)) && (x3.2.2 == x4.2.2)) && x7) && (x5.2 == x6.2)) : Bool)), .fact 100018 (Fact.at 18 (Fact.rep [] (a1.Stripe : Int))), .fact 100019 (Fact.at 19 (Fact.rep [0] (a1.Blocks : List (List UInt8)))), .fact 100020 (Fact.at 20 (Fact.rep [0] (a1.Dirty : List Bool))), .fact 100021 (Fact.at 21 (Fact.rep [] (a1.Phase : UInt8))), .fact 100022 (Fact.at 22 (Fact.rep [] (a1.Deals : Bool))), .fact 100023 (Fact.at 23 (Fact.rep [] (a1.Seq : UInt32))), .fact 100029 (Fact.at 29 (Fact.rep [] (x2.Stripe : Int))), .fact 100030 (Fact.at 30 (Fact.ow [25] [26] 31 (x2.Blocks : List (List UInt8)))), .fact 100031 (Fact.at 31 (Fact.ow [27] [] 4 (x2.Dirty : List Bool))), .fact 100032 (Fact.at 32 (Fact.rep [] (x2.Phase : UInt8))), .fact 100033 (Fact.at 33 (Fact.rep [] (x2.Deals : Bool))), .fact 100034 (Fact.at 34 (Fact.rep [] (x2.Seq : UInt32))), .fact 100042 (Fact.at 42 (Fact.rep [] (x5.1.Stripe : Int))), .fact 100043 (Fact.at 43 (Fact.ow [37] [] 3 (x5.1.Slots : List Int))), .fact 100044 (Fact.at 44 (Fact.ow [38] [39] 31 (x5.1.Blocks : List (List UInt8)))), .fact 100045 (Fact.at 45 (Fact.lo [40] (x5.1.Parity : List UInt8))), .fact 100017 (Fact.obj 17 [(false, 1), (false, 1), (false, 1), (false, 1), (false, 1), (false, 1)]), .fact 100028 (Fact.obj 28 [(false, 1), (false, 1), (false, 1), (false, 1), (false, 1), (false, 1)]), .fact 100041 (Fact.obj 41 [(false, 1), (false, 1), (false, 1), (false, 1)])])) hb17 (sn (sn (sn (st (st (sf (sm (sm (sf (sf (sf (sf (Sub.cons (Has.at (HasG.cv (HasG.s rfl) (Cv.owM (T := [25]) (te := [26]) rfl rfl))) (Sub.cons (Has.at (HasG.cv (HasG.s rfl) (Cv.owF (T := [27]) (te := []) rfl))) (sf (sf (sf (sf (Sub.cons (Has.at (HasG.cv (HasG.s rfl) (Cv.owF (T := [37]) (te := []) rfl))) (Sub.cons (Has.at (HasG.cv (HasG.s rfl) (Cv.owM (T := [38]) (te := [39]) rfl rfl))) (Sub.cons (Has.at (HasG.cv (HasG.s rfl) (Cv.trans (Cv.trans Cv.owSl (Cv.slRep (T' := [40]) rfl rfl)) (Cv.lo rfl)))) (sn (sn (sn Sub.nil)))))))))))))))))))))))) ?_ ?_
   ·rintro s13 c14 hm
    replace hm : law16_HeadTells_L2 x5 s13 = some c14 := hm
    unfold law16_HeadTells_L2 at hm
    show CWalk _ [.fact 4 (Fact.isv 17), .fact 7 (Fact.isv 28), .fact 14 (Fact.isv 41), .fact 18 (Fact.rep [] (((((((Str.mk x3.1).s == (Str.mk x4.1).s) && (x3.2.1 == x4.2.1)) && (x3.2.2 == x4.2.2)) && x7) && (x5.2 == x6.2)) : Bool)), .fact 20 (Fact.rep [] (s13 : Int)), .fact 100018 (Fact.at 18 (Fact.rep [] (a1.Stripe : Int))), .fact 100019 (Fact.at 19 (Fact.rep [0] (a1.Blocks : List (List UInt8)))), .fact 100020 (Fact.at 20 (Fact.rep [0] (a1.Dirty : List Bool))), .fact 100021 (Fact.at 21 (Fact.rep [] (a1.Phase : UInt8))), .fact 100022 (Fact.at 22 (Fact.rep [] (a1.Deals : Bool))), .fact 100023 (Fact.at 23 (Fact.rep [] (a1.Seq : UInt32))), .fact 100029 (Fact.at 29 (Fact.rep [] (x2.Stripe : Int))), .fact 100030 (Fact.at 30 (Fact.ow [25] [26] 31 (x2.Blocks : List (List UInt8)))), .fact 100031 (Fact.at 31 (Fact.ow [27] [] 4 (x2.Dirty : List Bool))), .fact 100032 (Fact.at 32 (Fact.rep [] (x2.Phase : UInt8))), .fact 100033 (Fact.at 33 (Fact.rep [] (x2.Deals : Bool))), .fact 100034 (Fact.at 34 (Fact.rep [] (x2.Seq : UInt32))), .fact 100042 (Fact.at 42 (Fact.rep [] (x5.1.Stripe : Int))), .fact 100043 (Fact.at 43 (Fact.ow [37] [] 3 (x5.1.Slots : List Int))), .fact 100044 (Fact.at 44 (Fact.ow [38] [39] 31 (x5.1.Blocks : List (List UInt8)))), .fact 100045 (Fact.at 45 (Fact.lo [40] (x5.1.Parity : List UInt8))), .fact 100017 (Fact.obj 17 [(false, 1), (false, 1), (false, 1), (false, 1), (false, 1), (false, 1)]), .fact 100028 (Fact.obj 28 [(false, 1), (false, 1), (false, 1), (false, 1), (false, 1), (false, 1)]), .fact 100041 (Fact.obj 41 [(false, 1), (false, 1), (false, 1), (false, 1)])] _ _
    refine CWalk.seq ?_
    refine CWalk.seq ?_
    refine CWalk.region ?_
    refine mv ?_
    refine wo (Spec.fieldAddrO fd39_3 (Has.cv (Has.s rfl) (Cv.isvP rfl))) ?_
    refine wo (Spec.loadF (i := 3) ty31 rfl (Has.s rfl) rfl (HasG.s rfl)) ?_
    refine wo (Spec.lenLo (Has.s rfl) Try.underlying31) ?_
    refine wo (Spec.lssI (Has.s rfl) (Has.s rfl)) ?_
    refine Walk.nil ?_
    refine Leaf.thenN ?_
    refine CWalk.cond rfl (fun hb => ?_) (fun hb => ?_)
    ·have hm := cond_t hb hm
     refine CWalk.skip ?_
     refine Leaf.thenN ?_
     refine CWalk.seq ?_
     refine CWalk.block ?_
     refine CWalk.region ?_
     refine wo (Spec.fieldAddrO fd39_3 (Has.cv (Has.s rfl) (Cv.isvP rfl))) ?_
     refine wo (Spec.loadF (i := 3) ty31 rfl (Has.s rfl) rfl (HasG.s rfl)) ?_
     refine mv ?_
     obtain ⟨x15, hx15, hm⟩ := bind_some hm
     refine wo (Spec.idxLo hx15 sl31 (Has.s rfl) (Has.s rfl)) ?_
     refine wo (Spec.loadLo ty5 (Has.s rfl)) ?_
     refine wo (Spec.add8Lo (Has.s rfl) (Has.u8 1 rfl)) ?_
     obtain ⟨x16, hx16, hm⟩ := bind_some hm
     refine wo (Spec.idxLo hx16 sl31 (Has.s rfl) (Has.s rfl)) ?_
     refine ws (Step.storeL (T := [40]) (LL := [.fact 94 (Fact.lo [40] (x5.1.Parity : List UInt8)), .fact 100 (Fact.lo [40] (x5.1.Parity : List UInt8)), .fact 102 (Fact.lptr [40] (x15 : UInt8)), .fact 103 (Fact.lo [40] (x15 : UInt8)), .fact 100045 (Fact.at 45 (Fact.lo [40] (x5.1.Parity : List UInt8)))]) rfl ty5 (Has.s rfl) (Has.s rfl) (LooseL.lo rfl (LooseL.lo rfl (LooseL.lptr rfl (LooseL.lo rfl (LooseL.loF rfl LooseL.nil)))))) ?_
     refine Walk.nil ?_
     refine Leaf.blockN ?_
     refine Leaf.thenN ?_
     refine CWalk.region ?_
     refine mv ?_
     refine wo (Spec.addI (Has.s rfl) Has.int) ?_
     refine wo (Spec.assign (Has.s rfl)) ?_
     refine Walk.nil ?_
     exact Leaf.next hm (sn (sn (sn (st (st (sf (sm (sm (sf (sf (sf (sf (Sub.cons (Has.at (HasG.cv (HasG.s rfl) (Cv.owM (T := [25]) (te := [26]) rfl rfl))) (Sub.cons (Has.at (HasG.cv (HasG.s rfl) (Cv.owF (T := [27]) (te := []) rfl))) (sf (sf (sf (sf (Sub.cons (Has.at (HasG.cv (HasG.s rfl) (Cv.owF (T := [37]) (te := []) rfl))) (Sub.cons (Has.at (HasG.cv (HasG.s rfl) (Cv.owM (T := [38]) (te := [39]) rfl rfl))) (sg (sn (sn (sn Sub.nil))))))))))))))))))))))))
    ·have hm := cond_f hb hm
     refine CWalk.exit ?_
     refine Leaf.thenE ?_
     exact Leaf.brk hm (fun h => nomatch h) rfl (sn (sn (sn (st (sf (sm (sm (sf (sf (sf (sf (Sub.cons (Has.at (HasG.cv (HasG.s rfl) (Cv.owM (T := [25]) (te := [26]) rfl rfl))) (Sub.cons (Has.at (HasG.cv (HasG.s rfl) (Cv.owF (T := [27]) (te := []) rfl))) (sf (sf (sf (sf (Sub.cons (Has.at (HasG.cv (HasG.s rfl) (Cv.owF (T := [37]) (te := []) rfl))) (Sub.cons (Has.at (HasG.cv (HasG.s rfl) (Cv.owM (T := [38]) (te := [39]) rfl rfl))) (sg (sn (sn (sn Sub.nil)))))))))))))))))))))))
   ·intro _
    refine Leaf.blockE ?_
    refine Leaf.thenN ?_
    refine CWalk.seq ?_
    refine CWalk.seq ?_
    refine CWalk.region ?_
    refine wo (Spec.assign Has.int) ?_
    refine Walk.nil ?_
    refine Leaf.thenN ?_
    refine CWalk.block ?_
    obtain ⟨b27, hb27, hm⟩ := bind_some hm
    refine CWalk.loop (fun s : Int => [.fact 4 (Fact.isv 17), .fact 7 (Fact.isv 28), .fact 14 (Fact.isv 41), .fact 18 (Fact.rep [] (((((((Str.mk x3.1).s == (Str.mk x4.1).s) && (x3.2.1 == x4.2.1)) && (x3.2.2 == x4.2.2)) && x7) && (x5.2 == x6.2)) : Bool)), .fact 21 (Fact.rep [] (s : Int)), .fact 100018 (Fact.at 18 (Fact.rep [] (a1.Stripe : Int))), .fact 100019 (Fact.at 19 (Fact.rep [0] (a1.Blocks : List (List UInt8)))), .fact 100020 (Fact.at 20 (Fact.rep [0] (a1.Dirty : List Bool))), .fact 100021 (Fact.at 21 (Fact.rep [] (a1.Phase : UInt8))), .fact 100022 (Fact.at 22 (Fact.rep [] (a1.Deals : Bool))), .fact 100023 (Fact.at 23 (Fact.rep [] (a1.Seq : UInt32))), .fact 100029 (Fact.at 29 (Fact.rep [] (x2.Stripe : Int))), .fact 100030 (Fact.at 30 (Fact.ow [25] [26] 31 (x2.Blocks : List (List UInt8)))), .fact 100031 (Fact.at 31 (Fact.ow [27] [] 4 (x2.Dirty : List Bool))), .fact 100032 (Fact.at 32 (Fact.rep [] (x2.Phase : UInt8))), .fact 100033 (Fact.at 33 (Fact.rep [] (x2.Deals : Bool))), .fact 100034 (Fact.at 34 (Fact.rep [] (x2.Seq : UInt32))), .fact 100042 (Fact.at 42 (Fact.rep [] (x5.1.Stripe : Int))), .fact 100043 (Fact.at 43 (Fact.ow [37] [] 3 (x5.1.Slots : List Int))), .fact 100044 (Fact.at 44 (Fact.lo [38, 39] (x5.1.Blocks : List (List UInt8)))), .fact 100045 (Fact.at 45 (Fact.lo [40] (x5.1.Parity : List UInt8))), .fact 100017 (Fact.obj 17 [(false, 1), (false, 1), (false, 1), (false, 1), (false, 1), (false, 1)]), .fact 100028 (Fact.obj 28 [(false, 1), (false, 1), (false, 1), (false, 1), (false, 1), (false, 1)]), .fact 100041 (Fact.obj 41 [(false, 1), (false, 1), (false, 1), (false, 1)])]) (fun b : Unit => (Exit.exit 4, [.fact 4 (Fact.isv 17), .fact 7 (Fact.isv 28), .fact 18 (Fact.rep [] (((((((Str.mk x3.1).s == (Str.mk x4.1).s) && (x3.2.1 == x4.2.1)) && (x3.2.2 == x4.2.2)) && x7) && (x5.2 == x6.2)) : Bool)), .fact 100018 (Fact.at 18 (Fact.rep [] (a1.Stripe : Int))), .fact 100019 (Fact.at 19 (Fact.rep [0] (a1.Blocks : List (List UInt8)))), .fact 100020 (Fact.at 20 (Fact.rep [0] (a1.Dirty : List Bool))), .fact 100021 (Fact.at 21 (Fact.rep [] (a1.Phase : UInt8))), .fact 100022 (Fact.at 22 (Fact.rep [] (a1.Deals : Bool))), .fact 100023 (Fact.at 23 (Fact.rep [] (a1.Seq : UInt32))), .fact 100029 (Fact.at 29 (Fact.rep [] (x2.Stripe : Int))), .fact 100030 (Fact.at 30 (Fact.ow [25] [26] 31 (x2.Blocks : List (List UInt8)))), .fact 100031 (Fact.at 31 (Fact.ow [27] [] 4 (x2.Dirty : List Bool))), .fact 100032 (Fact.at 32 (Fact.rep [] (x2.Phase : UInt8))), .fact 100033 (Fact.at 33 (Fact.rep [] (x2.Deals : Bool))), .fact 100034 (Fact.at 34 (Fact.rep [] (x2.Seq : UInt32))), .fact 100017 (Fact.obj 17 [(false, 1), (false, 1), (false, 1), (false, 1), (false, 1), (false, 1)]), .fact 100028 (Fact.obj 28 [(false, 1), (false, 1), (false, 1), (false, 1), (false, 1), (false, 1)])])) hb27 (sn (sn (sn (st (st (sf (sm (sm (sf (sf (sf (sf (Sub.cons (Has.at (HasG.cv (HasG.s rfl) (Cv.owM (T := [25]) (te := [26]) rfl rfl))) (Sub.cons (Has.at (HasG.cv (HasG.s rfl) (Cv.owF (T := [27]) (te := []) rfl))) (sf (sf (sf (sf (Sub.cons (Has.at (HasG.cv (HasG.s rfl) (Cv.owF (T := [37]) (te := []) rfl))) (Sub.cons (Has.at (HasG.cv (HasG.s rfl) (Cv.trans (Cv.trans Cv.owSl (Cv.slRep (T' := [38, 39]) rfl rfl)) (Cv.lo rfl)))) (sg (sn (sn (sn Sub.nil)))))))))))))))))))))))) ?_ ?_
    ·rintro s18 c19 hm
     replace hm : law16_HeadTells_L3 x5 s18 = some c19 := hm
     unfold law16_HeadTells_L3 at hm
     show CWalk _ [.fact 4 (Fact.isv 17), .fact 7 (Fact.isv 28), .fact 14 (Fact.isv 41), .fact 18 (Fact.rep [] (((((((Str.mk x3.1).s == (Str.mk x4.1).s) && (x3.2.1 == x4.2.1)) && (x3.2.2 == x4.2.2)) && x7) && (x5.2 == x6.2)) : Bool)), .fact 21 (Fact.rep [] (s18 : Int)), .fact 100018 (Fact.at 18 (Fact.rep [] (a1.Stripe : Int))), .fact 100019 (Fact.at 19 (Fact.rep [0] (a1.Blocks : List (List UInt8)))), .fact 100020 (Fact.at 20 (Fact.rep [0] (a1.Dirty : List Bool))), .fact 100021 (Fact.at 21 (Fact.rep [] (a1.Phase : UInt8))), .fact 100022 (Fact.at 22 (Fact.rep [] (a1.Deals : Bool))), .fact 100023 (Fact.at 23 (Fact.rep [] (a1.Seq : UInt32))), .fact 100029 (Fact.at 29 (Fact.rep [] (x2.Stripe : Int))), .fact 100030 (Fact.at 30 (Fact.ow [25] [26] 31 (x2.Blocks : List (List UInt8)))), .fact 100031 (Fact.at 31 (Fact.ow [27] [] 4 (x2.Dirty : List Bool))), .fact 100032 (Fact.at 32 (Fact.rep [] (x2.Phase : UInt8))), .fact 100033 (Fact.at 33 (Fact.rep [] (x2.Deals : Bool))), .fact 100034 (Fact.at 34 (Fact.rep [] (x2.Seq : UInt32))), .fact 100042 (Fact.at 42 (Fact.rep [] (x5.1.Stripe : Int))), .fact 100043 (Fact.at 43 (Fact.ow [37] [] 3 (x5.1.Slots : List Int))), .fact 100044 (Fact.at 44 (Fact.lo [38, 39] (x5.1.Blocks : List (List UInt8)))), .fact 100045 (Fact.at 45 (Fact.lo [40] (x5.1.Parity : List UInt8))), .fact 100017 (Fact.obj 17 [(false, 1), (false, 1), (false, 1), (false, 1), (false, 1), (false, 1)]), .fact 100028 (Fact.obj 28 [(false, 1), (false, 1), (false, 1), (false, 1), (false, 1), (false, 1)]), .fact 100041 (Fact.obj 41 [(false, 1), (false, 1), (false, 1), (false, 1)])] _ _
     refine CWalk.seq ?_
     refine CWalk.seq ?_
     refine CWalk.region ?_
     refine mv ?_
     refine wo (Spec.fieldAddrO fd39_2 (Has.cv (Has.s rfl) (Cv.isvP rfl))) ?_
     refine wo (Spec.loadF (i := 2) ty25 rfl (Has.s rfl) rfl (HasG.s rfl)) ?_
     refine wo (Spec.lenLo (Has.s rfl) Try.underlying25) ?_
     refine wo (Spec.lssI (Has.s rfl) (Has.s rfl)) ?_
     refine Walk.nil ?_
     refine Leaf.thenN ?_
     refine CWalk.cond rfl (fun hb => ?_) (fun hb => ?_)
     ·have hm := cond_t hb hm
      refine CWalk.skip ?_
      refine Leaf.thenN ?_
      refine CWalk.seq ?_
      refine CWalk.block ?_
      refine CWalk.seq ?_
      refine CWalk.region ?_
      refine wo (Spec.assign Has.int) ?_
      refine Walk.nil ?_
      refine Leaf.thenN ?_
      refine CWalk.block ?_
      obtain ⟨b26, hb26, hm⟩ := bind_some hm
      refine CWalk.loop (fun s : Int => [.fact 4 (Fact.isv 17), .fact 7 (Fact.isv 28), .fact 14 (Fact.isv 41), .fact 18 (Fact.rep [] (((((((Str.mk x3.1).s == (Str.mk x4.1).s) && (x3.2.1 == x4.2.1)) && (x3.2.2 == x4.2.2)) && x7) && (x5.2 == x6.2)) : Bool)), .fact 21 (Fact.rep [] (s18 : Int)), .fact 22 (Fact.rep [] (s : Int)), .fact 100018 (Fact.at 18 (Fact.rep [] (a1.Stripe : Int))), .fact 100019 (Fact.at 19 (Fact.rep [0] (a1.Blocks : List (List UInt8)))), .fact 100020 (Fact.at 20 (Fact.rep [0] (a1.Dirty : List Bool))), .fact 100021 (Fact.at 21 (Fact.rep [] (a1.Phase : UInt8))), .fact 100022 (Fact.at 22 (Fact.rep [] (a1.Deals : Bool))), .fact 100023 (Fact.at 23 (Fact.rep [] (a1.Seq : UInt32))), .fact 100029 (Fact.at 29 (Fact.rep [] (x2.Stripe : Int))), .fact 100030 (Fact.at 30 (Fact.ow [25] [26] 31 (x2.Blocks : List (List UInt8)))), .fact 100031 (Fact.at 31 (Fact.ow [27] [] 4 (x2.Dirty : List Bool))), .fact 100032 (Fact.at 32 (Fact.rep [] (x2.Phase : UInt8))), .fact 100033 (Fact.at 33 (Fact.rep [] (x2.Deals : Bool))), .fact 100034 (Fact.at 34 (Fact.rep [] (x2.Seq : UInt32))), .fact 100042 (Fact.at 42 (Fact.rep [] (x5.1.Stripe : Int))), .fact 100043 (Fact.at 43 (Fact.ow [37] [] 3 (x5.1.Slots : List Int))), .fact 100044 (Fact.at 44 (Fact.lo [38, 39] (x5.1.Blocks : List (List UInt8)))), .fact 100045 (Fact.at 45 (Fact.lo [40] (x5.1.Parity : List UInt8))), .fact 100017 (Fact.obj 17 [(false, 1), (false, 1), (false, 1), (false, 1), (false, 1), (false, 1)]), .fact 100028 (Fact.obj 28 [(false, 1), (false, 1), (false, 1), (false, 1), (false, 1), (false, 1)]), .fact 100041 (Fact.obj 41 [(false, 1), (false, 1), (false, 1), (false, 1)])]) (fun b : Unit => (Exit.exit 6, [.fact 4 (Fact.isv 17), .fact 7 (Fact.isv 28), .fact 14 (Fact.isv 41), .fact 18 (Fact.rep [] (((((((Str.mk x3.1).s == (Str.mk x4.1).s) && (x3.2.1 == x4.2.1)) && (x3.2.2 == x4.2.2)) && x7) && (x5.2 == x6.2)) : Bool)), .fact 21 (Fact.rep [] (s18 : Int)), .fact 100018 (Fact.at 18 (Fact.rep [] (a1.Stripe : Int))), .fact 100019 (Fact.at 19 (Fact.rep [0] (a1.Blocks : List (List UInt8)))), .fact 100020 (Fact.at 20 (Fact.rep [0] (a1.Dirty : List Bool))), .fact 100021 (Fact.at 21 (Fact.rep [] (a1.Phase : UInt8))), .fact 100022 (Fact.at 22 (Fact.rep [] (a1.Deals : Bool))), .fact 100023 (Fact.at 23 (Fact.rep [] (a1.Seq : UInt32))), .fact 100029 (Fact.at 29 (Fact.rep [] (x2.Stripe : Int))), .fact 100030 (Fact.at 30 (Fact.ow [25] [26] 31 (x2.Blocks : List (List UInt8)))), .fact 100031 (Fact.at 31 (Fact.ow [27] [] 4 (x2.Dirty : List Bool))), .fact 100032 (Fact.at 32 (Fact.rep [] (x2.Phase : UInt8))), .fact 100033 (Fact.at 33 (Fact.rep [] (x2.Deals : Bool))), .fact 100034 (Fact.at 34 (Fact.rep [] (x2.Seq : UInt32))), .fact 100042 (Fact.at 42 (Fact.rep [] (x5.1.Stripe : Int))), .fact 100043 (Fact.at 43 (Fact.ow [37] [] 3 (x5.1.Slots : List Int))), .fact 100044 (Fact.at 44 (Fact.lo [38, 39] (x5.1.Blocks : List (List UInt8)))), .fact 100045 (Fact.at 45 (Fact.lo [40] (x5.1.Parity : List UInt8))), .fact 100017 (Fact.obj 17 [(false, 1), (false, 1), (false, 1), (false, 1), (false, 1), (false, 1)]), .fact 100028 (Fact.obj 28 [(false, 1), (false, 1), (false, 1), (false, 1), (false, 1), (false, 1)]), .fact 100041 (Fact.obj 41 [(false, 1), (false, 1), (false, 1), (false, 1)])])) hb26 (sn (sn (sn (st (st (st (sf (sm (sm (sf (sf (sf (sf (Sub.cons (Has.at (HasG.cv (HasG.s rfl) (Cv.owM (T := [25]) (te := [26]) rfl rfl))) (Sub.cons (Has.at (HasG.cv (HasG.s rfl) (Cv.owF (T := [27]) (te := []) rfl))) (sf (sf (sf (sf (Sub.cons (Has.at (HasG.cv (HasG.s rfl) (Cv.owF (T := [37]) (te := []) rfl))) (sg (sg (sn (sn (sn Sub.nil))))))))))))))))))))))))) ?_ ?_
      ·rintro s20 c21 hm
       replace hm : law16_HeadTells_L4 x5 s18 s20 = some c21 := hm
       unfold law16_HeadTells_L4 at hm
       show CWalk _ [.fact 4 (Fact.isv 17), .fact 7 (Fact.isv 28), .fact 14 (Fact.isv 41), .fact 18 (Fact.rep [] (((((((Str.mk x3.1).s == (Str.mk x4.1).s) && (x3.2.1 == x4.2.1)) && (x3.2.2 == x4.2.2)) && x7) && (x5.2 == x6.2)) : Bool)), .fact 21 (Fact.rep [] (s18 : Int)), .fact 22 (Fact.rep [] (s20 : Int)), .fact 100018 (Fact.at 18 (Fact.rep [] (a1.Stripe : Int))), .fact 100019 (Fact.at 19 (Fact.rep [0] (a1.Blocks : List (List UInt8)))), .fact 100020 (Fact.at 20 (Fact.rep [0] (a1.Dirty : List Bool))), .fact 100021 (Fact.at 21 (Fact.rep [] (a1.Phase : UInt8))), .fact 100022 (Fact.at 22 (Fact.rep [] (a1.Deals : Bool))), .fact 100023 (Fact.at 23 (Fact.rep [] (a1.Seq : UInt32))), .fact 100029 (Fact.at 29 (Fact.rep [] (x2.Stripe : Int))), .fact 100030 (Fact.at 30 (Fact.ow [25] [26] 31 (x2.Blocks : List (List UInt8)))), .fact 100031 (Fact.at 31 (Fact.ow [27] [] 4 (x2.Dirty : List Bool))), .fact 100032 (Fact.at 32 (Fact.rep [] (x2.Phase : UInt8))), .fact 100033 (Fact.at 33 (Fact.rep [] (x2.Deals : Bool))), .fact 100034 (Fact.at 34 (Fact.rep [] (x2.Seq : UInt32))), .fact 100042 (Fact.at 42 (Fact.rep [] (x5.1.Stripe : Int))), .fact 100043 (Fact.at 43 (Fact.ow [37] [] 3 (x5.1.Slots : List Int))), .fact 100044 (Fact.at 44 (Fact.lo [38, 39] (x5.1.Blocks : List (List UInt8)))), .fact 100045 (Fact.at 45 (Fact.lo [40] (x5.1.Parity : List UInt8))), .fact 100017 (Fact.obj 17 [(false, 1), (false, 1), (false, 1), (false, 1), (false, 1), (false, 1)]), .fact 100028 (Fact.obj 28 [(false, 1), (false, 1), (false, 1), (false, 1), (false, 1), (false, 1)]), .fact 100041 (Fact.obj 41 [(false, 1), (false, 1), (false, 1), (false, 1)])] _ _
       refine CWalk.seq ?_
       refine CWalk.seq ?_
       refine CWalk.region ?_
       refine mv ?_
       refine wo (Spec.fieldAddrO fd39_2 (Has.cv (Has.s rfl) (Cv.isvP rfl))) ?_
       refine wo (Spec.loadF (i := 2) ty25 rfl (Has.s rfl) rfl (HasG.s rfl)) ?_
       refine mv ?_
       obtain ⟨x22, hx22, hm⟩ := bind_some hm
       refine wo (Spec.idxLo hx22 sl25 (Has.s rfl) (Has.s rfl)) ?_
       refine wo (Spec.loadLo ty31 (Has.s rfl)) ?_
       refine wo (Spec.lenLo (Has.s rfl) Try.underlying31) ?_
       refine wo (Spec.lssI (Has.s rfl) (Has.s rfl)) ?_
       refine Walk.nil ?_
       refine Leaf.thenN ?_
       refine CWalk.cond rfl (fun hb => ?_) (fun hb => ?_)
       ·have hm := cond_t hb hm
        refine CWalk.skip ?_
        refine Leaf.thenN ?_
        refine CWalk.seq ?_
        refine CWalk.block ?_
        refine CWalk.region ?_
        refine wo (Spec.fieldAddrO fd39_2 (Has.cv (Has.s rfl) (Cv.isvP rfl))) ?_
        refine wo (Spec.loadF (i := 2) ty25 rfl (Has.s rfl) rfl (HasG.s rfl)) ?_
        refine mv ?_
        obtain ⟨x23, hx23, hm⟩ := bind_some hm
        refine wo (Spec.idxLo hx23 sl25 (Has.s rfl) (Has.s rfl)) ?_
        refine wo (Spec.loadLo ty31 (Has.s rfl)) ?_
        refine mv ?_
        obtain ⟨x24, hx24, hm⟩ := bind_some hm
        refine wo (Spec.idxLo hx24 sl31 (Has.s rfl) (Has.s rfl)) ?_
        refine wo (Spec.loadLo ty5 (Has.s rfl)) ?_
        refine wo (Spec.add8Lo (Has.s rfl) (Has.u8 1 rfl)) ?_
        obtain ⟨x25, hx25, hm⟩ := bind_some hm
        refine wo (Spec.idxLo hx25 sl31 (Has.s rfl) (Has.s rfl)) ?_
        refine ws (Step.storeL (T := [38, 39]) (LL := [.fact 115 (Fact.lo [38, 39] (x5.1.Blocks : List (List UInt8))), .fact 117 (Fact.lptr [38, 39] (x22 : List UInt8)), .fact 118 (Fact.lo [38, 39] (x22 : List UInt8)), .fact 124 (Fact.lo [38, 39] (x5.1.Blocks : List (List UInt8))), .fact 126 (Fact.lptr [38, 39] (x23 : List UInt8)), .fact 127 (Fact.lo [38, 39] (x23 : List UInt8)), .fact 129 (Fact.lptr [38, 39] (x24 : UInt8)), .fact 130 (Fact.lo [38, 39] (x24 : UInt8)), .fact 100044 (Fact.at 44 (Fact.lo [38, 39] (x5.1.Blocks : List (List UInt8))))]) rfl ty5 (Has.s rfl) (Has.s rfl) (LooseL.lo rfl (LooseL.lptr rfl (LooseL.lo rfl (LooseL.lo rfl (LooseL.lptr rfl (LooseL.lo rfl (LooseL.lptr rfl (LooseL.lo rfl (LooseL.loF rfl LooseL.nil)))))))))) ?_
        refine Walk.nil ?_
        refine Leaf.blockN ?_
        refine Leaf.thenN ?_
        refine CWalk.region ?_
        refine mv ?_
        refine wo (Spec.addI (Has.s rfl) Has.int) ?_
        refine wo (Spec.assign (Has.s rfl)) ?_
        refine Walk.nil ?_
        exact Leaf.next hm (sn (sn (sn (st (st (st (sf (sm (sm (sf (sf (sf (sf (Sub.cons (Has.at (HasG.cv (HasG.s rfl) (Cv.owM (T := [25]) (te := [26]) rfl rfl))) (Sub.cons (Has.at (HasG.cv (HasG.s rfl) (Cv.owF (T := [27]) (te := []) rfl))) (sf (sf (sf (sf (Sub.cons (Has.at (HasG.cv (HasG.s rfl) (Cv.owF (T := [37]) (te := []) rfl))) (sg (sg (sn (sn (sn Sub.nil)))))))))))))))))))))))))
       ·have hm := cond_f hb hm
        refine CWalk.exit ?_
        refine Leaf.thenE ?_
        exact Leaf.brk hm (fun h => nomatch h) rfl (sn (sn (sn (st (st (sf (sm (sm (sf (sf (sf (sf (Sub.cons (Has.at (HasG.cv (HasG.s rfl) (Cv.owM (T := [25]) (te := [26]) rfl rfl))) (Sub.cons (Has.at (HasG.cv (HasG.s rfl) (Cv.owF (T := [27]) (te := []) rfl))) (sf (sf (sf (sf (Sub.cons (Has.at (HasG.cv (HasG.s rfl) (Cv.owF (T := [37]) (te := []) rfl))) (sg (sg (sn (sn (sn Sub.nil))))))))))))))))))))))))
      ·intro _
       refine Leaf.blockE ?_
       refine Leaf.blockN ?_
       refine Leaf.thenN ?_
       refine CWalk.region ?_
       refine mv ?_
       refine wo (Spec.addI (Has.s rfl) Has.int) ?_
       refine wo (Spec.assign (Has.s rfl)) ?_
       refine Walk.nil ?_
       exact Leaf.next hm (sn (sn (sn (st (st (sf (sm (sm (sf (sf (sf (sf (Sub.cons (Has.at (HasG.cv (HasG.s rfl) (Cv.owM (T := [25]) (te := [26]) rfl rfl))) (Sub.cons (Has.at (HasG.cv (HasG.s rfl) (Cv.owF (T := [27]) (te := []) rfl))) (sf (sf (sf (sf (Sub.cons (Has.at (HasG.cv (HasG.s rfl) (Cv.owF (T := [37]) (te := []) rfl))) (sg (sg (sn (sn (sn Sub.nil))))))))))))))))))))))))
     ·have hm := cond_f hb hm
      refine CWalk.exit ?_
      refine Leaf.thenE ?_
      exact Leaf.brk hm (fun h => nomatch h) rfl (sn (sn (st (sf (sm (sm (sf (sf (sf (sf (Sub.cons (Has.at (HasG.cv (HasG.s rfl) (Cv.owM (T := [25]) (te := [26]) rfl rfl))) (Sub.cons (Has.at (HasG.cv (HasG.s rfl) (Cv.owF (T := [27]) (te := []) rfl))) (sf (sf (sf (sn (sn Sub.nil)))))))))))))))))
    ·intro _
     refine Leaf.blockE ?_
     refine Leaf.thenN ?_
     refine CWalk.seq ?_
     refine CWalk.region ?_
     refine mv ?_
     refine mv ?_
     refine wg rfl rfl (fun hb => Spec.loadObj (ls := [(false, 1, Fact.rep [] (x2.Stripe : Int)), (false, 1, Fact.ow [25] [26] 31 (x2.Blocks : List (List UInt8))), (false, 1, Fact.ow [27] [] 4 (x2.Dirty : List Bool)), (false, 1, Fact.rep [] (x2.Phase : UInt8)), (false, 1, Fact.rep [] (x2.Deals : Bool)), (false, 1, Fact.rep [] (x2.Seq : UInt32))]) ty28 rfl rfl (Has.s rfl) rfl (HasGs.cons (HasG.s rfl) (HasGs.cons (HasG.s rfl) (HasGs.cons (HasG.s rfl) (HasGs.cons (HasG.s rfl) (HasGs.cons (HasG.s rfl) (HasGs.cons (HasG.s rfl) HasGs.nil))))))) ?_
     refine wg rfl rfl (fun hb => Spec.loadObj (ls := [(false, 1, Fact.rep [] (a1.Stripe : Int)), (false, 1, Fact.rep [0] (a1.Blocks : List (List UInt8))), (false, 1, Fact.rep [0] (a1.Dirty : List Bool)), (false, 1, Fact.rep [] (a1.Phase : UInt8)), (false, 1, Fact.rep [] (a1.Deals : Bool)), (false, 1, Fact.rep [] (a1.Seq : UInt32))]) ty28 rfl rfl (Has.s rfl) rfl (HasGs.cons (HasG.s rfl) (HasGs.cons (HasG.s rfl) (HasGs.cons (HasG.s rfl) (HasGs.cons (HasG.s rfl) (HasGs.cons (HasG.s rfl) (HasGs.cons (HasG.s rfl) HasGs.nil))))))) ?_
     obtain ⟨x28, hx28, hm⟩ := bind_some hm
     refine wg (f := Fact.rep [] (x28 : Bool)) rfl rfl (fun hb => Spec.callE [0, 25, 26, 27] 56 rfl en16 (ref16_Same_c x2 a1 (gO_t hx28 hb)) (HasAll.cons (Has.m (Has.cv (Has.u rfl hb) (Cv.trans (Cv.flds (CvL.cons Cv.fl (CvL.cons (Cv.trans (Cv.trans Cv.owSl (Cv.slRep (T' := [25, 26]) rfl rfl)) (Cv.m rfl)) (CvL.cons (Cv.trans (Cv.trans Cv.owSl (Cv.slRep (T' := [27]) rfl rfl)) (Cv.m rfl)) (CvL.cons Cv.fl (CvL.cons Cv.fl (CvL.cons Cv.fl CvL.nil))))))) (Cv.close (T := [25, 26, 27]) (chHead x2)))) rfl) (HasAll.cons (Has.m (Has.cv (Has.u rfl hb) (Cv.trans (Cv.flds (CvL.cons Cv.fl (CvL.cons (Cv.m rfl) (CvL.cons (Cv.m rfl) (CvL.cons Cv.fl (CvL.cons Cv.fl (CvL.cons Cv.fl CvL.nil))))))) (Cv.close (T := [0]) (chHead a1)))) rfl) HasAll.nil))) ?_
     refine wo (Spec.and (Has.s rfl) (fun h => Has.u rfl h)) ?_
     refine wo (Spec.assign (Has.s rfl)) ?_
     refine Walk.nil ?_
     refine Leaf.thenN ?_
     refine CWalk.ret ?_
     obtain rfl := Option.some.inj hm
     exact Leaf.retC1 rfl (HasR.cv (HasR.tmp (Has.s rfl)) Cv.fl)

end Go.Proofs.Ytjefieckineneaa
