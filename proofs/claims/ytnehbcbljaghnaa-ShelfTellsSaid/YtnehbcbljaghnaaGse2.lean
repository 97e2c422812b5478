/- Printed by a program of ours: models of functions, and that calls do what they say. -/
import Derived.Test.YtnehbcbljaghnaaGse1
namespace Go.Proofs.Ytnehbcbljaghnaa
open Go GL
set_option linter.unusedVariables false

/-- freeboard/head.Same -/
def head_Same (a0 : Head) (a1 : Head) : Option (Bool) :=
  Option.bind (gO (((((a0.Stripe == a1.Stripe) && (a0.Phase == a1.Phase)) && (a0.Deals == a1.Deals)) && ((a0.Seq.toNat : Int) == (a1.Seq.toNat : Int)))) (slices_Equal_bool_bool a0.Dirty a1.Dirty)) (fun x1 => Option.bind (gO ((((((a0.Stripe == a1.Stripe) && (a0.Phase == a1.Phase)) && (a0.Deals == a1.Deals)) && ((a0.Seq.toNat : Int) == (a1.Seq.toNat : Int))) && x1)) (slices_EqualFunc_byte_byte_byte_byte a0.Blocks a1.Blocks (fun y => bytes_Equal y.1 y.2))) (fun x2 => some ((((((a0.Stripe == a1.Stripe) && (a0.Phase == a1.Phase)) && (a0.Deals == a1.Deals)) && ((a0.Seq.toNat : Int) == (a1.Seq.toNat : Int))) && x1) && x2)))
set_option maxRecDepth 100000 in
set_option maxHeartbeats 2000000 in
theorem head_Same_c (a0 : Head) (a1 : Head) {r : Bool} (hm : head_Same a0 a1 = some r) : Ctr Try.prog 28 [.rep 0 a0, .rep 0 a1] (.fl r) [] := by
 refine ctr_of_walk [[]] 45 Try.func28 rfl rfl rfl rfl (fun w0 om => ?_)
 unfold head_Same at hm
 refine CWalk.sub (G' := [.fact 0 (.rep [0] (a0 : Head)), .fact 1 (.rep [0] (a1 : Head))]) (sn (sn Sub.nil)) ?_
 refine CWalk.seq ?_
 refine CWalk.region ?_
 refine ws (Step.boxObj (ls := [(false, 1, Fact.rep [] a0.Stripe), (false, 1, Fact.rep [0] a0.Blocks), (false, 1, Fact.rep [0] a0.Dirty), (false, 1, Fact.rep [] a0.Phase), (false, 1, Fact.rep [] a0.Deals), (false, 1, Fact.rep [] a0.Seq)]) 10 rfl rfl rfl rfl (HasL.flds (Has.cv (Has.s rfl) (Cv.trans (Cv.opens (chHead a0)) (Cv.flds (CvL.cons Cv.fl (CvL.cons Cv.refl (CvL.cons Cv.refl (CvL.cons Cv.fl (CvL.cons Cv.fl (CvL.cons Cv.fl CvL.nil))))))))))) ?_
 refine ws (Step.boxObj (ls := [(false, 1, Fact.rep [] a1.Stripe), (false, 1, Fact.rep [0] a1.Blocks), (false, 1, Fact.rep [0] a1.Dirty), (false, 1, Fact.rep [] a1.Phase), (false, 1, Fact.rep [] a1.Deals), (false, 1, Fact.rep [] a1.Seq)]) 17 rfl rfl rfl rfl (HasL.flds (Has.cv (Has.s rfl) (Cv.trans (Cv.opens (chHead a1)) (Cv.flds (CvL.cons Cv.fl (CvL.cons Cv.refl (CvL.cons Cv.refl (CvL.cons Cv.fl (CvL.cons Cv.fl (CvL.cons Cv.fl CvL.nil))))))))))) ?_
 refine wo (Spec.assign Has.bool) ?_
 refine Walk.nil ?_
 refine Leaf.thenN ?_
 refine CWalk.seq ?_
 refine CWalk.region ?_
 refine wo (Spec.fieldAddrO fd45_0 (Has.cv (Has.s rfl) (Cv.isvP rfl))) ?_
 refine wo (Spec.loadF (i := 0) ty3 rfl (Has.s rfl) rfl (HasG.s rfl)) ?_
 refine wo (Spec.fieldAddrO fd45_0 (Has.cv (Has.s rfl) (Cv.isvP rfl))) ?_
 refine wo (Spec.loadF (i := 0) ty3 rfl (Has.s rfl) rfl (HasG.s rfl)) ?_
 refine wo (Spec.eqlI (Has.s rfl) (Has.s rfl)) ?_
 refine mv ?_
 refine wg rfl rfl (fun hb => Spec.fieldAddrO fd45_3 (Has.cv (Has.s rfl) (Cv.isvP rfl))) ?_
 refine wg rfl rfl (fun hb => Spec.loadF (i := 3) ty5 rfl (Has.u rfl hb) rfl (HasG.s rfl)) ?_
 refine wg rfl rfl (fun hb => Spec.fieldAddrO fd45_3 (Has.cv (Has.s rfl) (Cv.isvP rfl))) ?_
 refine wg rfl rfl (fun hb => Spec.loadF (i := 3) ty5 rfl (Has.u rfl hb) rfl (HasG.s rfl)) ?_
 refine wg rfl rfl (fun hb => Spec.eqlB (Has.u rfl hb) (Has.u rfl hb)) ?_
 refine wo (Spec.and (Has.s rfl) (fun h => Has.u rfl h)) ?_
 refine mv ?_
 refine wg rfl rfl (fun hb => Spec.fieldAddrO fd45_4 (Has.cv (Has.s rfl) (Cv.isvP rfl))) ?_
 refine wg rfl rfl (fun hb => Spec.loadF (i := 4) ty4 rfl (Has.u rfl hb) rfl (HasG.s rfl)) ?_
 refine wg rfl rfl (fun hb => Spec.fieldAddrO fd45_4 (Has.cv (Has.s rfl) (Cv.isvP rfl))) ?_
 refine wg rfl rfl (fun hb => Spec.loadF (i := 4) ty4 rfl (Has.u rfl hb) rfl (HasG.s rfl)) ?_
 refine wg rfl rfl (fun hb => Spec.eqlT (Has.u rfl hb) (Has.u rfl hb) Try.underlying4) ?_
 refine wo (Spec.and (Has.s rfl) (fun h => Has.u rfl h)) ?_
 refine mv ?_
 refine wg rfl rfl (fun hb => Spec.fieldAddrO fd45_5 (Has.cv (Has.s rfl) (Cv.isvP rfl))) ?_
 refine wg rfl rfl (fun hb => Spec.loadF (i := 5) ty22 rfl (Has.u rfl hb) rfl (HasG.s rfl)) ?_
 refine wg rfl rfl (fun hb => Spec.fieldAddrO fd45_5 (Has.cv (Has.s rfl) (Cv.isvP rfl))) ?_
 refine wg rfl rfl (fun hb => Spec.loadF (i := 5) ty22 rfl (Has.u rfl hb) rfl (HasG.s rfl)) ?_
 refine wg rfl rfl (fun hb => Spec.eqlN (α := UInt32) (Has.u rfl hb) (Has.u rfl hb)) ?_
 refine wo (Spec.and (Has.s rfl) (fun h => Has.u rfl h)) ?_
 refine mv ?_
 refine wg rfl rfl (fun hb => Spec.fieldAddrO fd45_2 (Has.cv (Has.s rfl) (Cv.isvP rfl))) ?_
 refine wg rfl rfl (fun hb => Spec.loadF (i := 2) ty43 rfl (Has.u rfl hb) rfl (HasG.s rfl)) ?_
 refine wg rfl rfl (fun hb => Spec.fieldAddrO fd45_2 (Has.cv (Has.s rfl) (Cv.isvP rfl))) ?_
 refine wg rfl rfl (fun hb => Spec.loadF (i := 2) ty43 rfl (Has.u rfl hb) rfl (HasG.s rfl)) ?_
 obtain ⟨x1, hx1, hm⟩ := bind_some hm
 refine wg (f := Fact.rep [] (x1 : Bool)) rfl rfl (fun hb => Spec.callE [0] 24 rfl en50 (slices_Equal_bool_bool_c a0.Dirty a1.Dirty (gO_t hx1 hb)) (HasAll.cons (Has.m (Has.u rfl hb) rfl) (HasAll.cons (Has.m (Has.u rfl hb) rfl) HasAll.nil))) ?_
 refine wo (Spec.and (Has.s rfl) (fun h => Has.u rfl h)) ?_
 refine mv ?_
 refine wg rfl rfl (fun hb => Spec.fieldAddrO fd45_1 (Has.cv (Has.s rfl) (Cv.isvP rfl))) ?_
 refine wg rfl rfl (fun hb => Spec.loadF (i := 1) ty42 rfl (Has.u rfl hb) rfl (HasG.s rfl)) ?_
 refine wg rfl rfl (fun hb => Spec.fieldAddrO fd45_1 (Has.cv (Has.s rfl) (Cv.isvP rfl))) ?_
 refine wg rfl rfl (fun hb => Spec.loadF (i := 1) ty42 rfl (Has.u rfl hb) rfl (HasG.s rfl)) ?_
 obtain ⟨x2, hx2, hm⟩ := bind_some hm
 refine wg (f := Fact.rep [] (x2 : Bool)) rfl rfl (fun hb => Spec.callE [0] 25 rfl en51 (slices_EqualFunc_byte_byte_byte_byte_c a0.Blocks a1.Blocks (fun y => bytes_Equal y.1 y.2) (gO_t hx2 hb)) (HasAll.cons (Has.m (Has.u rfl hb) rfl) (HasAll.cons (Has.m (Has.u rfl hb) rfl) (HasAll.cons (Has.cv Has.func (Cv.fn (pu := []) (pc := []) (shc := []) en52 CvF.nil CvF.nil (fun y r h => bytes_Equal_c y.1 y.2 h))) HasAll.nil)))) ?_
 refine wo (Spec.and (Has.s rfl) (fun h => Has.u rfl h)) ?_
 refine wo (Spec.assign (Has.s rfl)) ?_
 refine Walk.nil ?_
 refine Leaf.thenN ?_
 refine CWalk.ret ?_
 obtain rfl := Option.some.inj hm
 exact Leaf.retC1 rfl (HasR.cv (HasR.tmp (Has.s rfl)) Cv.fl)

/-- freeboard/shelf.Same -/
def shelf_Same (a0 : List Head) (a1 : List Head) : Option (Bool) :=
  Option.bind (slices_EqualFunc_api_Head_api_Head_api_Head_api_Head a0 a1 (fun y => head_Same y.1 y.2)) (fun x1 => some x1)
set_option maxRecDepth 100000 in
set_option maxHeartbeats 2000000 in
theorem shelf_Same_c (a0 : List Head) (a1 : List Head) {r : Bool} (hm : shelf_Same a0 a1 = some r) : Ctr Try.prog 18 [.rep 0 a0, .rep 0 a1] (.fl r) [] := by
 refine ctr_of_walk [[]] 8 Try.func18 rfl rfl rfl rfl (fun w0 om => ?_)
 unfold shelf_Same at hm
 refine CWalk.sub (G' := [.fact 0 (.rep [0] (a0 : List Head)), .fact 1 (.rep [0] (a1 : List Head))]) (sn (sn Sub.nil)) ?_
 refine CWalk.seq ?_
 refine CWalk.region ?_
 refine wo (Spec.assign Has.bool) ?_
 refine Walk.nil ?_
 refine Leaf.thenN ?_
 refine CWalk.seq ?_
 refine CWalk.region ?_
 refine mv ?_
 refine mv ?_
 obtain ⟨x1, hx1, hm⟩ := bind_some hm
 refine wo (f := Fact.rep [] (x1 : Bool)) (Spec.callE [0] 10 rfl en45 (slices_EqualFunc_api_Head_api_Head_api_Head_api_Head_c a0 a1 (fun y => head_Same y.1 y.2) hx1) (HasAll.cons (Has.m (Has.s rfl) rfl) (HasAll.cons (Has.m (Has.s rfl) rfl) (HasAll.cons (Has.cv Has.func (Cv.fn (pu := []) (pc := []) (shc := []) en28 CvF.nil CvF.nil (fun y r h => head_Same_c y.1 y.2 h))) HasAll.nil)))) ?_
 refine wo (Spec.assign (Has.s rfl)) ?_
 refine Walk.nil ?_
 refine Leaf.thenN ?_
 refine CWalk.ret ?_
 obtain rfl := Option.some.inj hm
 exact Leaf.retC1 rfl (HasR.cv (HasR.tmp (Has.s rfl)) Cv.fl)

def law19_ShelfTells_J1 (a1 : List Head) (x3 : (List Head)) (x4 : Int × Int) (x5 : Int × Int) (x6 : Bool × Int) (x7 : Bool × Int) (x9 : Int) (x10 : Int) (x11 : Bool) (x12 : Bool) (x13 : Bool) (x14 : Bool) : Option (Bool) :=
  Option.bind (gO (((((((x4.1 == x5.1) && (x4.2 == x5.2)) && (x6.1 == x7.1)) && (x6.2 == x7.2)) && (x9 == x10)) && ((x11 && (x12 == x13)) && x14))) (ref19_Same x3 a1)) (fun x15 => some (((((((x4.1 == x5.1) && (x4.2 == x5.2)) && (x6.1 == x7.1)) && (x6.2 == x7.2)) && (x9 == x10)) && ((x11 && (x12 == x13)) && x14)) && x15))
def law19_ShelfTells_L4 (x8 : (List Head)) (s16 : Int) (s18 : Int) (s21 : Int) : Option (Ctl (Int) (Unit)) :=
  Option.bind (idx x8 s16) (fun x23 => Option.bind (idx x23.Blocks s18) (fun x24 => (bif (decide (s21 < ((x24).length : Int))) then Option.bind (idx x8 s16) (fun x25 => Option.bind (idx x25.Blocks s18) (fun x26 => Option.bind (idx x26 s21) (fun x27 => Option.bind (idx x26 s21) (fun x28 => some (Ctl.next (wI (s21 + (1 : Int)))))))) else some (Ctl.brk ()))))
def law19_ShelfTells_L3 (x8 : (List Head)) (s16 : Int) (s18 : Int) : Option (Ctl (Int) (Unit)) :=
  Option.bind (idx x8 s16) (fun x20 => (bif (decide (s18 < ((x20.Blocks).length : Int))) then Option.bind (loopM (fun s : Int => law19_ShelfTells_L4 x8 s16 s18 s) FUEL (0 : Int)) (fun b29 => some (Ctl.next (wI (s18 + (1 : Int))))) else some (Ctl.brk ())))
def law19_ShelfTells_L5 (x8 : (List Head)) (s16 : Int) (s31 : Int) : Option (Ctl (Int) (Unit)) :=
  Option.bind (idx x8 s16) (fun x33 => (bif (decide (s31 < ((x33.Dirty).length : Int))) then Option.bind (idx x8 s16) (fun x34 => Option.bind (idx x8 s16) (fun x35 => Option.bind (idx x35.Dirty s31) (fun x36 => Option.bind (idx x34.Dirty s31) (fun x37 => some (Ctl.next (wI (s31 + (1 : Int)))))))) else some (Ctl.brk ())))
def law19_ShelfTells_L2 (x8 : (List Head)) (s16 : Int) : Option (Ctl (Int) (Unit)) :=
  (bif (decide (s16 < ((x8).length : Int))) then Option.bind (loopM (fun s : Int => law19_ShelfTells_L3 x8 s16 s) FUEL (0 : Int)) (fun b30 => Option.bind (loopM (fun s : Int => law19_ShelfTells_L5 x8 s16 s) FUEL (0 : Int)) (fun b38 => some (Ctl.next (wI (s16 + (1 : Int)))))) else some (Ctl.brk ()))
/-- freeboard/freeboardlaw19.ShelfTells -/
def law19_ShelfTells (a0 : Config) (a1 : List Head) (a2 : List Head) (a3 : Int) : Option (Bool) :=
  Option.bind (ref19_Great a1) (fun x1 => Option.bind (gO (!x1) (ref19_Great a2)) (fun x2 => (bif (x1 || x2) then some true else Option.bind (ref19_Twin a1) (fun x3 => Option.bind (shelf_Find a0 x3 a3) (fun x4 => Option.bind (ref19_Find a0 a1 a3) (fun x5 => Option.bind (shelf_Room a0 x3) (fun x6 => Option.bind (ref19_Room a0 a1) (fun x7 => Option.bind (shelf_Twin x3) (fun x8 => Option.bind (gO (((((x4.1 == x5.1) && (x4.2 == x5.2)) && (x6.1 == x7.1)) && (x6.2 == x7.2))) (shelf_Check a0 x3)) (fun x9 => Option.bind (gO (((((x4.1 == x5.1) && (x4.2 == x5.2)) && (x6.1 == x7.1)) && (x6.2 == x7.2))) (ref19_Check a0 a1)) (fun x10 => Option.bind (ref19_Same x8 a1) (fun x11 => Option.bind (gO (x11) (shelf_Same a1 a2)) (fun x12 => Option.bind (gO (x11) (ref19_Same a1 a2)) (fun x13 => Option.bind (gO ((x11 && (x12 == x13))) (shelf_Same x3 a1)) (fun x14 => Option.bind (loopM (fun s : Int => law19_ShelfTells_L2 x8 s) FUEL (0 : Int)) (fun b39 => (law19_ShelfTells_J1 a1 x3 x4 x5 x6 x7 x9 x10 x11 x12 x13 x14)))))))))))))))))
set_option maxRecDepth 100000 in
set_option maxHeartbeats 2000000 in
theorem law19_ShelfTells_c (a0 : Config) (a1 : List Head) (a2 : List Head) (a3 : Int) {r : Bool} (hm : law19_ShelfTells a0 a1 a2 a3 = some r) : Ctr Try.prog 3 [.rep 0 a0, .rep 0 a1, .rep 0 a2, .rep 0 a3] (.fl r) [] := by
 refine ctr_of_walk [[]] 112 Try.func3 rfl rfl rfl rfl (fun w0 om => ?_)
 unfold law19_ShelfTells at hm
 refine CWalk.sub (G' := [.fact 0 (.rep [] (a0 : Config)), .fact 1 (.rep [0] (a1 : List Head)), .fact 2 (.rep [0] (a2 : List Head)), .fact 3 (.rep [] (a3 : Int))]) (Sub.cons (Has.fl (Has.s rfl)) (sn (sn (Sub.cons (Has.fl (Has.s rfl)) Sub.nil)))) ?_
 refine CWalk.seq ?_
 refine CWalk.region ?_
 refine ws (Step.boxObj (ls := [(false, 1, Fact.rep [] a0.Id), (false, 1, Fact.rep [] a0.Members), (false, 1, Fact.rep [] a0.Chunk), (false, 1, Fact.rep [] a0.Rows), (false, 1, Fact.rep [] a0.Log), (false, 1, Fact.rep [] a0.Heads)]) 10 rfl rfl rfl rfl (HasL.flds (Has.cv (Has.s rfl) (Cv.trans (Cv.opens (chConfig a0)) (Cv.flds (CvL.cons Cv.fl (CvL.cons Cv.fl (CvL.cons Cv.fl (CvL.cons Cv.fl (CvL.cons Cv.fl (CvL.cons Cv.fl CvL.nil))))))))))) ?_
 refine wo (Spec.assign Has.bool) ?_
 refine Walk.nil ?_
 refine Leaf.thenN ?_
 refine CWalk.seq ?_
 refine CWalk.seq ?_
 refine CWalk.region ?_
 refine mv ?_
 obtain ⟨x1, hx1, hm⟩ := bind_some hm
 refine wo (f := Fact.rep [] (x1 : Bool)) (Spec.callE [0] 17 rfl en8 (ref19_Great_c a1 hx1) (HasAll.cons (Has.m (Has.s rfl) rfl) HasAll.nil)) ?_
 refine mv ?_
 refine wg rfl rfl (fun hb => Spec.move (Has.s rfl)) ?_
 obtain ⟨x2, hx2, hm⟩ := bind_some hm
 refine wg (f := Fact.rep [] (x2 : Bool)) rfl rfl (fun hb => Spec.callE [0] 18 rfl en8 (ref19_Great_c a2 (gO_t hx2 (not_t hb))) (HasAll.cons (Has.m (Has.u rfl hb) rfl) HasAll.nil)) ?_
 refine wo (Spec.or (Has.s rfl) (fun h => Has.u rfl h)) ?_
 refine Walk.nil ?_
 refine Leaf.thenN ?_
 refine CWalk.cond rfl (fun hb => ?_) (fun hb => ?_)
 ·have hm := cond_t hb hm
  refine CWalk.seq ?_
  refine CWalk.region ?_
  refine wo (Spec.assign Has.bool) ?_
  refine Walk.nil ?_
  refine Leaf.thenN ?_
  refine CWalk.ret ?_
  refine Leaf.thenR ?_
  obtain rfl := Option.some.inj hm
  exact Leaf.retC1 rfl (HasR.cv (HasR.tmp (Has.s rfl)) Cv.fl)
 ·have hm := cond_f hb hm
  refine CWalk.skip ?_
  refine Leaf.thenN ?_
  refine CWalk.seq ?_
  refine CWalk.region ?_
  refine mv ?_
  obtain ⟨x3, hx3, hm⟩ := bind_some hm
  refine wo (f := Fact.ow [19] [20] 45 (x3 : List Head)) (Spec.callE [0] 19 rfl en9 (ref19_Twin_c a1 hx3) (HasAll.cons (Has.m (Has.s rfl) rfl) HasAll.nil)) ?_
  refine wo (Spec.assign (Has.s rfl)) ?_
  refine Walk.nil ?_
  refine Leaf.thenN ?_
  refine CWalk.seq ?_
  refine CWalk.region ?_
  refine wo (Spec.loadObj (ls := [(false, 1, Fact.rep [] a0.Id), (false, 1, Fact.rep [] a0.Members), (false, 1, Fact.rep [] a0.Chunk), (false, 1, Fact.rep [] a0.Rows), (false, 1, Fact.rep [] a0.Log), (false, 1, Fact.rep [] a0.Heads)]) ty24 rfl rfl (Has.s rfl) rfl (HasGs.cons (HasG.s rfl) (HasGs.cons (HasG.s rfl) (HasGs.cons (HasG.s rfl) (HasGs.cons (HasG.s rfl) (HasGs.cons (HasG.s rfl) (HasGs.cons (HasG.s rfl) HasGs.nil))))))) ?_
  refine mv ?_
  refine mv ?_
  obtain ⟨x4, hx4, hm⟩ := bind_some hm
  refine wo (f := Fact.tup2 (Fact.rep [] x4.1) (Fact.rep [] x4.2)) (Spec.callE [19, 20] 21 rfl en10 (shelf_Find_c a0 x3 a3 hx4) (HasAll.cons (Has.fl (Has.cv (Has.s rfl) (Cv.trans (Cv.flds (CvL.cons Cv.fl (CvL.cons Cv.fl (CvL.cons Cv.fl (CvL.cons Cv.fl (CvL.cons Cv.fl (CvL.cons Cv.fl CvL.nil))))))) (Cv.close (T := []) (chConfig a0))))) (HasAll.cons (Has.m (Has.cv (Has.s rfl) (Cv.trans Cv.owSl (Cv.slRep (T' := [19, 20]) rfl rfl))) rfl) (HasAll.cons (Has.fl (Has.s rfl)) HasAll.nil)))) ?_
  refine mv ?_
  refine wo (Spec.ext0 (Has.s rfl)) ?_
  refine wo (Spec.ext1 (Has.s rfl)) ?_
  refine wo (Spec.assign (Has.s rfl)) ?_
  refine wo (Spec.assign (Has.s rfl)) ?_
  refine Walk.nil ?_
  refine Leaf.thenN ?_
  refine CWalk.seq ?_
  refine CWalk.region ?_
  refine wo (Spec.loadObj (ls := [(false, 1, Fact.rep [] a0.Id), (false, 1, Fact.rep [] a0.Members), (false, 1, Fact.rep [] a0.Chunk), (false, 1, Fact.rep [] a0.Rows), (false, 1, Fact.rep [] a0.Log), (false, 1, Fact.rep [] a0.Heads)]) ty24 rfl rfl (Has.s rfl) rfl (HasGs.cons (HasG.s rfl) (HasGs.cons (HasG.s rfl) (HasGs.cons (HasG.s rfl) (HasGs.cons (HasG.s rfl) (HasGs.cons (HasG.s rfl) (HasGs.cons (HasG.s rfl) HasGs.nil))))))) ?_
  refine mv ?_
  refine mv ?_
  obtain ⟨x5, hx5, hm⟩ := bind_some hm
  refine wo (f := Fact.tup2 (Fact.rep [] x5.1) (Fact.rep [] x5.2)) (Spec.callE [0] 22 rfl en11 (ref19_Find_c a0 a1 a3 hx5) (HasAll.cons (Has.fl (Has.cv (Has.s rfl) (Cv.trans (Cv.flds (CvL.cons Cv.fl (CvL.cons Cv.fl (CvL.cons Cv.fl (CvL.cons Cv.fl (CvL.cons Cv.fl (CvL.cons Cv.fl CvL.nil))))))) (Cv.close (T := []) (chConfig a0))))) (HasAll.cons (Has.m (Has.s rfl) rfl) (HasAll.cons (Has.fl (Has.s rfl)) HasAll.nil)))) ?_
  refine mv ?_
  refine wo (Spec.ext0 (Has.s rfl)) ?_
  refine wo (Spec.ext1 (Has.s rfl)) ?_
  refine wo (Spec.assign (Has.s rfl)) ?_
  refine wo (Spec.assign (Has.s rfl)) ?_
  refine Walk.nil ?_
  refine Leaf.thenN ?_
  refine CWalk.seq ?_
  refine CWalk.region ?_
  refine wo (Spec.loadObj (ls := [(false, 1, Fact.rep [] a0.Id), (false, 1, Fact.rep [] a0.Members), (false, 1, Fact.rep [] a0.Chunk), (false, 1, Fact.rep [] a0.Rows), (false, 1, Fact.rep [] a0.Log), (false, 1, Fact.rep [] a0.Heads)]) ty24 rfl rfl (Has.s rfl) rfl (HasGs.cons (HasG.s rfl) (HasGs.cons (HasG.s rfl) (HasGs.cons (HasG.s rfl) (HasGs.cons (HasG.s rfl) (HasGs.cons (HasG.s rfl) (HasGs.cons (HasG.s rfl) HasGs.nil))))))) ?_
  refine mv ?_
  obtain ⟨x6, hx6, hm⟩ := bind_some hm
  refine wo (f := Fact.tup2 (Fact.rep [] x6.1) (Fact.rep [] x6.2)) (Spec.callE [19, 20] 23 rfl en12 (shelf_Room_c a0 x3 hx6) (HasAll.cons (Has.fl (Has.cv (Has.s rfl) (Cv.trans (Cv.flds (CvL.cons Cv.fl (CvL.cons Cv.fl (CvL.cons Cv.fl (CvL.cons Cv.fl (CvL.cons Cv.fl (CvL.cons Cv.fl CvL.nil))))))) (Cv.close (T := []) (chConfig a0))))) (HasAll.cons (Has.m (Has.cv (Has.s rfl) (Cv.trans Cv.owSl (Cv.slRep (T' := [19, 20]) rfl rfl))) rfl) HasAll.nil))) ?_
  refine mv ?_
  refine wo (Spec.ext0 (Has.s rfl)) ?_
  refine wo (Spec.ext1 (Has.s rfl)) ?_
  refine wo (Spec.assign (Has.s rfl)) ?_
  refine wo (Spec.assign (Has.s rfl)) ?_
  refine Walk.nil ?_
  refine Leaf.thenN ?_
  refine CWalk.seq ?_
  refine CWalk.region ?_
  refine wo (Spec.loadObj (ls := [(false, 1, Fact.rep [] a0.Id), (false, 1, Fact.rep [] a0.Members), (false, 1, Fact.rep [] a0.Chunk), (false, 1, Fact.rep [] a0.Rows), (false, 1, Fact.rep [] a0.Log), (false, 1, Fact.rep [] a0.Heads)]) ty24 rfl rfl (Has.s rfl) rfl (HasGs.cons (HasG.s rfl) (HasGs.cons (HasG.s rfl) (HasGs.cons (HasG.s rfl) (HasGs.cons (HasG.s rfl) (HasGs.cons (HasG.s rfl) (HasGs.cons (HasG.s rfl) HasGs.nil))))))) ?_
  refine mv ?_
  obtain ⟨x7, hx7, hm⟩ := bind_some hm
  refine wo (f := Fact.tup2 (Fact.rep [] x7.1) (Fact.rep [] x7.2)) (Spec.callE [0] 24 rfl en13 (ref19_Room_c a0 a1 hx7) (HasAll.cons (Has.fl (Has.cv (Has.s rfl) (Cv.trans (Cv.flds (CvL.cons Cv.fl (CvL.cons Cv.fl (CvL.cons Cv.fl (CvL.cons Cv.fl (CvL.cons Cv.fl (CvL.cons Cv.fl CvL.nil))))))) (Cv.close (T := []) (chConfig a0))))) (HasAll.cons (Has.m (Has.s rfl) rfl) HasAll.nil))) ?_
  refine mv ?_
  refine wo (Spec.ext0 (Has.s rfl)) ?_
  refine wo (Spec.ext1 (Has.s rfl)) ?_
  refine wo (Spec.assign (Has.s rfl)) ?_
  refine wo (Spec.assign (Has.s rfl)) ?_
  refine Walk.nil ?_
  refine Leaf.thenN ?_
  refine CWalk.seq ?_
  refine CWalk.region ?_
  refine mv ?_
  obtain ⟨x8, hx8, hm⟩ := bind_some hm
  refine wo (f := Fact.ow [25] [26] 45 (x8 : List Head)) (Spec.callE [19, 20] 25 rfl en14 (shelf_Twin_c x3 hx8) (HasAll.cons (Has.m (Has.cv (Has.s rfl) (Cv.trans Cv.owSl (Cv.slRep (T' := [19, 20]) rfl rfl))) rfl) HasAll.nil)) ?_
  refine wo (Spec.assign (Has.s rfl)) ?_
  refine Walk.nil ?_
  refine Leaf.thenN ?_
  refine CWalk.seq ?_
  obtain ⟨x9, hx9, hm⟩ := bind_some hm
  obtain ⟨x10, hx10, hm⟩ := bind_some hm
  refine CWalk.drawM [[], [], [0, 1], [0, 1, 2], [0, 1, 2, 3], [0, 1, 2, 3], [0, 1, 2, 3, 4, 5], [0, 1, 2, 3, 4, 5, 6], [0, 1, 2, 3, 4, 5, 6, 7], [0, 1, 2, 3, 4, 5, 6, 7, 8], [0, 1, 2, 3, 4, 5, 6, 7, 8], [0, 1, 2, 3, 4, 5, 6, 7, 8, 9, 10], [0, 1, 2, 3, 4, 5, 6, 7, 8, 9, 10, 11], [0, 1, 2, 3, 4, 5, 6, 7, 8, 9, 10, 11, 12], [0, 1, 2, 3, 4, 5, 6, 7, 8, 9, 10, 11, 12, 13], [0, 1, 2, 3, 4, 5, 6, 7, 8, 9, 10, 11, 12, 13], [0, 1, 2, 3, 4, 5, 6, 7, 8, 9, 10, 11, 12, 13, 14, 15], [0, 1, 2, 3, 4, 5, 6, 7, 8, 9, 10, 11, 12, 13, 14, 15, 16], [0, 1, 2, 3, 4, 5, 6, 7, 8, 9, 10, 11, 12, 13, 14, 15, 16, 17], [0, 1, 2, 3, 4, 5, 6, 7, 8, 9, 10, 11, 12, 13, 14, 15, 16, 17, 18], [0, 1, 2, 3, 4, 5, 6, 7, 8, 9, 10, 11, 12, 13, 14, 15, 16, 17, 18], [0, 1, 2, 3, 4, 5, 6, 7, 8, 9, 10, 11, 12, 13, 14, 15, 16, 17, 18, 19, 20], [0, 1, 2, 3, 4, 5, 6, 7, 8, 9, 10, 11, 12, 13, 14, 15, 16, 17, 18], [0, 1, 2, 3, 4, 5, 6, 7, 8, 9, 10, 11, 12, 13, 14, 15, 16, 17, 18], [0, 1, 2, 3, 4, 5, 6, 7, 8, 9, 10, 11, 12, 13, 14, 15, 16, 17, 18, 19, 20, 21, 22, 23], [0, 1, 2, 3, 4, 5, 6, 7, 8, 9, 10, 11, 12, 13, 14, 15, 16, 17, 18, 19, 20, 21, 22, 23, 24], [0, 1, 2, 3, 4, 5, 6, 7, 8, 9, 10, 11, 12, 13, 14, 15, 16, 17, 18, 19, 20, 21, 22, 23, 24, 25], [0, 1, 2, 3, 4, 5, 6, 7, 8, 9, 10, 11, 12, 13, 14, 15, 16, 17, 18, 19, 20, 21, 22, 23, 24, 25, 26]] [[.fact 57 (.rep [] x4.1)], [.fact 58 (.rep [] x5.1)], [.fact 59 (.rep [] ((x4.1 == x5.1) : Bool))], [.fact 60 (.rep [] ((x4.1 == x5.1) : Bool))], [.fact 61 (.under ((x4.1 == x5.1) = true) (.rep [] x4.2))], [.fact 62 (.under ((x4.1 == x5.1) = true) (.rep [] x5.2))], [.fact 63 (.under ((x4.1 == x5.1) = true) (.rep [] ((x4.2 == x5.2) : Bool)))], [.fact 64 (.rep [] (((x4.1 == x5.1) && (x4.2 == x5.2)) : Bool))], [.fact 65 (.rep [] (((x4.1 == x5.1) && (x4.2 == x5.2)) : Bool))], [.fact 66 (.under (((x4.1 == x5.1) && (x4.2 == x5.2)) = true) (.rep [] x6.1))], [.fact 67 (.under (((x4.1 == x5.1) && (x4.2 == x5.2)) = true) (.rep [] x7.1))], [.fact 68 (.under (((x4.1 == x5.1) && (x4.2 == x5.2)) = true) (.rep [] ((x6.1 == x7.1) : Bool)))], [.fact 69 (.rep [] ((((x4.1 == x5.1) && (x4.2 == x5.2)) && (x6.1 == x7.1)) : Bool))], [.fact 70 (.rep [] ((((x4.1 == x5.1) && (x4.2 == x5.2)) && (x6.1 == x7.1)) : Bool))], [.fact 71 (.under ((((x4.1 == x5.1) && (x4.2 == x5.2)) && (x6.1 == x7.1)) = true) (.rep [] x6.2))], [.fact 72 (.under ((((x4.1 == x5.1) && (x4.2 == x5.2)) && (x6.1 == x7.1)) = true) (.rep [] x7.2))], [.fact 73 (.under ((((x4.1 == x5.1) && (x4.2 == x5.2)) && (x6.1 == x7.1)) = true) (.rep [] ((x6.2 == x7.2) : Bool)))], [.fact 74 (.rep [] (((((x4.1 == x5.1) && (x4.2 == x5.2)) && (x6.1 == x7.1)) && (x6.2 == x7.2)) : Bool))], [.fact 75 (.rep [] (((((x4.1 == x5.1) && (x4.2 == x5.2)) && (x6.1 == x7.1)) && (x6.2 == x7.2)) : Bool))], [.fact 76 (.under (((((x4.1 == x5.1) && (x4.2 == x5.2)) && (x6.1 == x7.1)) && (x6.2 == x7.2)) = true) (.flds [(false, 1, Fact.rep [] a0.Id), (false, 1, Fact.rep [] a0.Members), (false, 1, Fact.rep [] a0.Chunk), (false, 1, Fact.rep [] a0.Rows), (false, 1, Fact.rep [] a0.Log), (false, 1, Fact.rep [] a0.Heads)]))], [.fact 77 (.under (((((x4.1 == x5.1) && (x4.2 == x5.2)) && (x6.1 == x7.1)) && (x6.2 == x7.2)) = true) (.ow [19] [20] 45 (x3 : List Head)))], [.fact 78 (.under (((((x4.1 == x5.1) && (x4.2 == x5.2)) && (x6.1 == x7.1)) && (x6.2 == x7.2)) = true) (.rep [] (x9 : Int)))], [.fact 79 (.under (((((x4.1 == x5.1) && (x4.2 == x5.2)) && (x6.1 == x7.1)) && (x6.2 == x7.2)) = true) (.flds [(false, 1, Fact.rep [] a0.Id), (false, 1, Fact.rep [] a0.Members), (false, 1, Fact.rep [] a0.Chunk), (false, 1, Fact.rep [] a0.Rows), (false, 1, Fact.rep [] a0.Log), (false, 1, Fact.rep [] a0.Heads)]))], [.fact 80 (.under (((((x4.1 == x5.1) && (x4.2 == x5.2)) && (x6.1 == x7.1)) && (x6.2 == x7.2)) = true) (.rep [0] (a1 : List Head)))], [.fact 81 (.under (((((x4.1 == x5.1) && (x4.2 == x5.2)) && (x6.1 == x7.1)) && (x6.2 == x7.2)) = true) (.rep [] (x10 : Int)))], [.fact 82 (.under (((((x4.1 == x5.1) && (x4.2 == x5.2)) && (x6.1 == x7.1)) && (x6.2 == x7.2)) = true) (.rep [] ((x9 == x10) : Bool)))], [.fact 83 (.rep [] ((((((x4.1 == x5.1) && (x4.2 == x5.2)) && (x6.1 == x7.1)) && (x6.2 == x7.2)) && (x9 == x10)) : Bool))], [.fact 19 (.rep [] ((((((x4.1 == x5.1) && (x4.2 == x5.2)) && (x6.1 == x7.1)) && (x6.2 == x7.2)) && (x9 == x10)) : Bool))]] mixed (by kernel_rfl) (ao (so (Spec.move (Has.s rfl))) (ao (so (Spec.move (Has.s rfl))) (ao (so (Spec.eqlI (Has.s rfl) (Has.s rfl))) (ao (so (Spec.move (Has.s rfl))) (ao (StepG.opg rfl rfl rfl (fun hb => Spec.move (Has.s rfl))) (ao (StepG.opg rfl rfl rfl (fun hb => Spec.move (Has.s rfl))) (ao (StepG.opg rfl rfl rfl (fun hb => Spec.eqlI (Has.u rfl hb) (Has.u rfl hb))) (ao (so (Spec.and (Has.s rfl) (fun h => Has.u rfl h))) (ao (so (Spec.move (Has.s rfl))) (ao (StepG.opg rfl rfl rfl (fun hb => Spec.move (Has.s rfl))) (ao (StepG.opg rfl rfl rfl (fun hb => Spec.move (Has.s rfl))) (ao (StepG.opg rfl rfl rfl (fun hb => Spec.eqlT (Has.u rfl hb) (Has.u rfl hb) Try.underlying4)) (ao (so (Spec.and (Has.s rfl) (fun h => Has.u rfl h))) (ao (so (Spec.move (Has.s rfl))) (ao (StepG.opg rfl rfl rfl (fun hb => Spec.move (Has.s rfl))) (ao (StepG.opg rfl rfl rfl (fun hb => Spec.move (Has.s rfl))) (ao (StepG.opg rfl rfl rfl (fun hb => Spec.eqlI (Has.u rfl hb) (Has.u rfl hb))) (ao (so (Spec.and (Has.s rfl) (fun h => Has.u rfl h))) (ao (so (Spec.move (Has.s rfl))) (ao (StepG.opg rfl rfl rfl (fun hb => Spec.loadObj (ls := [(false, 1, Fact.rep [] a0.Id), (false, 1, Fact.rep [] a0.Members), (false, 1, Fact.rep [] a0.Chunk), (false, 1, Fact.rep [] a0.Rows), (false, 1, Fact.rep [] a0.Log), (false, 1, Fact.rep [] a0.Heads)]) ty24 rfl rfl (Has.s rfl) rfl (HasGs.cons (HasG.s rfl) (HasGs.cons (HasG.s rfl) (HasGs.cons (HasG.s rfl) (HasGs.cons (HasG.s rfl) (HasGs.cons (HasG.s rfl) (HasGs.cons (HasG.s rfl) HasGs.nil)))))))) (ao (StepG.opg rfl rfl rfl (fun hb => Spec.move (Has.s rfl))) (ao (StepG.opg rfl rfl rfl (fun hb => Spec.callE [19, 20] 27 rfl en15 (shelf_Check_c a0 x3 (gO_t hx9 hb)) (HasAll.cons (Has.fl (Has.cv (Has.u rfl hb) (Cv.trans (Cv.flds (CvL.cons Cv.fl (CvL.cons Cv.fl (CvL.cons Cv.fl (CvL.cons Cv.fl (CvL.cons Cv.fl (CvL.cons Cv.fl CvL.nil))))))) (Cv.close (T := []) (chConfig a0))))) (HasAll.cons (Has.m (Has.cv (Has.u rfl hb) (Cv.trans Cv.owSl (Cv.slRep (T' := [19, 20]) rfl rfl))) rfl) HasAll.nil)))) (ao (StepG.opg rfl rfl rfl (fun hb => Spec.loadObj (ls := [(false, 1, Fact.rep [] a0.Id), (false, 1, Fact.rep [] a0.Members), (false, 1, Fact.rep [] a0.Chunk), (false, 1, Fact.rep [] a0.Rows), (false, 1, Fact.rep [] a0.Log), (false, 1, Fact.rep [] a0.Heads)]) ty24 rfl rfl (Has.s rfl) rfl (HasGs.cons (HasG.s rfl) (HasGs.cons (HasG.s rfl) (HasGs.cons (HasG.s rfl) (HasGs.cons (HasG.s rfl) (HasGs.cons (HasG.s rfl) (HasGs.cons (HasG.s rfl) HasGs.nil)))))))) (ao (StepG.opg rfl rfl rfl (fun hb => Spec.move (Has.s rfl))) (ao (StepG.opg rfl rfl rfl (fun hb => Spec.callE [0] 28 rfl en16 (ref19_Check_c a0 a1 (gO_t hx10 hb)) (HasAll.cons (Has.fl (Has.cv (Has.u rfl hb) (Cv.trans (Cv.flds (CvL.cons Cv.fl (CvL.cons Cv.fl (CvL.cons Cv.fl (CvL.cons Cv.fl (CvL.cons Cv.fl (CvL.cons Cv.fl CvL.nil))))))) (Cv.close (T := []) (chConfig a0))))) (HasAll.cons (Has.m (Has.u rfl hb) rfl) HasAll.nil)))) (ao (StepG.opg rfl rfl rfl (fun hb => Spec.eqlI (Has.u rfl hb) (Has.u rfl hb))) (ao (so (Spec.and (Has.s rfl) (fun h => Has.u rfl h))) (ao (so (Spec.assign (Has.s rfl))) AllM.nil)))))))))))))))))))))))))))) ?_
  refine Leaf.thenN ?_
  refine CWalk.seq ?_
  refine CWalk.region ?_
  refine mv ?_
  refine mv ?_
  obtain ⟨x11, hx11, hm⟩ := bind_some hm
  refine wo (f := Fact.rep [] (x11 : Bool)) (Spec.callE [0, 25, 26] 29 rfl en17 (ref19_Same_c x8 a1 hx11) (HasAll.cons (Has.m (Has.cv (Has.s rfl) (Cv.trans Cv.owSl (Cv.slRep (T' := [25, 26]) rfl rfl))) rfl) (HasAll.cons (Has.m (Has.s rfl) rfl) HasAll.nil))) ?_
  refine mv ?_
  refine wg rfl rfl (fun hb => Spec.move (Has.s rfl)) ?_
  refine wg rfl rfl (fun hb => Spec.move (Has.s rfl)) ?_
  obtain ⟨x12, hx12, hm⟩ := bind_some hm
  refine wg (f := Fact.rep [] (x12 : Bool)) rfl rfl (fun hb => Spec.callE [0] 30 rfl en18 (shelf_Same_c a1 a2 (gO_t hx12 hb)) (HasAll.cons (Has.m (Has.u rfl hb) rfl) (HasAll.cons (Has.m (Has.u rfl hb) rfl) HasAll.nil))) ?_
  refine wg rfl rfl (fun hb => Spec.move (Has.s rfl)) ?_
  refine wg rfl rfl (fun hb => Spec.move (Has.s rfl)) ?_
  obtain ⟨x13, hx13, hm⟩ := bind_some hm
  refine wg (f := Fact.rep [] (x13 : Bool)) rfl rfl (fun hb => Spec.callE [0] 31 rfl en17 (ref19_Same_c a1 a2 (gO_t hx13 hb)) (HasAll.cons (Has.m (Has.u rfl hb) rfl) (HasAll.cons (Has.m (Has.u rfl hb) rfl) HasAll.nil))) ?_
  refine wg rfl rfl (fun hb => Spec.eqlT (Has.u rfl hb) (Has.u rfl hb) Try.underlying4) ?_
  refine wo (Spec.and (Has.s rfl) (fun h => Has.u rfl h)) ?_
  refine mv ?_
  refine wg rfl rfl (fun hb => Spec.move (Has.s rfl)) ?_
  refine wg rfl rfl (fun hb => Spec.move (Has.s rfl)) ?_
  obtain ⟨x14, hx14, hm⟩ := bind_some hm
  refine wg (f := Fact.rep [] (x14 : Bool)) rfl rfl (fun hb => Spec.callE [0, 19, 20] 32 rfl en18 (shelf_Same_c x3 a1 (gO_t hx14 hb)) (HasAll.cons (Has.m (Has.cv (Has.u rfl hb) (Cv.trans Cv.owSl (Cv.slRep (T' := [19, 20]) rfl rfl))) rfl) (HasAll.cons (Has.m (Has.u rfl hb) rfl) HasAll.nil))) ?_
  refine wo (Spec.and (Has.s rfl) (fun h => Has.u rfl h)) ?_
  refine wo (Spec.assign (Has.s rfl)) ?_
  refine Walk.nil ?_
  refine Leaf.thenN ?_
  refine CWalk.seq ?_
  refine CWalk.region ?_
  refine mv ?_
  refine Walk.inline (S := Unit) (fun p : Unit => [.fact 1 (.rep [0] (a1 : List Head)), .fact 9 (.ow [19] [20] 45 (x3 : List Head)), .fact 19 (.rep [] ((((((x4.1 == x5.1) && (x4.2 == x5.2)) && (x6.1 == x7.1)) && (x6.2 == x7.2)) && (x9 == x10)) : Bool)), .fact 20 (.rep [] (((x11 && (x12 == x13)) && x14) : Bool)), .fact 102 (.top)]) (fun p : Unit => law19_ShelfTells_J1 a1 x3 x4 x5 x6 x7 x9 x10 x11 x12 x13 x14 = some r) (fun u1 => [.fact 902001 (.cst (u1 1) (Fact.rep [0] (a1 : List Head))), .fact 902009 (.cst (u1 9) (Fact.ow [19] [20] 45 (x3 : List Head))), .fact 902019 (.cst (u1 19) (Fact.rep [] ((((((x4.1 == x5.1) && (x4.2 == x5.2)) && (x6.1 == x7.1)) && (x6.2 == x7.2)) && (x9 == x10)) : Bool))), .fact 902020 (.cst (u1 20) (Fact.rep [] (((x11 && (x12 == x13)) && x14) : Bool)))]) (FA := [Fact.ow [25] [26] 45 (x8 : List Head)]) rfl Try.func19 rfl rfl rfl (CallOk.fn en19 (HasF.cons (Has.s rfl) HasF.nil)) (fun u1 => (cs 902000 1 (cs 902000 9 (cs 902000 19 (cs 902000 20 Carry.nil))))) (fun u1 => ?_) ?_
  ·refine CWalk.seq ?_
   refine CWalk.region ?_
   refine wo (Spec.assign Has.int) ?_
   refine Walk.nil ?_
   refine Leaf.thenN ?_
   refine CWalk.block ?_
   obtain ⟨b39, hb39, hm⟩ := bind_some hm
   refine CWalk.loop (fun s : Int => [.fact 0 (.lo [25, 26] (x8 : List Head)), .fact 2 (.rep [] (s : Int)), .fact 902001 (.cst (u1 1) (Fact.rep [0] (a1 : List Head))), .fact 902009 (.cst (u1 9) (Fact.ow [19] [20] 45 (x3 : List Head))), .fact 902019 (.cst (u1 19) (Fact.rep [] ((((((x4.1 == x5.1) && (x4.2 == x5.2)) && (x6.1 == x7.1)) && (x6.2 == x7.2)) && (x9 == x10)) : Bool))), .fact 902020 (.cst (u1 20) (Fact.rep [] (((x11 && (x12 == x13)) && x14) : Bool)))]) (fun b : Unit => (Exit.exit 0, [.fact 902001 (.cst (u1 1) (Fact.rep [0] (a1 : List Head))), .fact 902009 (.cst (u1 9) (Fact.ow [19] [20] 45 (x3 : List Head))), .fact 902019 (.cst (u1 19) (Fact.rep [] ((((((x4.1 == x5.1) && (x4.2 == x5.2)) && (x6.1 == x7.1)) && (x6.2 == x7.2)) && (x9 == x10)) : Bool))), .fact 902020 (.cst (u1 20) (Fact.rep [] (((x11 && (x12 == x13)) && x14) : Bool)))])) hb39 (Sub.cons (Has.cv (Has.s rfl) (Cv.trans (Cv.trans Cv.owSl (Cv.slRep (T' := [25, 26]) rfl rfl)) (Cv.lo rfl))) (st (Sub.cons (Has.cst (HasC.cv (HasC.s (s := 902001) rfl) (Cv.m rfl))) (Sub.cons (Has.cst (HasC.cv (HasC.s (s := 902009) rfl) (Cv.owM (T := [19]) (te := [20]) rfl rfl))) (Sub.cons (Has.cst (HasC.cv (HasC.s (s := 902019) rfl) Cv.fl)) (Sub.cons (Has.cst (HasC.cv (HasC.s (s := 902020) rfl) Cv.fl)) Sub.nil)))))) ?_ ?_
   ·rintro s16 c17 hm
    replace hm : law19_ShelfTells_L2 x8 s16 = some c17 := hm
    unfold law19_ShelfTells_L2 at hm
    show CWalk _ [.fact 0 (.lo [25, 26] (x8 : List Head)), .fact 2 (.rep [] (s16 : Int)), .fact 902001 (.cst (u1 1) (Fact.rep [0] (a1 : List Head))), .fact 902009 (.cst (u1 9) (Fact.ow [19] [20] 45 (x3 : List Head))), .fact 902019 (.cst (u1 19) (Fact.rep [] ((((((x4.1 == x5.1) && (x4.2 == x5.2)) && (x6.1 == x7.1)) && (x6.2 == x7.2)) && (x9 == x10)) : Bool))), .fact 902020 (.cst (u1 20) (Fact.rep [] (((x11 && (x12 == x13)) && x14) : Bool)))] _ _
    refine CWalk.seq ?_
    refine CWalk.seq ?_
    refine CWalk.region ?_
    refine mv ?_
    refine mv ?_
    refine wo (Spec.lenLo (Has.s rfl) Try.underlying25) ?_
    refine wo (Spec.lssI (Has.s rfl) (Has.s rfl)) ?_
    refine Walk.nil ?_
    refine Leaf.thenN ?_
    refine CWalk.cond rfl (fun hb => ?_) (fun hb => ?_)
    ·have hm := cond_t hb hm
     refine CWalk.skip ?_
     refine Leaf.thenN ?_
     refine CWalk.seq ?_
     refine CWalk.block ?_
     refine CWalk.seq ?_
     refine CWalk.seq ?_
     refine CWalk.region ?_
     refine wo (Spec.assign Has.int) ?_
     refine Walk.nil ?_
     refine Leaf.thenN ?_
     refine CWalk.block ?_
     obtain ⟨b30, hb30, hm⟩ := bind_some hm
     refine CWalk.loop (fun s : Int => [.fact 0 (.lo [25, 26] (x8 : List Head)), .fact 2 (.rep [] (s16 : Int)), .fact 3 (.rep [] (s : Int)), .fact 902001 (.cst (u1 1) (Fact.rep [0] (a1 : List Head))), .fact 902009 (.cst (u1 9) (Fact.ow [19] [20] 45 (x3 : List Head))), .fact 902019 (.cst (u1 19) (Fact.rep [] ((((((x4.1 == x5.1) && (x4.2 == x5.2)) && (x6.1 == x7.1)) && (x6.2 == x7.2)) && (x9 == x10)) : Bool))), .fact 902020 (.cst (u1 20) (Fact.rep [] (((x11 && (x12 == x13)) && x14) : Bool)))]) (fun b : Unit => (Exit.exit 2, [.fact 0 (.lo [25, 26] (x8 : List Head)), .fact 2 (.rep [] (s16 : Int)), .fact 902001 (.cst (u1 1) (Fact.rep [0] (a1 : List Head))), .fact 902009 (.cst (u1 9) (Fact.ow [19] [20] 45 (x3 : List Head))), .fact 902019 (.cst (u1 19) (Fact.rep [] ((((((x4.1 == x5.1) && (x4.2 == x5.2)) && (x6.1 == x7.1)) && (x6.2 == x7.2)) && (x9 == x10)) : Bool))), .fact 902020 (.cst (u1 20) (Fact.rep [] (((x11 && (x12 == x13)) && x14) : Bool)))])) hb30 (sn (st (st (Sub.cons (Has.cst (HasC.cv (HasC.s (s := 902001) rfl) (Cv.m rfl))) (Sub.cons (Has.cst (HasC.cv (HasC.s (s := 902009) rfl) (Cv.owM (T := [19]) (te := [20]) rfl rfl))) (Sub.cons (Has.cst (HasC.cv (HasC.s (s := 902019) rfl) Cv.fl)) (Sub.cons (Has.cst (HasC.cv (HasC.s (s := 902020) rfl) Cv.fl)) Sub.nil))))))) ?_ ?_
     ·rintro s18 c19 hm
      replace hm : law19_ShelfTells_L3 x8 s16 s18 = some c19 := hm
      unfold law19_ShelfTells_L3 at hm
      show CWalk _ [.fact 0 (.lo [25, 26] (x8 : List Head)), .fact 2 (.rep [] (s16 : Int)), .fact 3 (.rep [] (s18 : Int)), .fact 902001 (.cst (u1 1) (Fact.rep [0] (a1 : List Head))), .fact 902009 (.cst (u1 9) (Fact.ow [19] [20] 45 (x3 : List Head))), .fact 902019 (.cst (u1 19) (Fact.rep [] ((((((x4.1 == x5.1) && (x4.2 == x5.2)) && (x6.1 == x7.1)) && (x6.2 == x7.2)) && (x9 == x10)) : Bool))), .fact 902020 (.cst (u1 20) (Fact.rep [] (((x11 && (x12 == x13)) && x14) : Bool)))] _ _
      refine CWalk.seq ?_
      refine CWalk.seq ?_
      refine CWalk.region ?_
      refine mv ?_
      refine mv ?_
      refine mv ?_
      obtain ⟨x20, hx20, hm⟩ := bind_some hm
      refine wo (Spec.idxLo hx20 sl25 (Has.s rfl) (Has.s rfl)) ?_
      refine wo (Spec.fieldLo fd45_1 (loHead_1 _) (Has.s rfl)) ?_
      refine wo (Spec.loadLo ty42 (Has.s rfl)) ?_
      refine wo (Spec.lenLo (Has.s rfl) Try.underlying42) ?_
      refine wo (Spec.lssI (Has.s rfl) (Has.s rfl)) ?_
      refine Walk.nil ?_
      refine Leaf.thenN ?_
      refine CWalk.cond rfl (fun hb => ?_) (fun hb => ?_)
      ·have hm := cond_t hb hm
       refine CWalk.skip ?_
       refine Leaf.thenN ?_
       refine CWalk.seq ?_
       refine CWalk.block ?_
       refine CWalk.seq ?_
       refine CWalk.region ?_
       refine wo (Spec.assign Has.int) ?_
       refine Walk.nil ?_
       refine Leaf.thenN ?_
       refine CWalk.block ?_
       obtain ⟨b29, hb29, hm⟩ := bind_some hm
       refine CWalk.loop (fun s : Int => [.fact 0 (.lo [25, 26] (x8 : List Head)), .fact 2 (.rep [] (s16 : Int)), .fact 3 (.rep [] (s18 : Int)), .fact 4 (.rep [] (s : Int)), .fact 902001 (.cst (u1 1) (Fact.rep [0] (a1 : List Head))), .fact 902009 (.cst (u1 9) (Fact.ow [19] [20] 45 (x3 : List Head))), .fact 902019 (.cst (u1 19) (Fact.rep [] ((((((x4.1 == x5.1) && (x4.2 == x5.2)) && (x6.1 == x7.1)) && (x6.2 == x7.2)) && (x9 == x10)) : Bool))), .fact 902020 (.cst (u1 20) (Fact.rep [] (((x11 && (x12 == x13)) && x14) : Bool)))]) (fun b : Unit => (Exit.exit 4, [.fact 0 (.lo [25, 26] (x8 : List Head)), .fact 2 (.rep [] (s16 : Int)), .fact 3 (.rep [] (s18 : Int)), .fact 902001 (.cst (u1 1) (Fact.rep [0] (a1 : List Head))), .fact 902009 (.cst (u1 9) (Fact.ow [19] [20] 45 (x3 : List Head))), .fact 902019 (.cst (u1 19) (Fact.rep [] ((((((x4.1 == x5.1) && (x4.2 == x5.2)) && (x6.1 == x7.1)) && (x6.2 == x7.2)) && (x9 == x10)) : Bool))), .fact 902020 (.cst (u1 20) (Fact.rep [] (((x11 && (x12 == x13)) && x14) : Bool)))])) hb29 (sn (st (st (st (Sub.cons (Has.cst (HasC.cv (HasC.s (s := 902001) rfl) (Cv.m rfl))) (Sub.cons (Has.cst (HasC.cv (HasC.s (s := 902009) rfl) (Cv.owM (T := [19]) (te := [20]) rfl rfl))) (Sub.cons (Has.cst (HasC.cv (HasC.s (s := 902019) rfl) Cv.fl)) (Sub.cons (Has.cst (HasC.cv (HasC.s (s := 902020) rfl) Cv.fl)) Sub.nil)))))))) ?_ ?_
       ·rintro s21 c22 hm
        replace hm : law19_ShelfTells_L4 x8 s16 s18 s21 = some c22 := hm
        unfold law19_ShelfTells_L4 at hm
        show CWalk _ [.fact 0 (.lo [25, 26] (x8 : List Head)), .fact 2 (.rep [] (s16 : Int)), .fact 3 (.rep [] (s18 : Int)), .fact 4 (.rep [] (s21 : Int)), .fact 902001 (.cst (u1 1) (Fact.rep [0] (a1 : List Head))), .fact 902009 (.cst (u1 9) (Fact.ow [19] [20] 45 (x3 : List Head))), .fact 902019 (.cst (u1 19) (Fact.rep [] ((((((x4.1 == x5.1) && (x4.2 == x5.2)) && (x6.1 == x7.1)) && (x6.2 == x7.2)) && (x9 == x10)) : Bool))), .fact 902020 (.cst (u1 20) (Fact.rep [] (((x11 && (x12 == x13)) && x14) : Bool)))] _ _
        refine CWalk.seq ?_
        refine CWalk.seq ?_
        refine CWalk.region ?_
        refine mv ?_
        refine mv ?_
        refine mv ?_
        obtain ⟨x23, hx23, hm⟩ := bind_some hm
        refine wo (Spec.idxLo hx23 sl25 (Has.s rfl) (Has.s rfl)) ?_
        refine wo (Spec.fieldLo fd45_1 (loHead_1 _) (Has.s rfl)) ?_
        refine wo (Spec.loadLo ty42 (Has.s rfl)) ?_
        refine mv ?_
        obtain ⟨x24, hx24, hm⟩ := bind_some hm
        refine wo (Spec.idxLo hx24 sl42 (Has.s rfl) (Has.s rfl)) ?_
        refine wo (Spec.loadLo ty71 (Has.s rfl)) ?_
        refine wo (Spec.lenLo (Has.s rfl) Try.underlying71) ?_
        refine wo (Spec.lssI (Has.s rfl) (Has.s rfl)) ?_
        refine Walk.nil ?_
        refine Leaf.thenN ?_
        refine CWalk.cond rfl (fun hb => ?_) (fun hb => ?_)
        ·have hm := cond_t hb hm
         refine CWalk.skip ?_
         refine Leaf.thenN ?_
         refine CWalk.seq ?_
         refine CWalk.block ?_
         refine CWalk.region ?_
         refine mv ?_
         refine mv ?_
         obtain ⟨x25, hx25, hm⟩ := bind_some hm
         refine wo (Spec.idxLo hx25 sl25 (Has.s rfl) (Has.s rfl)) ?_
         refine wo (Spec.fieldLo fd45_1 (loHead_1 _) (Has.s rfl)) ?_
         refine wo (Spec.loadLo ty42 (Has.s rfl)) ?_
         refine mv ?_
         obtain ⟨x26, hx26, hm⟩ := bind_some hm
         refine wo (Spec.idxLo hx26 sl42 (Has.s rfl) (Has.s rfl)) ?_
         refine wo (Spec.loadLo ty71 (Has.s rfl)) ?_
         refine mv ?_
         obtain ⟨x27, hx27, hm⟩ := bind_some hm
         refine wo (Spec.idxLo hx27 sl71 (Has.s rfl) (Has.s rfl)) ?_
         refine wo (Spec.loadLo ty5 (Has.s rfl)) ?_
         refine wo (Spec.add8Lo (Has.s rfl) (Has.u8 1 rfl)) ?_
         obtain ⟨x28, hx28, hm⟩ := bind_some hm
         refine wo (Spec.idxLo hx28 sl71 (Has.s rfl) (Has.s rfl)) ?_
         refine ws (Step.storeL (T := [25, 26]) (LL := [.fact 0 (.lo [25, 26] (x8 : List Head))]) rfl ty5 (Has.s rfl) (Has.s rfl) (LooseL.lo rfl LooseL.nil)) ?_
         refine Walk.nil ?_
         refine Leaf.blockN ?_
         refine Leaf.thenN ?_
         refine CWalk.region ?_
         refine mv ?_
         refine wo (Spec.addI (Has.s rfl) Has.int) ?_
         refine wo (Spec.assign (Has.s rfl)) ?_
         refine Walk.nil ?_
         exact Leaf.next hm (sn (st (st (st (Sub.cons (Has.cst (HasC.cv (HasC.s (s := 902001) rfl) (Cv.m rfl))) (Sub.cons (Has.cst (HasC.cv (HasC.s (s := 902009) rfl) (Cv.owM (T := [19]) (te := [20]) rfl rfl))) (Sub.cons (Has.cst (HasC.cv (HasC.s (s := 902019) rfl) Cv.fl)) (Sub.cons (Has.cst (HasC.cv (HasC.s (s := 902020) rfl) Cv.fl)) Sub.nil))))))))
        ·have hm := cond_f hb hm
         refine CWalk.exit ?_
         refine Leaf.thenE ?_
         exact Leaf.brk hm (fun h => nomatch h) rfl (sn (st (st (Sub.cons (Has.cst (HasC.cv (HasC.s (s := 902001) rfl) (Cv.m rfl))) (Sub.cons (Has.cst (HasC.cv (HasC.s (s := 902009) rfl) (Cv.owM (T := [19]) (te := [20]) rfl rfl))) (Sub.cons (Has.cst (HasC.cv (HasC.s (s := 902019) rfl) Cv.fl)) (Sub.cons (Has.cst (HasC.cv (HasC.s (s := 902020) rfl) Cv.fl)) Sub.nil)))))))
       ·intro _
        refine Leaf.blockE ?_
        refine Leaf.blockN ?_
        refine Leaf.thenN ?_
        refine CWalk.region ?_
        refine mv ?_
        refine wo (Spec.addI (Has.s rfl) Has.int) ?_
        refine wo (Spec.assign (Has.s rfl)) ?_
        refine Walk.nil ?_
        exact Leaf.next hm (sn (st (st (Sub.cons (Has.cst (HasC.cv (HasC.s (s := 902001) rfl) (Cv.m rfl))) (Sub.cons (Has.cst (HasC.cv (HasC.s (s := 902009) rfl) (Cv.owM (T := [19]) (te := [20]) rfl rfl))) (Sub.cons (Has.cst (HasC.cv (HasC.s (s := 902019) rfl) Cv.fl)) (Sub.cons (Has.cst (HasC.cv (HasC.s (s := 902020) rfl) Cv.fl)) Sub.nil)))))))
      ·have hm := cond_f hb hm
       refine CWalk.exit ?_
       refine Leaf.thenE ?_
       exact Leaf.brk hm (fun h => nomatch h) rfl (sn (st (Sub.cons (Has.cst (HasC.cv (HasC.s (s := 902001) rfl) (Cv.m rfl))) (Sub.cons (Has.cst (HasC.cv (HasC.s (s := 902009) rfl) (Cv.owM (T := [19]) (te := [20]) rfl rfl))) (Sub.cons (Has.cst (HasC.cv (HasC.s (s := 902019) rfl) Cv.fl)) (Sub.cons (Has.cst (HasC.cv (HasC.s (s := 902020) rfl) Cv.fl)) Sub.nil))))))
     ·intro _
      refine Leaf.blockE ?_
      refine Leaf.thenN ?_
      refine CWalk.seq ?_
      refine CWalk.region ?_
      refine wo (Spec.assign Has.int) ?_
      refine Walk.nil ?_
      refine Leaf.thenN ?_
      refine CWalk.block ?_
      obtain ⟨b38, hb38, hm⟩ := bind_some hm
      refine CWalk.loop (fun s : Int => [.fact 0 (.lo [25, 26] (x8 : List Head)), .fact 2 (.rep [] (s16 : Int)), .fact 5 (.rep [] (s : Int)), .fact 902001 (.cst (u1 1) (Fact.rep [0] (a1 : List Head))), .fact 902009 (.cst (u1 9) (Fact.ow [19] [20] 45 (x3 : List Head))), .fact 902019 (.cst (u1 19) (Fact.rep [] ((((((x4.1 == x5.1) && (x4.2 == x5.2)) && (x6.1 == x7.1)) && (x6.2 == x7.2)) && (x9 == x10)) : Bool))), .fact 902020 (.cst (u1 20) (Fact.rep [] (((x11 && (x12 == x13)) && x14) : Bool)))]) (fun b : Unit => (Exit.exit 6, [.fact 0 (.lo [25, 26] (x8 : List Head)), .fact 2 (.rep [] (s16 : Int)), .fact 902001 (.cst (u1 1) (Fact.rep [0] (a1 : List Head))), .fact 902009 (.cst (u1 9) (Fact.ow [19] [20] 45 (x3 : List Head))), .fact 902019 (.cst (u1 19) (Fact.rep [] ((((((x4.1 == x5.1) && (x4.2 == x5.2)) && (x6.1 == x7.1)) && (x6.2 == x7.2)) && (x9 == x10)) : Bool))), .fact 902020 (.cst (u1 20) (Fact.rep [] (((x11 && (x12 == x13)) && x14) : Bool)))])) hb38 (sn (st (st (Sub.cons (Has.cst (HasC.cv (HasC.s (s := 902001) rfl) (Cv.m rfl))) (Sub.cons (Has.cst (HasC.cv (HasC.s (s := 902009) rfl) (Cv.owM (T := [19]) (te := [20]) rfl rfl))) (Sub.cons (Has.cst (HasC.cv (HasC.s (s := 902019) rfl) Cv.fl)) (Sub.cons (Has.cst (HasC.cv (HasC.s (s := 902020) rfl) Cv.fl)) Sub.nil))))))) ?_ ?_
      ·rintro s31 c32 hm
       replace hm : law19_ShelfTells_L5 x8 s16 s31 = some c32 := hm
       unfold law19_ShelfTells_L5 at hm
       show CWalk _ [.fact 0 (.lo [25, 26] (x8 : List Head)), .fact 2 (.rep [] (s16 : Int)), .fact 5 (.rep [] (s31 : Int)), .fact 902001 (.cst (u1 1) (Fact.rep [0] (a1 : List Head))), .fact 902009 (.cst (u1 9) (Fact.ow [19] [20] 45 (x3 : List Head))), .fact 902019 (.cst (u1 19) (Fact.rep [] ((((((x4.1 == x5.1) && (x4.2 == x5.2)) && (x6.1 == x7.1)) && (x6.2 == x7.2)) && (x9 == x10)) : Bool))), .fact 902020 (.cst (u1 20) (Fact.rep [] (((x11 && (x12 == x13)) && x14) : Bool)))] _ _
       refine CWalk.seq ?_
       refine CWalk.seq ?_
       refine CWalk.region ?_
       refine mv ?_
       refine mv ?_
       refine mv ?_
       obtain ⟨x33, hx33, hm⟩ := bind_some hm
       refine wo (Spec.idxLo hx33 sl25 (Has.s rfl) (Has.s rfl)) ?_
       refine wo (Spec.fieldLo fd45_2 (loHead_2 _) (Has.s rfl)) ?_
       refine wo (Spec.loadLo ty43 (Has.s rfl)) ?_
       refine wo (Spec.lenLo (Has.s rfl) Try.underlying43) ?_
       refine wo (Spec.lssI (Has.s rfl) (Has.s rfl)) ?_
       refine Walk.nil ?_
       refine Leaf.thenN ?_
       refine CWalk.cond rfl (fun hb => ?_) (fun hb => ?_)
       ·have hm := cond_t hb hm
        refine CWalk.skip ?_
        refine Leaf.thenN ?_
        refine CWalk.seq ?_
        refine CWalk.block ?_
        obtain ⟨x34, hx34, hm⟩ := bind_some hm
        obtain ⟨x35, hx35, hm⟩ := bind_some hm
        obtain ⟨x36, hx36, hm⟩ := bind_some hm
        obtain ⟨x37, hx37, hm⟩ := bind_some hm
        refine CWalk.drawM [[], [], [0, 1], [0, 1, 2], [0, 1, 2, 3], [], [], [], [6, 7], [6, 7, 8], [6, 7, 8, 9], [], [6, 7, 8, 9, 10, 11], [6, 7, 8, 9, 10, 11, 12], [6, 7, 8, 9, 10, 11, 12, 13], [0, 1, 2, 3, 4, 5, 6, 7, 8, 9, 10, 11, 12, 13, 14], [0, 1, 2, 3, 4, 5, 6, 7, 8, 9, 10, 11, 12, 13, 14, 15]] [[.fact 58 (.lo [25, 26] (x8 : List Head))], [.fact 59 (.rep [] (s16 : Int))], [.fact 60 (.lptr [25, 26] (x34 : Head))], [.fact 61 (.lptr [25, 26] x34.Dirty)], [.fact 62 (.lo [25, 26] x34.Dirty)], [.fact 63 (.rep [] (s31 : Int))], [.fact 64 (.lo [25, 26] (x8 : List Head))], [.fact 65 (.rep [] (s16 : Int))], [.fact 66 (.lptr [25, 26] (x35 : Head))], [.fact 67 (.lptr [25, 26] x35.Dirty)], [.fact 68 (.lo [25, 26] x35.Dirty)], [.fact 69 (.rep [] (s31 : Int))], [.fact 70 (.lptr [25, 26] (x36 : Bool))], [.fact 71 (.lo [25, 26] (x36 : Bool))], [.fact 72 (.lo [] (false : Bool))], [.fact 73 (.lptr [25, 26] (x37 : Bool))], [.fact 0 (.lo [25, 26] (x8 : List Head)), .fact 49 (.lo [25, 26] (x8 : List Head)), .fact 51 (.lptr [25, 26] (x33 : Head)), .fact 52 (.lptr [25, 26] x33.Dirty), .fact 53 (.lo [25, 26] x33.Dirty), .fact 58 (.lo [25, 26] (x8 : List Head)), .fact 60 (.lptr [25, 26] (x34 : Head)), .fact 61 (.lptr [25, 26] x34.Dirty), .fact 62 (.lo [25, 26] x34.Dirty), .fact 64 (.lo [25, 26] (x8 : List Head)), .fact 66 (.lptr [25, 26] (x35 : Head)), .fact 67 (.lptr [25, 26] x35.Dirty), .fact 68 (.lo [25, 26] x35.Dirty), .fact 70 (.lptr [25, 26] (x36 : Bool)), .fact 71 (.lo [25, 26] (x36 : Bool)), .kill 25, .kill 26]] mixed (by kernel_rfl) (ao (so (Spec.move (Has.s rfl))) (ao (so (Spec.move (Has.s rfl))) (ao (so (Spec.idxLo hx34 sl25 (Has.s rfl) (Has.s rfl))) (ao (so (Spec.fieldLo fd45_2 (loHead_2 _) (Has.s rfl))) (ao (so (Spec.loadLo ty43 (Has.s rfl))) (ao (so (Spec.move (Has.s rfl))) (ao (so (Spec.move (Has.s rfl))) (ao (so (Spec.move (Has.s rfl))) (ao (so (Spec.idxLo hx35 sl25 (Has.s rfl) (Has.s rfl))) (ao (so (Spec.fieldLo fd45_2 (loHead_2 _) (Has.s rfl))) (ao (so (Spec.loadLo ty43 (Has.s rfl))) (ao (so (Spec.move (Has.s rfl))) (ao (so (Spec.idxLo hx36 sl43 (Has.s rfl) (Has.s rfl))) (ao (so (Spec.loadLo ty4 (Has.s rfl))) (ao (so (Spec.notLo (Has.s rfl))) (ao (so (Spec.idxLo hx37 sl43 (Has.s rfl) (Has.s rfl))) (ao (StepG.stE (Step.storeL (T := [25, 26]) (LL := [.fact 0 (.lo [25, 26] (x8 : List Head)), .fact 49 (.lo [25, 26] (x8 : List Head)), .fact 51 (.lptr [25, 26] (x33 : Head)), .fact 52 (.lptr [25, 26] x33.Dirty), .fact 53 (.lo [25, 26] x33.Dirty), .fact 58 (.lo [25, 26] (x8 : List Head)), .fact 60 (.lptr [25, 26] (x34 : Head)), .fact 61 (.lptr [25, 26] x34.Dirty), .fact 62 (.lo [25, 26] x34.Dirty), .fact 64 (.lo [25, 26] (x8 : List Head)), .fact 66 (.lptr [25, 26] (x35 : Head)), .fact 67 (.lptr [25, 26] x35.Dirty), .fact 68 (.lo [25, 26] x35.Dirty), .fact 70 (.lptr [25, 26] (x36 : Bool)), .fact 71 (.lo [25, 26] (x36 : Bool))]) rfl ty4 (Has.s rfl) (Has.s rfl) (LooseL.lo rfl (LooseL.lo rfl (LooseL.lptr rfl (LooseL.lptr rfl (LooseL.lo rfl (LooseL.lo rfl (LooseL.lptr rfl (LooseL.lptr rfl (LooseL.lo rfl (LooseL.lo rfl (LooseL.lptr rfl (LooseL.lptr rfl (LooseL.lo rfl (LooseL.lptr rfl (LooseL.lo rfl LooseL.nil))))))))))))))))) AllM.nil))))))))))))))))) ?_
        refine Leaf.blockN ?_
        refine Leaf.thenN ?_
        refine CWalk.region ?_
        refine mv ?_
        refine wo (Spec.addI (Has.s rfl) Has.int) ?_
        refine wo (Spec.assign (Has.s rfl)) ?_
        refine Walk.nil ?_
        exact Leaf.next hm (sn (st (st (Sub.cons (Has.cst (HasC.cv (HasC.s (s := 902001) rfl) (Cv.m rfl))) (Sub.cons (Has.cst (HasC.cv (HasC.s (s := 902009) rfl) (Cv.owM (T := [19]) (te := [20]) rfl rfl))) (Sub.cons (Has.cst (HasC.cv (HasC.s (s := 902019) rfl) Cv.fl)) (Sub.cons (Has.cst (HasC.cv (HasC.s (s := 902020) rfl) Cv.fl)) Sub.nil)))))))
       ·have hm := cond_f hb hm
        refine CWalk.exit ?_
        refine Leaf.thenE ?_
        exact Leaf.brk hm (fun h => nomatch h) rfl (sn (st (Sub.cons (Has.cst (HasC.cv (HasC.s (s := 902001) rfl) (Cv.m rfl))) (Sub.cons (Has.cst (HasC.cv (HasC.s (s := 902009) rfl) (Cv.owM (T := [19]) (te := [20]) rfl rfl))) (Sub.cons (Has.cst (HasC.cv (HasC.s (s := 902019) rfl) Cv.fl)) (Sub.cons (Has.cst (HasC.cv (HasC.s (s := 902020) rfl) Cv.fl)) Sub.nil))))))
      ·intro _
       refine Leaf.blockE ?_
       refine Leaf.blockN ?_
       refine Leaf.thenN ?_
       refine CWalk.region ?_
       refine mv ?_
       refine wo (Spec.addI (Has.s rfl) Has.int) ?_
       refine wo (Spec.assign (Has.s rfl)) ?_
       refine Walk.nil ?_
       exact Leaf.next hm (sn (st (Sub.cons (Has.cst (HasC.cv (HasC.s (s := 902001) rfl) (Cv.m rfl))) (Sub.cons (Has.cst (HasC.cv (HasC.s (s := 902009) rfl) (Cv.owM (T := [19]) (te := [20]) rfl rfl))) (Sub.cons (Has.cst (HasC.cv (HasC.s (s := 902019) rfl) Cv.fl)) (Sub.cons (Has.cst (HasC.cv (HasC.s (s := 902020) rfl) Cv.fl)) Sub.nil))))))
    ·have hm := cond_f hb hm
     refine CWalk.exit ?_
     refine Leaf.thenE ?_
     exact Leaf.brk hm (fun h => nomatch h) rfl (Sub.cons (Has.cst (HasC.cv (HasC.s (s := 902001) rfl) (Cv.m rfl))) (Sub.cons (Has.cst (HasC.cv (HasC.s (s := 902009) rfl) (Cv.owM (T := [19]) (te := [20]) rfl rfl))) (Sub.cons (Has.cst (HasC.cv (HasC.s (s := 902019) rfl) Cv.fl)) (Sub.cons (Has.cst (HasC.cv (HasC.s (s := 902020) rfl) Cv.fl)) Sub.nil))))
   ·intro _
    refine Leaf.blockE ?_
    exact Leaf.inN (Leaf.in0 (f0 := Fact.top) () hm rfl rfl (fun _ _ => trivial) (Low.slot rfl (HasC.cv (HasC.s (s := 902001) rfl) (Cv.m rfl)) (Low.slot rfl (HasC.cv (HasC.s (s := 902009) rfl) (Cv.owM (T := [19]) (te := [20]) rfl rfl)) (Low.slot rfl (HasC.cv (HasC.s (s := 902019) rfl) Cv.fl) (Low.slot rfl (HasC.cv (HasC.s (s := 902020) rfl) Cv.fl) (Low.res Low.nil))))))
  ·rintro _ hm
   replace hm : law19_ShelfTells_J1 a1 x3 x4 x5 x6 x7 x9 x10 x11 x12 x13 x14 = some r := hm
   unfold law19_ShelfTells_J1 at hm
   show Walk _ _ _ [.fact 1 (.rep [0] (a1 : List Head)), .fact 9 (.ow [19] [20] 45 (x3 : List Head)), .fact 19 (.rep [] ((((((x4.1 == x5.1) && (x4.2 == x5.2)) && (x6.1 == x7.1)) && (x6.2 == x7.2)) && (x9 == x10)) : Bool)), .fact 20 (.rep [] (((x11 && (x12 == x13)) && x14) : Bool)), .fact 102 (.top)] _
   refine Walk.nil ?_
   refine Leaf.thenN ?_
   refine CWalk.seq ?_
   refine CWalk.region ?_
   refine mv ?_
   refine mv ?_
   refine wg rfl rfl (fun hb => Spec.move (Has.s rfl)) ?_
   refine wo (Spec.and (Has.s rfl) (fun h => Has.u rfl h)) ?_
   refine mv ?_
   refine wg rfl rfl (fun hb => Spec.move (Has.s rfl)) ?_
   refine wg rfl rfl (fun hb => Spec.move (Has.s rfl)) ?_
   obtain ⟨x15, hx15, hm⟩ := bind_some hm
   refine wg (f := Fact.rep [] (x15 : Bool)) rfl rfl (fun hb => Spec.callE [0, 19, 20] 33 rfl en17 (ref19_Same_c x3 a1 (gO_t hx15 hb)) (HasAll.cons (Has.m (Has.cv (Has.u rfl hb) (Cv.trans Cv.owSl (Cv.slRep (T' := [19, 20]) rfl rfl))) rfl) (HasAll.cons (Has.m (Has.u rfl hb) rfl) HasAll.nil))) ?_
   refine wo (Spec.and (Has.s rfl) (fun h => Has.u rfl h)) ?_
   refine wo (Spec.assign (Has.s rfl)) ?_
   refine Walk.nil ?_
   refine Leaf.thenN ?_
   refine CWalk.ret ?_
   obtain rfl := Option.some.inj hm
   exact Leaf.retC1 rfl (HasR.cv (HasR.tmp (Has.s rfl)) Cv.fl)

end Go.Proofs.Ytnehbcbljaghnaa
