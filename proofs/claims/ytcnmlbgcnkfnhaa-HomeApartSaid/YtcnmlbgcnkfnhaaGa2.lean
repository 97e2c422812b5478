/- Printed by a program of ours: models of functions, and that calls do what they say. -/
import Derived.Test.YtcnmlbgcnkfnhaaGa1
namespace Go.Proofs.Ytcnmlbgcnkfnhaa
open Go GL
set_option linter.unusedVariables false

def law21_HomeApart_L1 (a0 : Config) (a1 : Int) (a2 : Head) (x3 : (List Act37) × Int) (s5 : Int) (s6 : List Bool) : Option (Ctl (Int × (List Bool)) (((List Bool)) ⊕ (Unit))) :=
  (bif (decide (s5 < ((x3.1).length : Int))) then Option.bind (idx x3.1 s5) (fun x8 => Option.bind (gO (!(x8.Kind != (1 : UInt8))) (idx x3.1 s5)) (fun x9 => Option.bind (gO (!((x8.Kind != (1 : UInt8)) || (decide (x9.Disk < (0 : Int))))) (idx x3.1 s5)) (fun x10 => Option.bind (gO (!(((x8.Kind != (1 : UInt8)) || (decide (x9.Disk < (0 : Int)))) || (decide (x10.Disk ≥ a0.Members)))) (idx x3.1 s5)) (fun x11 => Option.bind (gO (!((((x8.Kind != (1 : UInt8)) || (decide (x9.Disk < (0 : Int)))) || (decide (x10.Disk ≥ a0.Members))) || (x11.Disk == a1))) (idx x3.1 s5)) (fun x12 => Option.bind (gO (!(((((x8.Kind != (1 : UInt8)) || (decide (x9.Disk < (0 : Int)))) || (decide (x10.Disk ≥ a0.Members))) || (x11.Disk == a1)) || (x12.At != (wI (a2.Stripe + (1 : Int)))))) (idx x3.1 s5)) (fun x13 => Option.bind (gO (!((((((x8.Kind != (1 : UInt8)) || (decide (x9.Disk < (0 : Int)))) || (decide (x10.Disk ≥ a0.Members))) || (x11.Disk == a1)) || (x12.At != (wI (a2.Stripe + (1 : Int))))) || (((x13.Data).length : Int) != (128 : Int)))) (idx x3.1 s5)) (fun x14 => Option.bind (gO (!((((((x8.Kind != (1 : UInt8)) || (decide (x9.Disk < (0 : Int)))) || (decide (x10.Disk ≥ a0.Members))) || (x11.Disk == a1)) || (x12.At != (wI (a2.Stripe + (1 : Int))))) || (((x13.Data).length : Int) != (128 : Int)))) (bnd (s6).length x14.Disk)) (fun x15 => Option.bind (gO (!((((((x8.Kind != (1 : UInt8)) || (decide (x9.Disk < (0 : Int)))) || (decide (x10.Disk ≥ a0.Members))) || (x11.Disk == a1)) || (x12.At != (wI (a2.Stripe + (1 : Int))))) || (((x13.Data).length : Int) != (128 : Int)))) ((s6)[x15]?)) (fun x16 => (bif (((((((x8.Kind != (1 : UInt8)) || (decide (x9.Disk < (0 : Int)))) || (decide (x10.Disk ≥ a0.Members))) || (x11.Disk == a1)) || (x12.At != (wI (a2.Stripe + (1 : Int))))) || (((x13.Data).length : Int) != (128 : Int))) || x16) then some (Ctl.brk (Sum.inr ())) else Option.bind (idx x3.1 s5) (fun x17 => Option.bind (bnd (s6).length x17.Disk) (fun x18 => some (Ctl.next ((wI (s5 + (1 : Int))), (s6).set x18 true)))))))))))))) else some (Ctl.brk (Sum.inl s6)))
def law21_HomeApart_L2 (a0 : Config) (a1 : Int) (a2 : Head) (b20 : (List Bool)) (s21 : Int) : Option (Ctl (Int) ((Unit) ⊕ (Unit))) :=
  (bif (decide (s21 < (wI (a0.Members - (1 : Int))))) then Option.bind (turn_Member a0 a2.Stripe s21) (fun x23 => Option.bind (gO (!(x23.2 != (0 : Int))) (bnd (b20).length x23.1)) (fun x24 => Option.bind (gO (!(x23.2 != (0 : Int))) ((b20)[x24]?)) (fun x25 => Option.bind (gO (!(x23.2 != (0 : Int))) (idx a2.Dirty s21)) (fun x26 => (bif ((x23.2 != (0 : Int)) || (x25 != (x26 && (x23.1 != a1)))) then some (Ctl.brk (Sum.inr ())) else some (Ctl.next (wI (s21 + (1 : Int))))))))) else some (Ctl.brk (Sum.inl ())))
/-- freeboard/freeboardlaw21.HomeApart -/
def law21_HomeApart (a0 : Config) (a1 : Int) (a2 : Head) : Option (Bool) :=
  Option.bind (law21_alive) (fun x1 => Option.bind (ref16_Great a2) (fun x2 => (bif (x2 || (!x1)) then some x1 else Option.bind (home_Lay a0 a1 a2) (fun x3 => (bif (x3.2 != (0 : Int)) then some (((x3.1).length : Int) == (0 : Int)) else Option.bind (makeL false a0.Members) (fun x4 => Option.bind (loopM (fun s : Int × (List Bool) => law21_HomeApart_L1 a0 a1 a2 x3 s.1 s.2) FUEL ((0 : Int), x4)) (fun b19 => Sum.elim (fun b20 => Option.bind (loopM (fun s : Int => law21_HomeApart_L2 a0 a1 a2 b20 s) FUEL (0 : Int)) (fun b27 => Sum.elim (fun b28 => some true) (fun b29 => some false) b27)) (fun b30 => some false) b19)))))))
set_option maxRecDepth 100000 in
set_option maxHeartbeats 2000000 in
theorem law21_HomeApart_c (a0 : Config) (a1 : Int) (a2 : Head) {r : Bool} (hm : law21_HomeApart a0 a1 a2 = some r) : Ctr Try.prog 3 [.rep 0 a0, .rep 0 a1, .rep 0 a2] (.fl r) [] := by
 refine ctr_of_walk [[]] 148 Try.func3 rfl rfl rfl rfl (fun w0 om => ?_)
 unfold law21_HomeApart at hm
 refine CWalk.sub (G' := [.fact 0 (.rep [] (a0 : Config)), .fact 1 (.rep [] (a1 : Int)), .fact 2 (.rep [0] (a2 : Head))]) (Sub.cons (Has.fl (Has.s rfl)) (Sub.cons (Has.fl (Has.s rfl)) (sn Sub.nil))) ?_
 refine CWalk.seq ?_
 refine CWalk.region ?_
 refine ws (Step.boxObj (ls := [(false, 1, Fact.rep [] a0.Id), (false, 1, Fact.rep [] a0.Members), (false, 1, Fact.rep [] a0.Chunk), (false, 1, Fact.rep [] a0.Rows), (false, 1, Fact.rep [] a0.Log), (false, 1, Fact.rep [] a0.Heads)]) 10 rfl rfl rfl rfl (HasL.flds (Has.cv (Has.s rfl) (Cv.trans (Cv.opens (chConfig a0)) (Cv.flds (CvL.cons Cv.fl (CvL.cons Cv.fl (CvL.cons Cv.fl (CvL.cons Cv.fl (CvL.cons Cv.fl (CvL.cons Cv.fl CvL.nil))))))))))) ?_
 refine ws (Step.boxObj (ls := [(false, 1, Fact.rep [] a2.Stripe), (false, 1, Fact.rep [0] a2.Blocks), (false, 1, Fact.rep [0] a2.Dirty), (false, 1, Fact.rep [] a2.Phase), (false, 1, Fact.rep [] a2.Deals), (false, 1, Fact.rep [] a2.Seq)]) 17 rfl rfl rfl rfl (HasL.flds (Has.cv (Has.s rfl) (Cv.trans (Cv.opens (chHead a2)) (Cv.flds (CvL.cons Cv.fl (CvL.cons Cv.refl (CvL.cons Cv.refl (CvL.cons Cv.fl (CvL.cons Cv.fl (CvL.cons Cv.fl CvL.nil))))))))))) ?_
 refine wo (Spec.assign Has.bool) ?_
 refine Walk.nil ?_
 refine Leaf.thenN ?_
 refine CWalk.seq ?_
 refine CWalk.region ?_
 obtain ⟨x1, hx1, hm⟩ := bind_some hm
 refine wo (f := Fact.rep [] (x1 : Bool)) (Spec.callE [] 24 rfl en7 (law21_alive_c  hx1) HasAll.nil) ?_
 refine wo (Spec.assign (Has.s rfl)) ?_
 refine Walk.nil ?_
 refine Leaf.thenN ?_
 refine CWalk.seq ?_
 refine CWalk.seq ?_
 refine CWalk.region ?_
 refine wo (Spec.loadObj (ls := [(false, 1, Fact.rep [] a2.Stripe), (false, 1, Fact.rep [0] a2.Blocks), (false, 1, Fact.rep [0] a2.Dirty), (false, 1, Fact.rep [] a2.Phase), (false, 1, Fact.rep [] a2.Deals), (false, 1, Fact.rep [] a2.Seq)]) ty28 rfl rfl (Has.s rfl) rfl (HasGs.cons (HasG.s rfl) (HasGs.cons (HasG.s rfl) (HasGs.cons (HasG.s rfl) (HasGs.cons (HasG.s rfl) (HasGs.cons (HasG.s rfl) (HasGs.cons (HasG.s rfl) HasGs.nil))))))) ?_
 obtain ⟨x2, hx2, hm⟩ := bind_some hm
 refine wo (f := Fact.rep [] (x2 : Bool)) (Spec.callE [0] 25 rfl en8 (ref16_Great_c a2 hx2) (HasAll.cons (Has.m (Has.cv (Has.s rfl) (Cv.trans (Cv.flds (CvL.cons Cv.fl (CvL.cons (Cv.m rfl) (CvL.cons (Cv.m rfl) (CvL.cons Cv.fl (CvL.cons Cv.fl (CvL.cons Cv.fl CvL.nil))))))) (Cv.close (T := [0]) (chHead a2)))) rfl) HasAll.nil)) ?_
 refine mv ?_
 refine wg rfl rfl (fun hb => Spec.move (Has.s rfl)) ?_
 refine wg rfl rfl (fun hb => Spec.not (Has.u rfl hb)) ?_
 refine wo (Spec.or (Has.s rfl) (fun h => Has.u rfl h)) ?_
 refine Walk.nil ?_
 refine Leaf.thenN ?_
 refine CWalk.cond rfl (fun hb => ?_) (fun hb => ?_)
 ·have hm := cond_t hb hm
  refine CWalk.seq ?_
  refine CWalk.region ?_
  refine mv ?_
  refine wo (Spec.assign (Has.s rfl)) ?_
  refine Walk.nil ?_
  refine Leaf.thenN ?_
  refine CWalk.ret ?_
  refine Leaf.thenR ?_
  obtain rfl := Option.some.inj hm
  exact Leaf.retC1 rfl (HasR.cv (HasR.tmp (Has.s rfl)) Cv.fl)
 ·have hm := cond_f hb hm
  refine CWalk.skip ?_
  refine Leaf.thenN ?_
  refine CWalk.seq ?_
  refine CWalk.region ?_
  refine wo (Spec.loadObj (ls := [(false, 1, Fact.rep [] a0.Id), (false, 1, Fact.rep [] a0.Members), (false, 1, Fact.rep [] a0.Chunk), (false, 1, Fact.rep [] a0.Rows), (false, 1, Fact.rep [] a0.Log), (false, 1, Fact.rep [] a0.Heads)]) ty24 rfl rfl (Has.s rfl) rfl (HasGs.cons (HasG.s rfl) (HasGs.cons (HasG.s rfl) (HasGs.cons (HasG.s rfl) (HasGs.cons (HasG.s rfl) (HasGs.cons (HasG.s rfl) (HasGs.cons (HasG.s rfl) HasGs.nil))))))) ?_
  refine mv ?_
  refine wo (Spec.loadObj (ls := [(false, 1, Fact.rep [] a2.Stripe), (false, 1, Fact.rep [0] a2.Blocks), (false, 1, Fact.rep [0] a2.Dirty), (false, 1, Fact.rep [] a2.Phase), (false, 1, Fact.rep [] a2.Deals), (false, 1, Fact.rep [] a2.Seq)]) ty28 rfl rfl (Has.s rfl) rfl (HasGs.cons (HasG.s rfl) (HasGs.cons (HasG.s rfl) (HasGs.cons (HasG.s rfl) (HasGs.cons (HasG.s rfl) (HasGs.cons (HasG.s rfl) (HasGs.cons (HasG.s rfl) HasGs.nil))))))) ?_
  obtain ⟨x3, hx3, hm⟩ := bind_some hm
  refine wo (f := Fact.tup2 (Fact.ow [26] [27] 37 (x3.1 : List Act37)) (Fact.rep [] x3.2)) (Spec.callE [0] 26 rfl en9 (home_Lay_c a0 a1 a2 hx3) (HasAll.cons (Has.fl (Has.cv (Has.s rfl) (Cv.trans (Cv.flds (CvL.cons Cv.fl (CvL.cons Cv.fl (CvL.cons Cv.fl (CvL.cons Cv.fl (CvL.cons Cv.fl (CvL.cons Cv.fl CvL.nil))))))) (Cv.close (T := []) (chConfig a0))))) (HasAll.cons (Has.fl (Has.s rfl)) (HasAll.cons (Has.m (Has.cv (Has.s rfl) (Cv.trans (Cv.flds (CvL.cons Cv.fl (CvL.cons (Cv.m rfl) (CvL.cons (Cv.m rfl) (CvL.cons Cv.fl (CvL.cons Cv.fl (CvL.cons Cv.fl CvL.nil))))))) (Cv.close (T := [0]) (chHead a2)))) rfl) HasAll.nil)))) ?_
  refine mv ?_
  refine wo (Spec.ext0 (Has.s rfl)) ?_
  refine wo (Spec.ext1 (Has.s rfl)) ?_
  refine wo (Spec.assign (Has.s rfl)) ?_
  refine wo (Spec.assign (Has.s rfl)) ?_
  refine Walk.nil ?_
  refine Leaf.thenN ?_
  refine CWalk.seq ?_
  refine CWalk.seq ?_
  refine CWalk.region ?_
  refine mv ?_
  refine wo (Spec.neqI (Has.s rfl) Has.int) ?_
  refine Walk.nil ?_
  refine Leaf.thenN ?_
  refine CWalk.cond rfl (fun hb => ?_) (fun hb => ?_)
  ·have hm := cond_t hb hm
   refine CWalk.seq ?_
   refine CWalk.region ?_
   refine mv ?_
   refine wo (Spec.len (Has.cv (Has.s rfl) (Cv.trans Cv.owSl (Cv.slRep (T' := [26, 27]) rfl rfl))) Try.underlying31) ?_
   refine wo (Spec.eqlI (Has.s rfl) Has.int) ?_
   refine wo (Spec.assign (Has.s rfl)) ?_
   refine Walk.nil ?_
   refine Leaf.thenN ?_
   refine CWalk.ret ?_
   refine Leaf.thenR ?_
   obtain rfl := Option.some.inj hm
   exact Leaf.retC1 rfl (HasR.cv (HasR.tmp (Has.s rfl)) Cv.fl)
  ·have hm := cond_f hb hm
   refine CWalk.skip ?_
   refine Leaf.thenN ?_
   refine CWalk.seq ?_
   refine CWalk.region ?_
   refine wo (Spec.fieldAddrO fd24_1 (Has.cv (Has.s rfl) (Cv.isvP rfl))) ?_
   refine wo (Spec.loadF (i := 1) ty3 rfl (Has.s rfl) rfl (HasG.s rfl)) ?_
   obtain ⟨x4, hx4, hm⟩ := bind_some hm
   refine ws (Step.makeOwn 28 hx4 rfl rfl ow26 zt4 (Has.s rfl)) ?_
   refine wo (Spec.assign (Has.s rfl)) ?_
   refine Walk.nil ?_
   refine Leaf.thenN ?_
   refine CWalk.seq ?_
   refine CWalk.seq ?_
   refine CWalk.region ?_
   refine wo (Spec.assign Has.int) ?_
   refine Walk.nil ?_
   refine Leaf.thenN ?_
   refine CWalk.block ?_
   obtain ⟨b19, hb19, hm⟩ := bind_some hm
   refine CWalk.loop (fun s : Int × (List Bool) => [.fact 1 (.rep [] (a1 : Int)), .fact 3 (.isv 10), .fact 5 (.isv 17), .fact 8 (.ow [26] [27] 37 (x3.1 : List Act37)), .fact 10 (.isv 28), .fact 11 (.rep [] s.1), .fact 100011 (.at 11 (.rep [] a0.Id)), .fact 100012 (.at 12 (.rep [] a0.Members)), .fact 100013 (.at 13 (.rep [] a0.Chunk)), .fact 100014 (.at 14 (.rep [] a0.Rows)), .fact 100015 (.at 15 (.rep [] a0.Log)), .fact 100016 (.at 16 (.rep [] a0.Heads)), .fact 100018 (.at 18 (.rep [] a2.Stripe)), .fact 100019 (.at 19 (.rep [0] a2.Blocks)), .fact 100020 (.at 20 (.rep [0] a2.Dirty)), .fact 100021 (.at 21 (.rep [] a2.Phase)), .fact 100022 (.at 22 (.rep [] a2.Deals)), .fact 100023 (.at 23 (.rep [] a2.Seq)), .fact 100010 (.obj 10 [(false, 1), (false, 1), (false, 1), (false, 1), (false, 1), (false, 1)]), .fact 100017 (.obj 17 [(false, 1), (false, 1), (false, 1), (false, 1), (false, 1), (false, 1)]), .fact 100028 (.own 28 [] 4 (s.2 : List Bool))]) (fun b : ((List Bool)) ⊕ (Unit) => Sum.elim (fun b => (Exit.exit 0, [.fact 1 (.rep [] (a1 : Int)), .fact 3 (.isv 10), .fact 5 (.isv 17), .fact 10 (.isv 28), .fact 100011 (.at 11 (.rep [] a0.Id)), .fact 100012 (.at 12 (.rep [] a0.Members)), .fact 100013 (.at 13 (.rep [] a0.Chunk)), .fact 100014 (.at 14 (.rep [] a0.Rows)), .fact 100015 (.at 15 (.rep [] a0.Log)), .fact 100016 (.at 16 (.rep [] a0.Heads)), .fact 100018 (.at 18 (.rep [] a2.Stripe)), .fact 100019 (.at 19 (.rep [0] a2.Blocks)), .fact 100020 (.at 20 (.rep [0] a2.Dirty)), .fact 100021 (.at 21 (.rep [] a2.Phase)), .fact 100022 (.at 22 (.rep [] a2.Deals)), .fact 100023 (.at 23 (.rep [] a2.Seq)), .fact 100010 (.obj 10 [(false, 1), (false, 1), (false, 1), (false, 1), (false, 1), (false, 1)]), .fact 100017 (.obj 17 [(false, 1), (false, 1), (false, 1), (false, 1), (false, 1), (false, 1)]), .fact 100028 (.own 28 [] 4 (b : List Bool))])) (fun b => (Exit.ret, [.fact 6 (.rep [] (false : Bool))])) b) hb19 (st (sn (sn (Sub.cons (Has.cv (Has.s rfl) (Cv.owM (T := [26]) (te := [27]) rfl rfl)) (sn (st (sf (sf (sf (sf (sf (sf (sf (sm (sm (sf (sf (sf (sn (sn (Sub.cons (Has.ownM (Has.s rfl) rfl) Sub.nil))))))))))))))))))))) ?_ ?_
   ·rintro ⟨s5, s6⟩ c7 hm
    replace hm : law21_HomeApart_L1 a0 a1 a2 x3 s5 s6 = some c7 := hm
    unfold law21_HomeApart_L1 at hm
    show CWalk _ [.fact 1 (.rep [] (a1 : Int)), .fact 3 (.isv 10), .fact 5 (.isv 17), .fact 8 (.ow [26] [27] 37 (x3.1 : List Act37)), .fact 10 (.isv 28), .fact 11 (.rep [] (s5 : Int)), .fact 100011 (.at 11 (.rep [] a0.Id)), .fact 100012 (.at 12 (.rep [] a0.Members)), .fact 100013 (.at 13 (.rep [] a0.Chunk)), .fact 100014 (.at 14 (.rep [] a0.Rows)), .fact 100015 (.at 15 (.rep [] a0.Log)), .fact 100016 (.at 16 (.rep [] a0.Heads)), .fact 100018 (.at 18 (.rep [] a2.Stripe)), .fact 100019 (.at 19 (.rep [0] a2.Blocks)), .fact 100020 (.at 20 (.rep [0] a2.Dirty)), .fact 100021 (.at 21 (.rep [] a2.Phase)), .fact 100022 (.at 22 (.rep [] a2.Deals)), .fact 100023 (.at 23 (.rep [] a2.Seq)), .fact 100010 (.obj 10 [(false, 1), (false, 1), (false, 1), (false, 1), (false, 1), (false, 1)]), .fact 100017 (.obj 17 [(false, 1), (false, 1), (false, 1), (false, 1), (false, 1), (false, 1)]), .fact 100028 (.own 28 [] 4 (s6 : List Bool))] _ _
    refine CWalk.seq ?_
    refine CWalk.seq ?_
    refine CWalk.region ?_
    refine mv ?_
    refine mv ?_
    refine wo (Spec.len (Has.cv (Has.s rfl) (Cv.trans Cv.owSl (Cv.slRep (T' := [26, 27]) rfl rfl))) Try.underlying31) ?_
    refine wo (Spec.lssI (Has.s rfl) (Has.s rfl)) ?_
    refine Walk.nil ?_
    refine Leaf.thenN ?_
    refine CWalk.cond rfl (fun hb => ?_) (fun hb => ?_)
    ·have hm := cond_t hb hm
     refine CWalk.skip ?_
     refine Leaf.thenN ?_
     refine CWalk.seq ?_
     refine CWalk.block ?_
     refine CWalk.seq ?_
     refine CWalk.seq ?_
     obtain ⟨x8, hx8, hm⟩ := bind_some hm
     obtain ⟨x9, hx9, hm⟩ := bind_some hm
     obtain ⟨x10, hx10, hm⟩ := bind_some hm
     obtain ⟨x11, hx11, hm⟩ := bind_some hm
     obtain ⟨x12, hx12, hm⟩ := bind_some hm
     obtain ⟨x13, hx13, hm⟩ := bind_some hm
     obtain ⟨x14, hx14, hm⟩ := bind_some hm
     obtain ⟨x15, hx15, hm⟩ := bind_some hm
     obtain ⟨x16, hx16, hm⟩ := bind_some hm
     refine CWalk.drawM [[], [], [0, 1], [0, 1, 2], [0, 1, 2, 3], [0, 1, 2, 3, 4], [0, 1, 2, 3, 4, 5], [0, 1, 2, 3, 4, 5, 6], [0, 1, 2, 3, 4, 5, 6], [0, 1, 2, 3, 4, 5, 6, 7, 8], [0, 1, 2, 3, 4, 5, 6, 7, 8, 9], [0, 1, 2, 3, 4, 5, 6, 7, 8, 9, 10], [0, 1, 2, 3, 4, 5, 6, 7, 8, 9, 10, 11], [0, 1, 2, 3, 4, 5, 6, 7, 8, 9, 10, 11, 12], [0, 1, 2, 3, 4, 5, 6, 7, 8, 9, 10, 11, 12, 13], [0, 1, 2, 3, 4, 5, 6, 7, 8, 9, 10, 11, 12, 13, 14], [0, 1, 2, 3, 4, 5, 6, 7, 8, 9, 10, 11, 12, 13, 14], [0, 1, 2, 3, 4, 5, 6, 7, 8, 9, 10, 11, 12, 13, 14, 15, 16], [0, 1, 2, 3, 4, 5, 6, 7, 8, 9, 10, 11, 12, 13, 14, 15, 16, 17], [0, 1, 2, 3, 4, 5, 6, 7, 8, 9, 10, 11, 12, 13, 14, 15, 16, 17, 18], [0, 1, 2, 3, 4, 5, 6, 7, 8, 9, 10, 11, 12, 13, 14], [0, 1, 2, 3, 4, 5, 6, 7, 8, 9, 10, 11, 12, 13, 14, 20], [0, 1, 2, 3, 4, 5, 6, 7, 8, 9, 10, 11, 12, 13, 14, 15, 16, 17, 18, 19, 20, 21], [0, 1, 2, 3, 4, 5, 6, 7, 8, 9, 10, 11, 12, 13, 14, 15, 16, 17, 18, 19, 20, 21, 22], [0, 1, 2, 3, 4, 5, 6, 7, 8, 9, 10, 11, 12, 13, 14, 15, 16, 17, 18, 19, 20, 21, 22, 23], [0, 1, 2, 3, 4, 5, 6, 7, 8, 9, 10, 11, 12, 13, 14, 15, 16, 17, 18, 19, 20, 21, 22, 23, 24], [0, 1, 2, 3, 4, 5, 6, 7, 8, 9, 10, 11, 12, 13, 14, 15, 16, 17, 18, 19, 20, 21, 22, 23, 24], [0, 1, 2, 3, 4, 5, 6, 7, 8, 9, 10, 11, 12, 13, 14, 15, 16, 17, 18, 19, 20, 21, 22, 23, 24, 25, 26], [0, 1, 2, 3, 4, 5, 6, 7, 8, 9, 10, 11, 12, 13, 14, 15, 16, 17, 18, 19, 20, 21, 22, 23, 24, 25, 26, 27], [0, 1, 2, 3, 4, 5, 6, 7, 8, 9, 10, 11, 12, 13, 14, 15, 16, 17, 18, 19, 20, 21, 22, 23, 24, 25, 26, 27, 28], [0, 1, 2, 3, 4, 5, 6, 7, 8, 9, 10, 11, 12, 13, 14, 15, 16, 17, 18, 19, 20, 21, 22, 23, 24], [0, 1, 2, 3, 4, 5, 6, 7, 8, 9, 10, 11, 12, 13, 14, 15, 16, 17, 18, 19, 20, 21, 22, 23, 24, 25, 26, 27, 28, 29, 30], [0, 1, 2, 3, 4, 5, 6, 7, 8, 9, 10, 11, 12, 13, 14, 15, 16, 17, 18, 19, 20, 21, 22, 23, 24, 25, 26, 27, 28, 29, 30, 31], [0, 1, 2, 3, 4, 5, 6, 7, 8, 9, 10, 11, 12, 13, 14, 15, 16, 17, 18, 19, 20, 21, 22, 23, 24, 25, 26, 27, 28, 29, 30, 31, 32], [0, 1, 2, 3, 4, 5, 6, 7, 8, 9, 10, 11, 12, 13, 14, 15, 16, 17, 18, 19, 20, 21, 22, 23, 24, 25, 26, 27, 28, 29, 30, 31, 32, 33], [0, 1, 2, 3, 4, 5, 6, 7, 8, 9, 10, 11, 12, 13, 14, 15, 16, 17, 18, 19, 20, 21, 22, 23, 24, 25, 26, 27, 28, 29, 30, 31, 32, 33], [0, 1, 2, 3, 4, 5, 6, 7, 8, 9, 10, 11, 12, 13, 14, 15, 16, 17, 18, 19, 20, 21, 22, 23, 24, 25, 26, 27, 28, 29, 30, 31, 32, 33, 34, 35], [0, 1, 2, 3, 4, 5, 6, 7, 8, 9, 10, 11, 12, 13, 14, 15, 16, 17, 18, 19, 20, 21, 22, 23, 24, 25, 26, 27, 28, 29, 30, 31, 32, 33, 34, 35, 36], [0, 1, 2, 3, 4, 5, 6, 7, 8, 9, 10, 11, 12, 13, 14, 15, 16, 17, 18, 19, 20, 21, 22, 23, 24, 25, 26, 27, 28, 29, 30, 31, 32, 33, 34, 35, 36, 37], [0, 1, 2, 3, 4, 5, 6, 7, 8, 9, 10, 11, 12, 13, 14, 15, 16, 17, 18, 19, 20, 21, 22, 23, 24, 25, 26, 27, 28, 29, 30, 31, 32, 33], [0, 1, 2, 3, 4, 5, 6, 7, 8, 9, 10, 11, 12, 13, 14, 15, 16, 17, 18, 19, 20, 21, 22, 23, 24, 25, 26, 27, 28, 29, 30, 31, 32, 33, 39], [0, 1, 2, 3, 4, 5, 6, 7, 8, 9, 10, 11, 12, 13, 14, 15, 16, 17, 18, 19, 20, 21, 22, 23, 24, 25, 26, 27, 28, 29, 30, 31, 32, 33, 39, 40], [0, 1, 2, 3, 4, 5, 6, 7, 8, 9, 10, 11, 12, 13, 14, 15, 16, 17, 18, 19, 20, 21, 22, 23, 24, 25, 26, 27, 28, 29, 30, 31, 32, 33, 34, 35, 36, 37, 38, 39, 40, 41], [0, 1, 2, 3, 4, 5, 6, 7, 8, 9, 10, 11, 12, 13, 14, 15, 16, 17, 18, 19, 20, 21, 22, 23, 24, 25, 26, 27, 28, 29, 30, 31, 32, 33, 34, 35, 36, 37, 38, 39, 40, 41, 42], [0, 1, 2, 3, 4, 5, 6, 7, 8, 9, 10, 11, 12, 13, 14, 15, 16, 17, 18, 19, 20, 21, 22, 23, 24, 25, 26, 27, 28, 29, 30, 31, 32, 33, 34, 35, 36, 37, 38, 39, 40, 41, 42, 43], [0, 1, 2, 3, 4, 5, 6, 7, 8, 9, 10, 11, 12, 13, 14, 15, 16, 17, 18, 19, 20, 21, 22, 23, 24, 25, 26, 27, 28, 29, 30, 31, 32, 33, 34, 35, 36, 37, 38, 39, 40, 41, 42, 43, 44], [0, 1, 2, 3, 4, 5, 6, 7, 8, 9, 10, 11, 12, 13, 14, 15, 16, 17, 18, 19, 20, 21, 22, 23, 24, 25, 26, 27, 28, 29, 30, 31, 32, 33, 34, 35, 36, 37, 38, 39, 40, 41, 42, 43, 44], [0, 1, 2, 3, 4, 5, 6, 7, 8, 9, 10, 11, 12, 13, 14, 15, 16, 17, 18, 19, 20, 21, 22, 23, 24, 25, 26, 27, 28, 29, 30, 31, 32, 33, 34, 35, 36, 37, 38, 39, 40, 41, 42, 43, 44, 45, 46], [0, 1, 2, 3, 4, 5, 6, 7, 8, 9, 10, 11, 12, 13, 14, 15, 16, 17, 18, 19, 20, 21, 22, 23, 24, 25, 26, 27, 28, 29, 30, 31, 32, 33, 34, 35, 36, 37, 38, 39, 40, 41, 42, 43, 44, 45, 46, 47], [0, 1, 2, 3, 4, 5, 6, 7, 8, 9, 10, 11, 12, 13, 14, 15, 16, 17, 18, 19, 20, 21, 22, 23, 24, 25, 26, 27, 28, 29, 30, 31, 32, 33, 34, 35, 36, 37, 38, 39, 40, 41, 42, 43, 44, 45, 46, 47, 48], [0, 1, 2, 3, 4, 5, 6, 7, 8, 9, 10, 11, 12, 13, 14, 15, 16, 17, 18, 19, 20, 21, 22, 23, 24, 25, 26, 27, 28, 29, 30, 31, 32, 33, 34, 35, 36, 37, 38, 39, 40, 41, 42, 43, 44, 45, 46, 47, 48, 49], [0, 1, 2, 3, 4, 5, 6, 7, 8, 9, 10, 11, 12, 13, 14, 15, 16, 17, 18, 19, 20, 21, 22, 23, 24, 25, 26, 27, 28, 29, 30, 31, 32, 33, 34, 35, 36, 37, 38, 39, 40, 41, 42, 43, 44, 45, 46, 47, 48, 49, 50], [0, 1, 2, 3, 4, 5, 6, 7, 8, 9, 10, 11, 12, 13, 14, 15, 16, 17, 18, 19, 20, 21, 22, 23, 24, 25, 26, 27, 28, 29, 30, 31, 32, 33, 34, 35, 36, 37, 38, 39, 40, 41, 42, 43, 44, 45, 46, 47, 48, 49, 50, 51], [0, 1, 2, 3, 4, 5, 6, 7, 8, 9, 10, 11, 12, 13, 14, 15, 16, 17, 18, 19, 20, 21, 22, 23, 24, 25, 26, 27, 28, 29, 30, 31, 32, 33, 34, 35, 36, 37, 38, 39, 40, 41, 42, 43, 44, 45, 46, 47, 48, 49, 50, 51, 52], [0, 1, 2, 3, 4, 5, 6, 7, 8, 9, 10, 11, 12, 13, 14, 15, 16, 17, 18, 19, 20, 21, 22, 23, 24, 25, 26, 27, 28, 29, 30, 31, 32, 33, 34, 35, 36, 37, 38, 39, 40, 41, 42, 43, 44, 45, 46, 47, 48, 49, 50, 51, 52, 53], [0, 1, 2, 3, 4, 5, 6, 7, 8, 9, 10, 11, 12, 13, 14, 15, 16, 17, 18, 19, 20, 21, 22, 23, 24, 25, 26, 27, 28, 29, 30, 31, 32, 33, 34, 35, 36, 37, 38, 39, 40, 41, 42, 43, 44, 45, 46, 47, 48, 49, 50, 51, 52, 53], [0, 1, 2, 3, 4, 5, 6, 7, 8, 9, 10, 11, 12, 13, 14, 15, 16, 17, 18, 19, 20, 21, 22, 23, 24, 25, 26, 27, 28, 29, 30, 31, 32, 33, 34, 35, 36, 37, 38, 39, 40, 41, 42, 43, 44, 45, 46, 47, 48, 49, 50, 51, 52, 53], [0, 1, 2, 3, 4, 5, 6, 7, 8, 9, 10, 11, 12, 13, 14, 15, 16, 17, 18, 19, 20, 21, 22, 23, 24, 25, 26, 27, 28, 29, 30, 31, 32, 33, 34, 35, 36, 37, 38, 39, 40, 41, 42, 43, 44, 45, 46, 47, 48, 49, 50, 51, 52, 53, 55, 56], [0, 1, 2, 3, 4, 5, 6, 7, 8, 9, 10, 11, 12, 13, 14, 15, 16, 17, 18, 19, 20, 21, 22, 23, 24, 25, 26, 27, 28, 29, 30, 31, 32, 33, 34, 35, 36, 37, 38, 39, 40, 41, 42, 43, 44, 45, 46, 47, 48, 49, 50, 51, 52, 53, 55, 56, 57], [0, 1, 2, 3, 4, 5, 6, 7, 8, 9, 10, 11, 12, 13, 14, 15, 16, 17, 18, 19, 20, 21, 22, 23, 24, 25, 26, 27, 28, 29, 30, 31, 32, 33, 34, 35, 36, 37, 38, 39, 40, 41, 42, 43, 44, 45, 46, 47, 48, 49, 50, 51, 52, 53, 55, 56, 57, 58], [0, 1, 2, 3, 4, 5, 6, 7, 8, 9, 10, 11, 12, 13, 14, 15, 16, 17, 18, 19, 20, 21, 22, 23, 24, 25, 26, 27, 28, 29, 30, 31, 32, 33, 34, 35, 36, 37, 38, 39, 40, 41, 42, 43, 44, 45, 46, 47, 48, 49, 50, 51, 52, 53, 54, 55, 56, 57, 58, 59], [0, 1, 2, 3, 4, 5, 6, 7, 8, 9, 10, 11, 12, 13, 14, 15, 16, 17, 18, 19, 20, 21, 22, 23, 24, 25, 26, 27, 28, 29, 30, 31, 32, 33, 34, 35, 36, 37, 38, 39, 40, 41, 42, 43, 44, 45, 46, 47, 48, 49, 50, 51, 52, 53, 54, 55, 56, 57, 58, 59, 60], [0, 1, 2, 3, 4, 5, 6, 7, 8, 9, 10, 11, 12, 13, 14, 15, 16, 17, 18, 19, 20, 21, 22, 23, 24, 25, 26, 27, 28, 29, 30, 31, 32, 33, 34, 35, 36, 37, 38, 39, 40, 41, 42, 43, 44, 45, 46, 47, 48, 49, 50, 51, 52, 53, 54, 55, 56, 57, 58, 59, 60, 61]] [[.fact 44 (.ow [26] [27] 37 (x3.1 : List Act37))], [.fact 45 (.rep [] (s5 : Int))], [.fact 46 (.ptr [26, 27] (x8 : Act37))], [.fact 47 (.ptr [26, 27] (x8.Kind : UInt8))], [.fact 48 (.rep [] x8.Kind)], [.fact 49 (.rep [] ((x8.Kind != (1 : UInt8)) : Bool))], [.fact 50 (.rep [] ((x8.Kind != (1 : UInt8)) : Bool))], [.fact 51 (.under ((x8.Kind != (1 : UInt8)) = false) (.ow [26] [27] 37 (x3.1 : List Act37)))], [.fact 52 (.under ((x8.Kind != (1 : UInt8)) = false) (.rep [] (s5 : Int)))], [.fact 53 (.under ((x8.Kind != (1 : UInt8)) = false) (.ptr [26, 27] (x9 : Act37)))], [.fact 54 (.under ((x8.Kind != (1 : UInt8)) = false) (.ptr [26, 27] (x9.Disk : Int)))], [.fact 55 (.under ((x8.Kind != (1 : UInt8)) = false) (.rep [] x9.Disk))], [.fact 56 (.under ((x8.Kind != (1 : UInt8)) = false) (.rep [] ((decide (x9.Disk < (0 : Int))) : Bool)))], [.fact 57 (.rep [] (((x8.Kind != (1 : UInt8)) || (decide (x9.Disk < (0 : Int)))) : Bool))], [.fact 58 (.rep [] (((x8.Kind != (1 : UInt8)) || (decide (x9.Disk < (0 : Int)))) : Bool))], [.fact 59 (.under (((x8.Kind != (1 : UInt8)) || (decide (x9.Disk < (0 : Int)))) = false) (.ow [26] [27] 37 (x3.1 : List Act37)))], [.fact 60 (.under (((x8.Kind != (1 : UInt8)) || (decide (x9.Disk < (0 : Int)))) = false) (.rep [] (s5 : Int)))], [.fact 61 (.under (((x8.Kind != (1 : UInt8)) || (decide (x9.Disk < (0 : Int)))) = false) (.ptr [26, 27] (x10 : Act37)))], [.fact 62 (.under (((x8.Kind != (1 : UInt8)) || (decide (x9.Disk < (0 : Int)))) = false) (.ptr [26, 27] (x10.Disk : Int)))], [.fact 63 (.under (((x8.Kind != (1 : UInt8)) || (decide (x9.Disk < (0 : Int)))) = false) (.rep [] x10.Disk))], [.fact 64 (.under (((x8.Kind != (1 : UInt8)) || (decide (x9.Disk < (0 : Int)))) = false) (.pto 10 1))], [.fact 65 (.under (((x8.Kind != (1 : UInt8)) || (decide (x9.Disk < (0 : Int)))) = false) (.rep [] a0.Members))], [.fact 66 (.under (((x8.Kind != (1 : UInt8)) || (decide (x9.Disk < (0 : Int)))) = false) (.rep [] ((decide (x10.Disk ≥ a0.Members)) : Bool)))], [.fact 67 (.rep [] ((((x8.Kind != (1 : UInt8)) || (decide (x9.Disk < (0 : Int)))) || (decide (x10.Disk ≥ a0.Members))) : Bool))], [.fact 68 (.rep [] ((((x8.Kind != (1 : UInt8)) || (decide (x9.Disk < (0 : Int)))) || (decide (x10.Disk ≥ a0.Members))) : Bool))], [.fact 69 (.under ((((x8.Kind != (1 : UInt8)) || (decide (x9.Disk < (0 : Int)))) || (decide (x10.Disk ≥ a0.Members))) = false) (.ow [26] [27] 37 (x3.1 : List Act37)))], [.fact 70 (.under ((((x8.Kind != (1 : UInt8)) || (decide (x9.Disk < (0 : Int)))) || (decide (x10.Disk ≥ a0.Members))) = false) (.rep [] (s5 : Int)))], [.fact 71 (.under ((((x8.Kind != (1 : UInt8)) || (decide (x9.Disk < (0 : Int)))) || (decide (x10.Disk ≥ a0.Members))) = false) (.ptr [26, 27] (x11 : Act37)))], [.fact 72 (.under ((((x8.Kind != (1 : UInt8)) || (decide (x9.Disk < (0 : Int)))) || (decide (x10.Disk ≥ a0.Members))) = false) (.ptr [26, 27] (x11.Disk : Int)))], [.fact 73 (.under ((((x8.Kind != (1 : UInt8)) || (decide (x9.Disk < (0 : Int)))) || (decide (x10.Disk ≥ a0.Members))) = false) (.rep [] x11.Disk))], [.fact 74 (.under ((((x8.Kind != (1 : UInt8)) || (decide (x9.Disk < (0 : Int)))) || (decide (x10.Disk ≥ a0.Members))) = false) (.rep [] (a1 : Int)))], [.fact 75 (.under ((((x8.Kind != (1 : UInt8)) || (decide (x9.Disk < (0 : Int)))) || (decide (x10.Disk ≥ a0.Members))) = false) (.rep [] ((x11.Disk == a1) : Bool)))], [.fact 76 (.rep [] (((((x8.Kind != (1 : UInt8)) || (decide (x9.Disk < (0 : Int)))) || (decide (x10.Disk ≥ a0.Members))) || (x11.Disk == a1)) : Bool))], [.fact 77 (.rep [] (((((x8.Kind != (1 : UInt8)) || (decide (x9.Disk < (0 : Int)))) || (decide (x10.Disk ≥ a0.Members))) || (x11.Disk == a1)) : Bool))], [.fact 78 (.under (((((x8.Kind != (1 : UInt8)) || (decide (x9.Disk < (0 : Int)))) || (decide (x10.Disk ≥ a0.Members))) || (x11.Disk == a1)) = false) (.ow [26] [27] 37 (x3.1 : List Act37)))], [.fact 79 (.under (((((x8.Kind != (1 : UInt8)) || (decide (x9.Disk < (0 : Int)))) || (decide (x10.Disk ≥ a0.Members))) || (x11.Disk == a1)) = false) (.rep [] (s5 : Int)))], [.fact 80 (.under (((((x8.Kind != (1 : UInt8)) || (decide (x9.Disk < (0 : Int)))) || (decide (x10.Disk ≥ a0.Members))) || (x11.Disk == a1)) = false) (.ptr [26, 27] (x12 : Act37)))], [.fact 81 (.under (((((x8.Kind != (1 : UInt8)) || (decide (x9.Disk < (0 : Int)))) || (decide (x10.Disk ≥ a0.Members))) || (x11.Disk == a1)) = false) (.ptr [26, 27] (x12.At : Int)))], [.fact 82 (.under (((((x8.Kind != (1 : UInt8)) || (decide (x9.Disk < (0 : Int)))) || (decide (x10.Disk ≥ a0.Members))) || (x11.Disk == a1)) = false) (.rep [] x12.At))], [.fact 83 (.under (((((x8.Kind != (1 : UInt8)) || (decide (x9.Disk < (0 : Int)))) || (decide (x10.Disk ≥ a0.Members))) || (x11.Disk == a1)) = false) (.pto 17 0))], [.fact 84 (.under (((((x8.Kind != (1 : UInt8)) || (decide (x9.Disk < (0 : Int)))) || (decide (x10.Disk ≥ a0.Members))) || (x11.Disk == a1)) = false) (.rep [] a2.Stripe))], [.fact 85 (.under (((((x8.Kind != (1 : UInt8)) || (decide (x9.Disk < (0 : Int)))) || (decide (x10.Disk ≥ a0.Members))) || (x11.Disk == a1)) = false) (.rep [] ((wI (a2.Stripe + (1 : Int))) : Int)))], [.fact 86 (.under (((((x8.Kind != (1 : UInt8)) || (decide (x9.Disk < (0 : Int)))) || (decide (x10.Disk ≥ a0.Members))) || (x11.Disk == a1)) = false) (.rep [] ((x12.At != (wI (a2.Stripe + (1 : Int)))) : Bool)))], [.fact 87 (.rep [] ((((((x8.Kind != (1 : UInt8)) || (decide (x9.Disk < (0 : Int)))) || (decide (x10.Disk ≥ a0.Members))) || (x11.Disk == a1)) || (x12.At != (wI (a2.Stripe + (1 : Int))))) : Bool))], [.fact 88 (.rep [] ((((((x8.Kind != (1 : UInt8)) || (decide (x9.Disk < (0 : Int)))) || (decide (x10.Disk ≥ a0.Members))) || (x11.Disk == a1)) || (x12.At != (wI (a2.Stripe + (1 : Int))))) : Bool))], [.fact 89 (.under ((((((x8.Kind != (1 : UInt8)) || (decide (x9.Disk < (0 : Int)))) || (decide (x10.Disk ≥ a0.Members))) || (x11.Disk == a1)) || (x12.At != (wI (a2.Stripe + (1 : Int))))) = false) (.ow [26] [27] 37 (x3.1 : List Act37)))], [.fact 90 (.under ((((((x8.Kind != (1 : UInt8)) || (decide (x9.Disk < (0 : Int)))) || (decide (x10.Disk ≥ a0.Members))) || (x11.Disk == a1)) || (x12.At != (wI (a2.Stripe + (1 : Int))))) = false) (.rep [] (s5 : Int)))], [.fact 91 (.under ((((((x8.Kind != (1 : UInt8)) || (decide (x9.Disk < (0 : Int)))) || (decide (x10.Disk ≥ a0.Members))) || (x11.Disk == a1)) || (x12.At != (wI (a2.Stripe + (1 : Int))))) = false) (.ptr [26, 27] (x13 : Act37)))], [.fact 92 (.under ((((((x8.Kind != (1 : UInt8)) || (decide (x9.Disk < (0 : Int)))) || (decide (x10.Disk ≥ a0.Members))) || (x11.Disk == a1)) || (x12.At != (wI (a2.Stripe + (1 : Int))))) = false) (.ptr [26, 27] (x13.Data : List UInt8)))], [.fact 93 (.under ((((((x8.Kind != (1 : UInt8)) || (decide (x9.Disk < (0 : Int)))) || (decide (x10.Disk ≥ a0.Members))) || (x11.Disk == a1)) || (x12.At != (wI (a2.Stripe + (1 : Int))))) = false) (.rep [26, 27] x13.Data))], [.fact 94 (.under ((((((x8.Kind != (1 : UInt8)) || (decide (x9.Disk < (0 : Int)))) || (decide (x10.Disk ≥ a0.Members))) || (x11.Disk == a1)) || (x12.At != (wI (a2.Stripe + (1 : Int))))) = false) (.rep [] (((x13.Data).length : Int) : Int)))], [.fact 95 (.under ((((((x8.Kind != (1 : UInt8)) || (decide (x9.Disk < (0 : Int)))) || (decide (x10.Disk ≥ a0.Members))) || (x11.Disk == a1)) || (x12.At != (wI (a2.Stripe + (1 : Int))))) = false) (.rep [] ((((x13.Data).length : Int) != (128 : Int)) : Bool)))], [.fact 96 (.rep [] (((((((x8.Kind != (1 : UInt8)) || (decide (x9.Disk < (0 : Int)))) || (decide (x10.Disk ≥ a0.Members))) || (x11.Disk == a1)) || (x12.At != (wI (a2.Stripe + (1 : Int))))) || (((x13.Data).length : Int) != (128 : Int))) : Bool))], [.fact 97 (.rep [] (((((((x8.Kind != (1 : UInt8)) || (decide (x9.Disk < (0 : Int)))) || (decide (x10.Disk ≥ a0.Members))) || (x11.Disk == a1)) || (x12.At != (wI (a2.Stripe + (1 : Int))))) || (((x13.Data).length : Int) != (128 : Int))) : Bool))], [.fact 98 (.under (((((((x8.Kind != (1 : UInt8)) || (decide (x9.Disk < (0 : Int)))) || (decide (x10.Disk ≥ a0.Members))) || (x11.Disk == a1)) || (x12.At != (wI (a2.Stripe + (1 : Int))))) || (((x13.Data).length : Int) != (128 : Int))) = false) (.isv 28))], [.fact 99 (.under (((((((x8.Kind != (1 : UInt8)) || (decide (x9.Disk < (0 : Int)))) || (decide (x10.Disk ≥ a0.Members))) || (x11.Disk == a1)) || (x12.At != (wI (a2.Stripe + (1 : Int))))) || (((x13.Data).length : Int) != (128 : Int))) = false) (.ow [26] [27] 37 (x3.1 : List Act37)))], [.fact 100 (.under (((((((x8.Kind != (1 : UInt8)) || (decide (x9.Disk < (0 : Int)))) || (decide (x10.Disk ≥ a0.Members))) || (x11.Disk == a1)) || (x12.At != (wI (a2.Stripe + (1 : Int))))) || (((x13.Data).length : Int) != (128 : Int))) = false) (.rep [] (s5 : Int)))], [.fact 101 (.under (((((((x8.Kind != (1 : UInt8)) || (decide (x9.Disk < (0 : Int)))) || (decide (x10.Disk ≥ a0.Members))) || (x11.Disk == a1)) || (x12.At != (wI (a2.Stripe + (1 : Int))))) || (((x13.Data).length : Int) != (128 : Int))) = false) (.ptr [26, 27] (x14 : Act37)))], [.fact 102 (.under (((((((x8.Kind != (1 : UInt8)) || (decide (x9.Disk < (0 : Int)))) || (decide (x10.Disk ≥ a0.Members))) || (x11.Disk == a1)) || (x12.At != (wI (a2.Stripe + (1 : Int))))) || (((x13.Data).length : Int) != (128 : Int))) = false) (.ptr [26, 27] (x14.Disk : Int)))], [.fact 103 (.under (((((((x8.Kind != (1 : UInt8)) || (decide (x9.Disk < (0 : Int)))) || (decide (x10.Disk ≥ a0.Members))) || (x11.Disk == a1)) || (x12.At != (wI (a2.Stripe + (1 : Int))))) || (((x13.Data).length : Int) != (128 : Int))) = false) (.rep [] x14.Disk))], [.fact 104 (.under (((((((x8.Kind != (1 : UInt8)) || (decide (x9.Disk < (0 : Int)))) || (decide (x10.Disk ≥ a0.Members))) || (x11.Disk == a1)) || (x12.At != (wI (a2.Stripe + (1 : Int))))) || (((x13.Data).length : Int) != (128 : Int))) = false) (.pto 28 (x15 * Rp.n Bool)))], [.fact 105 (.under (((((((x8.Kind != (1 : UInt8)) || (decide (x9.Disk < (0 : Int)))) || (decide (x10.Disk ≥ a0.Members))) || (x11.Disk == a1)) || (x12.At != (wI (a2.Stripe + (1 : Int))))) || (((x13.Data).length : Int) != (128 : Int))) = false) (.rep [] (x16 : Bool)))], [.fact 106 (.rep [] ((((((((x8.Kind != (1 : UInt8)) || (decide (x9.Disk < (0 : Int)))) || (decide (x10.Disk ≥ a0.Members))) || (x11.Disk == a1)) || (x12.At != (wI (a2.Stripe + (1 : Int))))) || (((x13.Data).length : Int) != (128 : Int))) || x16) : Bool))]] mixed (by kernel_rfl) (ao (so (Spec.move (Has.s rfl))) (ao (so (Spec.move (Has.s rfl))) (ao (so (Spec.indexAddr hx8 sl31 (Has.cv (Has.s rfl) (Cv.trans Cv.owSl (Cv.slRep (T' := [26, 27]) rfl rfl))) (Has.s rfl))) (ao (so (Spec.fieldAddrP fd37_1 (chAct37 x8) rfl (Has.s rfl))) (ao (so ((Spec.load ty5 (Has.s rfl)).flat (T' := []))) (ao (so (Spec.neqB (Has.s rfl) (Has.u8 1 rfl))) (ao (so (Spec.move (Has.s rfl))) (ao (StepG.opg rfl rfl rfl (fun hb => Spec.move (Has.s rfl))) (ao (StepG.opg rfl rfl rfl (fun hb => Spec.move (Has.s rfl))) (ao (StepG.opg rfl rfl rfl (fun hb => Spec.indexAddr (gO_t hx9 (not_t hb)) sl31 (Has.cv (Has.u rfl hb) (Cv.trans Cv.owSl (Cv.slRep (T' := [26, 27]) rfl rfl))) (Has.u rfl hb))) (ao (StepG.opg rfl rfl rfl (fun hb => Spec.fieldAddrP fd37_0 (chAct37 x9) rfl (Has.u rfl hb))) (ao (StepG.opg rfl rfl rfl (fun hb => (Spec.load ty3 (Has.u rfl hb)).flat (T' := []))) (ao (StepG.opg rfl rfl rfl (fun hb => Spec.lssI (Has.u rfl hb) Has.int)) (ao (so (Spec.or (Has.s rfl) (fun h => Has.u rfl h))) (ao (so (Spec.move (Has.s rfl))) (ao (StepG.opg rfl rfl rfl (fun hb => Spec.move (Has.s rfl))) (ao (StepG.opg rfl rfl rfl (fun hb => Spec.move (Has.s rfl))) (ao (StepG.opg rfl rfl rfl (fun hb => Spec.indexAddr (gO_t hx10 (not_t hb)) sl31 (Has.cv (Has.u rfl hb) (Cv.trans Cv.owSl (Cv.slRep (T' := [26, 27]) rfl rfl))) (Has.u rfl hb))) (ao (StepG.opg rfl rfl rfl (fun hb => Spec.fieldAddrP fd37_0 (chAct37 x10) rfl (Has.u rfl hb))) (ao (StepG.opg rfl rfl rfl (fun hb => (Spec.load ty3 (Has.u rfl hb)).flat (T' := []))) (ao (StepG.opg rfl rfl rfl (fun hb => Spec.fieldAddrO fd24_1 (Has.cv (Has.s rfl) (Cv.isvP rfl)))) (ao (StepG.opg rfl rfl rfl (fun hb => Spec.loadF (i := 1) ty3 rfl (Has.u rfl hb) rfl (HasG.s rfl))) (ao (StepG.opg rfl rfl rfl (fun hb => Spec.geqI (Has.u rfl hb) (Has.u rfl hb))) (ao (so (Spec.or (Has.s rfl) (fun h => Has.u rfl h))) (ao (so (Spec.move (Has.s rfl))) (ao (StepG.opg rfl rfl rfl (fun hb => Spec.move (Has.s rfl))) (ao (StepG.opg rfl rfl rfl (fun hb => Spec.move (Has.s rfl))) (ao (StepG.opg rfl rfl rfl (fun hb => Spec.indexAddr (gO_t hx11 (not_t hb)) sl31 (Has.cv (Has.u rfl hb) (Cv.trans Cv.owSl (Cv.slRep (T' := [26, 27]) rfl rfl))) (Has.u rfl hb))) (ao (StepG.opg rfl rfl rfl (fun hb => Spec.fieldAddrP fd37_0 (chAct37 x11) rfl (Has.u rfl hb))) (ao (StepG.opg rfl rfl rfl (fun hb => (Spec.load ty3 (Has.u rfl hb)).flat (T' := []))) (ao (StepG.opg rfl rfl rfl (fun hb => Spec.move (Has.s rfl))) (ao (StepG.opg rfl rfl rfl (fun hb => Spec.eqlI (Has.u rfl hb) (Has.u rfl hb))) (ao (so (Spec.or (Has.s rfl) (fun h => Has.u rfl h))) (ao (so (Spec.move (Has.s rfl))) (ao (StepG.opg rfl rfl rfl (fun hb => Spec.move (Has.s rfl))) (ao (StepG.opg rfl rfl rfl (fun hb => Spec.move (Has.s rfl))) (ao (StepG.opg rfl rfl rfl (fun hb => Spec.indexAddr (gO_t hx12 (not_t hb)) sl31 (Has.cv (Has.u rfl hb) (Cv.trans Cv.owSl (Cv.slRep (T' := [26, 27]) rfl rfl))) (Has.u rfl hb))) (ao (StepG.opg rfl rfl rfl (fun hb => Spec.fieldAddrP fd37_2 (chAct37 x12) rfl (Has.u rfl hb))) (ao (StepG.opg rfl rfl rfl (fun hb => (Spec.load ty3 (Has.u rfl hb)).flat (T' := []))) (ao (StepG.opg rfl rfl rfl (fun hb => Spec.fieldAddrO fd28_0 (Has.cv (Has.s rfl) (Cv.isvP rfl)))) (ao (StepG.opg rfl rfl rfl (fun hb => Spec.loadF (i := 0) ty3 rfl (Has.u rfl hb) rfl (HasG.s rfl))) (ao (StepG.opg rfl rfl rfl (fun hb => Spec.addI (Has.u rfl hb) Has.int)) (ao (StepG.opg rfl rfl rfl (fun hb => Spec.neqI (Has.u rfl hb) (Has.u rfl hb))) (ao (so (Spec.or (Has.s rfl) (fun h => Has.u rfl h))) (ao (so (Spec.move (Has.s rfl))) (ao (StepG.opg rfl rfl rfl (fun hb => Spec.move (Has.s rfl))) (ao (StepG.opg rfl rfl rfl (fun hb => Spec.move (Has.s rfl))) (ao (StepG.opg rfl rfl rfl (fun hb => Spec.indexAddr (gO_t hx13 (not_t hb)) sl31 (Has.cv (Has.u rfl hb) (Cv.trans Cv.owSl (Cv.slRep (T' := [26, 27]) rfl rfl))) (Has.u rfl hb))) (ao (StepG.opg rfl rfl rfl (fun hb => Spec.fieldAddrP fd37_3 (chAct37 x13) rfl (Has.u rfl hb))) (ao (StepG.opg rfl rfl rfl (fun hb => Spec.load ty35 (Has.u rfl hb))) (ao (StepG.opg rfl rfl rfl (fun hb => Spec.len (Has.u rfl hb) Try.underlying35)) (ao (StepG.opg rfl rfl rfl (fun hb => Spec.neqI (Has.u rfl hb) Has.int)) (ao (so (Spec.or (Has.s rfl) (fun h => Has.u rfl h))) (ao (so (Spec.move (Has.s rfl))) (ao (StepG.opg rfl rfl rfl (fun hb => Spec.move (Has.s rfl))) (ao (StepG.opg rfl rfl rfl (fun hb => Spec.move (Has.s rfl))) (ao (StepG.opg rfl rfl rfl (fun hb => Spec.move (Has.s rfl))) (ao (StepG.opg rfl rfl rfl (fun hb => Spec.indexAddr (gO_t hx14 (not_t hb)) sl31 (Has.cv (Has.u rfl hb) (Cv.trans Cv.owSl (Cv.slRep (T' := [26, 27]) rfl rfl))) (Has.u rfl hb))) (ao (StepG.opg rfl rfl rfl (fun hb => Spec.fieldAddrP fd37_0 (chAct37 x14) rfl (Has.u rfl hb))) (ao (StepG.opg rfl rfl rfl (fun hb => (Spec.load ty3 (Has.u rfl hb)).flat (T' := []))) (ao (StepG.opg rfl rfl rfl (fun hb => Spec.idxOwn (gO_t hx15 (not_t hb)) ow26 (Has.u rfl hb) rfl (Has.u rfl hb))) (ao (StepG.opg rfl rfl rfl (fun hb => (Spec.loadOwn (gO_t hx16 (not_t hb)) ty4 (Has.u rfl hb) rfl).flat (T' := []))) (ao (so (Spec.or (Has.s rfl) (fun h => Has.u rfl h))) AllM.nil))))))))))))))))))))))))))))))))))))))))))))))))))))))))))))))) ?_
     refine Leaf.thenN ?_
     refine CWalk.cond rfl (fun hb => ?_) (fun hb => ?_)
     ·have hm := cond_t hb hm
      refine CWalk.seq ?_
      refine CWalk.region ?_
      refine wo (Spec.assign Has.bool) ?_
      refine Walk.nil ?_
      refine Leaf.thenN ?_
      refine CWalk.ret ?_
      refine Leaf.thenR ?_
      refine Leaf.blockR ?_
      refine Leaf.thenR ?_
      exact Leaf.brk hm (fun h => nomatch h) rfl (st Sub.nil)
     ·have hm := cond_f hb hm
      refine CWalk.skip ?_
      refine Leaf.thenN ?_
      refine CWalk.region ?_
      refine mv ?_
      refine mv ?_
      refine mv ?_
      obtain ⟨x17, hx17, hm⟩ := bind_some hm
      refine wo (Spec.indexAddr hx17 sl31 (Has.cv (Has.s rfl) (Cv.trans Cv.owSl (Cv.slRep (T' := [26, 27]) rfl rfl))) (Has.s rfl)) ?_
      refine wo (Spec.fieldAddrP fd37_0 (chAct37 x17) rfl (Has.s rfl)) ?_
      refine wo ((Spec.load ty3 (Has.s rfl)).flat (T' := [])) ?_
      obtain ⟨x18, hx18, hm⟩ := bind_some hm
      refine wo (Spec.idxOwn hx18 ow26 (Has.s rfl) rfl (Has.s rfl)) ?_
      refine ws (Step.storeOwn (te' := []) rfl (bnd_lt hx18 rfl) ty4 (Has.s rfl) rfl Has.bool ElKeep.flat ElKeep.flat) ?_
      refine Walk.nil ?_
      refine Leaf.blockN ?_
      refine Leaf.thenN ?_
      refine CWalk.region ?_
      refine mv ?_
      refine wo (Spec.addI (Has.s rfl) Has.int) ?_
      refine wo (Spec.assign (Has.s rfl)) ?_
      refine Walk.nil ?_
      exact Leaf.next hm (st (sn (sn (Sub.cons (Has.cv (Has.s rfl) (Cv.owM (T := [26]) (te := [27]) rfl rfl)) (sn (st (sf (sf (sf (sf (sf (sf (sf (sm (sm (sf (sf (sf (sn (sn (Sub.cons (Has.ownM (Has.s rfl) rfl) Sub.nil)))))))))))))))))))))
    ·have hm := cond_f hb hm
     refine CWalk.exit ?_
     refine Leaf.thenE ?_
     exact Leaf.brk hm (fun h => nomatch h) rfl (st (sn (sn (sn (sf (sf (sf (sf (sf (sf (sf (sm (sm (sf (sf (sf (sn (sn (Sub.cons (Has.ownM (Has.s rfl) rfl) Sub.nil)))))))))))))))))))
   ·intro _
    rcases b19 with b20 | b30
    ·have hm := selim_l hm
     refine Leaf.blockE ?_
     refine Leaf.thenN ?_
     refine CWalk.seq ?_
     refine CWalk.seq ?_
     refine CWalk.region ?_
     refine wo (Spec.assign Has.int) ?_
     refine Walk.nil ?_
     refine Leaf.thenN ?_
     refine CWalk.block ?_
     obtain ⟨b27, hb27, hm⟩ := bind_some hm
     refine CWalk.loop (fun s : Int => [.fact 1 (.rep [] (a1 : Int)), .fact 3 (.isv 10), .fact 5 (.isv 17), .fact 10 (.isv 28), .fact 12 (.rep [] (s : Int)), .fact 100011 (.at 11 (.rep [] a0.Id)), .fact 100012 (.at 12 (.rep [] a0.Members)), .fact 100013 (.at 13 (.rep [] a0.Chunk)), .fact 100014 (.at 14 (.rep [] a0.Rows)), .fact 100015 (.at 15 (.rep [] a0.Log)), .fact 100016 (.at 16 (.rep [] a0.Heads)), .fact 100018 (.at 18 (.rep [] a2.Stripe)), .fact 100019 (.at 19 (.rep [0] a2.Blocks)), .fact 100020 (.at 20 (.rep [0] a2.Dirty)), .fact 100021 (.at 21 (.rep [] a2.Phase)), .fact 100022 (.at 22 (.rep [] a2.Deals)), .fact 100023 (.at 23 (.rep [] a2.Seq)), .fact 100010 (.obj 10 [(false, 1), (false, 1), (false, 1), (false, 1), (false, 1), (false, 1)]), .fact 100017 (.obj 17 [(false, 1), (false, 1), (false, 1), (false, 1), (false, 1), (false, 1)]), .fact 100028 (.own 28 [] 4 (b20 : List Bool))]) (fun b : (Unit) ⊕ (Unit) => Sum.elim (fun b => (Exit.exit 2, [])) (fun b => (Exit.ret, [.fact 6 (.rep [] (false : Bool))])) b) hb27 (st (sn (sn (sn (st (sf (sf (sf (sf (sf (sf (sf (sm (sm (sf (sf (sf (sn (sn (Sub.cons (Has.ownM (Has.s rfl) rfl) Sub.nil)))))))))))))))))))) ?_ ?_
     ·rintro s21 c22 hm
      replace hm : law21_HomeApart_L2 a0 a1 a2 b20 s21 = some c22 := hm
      unfold law21_HomeApart_L2 at hm
      show CWalk _ [.fact 1 (.rep [] (a1 : Int)), .fact 3 (.isv 10), .fact 5 (.isv 17), .fact 10 (.isv 28), .fact 12 (.rep [] (s21 : Int)), .fact 100011 (.at 11 (.rep [] a0.Id)), .fact 100012 (.at 12 (.rep [] a0.Members)), .fact 100013 (.at 13 (.rep [] a0.Chunk)), .fact 100014 (.at 14 (.rep [] a0.Rows)), .fact 100015 (.at 15 (.rep [] a0.Log)), .fact 100016 (.at 16 (.rep [] a0.Heads)), .fact 100018 (.at 18 (.rep [] a2.Stripe)), .fact 100019 (.at 19 (.rep [0] a2.Blocks)), .fact 100020 (.at 20 (.rep [0] a2.Dirty)), .fact 100021 (.at 21 (.rep [] a2.Phase)), .fact 100022 (.at 22 (.rep [] a2.Deals)), .fact 100023 (.at 23 (.rep [] a2.Seq)), .fact 100010 (.obj 10 [(false, 1), (false, 1), (false, 1), (false, 1), (false, 1), (false, 1)]), .fact 100017 (.obj 17 [(false, 1), (false, 1), (false, 1), (false, 1), (false, 1), (false, 1)]), .fact 100028 (.own 28 [] 4 (b20 : List Bool))] _ _
      refine CWalk.seq ?_
      refine CWalk.seq ?_
      refine CWalk.region ?_
      refine mv ?_
      refine wo (Spec.fieldAddrO fd24_1 (Has.cv (Has.s rfl) (Cv.isvP rfl))) ?_
      refine wo (Spec.loadF (i := 1) ty3 rfl (Has.s rfl) rfl (HasG.s rfl)) ?_
      refine wo (Spec.subI (Has.s rfl) Has.int) ?_
      refine wo (Spec.lssI (Has.s rfl) (Has.s rfl)) ?_
      refine Walk.nil ?_
      refine Leaf.thenN ?_
      refine CWalk.cond rfl (fun hb => ?_) (fun hb => ?_)
      ·have hm := cond_t hb hm
       refine CWalk.skip ?_
       refine Leaf.thenN ?_
       refine CWalk.seq ?_
       refine CWalk.block ?_
       refine CWalk.seq ?_
       refine CWalk.region ?_
       refine wo (Spec.loadObj (ls := [(false, 1, Fact.rep [] a0.Id), (false, 1, Fact.rep [] a0.Members), (false, 1, Fact.rep [] a0.Chunk), (false, 1, Fact.rep [] a0.Rows), (false, 1, Fact.rep [] a0.Log), (false, 1, Fact.rep [] a0.Heads)]) ty24 rfl rfl (Has.s rfl) rfl (HasGs.cons (HasG.s rfl) (HasGs.cons (HasG.s rfl) (HasGs.cons (HasG.s rfl) (HasGs.cons (HasG.s rfl) (HasGs.cons (HasG.s rfl) (HasGs.cons (HasG.s rfl) HasGs.nil))))))) ?_
       refine wo (Spec.fieldAddrO fd28_0 (Has.cv (Has.s rfl) (Cv.isvP rfl))) ?_
       refine wo (Spec.loadF (i := 0) ty3 rfl (Has.s rfl) rfl (HasG.s rfl)) ?_
       refine mv ?_
       obtain ⟨x23, hx23, hm⟩ := bind_some hm
       refine wo (f := Fact.tup2 (Fact.rep [] x23.1) (Fact.rep [] x23.2)) (Spec.callE [] 29 rfl en10 (turn_Member_c a0 a2.Stripe s21 hx23) (HasAll.cons (Has.fl (Has.cv (Has.s rfl) (Cv.trans (Cv.flds (CvL.cons Cv.fl (CvL.cons Cv.fl (CvL.cons Cv.fl (CvL.cons Cv.fl (CvL.cons Cv.fl (CvL.cons Cv.fl CvL.nil))))))) (Cv.close (T := []) (chConfig a0))))) (HasAll.cons (Has.fl (Has.s rfl)) (HasAll.cons (Has.fl (Has.s rfl)) HasAll.nil)))) ?_
       refine mv ?_
       refine wo (Spec.ext0 (Has.s rfl)) ?_
       refine wo (Spec.ext1 (Has.s rfl)) ?_
       refine wo (Spec.assign (Has.s rfl)) ?_
       refine wo (Spec.assign (Has.s rfl)) ?_
       refine Walk.nil ?_
       refine Leaf.thenN ?_
       refine CWalk.seq ?_
       obtain ⟨x24, hx24, hm⟩ := bind_some hm
       obtain ⟨x25, hx25, hm⟩ := bind_some hm
       obtain ⟨x26, hx26, hm⟩ := bind_some hm
       refine CWalk.drawM [[], [0], [0, 1], [0, 1, 2], [0, 1, 2], [0, 1, 2, 3, 4], [0, 1, 2, 3, 4, 5], [0, 1, 2], [0, 1, 2, 7], [0, 1, 2], [0, 1, 2, 7, 8, 9], [0, 1, 2, 7, 8, 9, 10], [0, 1, 2, 7, 8, 9, 10, 11], [0, 1, 2, 7, 8, 9, 10, 11, 12], [0, 1, 2, 7, 8, 9, 10, 11, 12], [0, 1, 2, 7, 8, 9, 10, 11, 12, 13, 14], [0, 1, 2, 7, 8, 9, 10, 11, 12, 13, 14, 15], [0, 1, 2, 3, 4, 5, 6, 7, 8, 9, 10, 11, 12, 13, 14, 15, 16], [0, 1, 2, 3, 4, 5, 6, 7, 8, 9, 10, 11, 12, 13, 14, 15, 16, 17]] [[.fact 129 (.rep [] x23.2)], [.fact 130 (.rep [] ((x23.2 != (0 : Int)) : Bool))], [.fact 131 (.rep [] ((x23.2 != (0 : Int)) : Bool))], [.fact 132 (.under ((x23.2 != (0 : Int)) = false) (.isv 28))], [.fact 133 (.under ((x23.2 != (0 : Int)) = false) (.rep [] x23.1))], [.fact 134 (.under ((x23.2 != (0 : Int)) = false) (.pto 28 (x24 * Rp.n Bool)))], [.fact 135 (.under ((x23.2 != (0 : Int)) = false) (.rep [] (x25 : Bool)))], [.fact 136 (.under ((x23.2 != (0 : Int)) = false) (.pto 17 2))], [.fact 137 (.under ((x23.2 != (0 : Int)) = false) (.rep [0] a2.Dirty))], [.fact 138 (.under ((x23.2 != (0 : Int)) = false) (.rep [] (s21 : Int)))], [.fact 139 (.under ((x23.2 != (0 : Int)) = false) (.ptr [0] (x26 : Bool)))], [.fact 140 (.under ((x23.2 != (0 : Int)) = false) (.rep [] (x26 : Bool)))], [.fact 141 (.under ((x23.2 != (0 : Int)) = false) (.rep [] (x26 : Bool)))], [.fact 142 (.under (((x23.2 != (0 : Int)) = false) ∧ (x26 = true)) (.rep [] x23.1))], [.fact 143 (.under (((x23.2 != (0 : Int)) = false) ∧ (x26 = true)) (.rep [] (a1 : Int)))], [.fact 144 (.under (((x23.2 != (0 : Int)) = false) ∧ (x26 = true)) (.rep [] ((x23.1 != a1) : Bool)))], [.fact 145 (.under ((x23.2 != (0 : Int)) = false) (.rep [] ((x26 && (x23.1 != a1)) : Bool)))], [.fact 146 (.under ((x23.2 != (0 : Int)) = false) (.rep [] ((x25 != (x26 && (x23.1 != a1))) : Bool)))], [.fact 147 (.rep [] (((x23.2 != (0 : Int)) || (x25 != (x26 && (x23.1 != a1)))) : Bool))]] mixed (by kernel_rfl) (ao (so (Spec.move (Has.s rfl))) (ao (so (Spec.neqI (Has.s rfl) Has.int)) (ao (so (Spec.move (Has.s rfl))) (ao (StepG.opg rfl rfl rfl (fun hb => Spec.move (Has.s rfl))) (ao (StepG.opg rfl rfl rfl (fun hb => Spec.move (Has.s rfl))) (ao (StepG.opg rfl rfl rfl (fun hb => Spec.idxOwn (gO_t hx24 (not_t hb)) ow26 (Has.u rfl hb) rfl (Has.u rfl hb))) (ao (StepG.opg rfl rfl rfl (fun hb => (Spec.loadOwn (gO_t hx25 (not_t hb)) ty4 (Has.u rfl hb) rfl).flat (T' := []))) (ao (StepG.opg rfl rfl rfl (fun hb => Spec.fieldAddrO fd28_2 (Has.cv (Has.s rfl) (Cv.isvP rfl)))) (ao (StepG.opg rfl rfl rfl (fun hb => Spec.loadF (i := 2) ty26 rfl (Has.u rfl hb) rfl (HasG.s rfl))) (ao (StepG.opg rfl rfl rfl (fun hb => Spec.move (Has.s rfl))) (ao (StepG.opg rfl rfl rfl (fun hb => Spec.indexAddr (gO_t hx26 (not_t hb)) sl26 (Has.u rfl hb) (Has.u rfl hb))) (ao (StepG.opg rfl rfl rfl (fun hb => (Spec.load ty4 (Has.u rfl hb)).flat (T' := []))) (ao (StepG.opg rfl rfl rfl (fun hb => Spec.move (Has.u rfl hb))) (ao (StepG.opgu rfl rfl rfl (fun hb => Spec.move (Has.s rfl))) (ao (StepG.opgu rfl rfl rfl (fun hb => Spec.move (Has.s rfl))) (ao (StepG.opgu rfl rfl rfl (fun hb => Spec.neqI (Has.u rfl hb) (Has.u rfl hb))) (ao (StepG.opg rfl rfl rfl (fun hb => Spec.and (Has.u rfl hb) (fun h => Has.u rfl ⟨hb, h⟩))) (ao (StepG.opg rfl rfl rfl (fun hb => Spec.neqT (Has.u rfl hb) (Has.u rfl hb) Try.underlying4)) (ao (so (Spec.or (Has.s rfl) (fun h => Has.u rfl h))) AllM.nil))))))))))))))))))) ?_
       refine Leaf.thenN ?_
       refine CWalk.cond rfl (fun hb => ?_) (fun hb => ?_)
       ·have hm := cond_t hb hm
        refine CWalk.seq ?_
        refine CWalk.region ?_
        refine wo (Spec.assign Has.bool) ?_
        refine Walk.nil ?_
        refine Leaf.thenN ?_
        refine CWalk.ret ?_
        refine Leaf.blockR ?_
        refine Leaf.thenR ?_
        exact Leaf.brk hm (fun h => nomatch h) rfl (st Sub.nil)
       ·have hm := cond_f hb hm
        refine CWalk.skip ?_
        refine Leaf.blockN ?_
        refine Leaf.thenN ?_
        refine CWalk.region ?_
        refine mv ?_
        refine wo (Spec.addI (Has.s rfl) Has.int) ?_
        refine wo (Spec.assign (Has.s rfl)) ?_
        refine Walk.nil ?_
        exact Leaf.next hm (st (sn (sn (sn (st (sf (sf (sf (sf (sf (sf (sf (sm (sm (sf (sf (sf (sn (sn (Sub.cons (Has.ownM (Has.s rfl) rfl) Sub.nil))))))))))))))))))))
      ·have hm := cond_f hb hm
       refine CWalk.exit ?_
       refine Leaf.thenE ?_
       exact Leaf.brk hm (fun h => nomatch h) rfl (Sub.nil)
     ·intro _
      rcases b27 with b28 | b29
      ·have hm := selim_l hm
       refine Leaf.blockE ?_
       refine Leaf.thenN ?_
       refine CWalk.seq ?_
       refine CWalk.region ?_
       refine wo (Spec.assign Has.bool) ?_
       refine Walk.nil ?_
       refine Leaf.thenN ?_
       refine CWalk.ret ?_
       obtain rfl := Option.some.inj hm
       exact Leaf.retC1 rfl (HasR.cv (HasR.tmp (Has.s rfl)) Cv.fl)
      ·have hm := selim_r hm
       refine Leaf.blockR ?_
       refine Leaf.thenR ?_
       obtain rfl := Option.some.inj hm
       exact Leaf.retC1 rfl (HasR.cv (HasR.tmp (Has.s rfl)) Cv.fl)
    ·have hm := selim_r hm
     refine Leaf.blockR ?_
     refine Leaf.thenR ?_
     obtain rfl := Option.some.inj hm
     exact Leaf.retC1 rfl (HasR.cv (HasR.tmp (Has.s rfl)) Cv.fl)

end Go.Proofs.Ytcnmlbgcnkfnhaa
