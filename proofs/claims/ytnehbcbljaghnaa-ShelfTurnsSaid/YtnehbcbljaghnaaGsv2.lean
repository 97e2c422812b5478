/- Printed by a program of ours: models of functions, and that calls do what they say. -/
import Derived.Test.YtnehbcbljaghnaaGsv1
namespace Go.Proofs.Ytnehbcbljaghnaa
open Go GL
set_option linter.unusedVariables false

def ref16_Same_L1 (a0 : Head) (a1 : Head) (s1 : Int) : Option (Ctl (Int) ((Unit) ⊕ (Unit))) :=
  (bif (decide (s1 < ((a0.Blocks).length : Int))) then Option.bind (idx a0.Blocks s1) (fun x3 => Option.bind (idx a1.Blocks s1) (fun x4 => (bif (!((Str.mk x3).s == (Str.mk x4).s)) then some (Ctl.brk (Sum.inr ())) else some (Ctl.next (wI (s1 + (1 : Int))))))) else some (Ctl.brk (Sum.inl ())))
def ref16_Same_L2 (a0 : Head) (a1 : Head) (s7 : Int) : Option (Ctl (Int) ((Unit) ⊕ (Unit))) :=
  (bif (decide (s7 < ((a0.Dirty).length : Int))) then Option.bind (idx a0.Dirty s7) (fun x9 => Option.bind (idx a1.Dirty s7) (fun x10 => (bif (x9 != x10) then some (Ctl.brk (Sum.inr ())) else some (Ctl.next (wI (s7 + (1 : Int))))))) else some (Ctl.brk (Sum.inl ())))
/-- freeboard/freeboardref16.Same -/
def ref16_Same (a0 : Head) (a1 : Head) : Option (Bool) :=
  (bif ((((((a0.Stripe != a1.Stripe) || (a0.Phase != a1.Phase)) || (a0.Deals != a1.Deals)) || ((a0.Seq.toNat : Int) != (a1.Seq.toNat : Int))) || (((a0.Blocks).length : Int) != ((a1.Blocks).length : Int))) || (((a0.Dirty).length : Int) != ((a1.Dirty).length : Int))) then some false else Option.bind (loopM (fun s : Int => ref16_Same_L1 a0 a1 s) FUEL (0 : Int)) (fun b5 => Sum.elim (fun b6 => Option.bind (loopM (fun s : Int => ref16_Same_L2 a0 a1 s) FUEL (0 : Int)) (fun b11 => Sum.elim (fun b12 => some true) (fun b13 => some false) b11)) (fun b14 => some false) b5))
set_option maxRecDepth 100000 in
set_option maxHeartbeats 2000000 in
theorem ref16_Same_c (a0 : Head) (a1 : Head) {r : Bool} (hm : ref16_Same a0 a1 = some r) : Ctr Try.prog 26 [.rep 0 a0, .rep 0 a1] (.fl r) [] := by
 refine ctr_of_walk [[]] 89 Try.func26 rfl rfl rfl rfl (fun w0 om => ?_)
 unfold ref16_Same at hm
 refine CWalk.sub (G' := [.fact 0 (.rep [0] (a0 : Head)), .fact 1 (.rep [0] (a1 : Head))]) (sn (sn Sub.nil)) ?_
 refine CWalk.seq ?_
 refine CWalk.region ?_
 refine ws (Step.boxObj (ls := [(false, 1, Fact.rep [] a0.Stripe), (false, 1, Fact.rep [0] a0.Blocks), (false, 1, Fact.rep [0] a0.Dirty), (false, 1, Fact.rep [] a0.Phase), (false, 1, Fact.rep [] a0.Deals), (false, 1, Fact.rep [] a0.Seq)]) 10 rfl rfl rfl rfl (HasL.flds (Has.cv (Has.s rfl) (Cv.trans (Cv.opens (chHead a0)) (Cv.flds (CvL.cons Cv.fl (CvL.cons Cv.refl (CvL.cons Cv.refl (CvL.cons Cv.fl (CvL.cons Cv.fl (CvL.cons Cv.fl CvL.nil))))))))))) ?_
 refine ws (Step.boxObj (ls := [(false, 1, Fact.rep [] a1.Stripe), (false, 1, Fact.rep [0] a1.Blocks), (false, 1, Fact.rep [0] a1.Dirty), (false, 1, Fact.rep [] a1.Phase), (false, 1, Fact.rep [] a1.Deals), (false, 1, Fact.rep [] a1.Seq)]) 17 rfl rfl rfl rfl (HasL.flds (Has.cv (Has.s rfl) (Cv.trans (Cv.opens (chHead a1)) (Cv.flds (CvL.cons Cv.fl (CvL.cons Cv.refl (CvL.cons Cv.refl (CvL.cons Cv.fl (CvL.cons Cv.fl (CvL.cons Cv.fl CvL.nil))))))))))) ?_
 refine wo (Spec.assign Has.bool) ?_
 refine Walk.nil ?_
 refine Leaf.thenN ?_
 refine CWalk.seq ?_
 refine CWalk.seq ?_
 refine CWalk.region ?_
 refine wo (Spec.fieldAddrO fd45_0 (Has.cv (Has.s rfl) (Cv.isvP rfl))) ?_
 refine wo (Spec.loadF (i := 0) ty3 rfl (Has.s rfl) rfl (HasG.s rfl)) ?_
 refine wo (Spec.fieldAddrO fd45_0 (Has.cv (Has.s rfl) (Cv.isvP rfl))) ?_
 refine wo (Spec.loadF (i := 0) ty3 rfl (Has.s rfl) rfl (HasG.s rfl)) ?_
 refine wo (Spec.neqI (Has.s rfl) (Has.s rfl)) ?_
 refine mv ?_
 refine wg rfl rfl (fun hb => Spec.fieldAddrO fd45_3 (Has.cv (Has.s rfl) (Cv.isvP rfl))) ?_
 refine wg rfl rfl (fun hb => Spec.loadF (i := 3) ty5 rfl (Has.u rfl hb) rfl (HasG.s rfl)) ?_
 refine wg rfl rfl (fun hb => Spec.fieldAddrO fd45_3 (Has.cv (Has.s rfl) (Cv.isvP rfl))) ?_
 refine wg rfl rfl (fun hb => Spec.loadF (i := 3) ty5 rfl (Has.u rfl hb) rfl (HasG.s rfl)) ?_
 refine wg rfl rfl (fun hb => Spec.neqB (Has.u rfl hb) (Has.u rfl hb)) ?_
 refine wo (Spec.or (Has.s rfl) (fun h => Has.u rfl h)) ?_
 refine mv ?_
 refine wg rfl rfl (fun hb => Spec.fieldAddrO fd45_4 (Has.cv (Has.s rfl) (Cv.isvP rfl))) ?_
 refine wg rfl rfl (fun hb => Spec.loadF (i := 4) ty4 rfl (Has.u rfl hb) rfl (HasG.s rfl)) ?_
 refine wg rfl rfl (fun hb => Spec.fieldAddrO fd45_4 (Has.cv (Has.s rfl) (Cv.isvP rfl))) ?_
 refine wg rfl rfl (fun hb => Spec.loadF (i := 4) ty4 rfl (Has.u rfl hb) rfl (HasG.s rfl)) ?_
 refine wg rfl rfl (fun hb => Spec.neqT (Has.u rfl hb) (Has.u rfl hb) Try.underlying4) ?_
 refine wo (Spec.or (Has.s rfl) (fun h => Has.u rfl h)) ?_
 refine mv ?_
 refine wg rfl rfl (fun hb => Spec.fieldAddrO fd45_5 (Has.cv (Has.s rfl) (Cv.isvP rfl))) ?_
 refine wg rfl rfl (fun hb => Spec.loadF (i := 5) ty22 rfl (Has.u rfl hb) rfl (HasG.s rfl)) ?_
 refine wg rfl rfl (fun hb => Spec.fieldAddrO fd45_5 (Has.cv (Has.s rfl) (Cv.isvP rfl))) ?_
 refine wg rfl rfl (fun hb => Spec.loadF (i := 5) ty22 rfl (Has.u rfl hb) rfl (HasG.s rfl)) ?_
 refine wg rfl rfl (fun hb => Spec.neqN (α := UInt32) (Has.u rfl hb) (Has.u rfl hb)) ?_
 refine wo (Spec.or (Has.s rfl) (fun h => Has.u rfl h)) ?_
 refine mv ?_
 refine wg rfl rfl (fun hb => Spec.fieldAddrO fd45_1 (Has.cv (Has.s rfl) (Cv.isvP rfl))) ?_
 refine wg rfl rfl (fun hb => Spec.loadF (i := 1) ty42 rfl (Has.u rfl hb) rfl (HasG.s rfl)) ?_
 refine wg rfl rfl (fun hb => Spec.len (Has.u rfl hb) Try.underlying42) ?_
 refine wg rfl rfl (fun hb => Spec.fieldAddrO fd45_1 (Has.cv (Has.s rfl) (Cv.isvP rfl))) ?_
 refine wg rfl rfl (fun hb => Spec.loadF (i := 1) ty42 rfl (Has.u rfl hb) rfl (HasG.s rfl)) ?_
 refine wg rfl rfl (fun hb => Spec.len (Has.u rfl hb) Try.underlying42) ?_
 refine wg rfl rfl (fun hb => Spec.neqI (Has.u rfl hb) (Has.u rfl hb)) ?_
 refine wo (Spec.or (Has.s rfl) (fun h => Has.u rfl h)) ?_
 refine mv ?_
 refine wg rfl rfl (fun hb => Spec.fieldAddrO fd45_2 (Has.cv (Has.s rfl) (Cv.isvP rfl))) ?_
 refine wg rfl rfl (fun hb => Spec.loadF (i := 2) ty43 rfl (Has.u rfl hb) rfl (HasG.s rfl)) ?_
 refine wg rfl rfl (fun hb => Spec.len (Has.u rfl hb) Try.underlying43) ?_
 refine wg rfl rfl (fun hb => Spec.fieldAddrO fd45_2 (Has.cv (Has.s rfl) (Cv.isvP rfl))) ?_
 refine wg rfl rfl (fun hb => Spec.loadF (i := 2) ty43 rfl (Has.u rfl hb) rfl (HasG.s rfl)) ?_
 refine wg rfl rfl (fun hb => Spec.len (Has.u rfl hb) Try.underlying43) ?_
 refine wg rfl rfl (fun hb => Spec.neqI (Has.u rfl hb) (Has.u rfl hb)) ?_
 refine wo (Spec.or (Has.s rfl) (fun h => Has.u rfl h)) ?_
 refine Walk.nil ?_
 refine Leaf.thenN ?_
 refine CWalk.cond rfl (fun hb => ?_) (fun hb => ?_)
 ·have hm := cond_t hb hm
  refine CWalk.seq ?_
  refine CWalk.region ?_
  refine wo (Spec.assign Has.bool) ?_
  refine Walk.nil ?_
  refine Leaf.thenN ?_
  refine CWalk.ret ?_
  refine Leaf.thenR ?_
  obtain rfl := Option.some.inj hm
  exact Leaf.retC1 rfl (HasR.cv (HasR.tmp (Has.s rfl)) Cv.fl)
 ·have hm := cond_f hb hm
  refine CWalk.skip ?_
  refine Leaf.thenN ?_
  refine CWalk.seq ?_
  refine CWalk.seq ?_
  refine CWalk.region ?_
  refine wo (Spec.assign Has.int) ?_
  refine Walk.nil ?_
  refine Leaf.thenN ?_
  refine CWalk.block ?_
  obtain ⟨b5, hb5, hm⟩ := bind_some hm
  refine CWalk.loop (fun s : Int => [.fact 2 (.isv 10), .fact 3 (.isv 17), .fact 5 (.rep [] (s : Int)), .fact 100011 (.at 11 (.rep [] a0.Stripe)), .fact 100012 (.at 12 (.rep [0] a0.Blocks)), .fact 100013 (.at 13 (.rep [0] a0.Dirty)), .fact 100014 (.at 14 (.rep [] a0.Phase)), .fact 100015 (.at 15 (.rep [] a0.Deals)), .fact 100016 (.at 16 (.rep [] a0.Seq)), .fact 100018 (.at 18 (.rep [] a1.Stripe)), .fact 100019 (.at 19 (.rep [0] a1.Blocks)), .fact 100020 (.at 20 (.rep [0] a1.Dirty)), .fact 100021 (.at 21 (.rep [] a1.Phase)), .fact 100022 (.at 22 (.rep [] a1.Deals)), .fact 100023 (.at 23 (.rep [] a1.Seq)), .fact 100010 (.obj 10 [(false, 1), (false, 1), (false, 1), (false, 1), (false, 1), (false, 1)]), .fact 100017 (.obj 17 [(false, 1), (false, 1), (false, 1), (false, 1), (false, 1), (false, 1)])]) (fun b : (Unit) ⊕ (Unit) => Sum.elim (fun b => (Exit.exit 0, [.fact 2 (.isv 10), .fact 3 (.isv 17), .fact 100011 (.at 11 (.rep [] a0.Stripe)), .fact 100012 (.at 12 (.rep [0] a0.Blocks)), .fact 100013 (.at 13 (.rep [0] a0.Dirty)), .fact 100014 (.at 14 (.rep [] a0.Phase)), .fact 100015 (.at 15 (.rep [] a0.Deals)), .fact 100016 (.at 16 (.rep [] a0.Seq)), .fact 100018 (.at 18 (.rep [] a1.Stripe)), .fact 100019 (.at 19 (.rep [0] a1.Blocks)), .fact 100020 (.at 20 (.rep [0] a1.Dirty)), .fact 100021 (.at 21 (.rep [] a1.Phase)), .fact 100022 (.at 22 (.rep [] a1.Deals)), .fact 100023 (.at 23 (.rep [] a1.Seq)), .fact 100010 (.obj 10 [(false, 1), (false, 1), (false, 1), (false, 1), (false, 1), (false, 1)]), .fact 100017 (.obj 17 [(false, 1), (false, 1), (false, 1), (false, 1), (false, 1), (false, 1)])])) (fun b => (Exit.ret, [.fact 4 (.rep [] (false : Bool))])) b) hb5 (sn (sn (st (sf (sm (sm (sf (sf (sf (sf (sm (sm (sf (sf (sf (sn (sn Sub.nil))))))))))))))))) ?_ ?_
  ·rintro s1 c2 hm
   replace hm : ref16_Same_L1 a0 a1 s1 = some c2 := hm
   unfold ref16_Same_L1 at hm
   show CWalk _ [.fact 2 (.isv 10), .fact 3 (.isv 17), .fact 5 (.rep [] (s1 : Int)), .fact 100011 (.at 11 (.rep [] a0.Stripe)), .fact 100012 (.at 12 (.rep [0] a0.Blocks)), .fact 100013 (.at 13 (.rep [0] a0.Dirty)), .fact 100014 (.at 14 (.rep [] a0.Phase)), .fact 100015 (.at 15 (.rep [] a0.Deals)), .fact 100016 (.at 16 (.rep [] a0.Seq)), .fact 100018 (.at 18 (.rep [] a1.Stripe)), .fact 100019 (.at 19 (.rep [0] a1.Blocks)), .fact 100020 (.at 20 (.rep [0] a1.Dirty)), .fact 100021 (.at 21 (.rep [] a1.Phase)), .fact 100022 (.at 22 (.rep [] a1.Deals)), .fact 100023 (.at 23 (.rep [] a1.Seq)), .fact 100010 (.obj 10 [(false, 1), (false, 1), (false, 1), (false, 1), (false, 1), (false, 1)]), .fact 100017 (.obj 17 [(false, 1), (false, 1), (false, 1), (false, 1), (false, 1), (false, 1)])] _ _
   refine CWalk.seq ?_
   refine CWalk.seq ?_
   refine CWalk.region ?_
   refine mv ?_
   refine wo (Spec.fieldAddrO fd45_1 (Has.cv (Has.s rfl) (Cv.isvP rfl))) ?_
   refine wo (Spec.loadF (i := 1) ty42 rfl (Has.s rfl) rfl (HasG.s rfl)) ?_
   refine wo (Spec.len (Has.s rfl) Try.underlying42) ?_
   refine wo (Spec.lssI (Has.s rfl) (Has.s rfl)) ?_
   refine Walk.nil ?_
   refine Leaf.thenN ?_
   refine CWalk.cond rfl (fun hb => ?_) (fun hb => ?_)
   ·have hm := cond_t hb hm
    refine CWalk.skip ?_
    refine Leaf.thenN ?_
    refine CWalk.seq ?_
    refine CWalk.block ?_
    refine CWalk.seq ?_
    obtain ⟨x3, hx3, hm⟩ := bind_some hm
    obtain ⟨x4, hx4, hm⟩ := bind_some hm
    refine CWalk.drawM [[], [0], [], [0, 1, 2], [0, 1, 2, 3], [0, 1, 2, 3, 4], [], [6], [], [6, 7, 8], [6, 7, 8, 9], [6, 7, 8, 9, 10], [0, 1, 2, 3, 4, 5, 6, 7, 8, 9, 10, 11]] [[.fact 58 (.pto 10 1)], [.fact 59 (.rep [0] a0.Blocks)], [.fact 60 (.rep [] (s1 : Int))], [.fact 61 (.ptr [0] (x3 : List UInt8))], [.fact 62 (.rep [0] (x3 : List UInt8))], [.fact 63 (.rep [] ((Str.mk x3) : Str))], [.fact 64 (.pto 17 1)], [.fact 65 (.rep [0] a1.Blocks)], [.fact 66 (.rep [] (s1 : Int))], [.fact 67 (.ptr [0] (x4 : List UInt8))], [.fact 68 (.rep [0] (x4 : List UInt8))], [.fact 69 (.rep [] ((Str.mk x4) : Str))], [.fact 70 (.rep [] ((!((Str.mk x3).s == (Str.mk x4).s)) : Bool))]] mixed (by kernel_rfl) (ao (so (Spec.fieldAddrO fd45_1 (Has.cv (Has.s rfl) (Cv.isvP rfl)))) (ao (so (Spec.loadF (i := 1) ty42 rfl (Has.s rfl) rfl (HasG.s rfl))) (ao (so (Spec.move (Has.s rfl))) (ao (so (Spec.indexAddr hx3 sl42 (Has.s rfl) (Has.s rfl))) (ao (so (Spec.load ty71 (Has.s rfl))) (ao (so (Spec.toStr Try.underlying71 Try.underlying5 Try.underlying9 (Has.s rfl))) (ao (so (Spec.fieldAddrO fd45_1 (Has.cv (Has.s rfl) (Cv.isvP rfl)))) (ao (so (Spec.loadF (i := 1) ty42 rfl (Has.s rfl) rfl (HasG.s rfl))) (ao (so (Spec.move (Has.s rfl))) (ao (so (Spec.indexAddr hx4 sl42 (Has.s rfl) (Has.s rfl))) (ao (so (Spec.load ty71 (Has.s rfl))) (ao (so (Spec.toStr Try.underlying71 Try.underlying5 Try.underlying9 (Has.s rfl))) (ao (so (Spec.neqS (Has.s rfl) (Has.s rfl))) AllM.nil))))))))))))) ?_
    refine Leaf.thenN ?_
    refine CWalk.cond rfl (fun hb => ?_) (fun hb => ?_)
    ·have hm := cond_t hb hm
     refine CWalk.seq ?_
     refine CWalk.region ?_
     refine wo (Spec.assign Has.bool) ?_
     refine Walk.nil ?_
     refine Leaf.thenN ?_
     refine CWalk.ret ?_
     refine Leaf.blockR ?_
     refine Leaf.thenR ?_
     exact Leaf.brk hm (fun h => nomatch h) rfl (st Sub.nil)
    ·have hm := cond_f hb hm
     refine CWalk.skip ?_
     refine Leaf.blockN ?_
     refine Leaf.thenN ?_
     refine CWalk.region ?_
     refine mv ?_
     refine wo (Spec.addI (Has.s rfl) Has.int) ?_
     refine wo (Spec.assign (Has.s rfl)) ?_
     refine Walk.nil ?_
     exact Leaf.next hm (sn (sn (st (sf (sm (sm (sf (sf (sf (sf (sm (sm (sf (sf (sf (sn (sn Sub.nil)))))))))))))))))
   ·have hm := cond_f hb hm
    refine CWalk.exit ?_
    refine Leaf.thenE ?_
    exact Leaf.brk hm (fun h => nomatch h) rfl (sn (sn (sf (sm (sm (sf (sf (sf (sf (sm (sm (sf (sf (sf (sn (sn Sub.nil))))))))))))))))
  ·intro _
   rcases b5 with b6 | b14
   ·have hm := selim_l hm
    refine Leaf.blockE ?_
    refine Leaf.thenN ?_
    refine CWalk.seq ?_
    refine CWalk.seq ?_
    refine CWalk.region ?_
    refine wo (Spec.assign Has.int) ?_
    refine Walk.nil ?_
    refine Leaf.thenN ?_
    refine CWalk.block ?_
    obtain ⟨b11, hb11, hm⟩ := bind_some hm
    refine CWalk.loop (fun s : Int => [.fact 2 (.isv 10), .fact 3 (.isv 17), .fact 6 (.rep [] (s : Int)), .fact 100011 (.at 11 (.rep [] a0.Stripe)), .fact 100012 (.at 12 (.rep [0] a0.Blocks)), .fact 100013 (.at 13 (.rep [0] a0.Dirty)), .fact 100014 (.at 14 (.rep [] a0.Phase)), .fact 100015 (.at 15 (.rep [] a0.Deals)), .fact 100016 (.at 16 (.rep [] a0.Seq)), .fact 100018 (.at 18 (.rep [] a1.Stripe)), .fact 100019 (.at 19 (.rep [0] a1.Blocks)), .fact 100020 (.at 20 (.rep [0] a1.Dirty)), .fact 100021 (.at 21 (.rep [] a1.Phase)), .fact 100022 (.at 22 (.rep [] a1.Deals)), .fact 100023 (.at 23 (.rep [] a1.Seq)), .fact 100010 (.obj 10 [(false, 1), (false, 1), (false, 1), (false, 1), (false, 1), (false, 1)]), .fact 100017 (.obj 17 [(false, 1), (false, 1), (false, 1), (false, 1), (false, 1), (false, 1)])]) (fun b : (Unit) ⊕ (Unit) => Sum.elim (fun b => (Exit.exit 2, [])) (fun b => (Exit.ret, [.fact 4 (.rep [] (false : Bool))])) b) hb11 (sn (sn (st (sf (sm (sm (sf (sf (sf (sf (sm (sm (sf (sf (sf (sn (sn Sub.nil))))))))))))))))) ?_ ?_
    ·rintro s7 c8 hm
     replace hm : ref16_Same_L2 a0 a1 s7 = some c8 := hm
     unfold ref16_Same_L2 at hm
     show CWalk _ [.fact 2 (.isv 10), .fact 3 (.isv 17), .fact 6 (.rep [] (s7 : Int)), .fact 100011 (.at 11 (.rep [] a0.Stripe)), .fact 100012 (.at 12 (.rep [0] a0.Blocks)), .fact 100013 (.at 13 (.rep [0] a0.Dirty)), .fact 100014 (.at 14 (.rep [] a0.Phase)), .fact 100015 (.at 15 (.rep [] a0.Deals)), .fact 100016 (.at 16 (.rep [] a0.Seq)), .fact 100018 (.at 18 (.rep [] a1.Stripe)), .fact 100019 (.at 19 (.rep [0] a1.Blocks)), .fact 100020 (.at 20 (.rep [0] a1.Dirty)), .fact 100021 (.at 21 (.rep [] a1.Phase)), .fact 100022 (.at 22 (.rep [] a1.Deals)), .fact 100023 (.at 23 (.rep [] a1.Seq)), .fact 100010 (.obj 10 [(false, 1), (false, 1), (false, 1), (false, 1), (false, 1), (false, 1)]), .fact 100017 (.obj 17 [(false, 1), (false, 1), (false, 1), (false, 1), (false, 1), (false, 1)])] _ _
     refine CWalk.seq ?_
     refine CWalk.seq ?_
     refine CWalk.region ?_
     refine mv ?_
     refine wo (Spec.fieldAddrO fd45_2 (Has.cv (Has.s rfl) (Cv.isvP rfl))) ?_
     refine wo (Spec.loadF (i := 2) ty43 rfl (Has.s rfl) rfl (HasG.s rfl)) ?_
     refine wo (Spec.len (Has.s rfl) Try.underlying43) ?_
     refine wo (Spec.lssI (Has.s rfl) (Has.s rfl)) ?_
     refine Walk.nil ?_
     refine Leaf.thenN ?_
     refine CWalk.cond rfl (fun hb => ?_) (fun hb => ?_)
     ·have hm := cond_t hb hm
      refine CWalk.skip ?_
      refine Leaf.thenN ?_
      refine CWalk.seq ?_
      refine CWalk.block ?_
      refine CWalk.seq ?_
      obtain ⟨x9, hx9, hm⟩ := bind_some hm
      obtain ⟨x10, hx10, hm⟩ := bind_some hm
      refine CWalk.drawM [[], [0], [], [0, 1, 2], [0, 1, 2, 3], [], [5], [], [5, 6, 7], [5, 6, 7, 8], [0, 1, 2, 3, 4, 5, 6, 7, 8, 9]] [[.fact 78 (.pto 10 2)], [.fact 79 (.rep [0] a0.Dirty)], [.fact 80 (.rep [] (s7 : Int))], [.fact 81 (.ptr [0] (x9 : Bool))], [.fact 82 (.rep [] (x9 : Bool))], [.fact 83 (.pto 17 2)], [.fact 84 (.rep [0] a1.Dirty)], [.fact 85 (.rep [] (s7 : Int))], [.fact 86 (.ptr [0] (x10 : Bool))], [.fact 87 (.rep [] (x10 : Bool))], [.fact 88 (.rep [] ((x9 != x10) : Bool))]] mixed (by kernel_rfl) (ao (so (Spec.fieldAddrO fd45_2 (Has.cv (Has.s rfl) (Cv.isvP rfl)))) (ao (so (Spec.loadF (i := 2) ty43 rfl (Has.s rfl) rfl (HasG.s rfl))) (ao (so (Spec.move (Has.s rfl))) (ao (so (Spec.indexAddr hx9 sl43 (Has.s rfl) (Has.s rfl))) (ao (so ((Spec.load ty4 (Has.s rfl)).flat (T' := []))) (ao (so (Spec.fieldAddrO fd45_2 (Has.cv (Has.s rfl) (Cv.isvP rfl)))) (ao (so (Spec.loadF (i := 2) ty43 rfl (Has.s rfl) rfl (HasG.s rfl))) (ao (so (Spec.move (Has.s rfl))) (ao (so (Spec.indexAddr hx10 sl43 (Has.s rfl) (Has.s rfl))) (ao (so ((Spec.load ty4 (Has.s rfl)).flat (T' := []))) (ao (so (Spec.neqT (Has.s rfl) (Has.s rfl) Try.underlying4)) AllM.nil))))))))))) ?_
      refine Leaf.thenN ?_
      refine CWalk.cond rfl (fun hb => ?_) (fun hb => ?_)
      ·have hm := cond_t hb hm
       refine CWalk.seq ?_
       refine CWalk.region ?_
       refine wo (Spec.assign Has.bool) ?_
       refine Walk.nil ?_
       refine Leaf.thenN ?_
       refine CWalk.ret ?_
       refine Leaf.blockR ?_
       refine Leaf.thenR ?_
       exact Leaf.brk hm (fun h => nomatch h) rfl (st Sub.nil)
      ·have hm := cond_f hb hm
       refine CWalk.skip ?_
       refine Leaf.blockN ?_
       refine Leaf.thenN ?_
       refine CWalk.region ?_
       refine mv ?_
       refine wo (Spec.addI (Has.s rfl) Has.int) ?_
       refine wo (Spec.assign (Has.s rfl)) ?_
       refine Walk.nil ?_
       exact Leaf.next hm (sn (sn (st (sf (sm (sm (sf (sf (sf (sf (sm (sm (sf (sf (sf (sn (sn Sub.nil)))))))))))))))))
     ·have hm := cond_f hb hm
      refine CWalk.exit ?_
      refine Leaf.thenE ?_
      exact Leaf.brk hm (fun h => nomatch h) rfl (Sub.nil)
    ·intro _
     rcases b11 with b12 | b13
     ·have hm := selim_l hm
      refine Leaf.blockE ?_
      refine Leaf.thenN ?_
      refine CWalk.seq ?_
      refine CWalk.region ?_
      refine wo (Spec.assign Has.bool) ?_
      refine Walk.nil ?_
      refine Leaf.thenN ?_
      refine CWalk.ret ?_
      obtain rfl := Option.some.inj hm
      exact Leaf.retC1 rfl (HasR.cv (HasR.tmp (Has.s rfl)) Cv.fl)
     ·have hm := selim_r hm
      refine Leaf.blockR ?_
      refine Leaf.thenR ?_
      obtain rfl := Option.some.inj hm
      exact Leaf.retC1 rfl (HasR.cv (HasR.tmp (Has.s rfl)) Cv.fl)
   ·have hm := selim_r hm
    refine Leaf.blockR ?_
    refine Leaf.thenR ?_
    obtain rfl := Option.some.inj hm
    exact Leaf.retC1 rfl (HasR.cv (HasR.tmp (Has.s rfl)) Cv.fl)

def ref19_Same_L1 (a0 : List Head) (a1 : List Head) (s1 : Int) : Option (Ctl (Int) ((Unit) ⊕ (Unit))) :=
  (bif (decide (s1 < ((a0).length : Int))) then Option.bind (idx a0 s1) (fun x3 => Option.bind (idx a1 s1) (fun x4 => Option.bind (ref16_Same x3 x4) (fun x5 => (bif (!x5) then some (Ctl.brk (Sum.inr ())) else some (Ctl.next (wI (s1 + (1 : Int)))))))) else some (Ctl.brk (Sum.inl ())))
/-- freeboard/freeboardref19.Same -/
def ref19_Same (a0 : List Head) (a1 : List Head) : Option (Bool) :=
  (bif (((a0).length : Int) != ((a1).length : Int)) then some false else Option.bind (loopM (fun s : Int => ref19_Same_L1 a0 a1 s) FUEL (0 : Int)) (fun b6 => Sum.elim (fun b7 => some true) (fun b8 => some false) b6))
set_option maxRecDepth 100000 in
set_option maxHeartbeats 2000000 in
theorem ref19_Same_c (a0 : List Head) (a1 : List Head) {r : Bool} (hm : ref19_Same a0 a1 = some r) : Ctr Try.prog 17 [.rep 0 a0, .rep 0 a1] (.fl r) [] := by
 refine ctr_of_walk [[]] 27 Try.func17 rfl rfl rfl rfl (fun w0 om => ?_)
 unfold ref19_Same at hm
 refine CWalk.sub (G' := [.fact 0 (.rep [0] (a0 : List Head)), .fact 1 (.rep [0] (a1 : List Head))]) (sn (sn Sub.nil)) ?_
 refine CWalk.seq ?_
 refine CWalk.region ?_
 refine wo (Spec.assign Has.bool) ?_
 refine Walk.nil ?_
 refine Leaf.thenN ?_
 refine CWalk.seq ?_
 refine CWalk.seq ?_
 refine CWalk.region ?_
 refine mv ?_
 refine wo (Spec.len (Has.s rfl) Try.underlying25) ?_
 refine mv ?_
 refine wo (Spec.len (Has.s rfl) Try.underlying25) ?_
 refine wo (Spec.neqI (Has.s rfl) (Has.s rfl)) ?_
 refine Walk.nil ?_
 refine Leaf.thenN ?_
 refine CWalk.cond rfl (fun hb => ?_) (fun hb => ?_)
 ·have hm := cond_t hb hm
  refine CWalk.seq ?_
  refine CWalk.region ?_
  refine wo (Spec.assign Has.bool) ?_
  refine Walk.nil ?_
  refine Leaf.thenN ?_
  refine CWalk.ret ?_
  refine Leaf.thenR ?_
  obtain rfl := Option.some.inj hm
  exact Leaf.retC1 rfl (HasR.cv (HasR.tmp (Has.s rfl)) Cv.fl)
 ·have hm := cond_f hb hm
  refine CWalk.skip ?_
  refine Leaf.thenN ?_
  refine CWalk.seq ?_
  refine CWalk.seq ?_
  refine CWalk.region ?_
  refine wo (Spec.assign Has.int) ?_
  refine Walk.nil ?_
  refine Leaf.thenN ?_
  refine CWalk.block ?_
  obtain ⟨b6, hb6, hm⟩ := bind_some hm
  refine CWalk.loop (fun s : Int => [.fact 0 (.rep [0] (a0 : List Head)), .fact 1 (.rep [0] (a1 : List Head)), .fact 5 (.rep [] (s : Int))]) (fun b : (Unit) ⊕ (Unit) => Sum.elim (fun b => (Exit.exit 0, [])) (fun b => (Exit.ret, [.fact 4 (.rep [] (false : Bool))])) b) hb6 (su (su (st Sub.nil))) ?_ ?_
  ·rintro s1 c2 hm
   replace hm : ref19_Same_L1 a0 a1 s1 = some c2 := hm
   unfold ref19_Same_L1 at hm
   show CWalk _ [.fact 0 (.rep [0] (a0 : List Head)), .fact 1 (.rep [0] (a1 : List Head)), .fact 5 (.rep [] (s1 : Int))] _ _
   refine CWalk.seq ?_
   refine CWalk.seq ?_
   refine CWalk.region ?_
   refine mv ?_
   refine mv ?_
   refine wo (Spec.len (Has.s rfl) Try.underlying25) ?_
   refine wo (Spec.lssI (Has.s rfl) (Has.s rfl)) ?_
   refine Walk.nil ?_
   refine Leaf.thenN ?_
   refine CWalk.cond rfl (fun hb => ?_) (fun hb => ?_)
   ·have hm := cond_t hb hm
    refine CWalk.skip ?_
    refine Leaf.thenN ?_
    refine CWalk.seq ?_
    refine CWalk.block ?_
    refine CWalk.seq ?_
    obtain ⟨x3, hx3, hm⟩ := bind_some hm
    obtain ⟨x4, hx4, hm⟩ := bind_some hm
    obtain ⟨x5, hx5, hm⟩ := bind_some hm
    refine CWalk.drawM [[], [], [0, 1], [0, 1, 2], [], [], [4, 5], [4, 5, 6], [0, 1, 2, 3, 4, 5, 6, 7], [0, 1, 2, 3, 4, 5, 6, 7, 8]] [[.fact 17 (.rep [0] (a0 : List Head))], [.fact 18 (.rep [] (s1 : Int))], [.fact 19 (.ptr [0] (x3 : Head))], [.fact 20 (.rep [0] (x3 : Head))], [.fact 21 (.rep [0] (a1 : List Head))], [.fact 22 (.rep [] (s1 : Int))], [.fact 23 (.ptr [0] (x4 : Head))], [.fact 24 (.rep [0] (x4 : Head))], [.fact 25 (.rep [] (x5 : Bool))], [.fact 26 (.rep [] ((!x5) : Bool))]] mixed (by kernel_rfl) (ao (so (Spec.move (Has.s rfl))) (ao (so (Spec.move (Has.s rfl))) (ao (so (Spec.indexAddr hx3 sl25 (Has.s rfl) (Has.s rfl))) (ao (so (Spec.load ty45 (Has.s rfl))) (ao (so (Spec.move (Has.s rfl))) (ao (so (Spec.move (Has.s rfl))) (ao (so (Spec.indexAddr hx4 sl25 (Has.s rfl) (Has.s rfl))) (ao (so (Spec.load ty45 (Has.s rfl))) (ao (so (Spec.callE [0] 10 rfl en26 (ref16_Same_c x3 x4 hx5) (HasAll.cons (Has.m (Has.s rfl) rfl) (HasAll.cons (Has.m (Has.s rfl) rfl) HasAll.nil)))) (ao (so (Spec.not (Has.s rfl))) AllM.nil)))))))))) ?_
    refine Leaf.thenN ?_
    refine CWalk.cond rfl (fun hb => ?_) (fun hb => ?_)
    ·have hm := cond_t hb hm
     refine CWalk.seq ?_
     refine CWalk.region ?_
     refine wo (Spec.assign Has.bool) ?_
     refine Walk.nil ?_
     refine Leaf.thenN ?_
     refine CWalk.ret ?_
     refine Leaf.blockR ?_
     refine Leaf.thenR ?_
     exact Leaf.brk hm (fun h => nomatch h) rfl (st Sub.nil)
    ·have hm := cond_f hb hm
     refine CWalk.skip ?_
     refine Leaf.blockN ?_
     refine Leaf.thenN ?_
     refine CWalk.region ?_
     refine mv ?_
     refine wo (Spec.addI (Has.s rfl) Has.int) ?_
     refine wo (Spec.assign (Has.s rfl)) ?_
     refine Walk.nil ?_
     exact Leaf.next hm (su (su (st Sub.nil)))
   ·have hm := cond_f hb hm
    refine CWalk.exit ?_
    refine Leaf.thenE ?_
    exact Leaf.brk hm (fun h => nomatch h) rfl (Sub.nil)
  ·intro _
   rcases b6 with b7 | b8
   ·have hm := selim_l hm
    refine Leaf.blockE ?_
    refine Leaf.thenN ?_
    refine CWalk.seq ?_
    refine CWalk.region ?_
    refine wo (Spec.assign Has.bool) ?_
    refine Walk.nil ?_
    refine Leaf.thenN ?_
    refine CWalk.ret ?_
    obtain rfl := Option.some.inj hm
    exact Leaf.retC1 rfl (HasR.cv (HasR.tmp (Has.s rfl)) Cv.fl)
   ·have hm := selim_r hm
    refine Leaf.blockR ?_
    refine Leaf.thenR ?_
    obtain rfl := Option.some.inj hm
    exact Leaf.retC1 rfl (HasR.cv (HasR.tmp (Has.s rfl)) Cv.fl)

def law19_ShelfTurns_J2 (a1 : List Head) (a3 : Head) (x3 : (List Head)) (x4 : Head) (x5 : (List Head) × Int) (x6 : (List Head) × Int) (x7 : (List Head) × Int) (x8 : (List Head) × Int) (x9 : Bool) (x10 : Bool) : Option (Bool) :=
  Option.bind (gO ((((x9 && (x5.2 == x6.2)) && x10) && (x7.2 == x8.2))) (ref19_Same x3 a1)) (fun x11 => Option.bind (gO (((((x9 && (x5.2 == x6.2)) && x10) && (x7.2 == x8.2)) && x11)) (ref16_Same x4 a3)) (fun x12 => some (((((x9 && (x5.2 == x6.2)) && x10) && (x7.2 == x8.2)) && x11) && x12)))
def law19_ShelfTurns_L5 (x7 : (List Head) × Int) (s13 : Int) (s15 : Int) (s18 : Int) : Option (Ctl (Int) (Unit)) :=
  Option.bind (idx x7.1 s13) (fun x20 => Option.bind (idx x20.Blocks s15) (fun x21 => (bif (decide (s18 < ((x21).length : Int))) then Option.bind (idx x7.1 s13) (fun x22 => Option.bind (idx x22.Blocks s15) (fun x23 => Option.bind (idx x23 s18) (fun x24 => Option.bind (idx x23 s18) (fun x25 => some (Ctl.next (wI (s18 + (1 : Int)))))))) else some (Ctl.brk ()))))
def law19_ShelfTurns_L4 (x7 : (List Head) × Int) (s13 : Int) (s15 : Int) : Option (Ctl (Int) (Unit)) :=
  Option.bind (idx x7.1 s13) (fun x17 => (bif (decide (s15 < ((x17.Blocks).length : Int))) then Option.bind (loopM (fun s : Int => law19_ShelfTurns_L5 x7 s13 s15 s) FUEL (0 : Int)) (fun b26 => some (Ctl.next (wI (s15 + (1 : Int))))) else some (Ctl.brk ())))
def law19_ShelfTurns_L6 (x7 : (List Head) × Int) (s13 : Int) (s28 : Int) : Option (Ctl (Int) (Unit)) :=
  Option.bind (idx x7.1 s13) (fun x30 => (bif (decide (s28 < ((x30.Dirty).length : Int))) then Option.bind (idx x7.1 s13) (fun x31 => Option.bind (idx x7.1 s13) (fun x32 => Option.bind (idx x32.Dirty s28) (fun x33 => Option.bind (idx x31.Dirty s28) (fun x34 => some (Ctl.next (wI (s28 + (1 : Int)))))))) else some (Ctl.brk ())))
def law19_ShelfTurns_L3 (x7 : (List Head) × Int) (s13 : Int) : Option (Ctl (Int) (Unit)) :=
  (bif (decide (s13 < ((x7.1).length : Int))) then Option.bind (loopM (fun s : Int => law19_ShelfTurns_L4 x7 s13 s) FUEL (0 : Int)) (fun b27 => Option.bind (loopM (fun s : Int => law19_ShelfTurns_L6 x7 s13 s) FUEL (0 : Int)) (fun b35 => some (Ctl.next (wI (s13 + (1 : Int)))))) else some (Ctl.brk ()))
def law19_ShelfTurns_J1 (a1 : List Head) (a3 : Head) (x3 : (List Head)) (x4 : Head) (x5 : (List Head) × Int) (x6 : (List Head) × Int) (x7 : (List Head) × Int) (x8 : (List Head) × Int) (x9 : Bool) (x10 : Bool) : Option (Bool) :=
  Option.bind (loopM (fun s : Int => law19_ShelfTurns_L3 x7 s) FUEL (0 : Int)) (fun b36 => (law19_ShelfTurns_J2 a1 a3 x3 x4 x5 x6 x7 x8 x9 x10))
def law19_ShelfTurns_L9 (x5 : (List Head) × Int) (s37 : Int) (s39 : Int) (s42 : Int) : Option (Ctl (Int) (Unit)) :=
  Option.bind (idx x5.1 s37) (fun x44 => Option.bind (idx x44.Blocks s39) (fun x45 => (bif (decide (s42 < ((x45).length : Int))) then Option.bind (idx x5.1 s37) (fun x46 => Option.bind (idx x46.Blocks s39) (fun x47 => Option.bind (idx x47 s42) (fun x48 => Option.bind (idx x47 s42) (fun x49 => some (Ctl.next (wI (s42 + (1 : Int)))))))) else some (Ctl.brk ()))))
def law19_ShelfTurns_L8 (x5 : (List Head) × Int) (s37 : Int) (s39 : Int) : Option (Ctl (Int) (Unit)) :=
  Option.bind (idx x5.1 s37) (fun x41 => (bif (decide (s39 < ((x41.Blocks).length : Int))) then Option.bind (loopM (fun s : Int => law19_ShelfTurns_L9 x5 s37 s39 s) FUEL (0 : Int)) (fun b50 => some (Ctl.next (wI (s39 + (1 : Int))))) else some (Ctl.brk ())))
def law19_ShelfTurns_L10 (x5 : (List Head) × Int) (s37 : Int) (s52 : Int) : Option (Ctl (Int) (Unit)) :=
  Option.bind (idx x5.1 s37) (fun x54 => (bif (decide (s52 < ((x54.Dirty).length : Int))) then Option.bind (idx x5.1 s37) (fun x55 => Option.bind (idx x5.1 s37) (fun x56 => Option.bind (idx x56.Dirty s52) (fun x57 => Option.bind (idx x55.Dirty s52) (fun x58 => some (Ctl.next (wI (s52 + (1 : Int)))))))) else some (Ctl.brk ())))
def law19_ShelfTurns_L7 (x5 : (List Head) × Int) (s37 : Int) : Option (Ctl (Int) (Unit)) :=
  (bif (decide (s37 < ((x5.1).length : Int))) then Option.bind (loopM (fun s : Int => law19_ShelfTurns_L8 x5 s37 s) FUEL (0 : Int)) (fun b51 => Option.bind (loopM (fun s : Int => law19_ShelfTurns_L10 x5 s37 s) FUEL (0 : Int)) (fun b59 => some (Ctl.next (wI (s37 + (1 : Int)))))) else some (Ctl.brk ()))
/-- freeboard/freeboardlaw19.ShelfTurns -/
def law19_ShelfTurns (a0 : Config) (a1 : List Head) (a2 : Int) (a3 : Head) : Option (Bool) :=
  Option.bind (ref19_Great a1) (fun x1 => Option.bind (gO (!x1) (ref16_Great a3)) (fun x2 => (bif (x1 || x2) then some true else Option.bind (ref19_Twin a1) (fun x3 => Option.bind (ref16_Twin a3) (fun x4 => Option.bind (shelf_Use a0 x3 a2) (fun x5 => Option.bind (ref19_Use a0 a1 a2) (fun x6 => Option.bind (shelf_Put a0 x3 x4) (fun x7 => Option.bind (ref19_Put a0 a1 a3) (fun x8 => Option.bind (ref19_Same x5.1 x6.1) (fun x9 => Option.bind (gO ((x9 && (x5.2 == x6.2))) (ref19_Same x7.1 x8.1)) (fun x10 => Option.bind (loopM (fun s : Int => law19_ShelfTurns_L7 x5 s) FUEL (0 : Int)) (fun b60 => (law19_ShelfTurns_J1 a1 a3 x3 x4 x5 x6 x7 x8 x9 x10)))))))))))))
set_option maxRecDepth 100000 in
set_option maxHeartbeats 2000000 in
theorem law19_ShelfTurns_c (a0 : Config) (a1 : List Head) (a2 : Int) (a3 : Head) {r : Bool} (hm : law19_ShelfTurns a0 a1 a2 a3 = some r) : Ctr Try.prog 4 [.rep 0 a0, .rep 0 a1, .rep 0 a2, .rep 0 a3] (.fl r) [] := by
 refine ctr_of_walk [[]] 91 Try.func4 rfl rfl rfl rfl (fun w0 om => ?_)
 unfold law19_ShelfTurns at hm
 refine CWalk.sub (G' := [.fact 0 (.rep [] (a0 : Config)), .fact 1 (.rep [0] (a1 : List Head)), .fact 2 (.rep [] (a2 : Int)), .fact 3 (.rep [0] (a3 : Head))]) (Sub.cons (Has.fl (Has.s rfl)) (sn (Sub.cons (Has.fl (Has.s rfl)) (sn Sub.nil)))) ?_
 refine CWalk.seq ?_
 refine CWalk.region ?_
 refine ws (Step.boxObj (ls := [(false, 1, Fact.rep [] a0.Id), (false, 1, Fact.rep [] a0.Members), (false, 1, Fact.rep [] a0.Chunk), (false, 1, Fact.rep [] a0.Rows), (false, 1, Fact.rep [] a0.Log), (false, 1, Fact.rep [] a0.Heads)]) 10 rfl rfl rfl rfl (HasL.flds (Has.cv (Has.s rfl) (Cv.trans (Cv.opens (chConfig a0)) (Cv.flds (CvL.cons Cv.fl (CvL.cons Cv.fl (CvL.cons Cv.fl (CvL.cons Cv.fl (CvL.cons Cv.fl (CvL.cons Cv.fl CvL.nil))))))))))) ?_
 refine ws (Step.boxObj (ls := [(false, 1, Fact.rep [] a3.Stripe), (false, 1, Fact.rep [0] a3.Blocks), (false, 1, Fact.rep [0] a3.Dirty), (false, 1, Fact.rep [] a3.Phase), (false, 1, Fact.rep [] a3.Deals), (false, 1, Fact.rep [] a3.Seq)]) 17 rfl rfl rfl rfl (HasL.flds (Has.cv (Has.s rfl) (Cv.trans (Cv.opens (chHead a3)) (Cv.flds (CvL.cons Cv.fl (CvL.cons Cv.refl (CvL.cons Cv.refl (CvL.cons Cv.fl (CvL.cons Cv.fl (CvL.cons Cv.fl CvL.nil))))))))))) ?_
 refine wo (Spec.assign Has.bool) ?_
 refine Walk.nil ?_
 refine Leaf.thenN ?_
 refine CWalk.seq ?_
 refine CWalk.seq ?_
 refine CWalk.region ?_
 refine mv ?_
 obtain ⟨x1, hx1, hm⟩ := bind_some hm
 refine wo (f := Fact.rep [] (x1 : Bool)) (Spec.callE [0] 24 rfl en8 (ref19_Great_c a1 hx1) (HasAll.cons (Has.m (Has.s rfl) rfl) HasAll.nil)) ?_
 refine mv ?_
 refine wg rfl rfl (fun hb => Spec.loadObj (ls := [(false, 1, Fact.rep [] a3.Stripe), (false, 1, Fact.rep [0] a3.Blocks), (false, 1, Fact.rep [0] a3.Dirty), (false, 1, Fact.rep [] a3.Phase), (false, 1, Fact.rep [] a3.Deals), (false, 1, Fact.rep [] a3.Seq)]) ty45 rfl rfl (Has.s rfl) rfl (HasGs.cons (HasG.s rfl) (HasGs.cons (HasG.s rfl) (HasGs.cons (HasG.s rfl) (HasGs.cons (HasG.s rfl) (HasGs.cons (HasG.s rfl) (HasGs.cons (HasG.s rfl) HasGs.nil))))))) ?_
 obtain ⟨x2, hx2, hm⟩ := bind_some hm
 refine wg (f := Fact.rep [] (x2 : Bool)) rfl rfl (fun hb => Spec.callE [0] 25 rfl en20 (ref16_Great_c a3 (gO_t hx2 (not_t hb))) (HasAll.cons (Has.m (Has.cv (Has.u rfl hb) (Cv.trans (Cv.flds (CvL.cons Cv.fl (CvL.cons (Cv.m rfl) (CvL.cons (Cv.m rfl) (CvL.cons Cv.fl (CvL.cons Cv.fl (CvL.cons Cv.fl CvL.nil))))))) (Cv.close (T := [0]) (chHead a3)))) rfl) HasAll.nil)) ?_
 refine wo (Spec.or (Has.s rfl) (fun h => Has.u rfl h)) ?_
 refine Walk.nil ?_
 refine Leaf.thenN ?_
 refine CWalk.cond rfl (fun hb => ?_) (fun hb => ?_)
 ·have hm := cond_t hb hm
  refine CWalk.seq ?_
  refine CWalk.region ?_
  refine wo (Spec.assign Has.bool) ?_
  refine Walk.nil ?_
  refine Leaf.thenN ?_
  refine CWalk.ret ?_
  refine Leaf.thenR ?_
  obtain rfl := Option.some.inj hm
  exact Leaf.retC1 rfl (HasR.cv (HasR.tmp (Has.s rfl)) Cv.fl)
 ·have hm := cond_f hb hm
  refine CWalk.skip ?_
  refine Leaf.thenN ?_
  refine CWalk.seq ?_
  refine CWalk.region ?_
  refine mv ?_
  obtain ⟨x3, hx3, hm⟩ := bind_some hm
  refine wo (f := Fact.ow [26] [27] 45 (x3 : List Head)) (Spec.callE [0] 26 rfl en9 (ref19_Twin_c a1 hx3) (HasAll.cons (Has.m (Has.s rfl) rfl) HasAll.nil)) ?_
  refine wo (Spec.assign (Has.s rfl)) ?_
  refine Walk.nil ?_
  refine Leaf.thenN ?_
  refine CWalk.seq ?_
  refine CWalk.region ?_
  refine wo (Spec.loadObj (ls := [(false, 1, Fact.rep [] a3.Stripe), (false, 1, Fact.rep [0] a3.Blocks), (false, 1, Fact.rep [0] a3.Dirty), (false, 1, Fact.rep [] a3.Phase), (false, 1, Fact.rep [] a3.Deals), (false, 1, Fact.rep [] a3.Seq)]) ty45 rfl rfl (Has.s rfl) rfl (HasGs.cons (HasG.s rfl) (HasGs.cons (HasG.s rfl) (HasGs.cons (HasG.s rfl) (HasGs.cons (HasG.s rfl) (HasGs.cons (HasG.s rfl) (HasGs.cons (HasG.s rfl) HasGs.nil))))))) ?_
  obtain ⟨x4, hx4, hm⟩ := bind_some hm
  refine wo (f := Fact.flds [(false, 1, Fact.rep [] x4.Stripe), (false, 1, Fact.ow [28] [29] 71 (x4.Blocks : List (List UInt8))), (false, 1, Fact.ow [30] [] 4 (x4.Dirty : List Bool)), (false, 1, Fact.rep [] x4.Phase), (false, 1, Fact.rep [] x4.Deals), (false, 1, Fact.rep [] x4.Seq)]) (Spec.callE [0] 28 rfl en21 (ref16_Twin_c a3 hx4) (HasAll.cons (Has.m (Has.cv (Has.s rfl) (Cv.trans (Cv.flds (CvL.cons Cv.fl (CvL.cons (Cv.m rfl) (CvL.cons (Cv.m rfl) (CvL.cons Cv.fl (CvL.cons Cv.fl (CvL.cons Cv.fl CvL.nil))))))) (Cv.close (T := [0]) (chHead a3)))) rfl) HasAll.nil)) ?_
  refine ws (Step.allocObj (ls := [(false, 1, Fact.rep [] ((0 : Int) : Int)), (false, 1, Fact.nilv), (false, 1, Fact.nilv), (false, 1, Fact.rep [] ((0 : UInt8) : UInt8)), (false, 1, Fact.rep [] (false : Bool)), (false, 1, Fact.rep [] ((0 : UInt32) : UInt32))]) 31 rfl rfl rfl rfl zl45) ?_
  refine ws (Step.storeObj (ls := [(false, 1, Fact.rep [] x4.Stripe), (false, 1, Fact.ow [28] [29] 71 (x4.Blocks : List (List UInt8))), (false, 1, Fact.ow [30] [] 4 (x4.Dirty : List Bool)), (false, 1, Fact.rep [] x4.Phase), (false, 1, Fact.rep [] x4.Deals), (false, 1, Fact.rep [] x4.Seq)]) rfl ty45 rfl rfl (Has.s rfl) rfl (HasL.flds (Has.s rfl)) rfl) ?_
  refine Walk.nil ?_
  refine Leaf.thenN ?_
  refine CWalk.seq ?_
  refine CWalk.region ?_
  refine wo (Spec.loadObj (ls := [(false, 1, Fact.rep [] a0.Id), (false, 1, Fact.rep [] a0.Members), (false, 1, Fact.rep [] a0.Chunk), (false, 1, Fact.rep [] a0.Rows), (false, 1, Fact.rep [] a0.Log), (false, 1, Fact.rep [] a0.Heads)]) ty24 rfl rfl (Has.s rfl) rfl (HasGs.cons (HasG.s rfl) (HasGs.cons (HasG.s rfl) (HasGs.cons (HasG.s rfl) (HasGs.cons (HasG.s rfl) (HasGs.cons (HasG.s rfl) (HasGs.cons (HasG.s rfl) HasGs.nil))))))) ?_
  refine mv ?_
  refine mv ?_
  obtain ⟨x5, hx5, hm⟩ := bind_some hm
  refine wo (f := Fact.tup2 (Fact.ow [38] [39] 45 (x5.1 : List Head)) (Fact.rep [] x5.2)) (Spec.callE [26, 27] 38 rfl en22 (shelf_Use_c a0 x3 a2 hx5) (HasAll.cons (Has.fl (Has.cv (Has.s rfl) (Cv.trans (Cv.flds (CvL.cons Cv.fl (CvL.cons Cv.fl (CvL.cons Cv.fl (CvL.cons Cv.fl (CvL.cons Cv.fl (CvL.cons Cv.fl CvL.nil))))))) (Cv.close (T := []) (chConfig a0))))) (HasAll.cons (Has.m (Has.cv (Has.s rfl) (Cv.trans Cv.owSl (Cv.slRep (T' := [26, 27]) rfl rfl))) rfl) (HasAll.cons (Has.fl (Has.s rfl)) HasAll.nil)))) ?_
  refine mv ?_
  refine wo (Spec.ext0 (Has.s rfl)) ?_
  refine wo (Spec.ext1 (Has.s rfl)) ?_
  refine wo (Spec.assign (Has.s rfl)) ?_
  refine wo (Spec.assign (Has.s rfl)) ?_
  refine Walk.nil ?_
  refine Leaf.thenN ?_
  refine CWalk.seq ?_
  refine CWalk.region ?_
  refine wo (Spec.loadObj (ls := [(false, 1, Fact.rep [] a0.Id), (false, 1, Fact.rep [] a0.Members), (false, 1, Fact.rep [] a0.Chunk), (false, 1, Fact.rep [] a0.Rows), (false, 1, Fact.rep [] a0.Log), (false, 1, Fact.rep [] a0.Heads)]) ty24 rfl rfl (Has.s rfl) rfl (HasGs.cons (HasG.s rfl) (HasGs.cons (HasG.s rfl) (HasGs.cons (HasG.s rfl) (HasGs.cons (HasG.s rfl) (HasGs.cons (HasG.s rfl) (HasGs.cons (HasG.s rfl) HasGs.nil))))))) ?_
  refine mv ?_
  refine mv ?_
  obtain ⟨x6, hx6, hm⟩ := bind_some hm
  refine wo (f := Fact.tup2 (Fact.ow [40] [41, 0] 45 (x6.1 : List Head)) (Fact.rep [] x6.2)) (Spec.callE [0] 40 rfl en23 (ref19_Use_c a0 a1 a2 hx6) (HasAll.cons (Has.fl (Has.cv (Has.s rfl) (Cv.trans (Cv.flds (CvL.cons Cv.fl (CvL.cons Cv.fl (CvL.cons Cv.fl (CvL.cons Cv.fl (CvL.cons Cv.fl (CvL.cons Cv.fl CvL.nil))))))) (Cv.close (T := []) (chConfig a0))))) (HasAll.cons (Has.m (Has.s rfl) rfl) (HasAll.cons (Has.fl (Has.s rfl)) HasAll.nil)))) ?_
  refine mv ?_
  refine wo (Spec.ext0 (Has.s rfl)) ?_
  refine wo (Spec.ext1 (Has.s rfl)) ?_
  refine wo (Spec.assign (Has.s rfl)) ?_
  refine wo (Spec.assign (Has.s rfl)) ?_
  refine Walk.nil ?_
  refine Leaf.thenN ?_
  refine CWalk.seq ?_
  refine CWalk.region ?_
  refine wo (Spec.loadObj (ls := [(false, 1, Fact.rep [] a0.Id), (false, 1, Fact.rep [] a0.Members), (false, 1, Fact.rep [] a0.Chunk), (false, 1, Fact.rep [] a0.Rows), (false, 1, Fact.rep [] a0.Log), (false, 1, Fact.rep [] a0.Heads)]) ty24 rfl rfl (Has.s rfl) rfl (HasGs.cons (HasG.s rfl) (HasGs.cons (HasG.s rfl) (HasGs.cons (HasG.s rfl) (HasGs.cons (HasG.s rfl) (HasGs.cons (HasG.s rfl) (HasGs.cons (HasG.s rfl) HasGs.nil))))))) ?_
  refine mv ?_
  refine wo (Spec.loadObj (ls := [(false, 1, Fact.rep [] x4.Stripe), (false, 1, Fact.ow [28] [29] 71 (x4.Blocks : List (List UInt8))), (false, 1, Fact.ow [30] [] 4 (x4.Dirty : List Bool)), (false, 1, Fact.rep [] x4.Phase), (false, 1, Fact.rep [] x4.Deals), (false, 1, Fact.rep [] x4.Seq)]) ty45 rfl rfl (Has.s rfl) rfl (HasGs.cons (HasG.s rfl) (HasGs.cons (HasG.s rfl) (HasGs.cons (HasG.s rfl) (HasGs.cons (HasG.s rfl) (HasGs.cons (HasG.s rfl) (HasGs.cons (HasG.s rfl) HasGs.nil))))))) ?_
  obtain ⟨x7, hx7, hm⟩ := bind_some hm
  refine wo (f := Fact.tup2 (Fact.ow [42] [43] 45 (x7.1 : List Head)) (Fact.rep [] x7.2)) (Spec.callE [26, 27, 28, 29, 30] 42 rfl en24 (shelf_Put_c a0 x3 x4 hx7) (HasAll.cons (Has.fl (Has.cv (Has.s rfl) (Cv.trans (Cv.flds (CvL.cons Cv.fl (CvL.cons Cv.fl (CvL.cons Cv.fl (CvL.cons Cv.fl (CvL.cons Cv.fl (CvL.cons Cv.fl CvL.nil))))))) (Cv.close (T := []) (chConfig a0))))) (HasAll.cons (Has.m (Has.cv (Has.s rfl) (Cv.trans Cv.owSl (Cv.slRep (T' := [26, 27]) rfl rfl))) rfl) (HasAll.cons (Has.m (Has.cv (Has.s rfl) (Cv.trans (Cv.flds (CvL.cons Cv.fl (CvL.cons (Cv.trans (Cv.trans Cv.owSl (Cv.slRep (T' := [28, 29]) rfl rfl)) (Cv.m rfl)) (CvL.cons (Cv.trans (Cv.trans Cv.owSl (Cv.slRep (T' := [30]) rfl rfl)) (Cv.m rfl)) (CvL.cons Cv.fl (CvL.cons Cv.fl (CvL.cons Cv.fl CvL.nil))))))) (Cv.close (T := [28, 29, 30]) (chHead x4)))) rfl) HasAll.nil)))) ?_
  refine mv ?_
  refine wo (Spec.ext0 (Has.s rfl)) ?_
  refine wo (Spec.ext1 (Has.s rfl)) ?_
  refine wo (Spec.assign (Has.s rfl)) ?_
  refine wo (Spec.assign (Has.s rfl)) ?_
  refine Walk.nil ?_
  refine Leaf.thenN ?_
  refine CWalk.seq ?_
  refine CWalk.region ?_
  refine wo (Spec.loadObj (ls := [(false, 1, Fact.rep [] a0.Id), (false, 1, Fact.rep [] a0.Members), (false, 1, Fact.rep [] a0.Chunk), (false, 1, Fact.rep [] a0.Rows), (false, 1, Fact.rep [] a0.Log), (false, 1, Fact.rep [] a0.Heads)]) ty24 rfl rfl (Has.s rfl) rfl (HasGs.cons (HasG.s rfl) (HasGs.cons (HasG.s rfl) (HasGs.cons (HasG.s rfl) (HasGs.cons (HasG.s rfl) (HasGs.cons (HasG.s rfl) (HasGs.cons (HasG.s rfl) HasGs.nil))))))) ?_
  refine mv ?_
  refine wo (Spec.loadObj (ls := [(false, 1, Fact.rep [] a3.Stripe), (false, 1, Fact.rep [0] a3.Blocks), (false, 1, Fact.rep [0] a3.Dirty), (false, 1, Fact.rep [] a3.Phase), (false, 1, Fact.rep [] a3.Deals), (false, 1, Fact.rep [] a3.Seq)]) ty45 rfl rfl (Has.s rfl) rfl (HasGs.cons (HasG.s rfl) (HasGs.cons (HasG.s rfl) (HasGs.cons (HasG.s rfl) (HasGs.cons (HasG.s rfl) (HasGs.cons (HasG.s rfl) (HasGs.cons (HasG.s rfl) HasGs.nil))))))) ?_
  obtain ⟨x8, hx8, hm⟩ := bind_some hm
  refine wo (f := Fact.tup2 (Fact.ow [44] [45, 0] 45 (x8.1 : List Head)) (Fact.rep [] x8.2)) (Spec.callE [0] 44 rfl en25 (ref19_Put_c a0 a1 a3 hx8) (HasAll.cons (Has.fl (Has.cv (Has.s rfl) (Cv.trans (Cv.flds (CvL.cons Cv.fl (CvL.cons Cv.fl (CvL.cons Cv.fl (CvL.cons Cv.fl (CvL.cons Cv.fl (CvL.cons Cv.fl CvL.nil))))))) (Cv.close (T := []) (chConfig a0))))) (HasAll.cons (Has.m (Has.s rfl) rfl) (HasAll.cons (Has.m (Has.cv (Has.s rfl) (Cv.trans (Cv.flds (CvL.cons Cv.fl (CvL.cons (Cv.m rfl) (CvL.cons (Cv.m rfl) (CvL.cons Cv.fl (CvL.cons Cv.fl (CvL.cons Cv.fl CvL.nil))))))) (Cv.close (T := [0]) (chHead a3)))) rfl) HasAll.nil)))) ?_
  refine mv ?_
  refine wo (Spec.ext0 (Has.s rfl)) ?_
  refine wo (Spec.ext1 (Has.s rfl)) ?_
  refine wo (Spec.assign (Has.s rfl)) ?_
  refine wo (Spec.assign (Has.s rfl)) ?_
  refine Walk.nil ?_
  refine Leaf.thenN ?_
  refine CWalk.seq ?_
  refine CWalk.region ?_
  refine mv ?_
  refine mv ?_
  obtain ⟨x9, hx9, hm⟩ := bind_some hm
  refine wo (f := Fact.rep [] (x9 : Bool)) (Spec.callE [0, 38, 39, 40, 41] 46 rfl en17 (ref19_Same_c x5.1 x6.1 hx9) (HasAll.cons (Has.m (Has.cv (Has.s rfl) (Cv.trans Cv.owSl (Cv.slRep (T' := [38, 39]) rfl rfl))) rfl) (HasAll.cons (Has.m (Has.cv (Has.s rfl) (Cv.trans Cv.owSl (Cv.slRep (T' := [0, 40, 41]) rfl rfl))) rfl) HasAll.nil))) ?_
  refine mv ?_
  refine wg rfl rfl (fun hb => Spec.move (Has.s rfl)) ?_
  refine wg rfl rfl (fun hb => Spec.move (Has.s rfl)) ?_
  refine wg rfl rfl (fun hb => Spec.eqlI (Has.u rfl hb) (Has.u rfl hb)) ?_
  refine wo (Spec.and (Has.s rfl) (fun h => Has.u rfl h)) ?_
  refine mv ?_
  refine wg rfl rfl (fun hb => Spec.move (Has.s rfl)) ?_
  refine wg rfl rfl (fun hb => Spec.move (Has.s rfl)) ?_
  obtain ⟨x10, hx10, hm⟩ := bind_some hm
  refine wg (f := Fact.rep [] (x10 : Bool)) rfl rfl (fun hb => Spec.callE [0, 42, 43, 44, 45] 47 rfl en17 (ref19_Same_c x7.1 x8.1 (gO_t hx10 hb)) (HasAll.cons (Has.m (Has.cv (Has.u rfl hb) (Cv.trans Cv.owSl (Cv.slRep (T' := [42, 43]) rfl rfl))) rfl) (HasAll.cons (Has.m (Has.cv (Has.u rfl hb) (Cv.trans Cv.owSl (Cv.slRep (T' := [0, 44, 45]) rfl rfl))) rfl) HasAll.nil))) ?_
  refine wo (Spec.and (Has.s rfl) (fun h => Has.u rfl h)) ?_
  refine mv ?_
  refine wg rfl rfl (fun hb => Spec.move (Has.s rfl)) ?_
  refine wg rfl rfl (fun hb => Spec.move (Has.s rfl)) ?_
  refine wg rfl rfl (fun hb => Spec.eqlI (Has.u rfl hb) (Has.u rfl hb)) ?_
  refine wo (Spec.and (Has.s rfl) (fun h => Has.u rfl h)) ?_
  refine wo (Spec.assign (Has.s rfl)) ?_
  refine Walk.nil ?_
  refine Leaf.thenN ?_
  refine CWalk.seq ?_
  refine CWalk.region ?_
  refine mv ?_
  refine Walk.inline (S := Unit) (fun p : Unit => [.fact 1 (.rep [0] (a1 : List Head)), .fact 7 (.isv 17), .fact 9 (.ow [26] [27] 45 (x3 : List Head)), .fact 10 (.isv 31), .fact 15 (.ow [42] [43] 45 (x7.1 : List Head)), .fact 19 (.rep [] ((((x9 && (x5.2 == x6.2)) && x10) && (x7.2 == x8.2)) : Bool)), .fact 77 (.top), .fact 100018 (.at 18 (.rep [] a3.Stripe)), .fact 100019 (.at 19 (.rep [0] a3.Blocks)), .fact 100020 (.at 20 (.rep [0] a3.Dirty)), .fact 100021 (.at 21 (.rep [] a3.Phase)), .fact 100022 (.at 22 (.rep [] a3.Deals)), .fact 100023 (.at 23 (.rep [] a3.Seq)), .fact 100032 (.at 32 (.rep [] x4.Stripe)), .fact 100033 (.at 33 (.ow [28] [29] 71 (x4.Blocks : List (List UInt8)))), .fact 100034 (.at 34 (.ow [30] [] 4 (x4.Dirty : List Bool))), .fact 100035 (.at 35 (.rep [] x4.Phase)), .fact 100036 (.at 36 (.rep [] x4.Deals)), .fact 100037 (.at 37 (.rep [] x4.Seq)), .fact 100017 (.obj 17 [(false, 1), (false, 1), (false, 1), (false, 1), (false, 1), (false, 1)]), .fact 100031 (.obj 31 [(false, 1), (false, 1), (false, 1), (false, 1), (false, 1), (false, 1)])]) (fun p : Unit => law19_ShelfTurns_J1 a1 a3 x3 x4 x5 x6 x7 x8 x9 x10 = some r) (fun u1 => [.fact 100018 (.at 18 (.rep [] a3.Stripe)), .fact 100019 (.at 19 (.rep [0] a3.Blocks)), .fact 100020 (.at 20 (.rep [0] a3.Dirty)), .fact 100021 (.at 21 (.rep [] a3.Phase)), .fact 100022 (.at 22 (.rep [] a3.Deals)), .fact 100023 (.at 23 (.rep [] a3.Seq)), .fact 100032 (.at 32 (.rep [] x4.Stripe)), .fact 100033 (.at 33 (.ow [28] [29] 71 (x4.Blocks : List (List UInt8)))), .fact 100034 (.at 34 (.ow [30] [] 4 (x4.Dirty : List Bool))), .fact 100035 (.at 35 (.rep [] x4.Phase)), .fact 100036 (.at 36 (.rep [] x4.Deals)), .fact 100037 (.at 37 (.rep [] x4.Seq)), .fact 902001 (.cst (u1 1) (Fact.rep [0] (a1 : List Head))), .fact 902007 (.cst (u1 7) (Fact.isv 17)), .fact 902009 (.cst (u1 9) (Fact.ow [26] [27] 45 (x3 : List Head))), .fact 902010 (.cst (u1 10) (Fact.isv 31)), .fact 902015 (.cst (u1 15) (Fact.ow [42] [43] 45 (x7.1 : List Head))), .fact 902019 (.cst (u1 19) (Fact.rep [] ((((x9 && (x5.2 == x6.2)) && x10) && (x7.2 == x8.2)) : Bool))), .fact 100017 (.obj 17 [(false, 1), (false, 1), (false, 1), (false, 1), (false, 1), (false, 1)]), .fact 100031 (.obj 31 [(false, 1), (false, 1), (false, 1), (false, 1), (false, 1), (false, 1)])]) (FA := [Fact.ow [38] [39] 45 (x5.1 : List Head)]) rfl Try.func19 rfl rfl rfl (CallOk.fn en19 (HasF.cons (Has.s rfl) HasF.nil)) (fun u1 => (ck (ck (ck (ck (ck (ck (ck (ck (ck (ck (ck (ck (cs 902000 1 (cs 902000 7 (cs 902000 9 (cs 902000 10 (cs 902000 15 (cs 902000 19 (ck (ck Carry.nil))))))))))))))))))))) (fun u1 => ?_) ?_
  ·refine CWalk.seq ?_
   refine CWalk.region ?_
   refine wo (Spec.assign Has.int) ?_
   refine Walk.nil ?_
   refine Leaf.thenN ?_
   refine CWalk.block ?_
   obtain ⟨b60, hb60, hm⟩ := bind_some hm
   refine CWalk.loop (fun s : Int => [.fact 0 (.lo [38, 39] x5.1), .fact 2 (.rep [] (s : Int)), .fact 902001 (.cst (u1 1) (Fact.rep [0] (a1 : List Head))), .fact 902007 (.cst (u1 7) (Fact.isv 17)), .fact 902009 (.cst (u1 9) (Fact.ow [26] [27] 45 (x3 : List Head))), .fact 902010 (.cst (u1 10) (Fact.isv 31)), .fact 902015 (.cst (u1 15) (Fact.ow [42] [43] 45 (x7.1 : List Head))), .fact 902019 (.cst (u1 19) (Fact.rep [] ((((x9 && (x5.2 == x6.2)) && x10) && (x7.2 == x8.2)) : Bool))), .fact 100018 (.at 18 (.rep [] a3.Stripe)), .fact 100019 (.at 19 (.rep [0] a3.Blocks)), .fact 100020 (.at 20 (.rep [0] a3.Dirty)), .fact 100021 (.at 21 (.rep [] a3.Phase)), .fact 100022 (.at 22 (.rep [] a3.Deals)), .fact 100023 (.at 23 (.rep [] a3.Seq)), .fact 100032 (.at 32 (.rep [] x4.Stripe)), .fact 100033 (.at 33 (.ow [28] [29] 71 (x4.Blocks : List (List UInt8)))), .fact 100034 (.at 34 (.ow [30] [] 4 (x4.Dirty : List Bool))), .fact 100035 (.at 35 (.rep [] x4.Phase)), .fact 100036 (.at 36 (.rep [] x4.Deals)), .fact 100037 (.at 37 (.rep [] x4.Seq)), .fact 100017 (.obj 17 [(false, 1), (false, 1), (false, 1), (false, 1), (false, 1), (false, 1)]), .fact 100031 (.obj 31 [(false, 1), (false, 1), (false, 1), (false, 1), (false, 1), (false, 1)])]) (fun b : Unit => (Exit.exit 0, [.fact 902001 (.cst (u1 1) (Fact.rep [0] (a1 : List Head))), .fact 902007 (.cst (u1 7) (Fact.isv 17)), .fact 902009 (.cst (u1 9) (Fact.ow [26] [27] 45 (x3 : List Head))), .fact 902010 (.cst (u1 10) (Fact.isv 31)), .fact 902015 (.cst (u1 15) (Fact.ow [42] [43] 45 (x7.1 : List Head))), .fact 902019 (.cst (u1 19) (Fact.rep [] ((((x9 && (x5.2 == x6.2)) && x10) && (x7.2 == x8.2)) : Bool))), .fact 100018 (.at 18 (.rep [] a3.Stripe)), .fact 100019 (.at 19 (.rep [0] a3.Blocks)), .fact 100020 (.at 20 (.rep [0] a3.Dirty)), .fact 100021 (.at 21 (.rep [] a3.Phase)), .fact 100022 (.at 22 (.rep [] a3.Deals)), .fact 100023 (.at 23 (.rep [] a3.Seq)), .fact 100032 (.at 32 (.rep [] x4.Stripe)), .fact 100033 (.at 33 (.ow [28] [29] 71 (x4.Blocks : List (List UInt8)))), .fact 100034 (.at 34 (.ow [30] [] 4 (x4.Dirty : List Bool))), .fact 100035 (.at 35 (.rep [] x4.Phase)), .fact 100036 (.at 36 (.rep [] x4.Deals)), .fact 100037 (.at 37 (.rep [] x4.Seq)), .fact 100017 (.obj 17 [(false, 1), (false, 1), (false, 1), (false, 1), (false, 1), (false, 1)]), .fact 100031 (.obj 31 [(false, 1), (false, 1), (false, 1), (false, 1), (false, 1), (false, 1)])])) hb60 (Sub.cons (Has.cv (Has.s rfl) (Cv.trans (Cv.trans Cv.owSl (Cv.slRep (T' := [38, 39]) rfl rfl)) (Cv.lo rfl))) (st (Sub.cons (Has.cst (HasC.cv (HasC.s (s := 902001) rfl) (Cv.m rfl))) (sc (Sub.cons (Has.cst (HasC.cv (HasC.s (s := 902009) rfl) (Cv.owM (T := [26]) (te := [27]) rfl rfl))) (sc (Sub.cons (Has.cst (HasC.cv (HasC.s (s := 902015) rfl) (Cv.owM (T := [42]) (te := [43]) rfl rfl))) (Sub.cons (Has.cst (HasC.cv (HasC.s (s := 902019) rfl) Cv.fl)) (sf (sm (sm (sf (sf (sf (sf (Sub.cons (Has.at (HasG.cv (HasG.s rfl) (Cv.owM (T := [28]) (te := [29]) rfl rfl))) (Sub.cons (Has.at (HasG.cv (HasG.s rfl) (Cv.owF (T := [30]) (te := []) rfl))) (sf (sf (sf (sn (sn Sub.nil)))))))))))))))))))))) ?_ ?_
   ·rintro s37 c38 hm
    replace hm : law19_ShelfTurns_L7 x5 s37 = some c38 := hm
    unfold law19_ShelfTurns_L7 at hm
    show CWalk _ [.fact 0 (.lo [38, 39] x5.1), .fact 2 (.rep [] (s37 : Int)), .fact 902001 (.cst (u1 1) (Fact.rep [0] (a1 : List Head))), .fact 902007 (.cst (u1 7) (Fact.isv 17)), .fact 902009 (.cst (u1 9) (Fact.ow [26] [27] 45 (x3 : List Head))), .fact 902010 (.cst (u1 10) (Fact.isv 31)), .fact 902015 (.cst (u1 15) (Fact.ow [42] [43] 45 (x7.1 : List Head))), .fact 902019 (.cst (u1 19) (Fact.rep [] ((((x9 && (x5.2 == x6.2)) && x10) && (x7.2 == x8.2)) : Bool))), .fact 100018 (.at 18 (.rep [] a3.Stripe)), .fact 100019 (.at 19 (.rep [0] a3.Blocks)), .fact 100020 (.at 20 (.rep [0] a3.Dirty)), .fact 100021 (.at 21 (.rep [] a3.Phase)), .fact 100022 (.at 22 (.rep [] a3.Deals)), .fact 100023 (.at 23 (.rep [] a3.Seq)), .fact 100032 (.at 32 (.rep [] x4.Stripe)), .fact 100033 (.at 33 (.ow [28] [29] 71 (x4.Blocks : List (List UInt8)))), .fact 100034 (.at 34 (.ow [30] [] 4 (x4.Dirty : List Bool))), .fact 100035 (.at 35 (.rep [] x4.Phase)), .fact 100036 (.at 36 (.rep [] x4.Deals)), .fact 100037 (.at 37 (.rep [] x4.Seq)), .fact 100017 (.obj 17 [(false, 1), (false, 1), (false, 1), (false, 1), (false, 1), (false, 1)]), .fact 100031 (.obj 31 [(false, 1), (false, 1), (false, 1), (false, 1), (false, 1), (false, 1)])] _ _
    refine CWalk.seq ?_
    refine CWalk.seq ?_
    refine CWalk.region ?_
    refine mv ?_
    refine mv ?_
    refine wo (Spec.lenLo (Has.s rfl) Try.underlying25) ?_
    refine wo (Spec.lssI (Has.s rfl) (Has.s rfl)) ?_
    refine Walk.nil ?_
    refine Leaf.thenN ?_
    refine CWalk.cond rfl (fun hb => ?_) (fun hb => ?_)
    ·have hm := cond_t hb hm
     refine CWalk.skip ?_
     refine Leaf.thenN ?_
     refine CWalk.seq ?_
     refine CWalk.block ?_
     refine CWalk.seq ?_
     refine CWalk.seq ?_
     refine CWalk.region ?_
     refine wo (Spec.assign Has.int) ?_
     refine Walk.nil ?_
     refine Leaf.thenN ?_
     refine CWalk.block ?_
     obtain ⟨b51, hb51, hm⟩ := bind_some hm
     refine CWalk.loop (fun s : Int => [.fact 0 (.lo [38, 39] x5.1), .fact 2 (.rep [] (s37 : Int)), .fact 3 (.rep [] (s : Int)), .fact 902001 (.cst (u1 1) (Fact.rep [0] (a1 : List Head))), .fact 902007 (.cst (u1 7) (Fact.isv 17)), .fact 902009 (.cst (u1 9) (Fact.ow [26] [27] 45 (x3 : List Head))), .fact 902010 (.cst (u1 10) (Fact.isv 31)), .fact 902015 (.cst (u1 15) (Fact.ow [42] [43] 45 (x7.1 : List Head))), .fact 902019 (.cst (u1 19) (Fact.rep [] ((((x9 && (x5.2 == x6.2)) && x10) && (x7.2 == x8.2)) : Bool))), .fact 100018 (.at 18 (.rep [] a3.Stripe)), .fact 100019 (.at 19 (.rep [0] a3.Blocks)), .fact 100020 (.at 20 (.rep [0] a3.Dirty)), .fact 100021 (.at 21 (.rep [] a3.Phase)), .fact 100022 (.at 22 (.rep [] a3.Deals)), .fact 100023 (.at 23 (.rep [] a3.Seq)), .fact 100032 (.at 32 (.rep [] x4.Stripe)), .fact 100033 (.at 33 (.ow [28] [29] 71 (x4.Blocks : List (List UInt8)))), .fact 100034 (.at 34 (.ow [30] [] 4 (x4.Dirty : List Bool))), .fact 100035 (.at 35 (.rep [] x4.Phase)), .fact 100036 (.at 36 (.rep [] x4.Deals)), .fact 100037 (.at 37 (.rep [] x4.Seq)), .fact 100017 (.obj 17 [(false, 1), (false, 1), (false, 1), (false, 1), (false, 1), (false, 1)]), .fact 100031 (.obj 31 [(false, 1), (false, 1), (false, 1), (false, 1), (false, 1), (false, 1)])]) (fun b : Unit => (Exit.exit 2, [.fact 0 (.lo [38, 39] x5.1), .fact 2 (.rep [] (s37 : Int)), .fact 902001 (.cst (u1 1) (Fact.rep [0] (a1 : List Head))), .fact 902007 (.cst (u1 7) (Fact.isv 17)), .fact 902009 (.cst (u1 9) (Fact.ow [26] [27] 45 (x3 : List Head))), .fact 902010 (.cst (u1 10) (Fact.isv 31)), .fact 902015 (.cst (u1 15) (Fact.ow [42] [43] 45 (x7.1 : List Head))), .fact 902019 (.cst (u1 19) (Fact.rep [] ((((x9 && (x5.2 == x6.2)) && x10) && (x7.2 == x8.2)) : Bool))), .fact 100018 (.at 18 (.rep [] a3.Stripe)), .fact 100019 (.at 19 (.rep [0] a3.Blocks)), .fact 100020 (.at 20 (.rep [0] a3.Dirty)), .fact 100021 (.at 21 (.rep [] a3.Phase)), .fact 100022 (.at 22 (.rep [] a3.Deals)), .fact 100023 (.at 23 (.rep [] a3.Seq)), .fact 100032 (.at 32 (.rep [] x4.Stripe)), .fact 100033 (.at 33 (.ow [28] [29] 71 (x4.Blocks : List (List UInt8)))), .fact 100034 (.at 34 (.ow [30] [] 4 (x4.Dirty : List Bool))), .fact 100035 (.at 35 (.rep [] x4.Phase)), .fact 100036 (.at 36 (.rep [] x4.Deals)), .fact 100037 (.at 37 (.rep [] x4.Seq)), .fact 100017 (.obj 17 [(false, 1), (false, 1), (false, 1), (false, 1), (false, 1), (false, 1)]), .fact 100031 (.obj 31 [(false, 1), (false, 1), (false, 1), (false, 1), (false, 1), (false, 1)])])) hb51 (sn (st (st (Sub.cons (Has.cst (HasC.cv (HasC.s (s := 902001) rfl) (Cv.m rfl))) (sc (Sub.cons (Has.cst (HasC.cv (HasC.s (s := 902009) rfl) (Cv.owM (T := [26]) (te := [27]) rfl rfl))) (sc (Sub.cons (Has.cst (HasC.cv (HasC.s (s := 902015) rfl) (Cv.owM (T := [42]) (te := [43]) rfl rfl))) (Sub.cons (Has.cst (HasC.cv (HasC.s (s := 902019) rfl) Cv.fl)) (sf (sm (sm (sf (sf (sf (sf (Sub.cons (Has.at (HasG.cv (HasG.s rfl) (Cv.owM (T := [28]) (te := [29]) rfl rfl))) (Sub.cons (Has.at (HasG.cv (HasG.s rfl) (Cv.owF (T := [30]) (te := []) rfl))) (sf (sf (sf (sn (sn Sub.nil))))))))))))))))))))))) ?_ ?_
     ·rintro s39 c40 hm
      replace hm : law19_ShelfTurns_L8 x5 s37 s39 = some c40 := hm
      unfold law19_ShelfTurns_L8 at hm
      show CWalk _ [.fact 0 (.lo [38, 39] x5.1), .fact 2 (.rep [] (s37 : Int)), .fact 3 (.rep [] (s39 : Int)), .fact 902001 (.cst (u1 1) (Fact.rep [0] (a1 : List Head))), .fact 902007 (.cst (u1 7) (Fact.isv 17)), .fact 902009 (.cst (u1 9) (Fact.ow [26] [27] 45 (x3 : List Head))), .fact 902010 (.cst (u1 10) (Fact.isv 31)), .fact 902015 (.cst (u1 15) (Fact.ow [42] [43] 45 (x7.1 : List Head))), .fact 902019 (.cst (u1 19) (Fact.rep [] ((((x9 && (x5.2 == x6.2)) && x10) && (x7.2 == x8.2)) : Bool))), .fact 100018 (.at 18 (.rep [] a3.Stripe)), .fact 100019 (.at 19 (.rep [0] a3.Blocks)), .fact 100020 (.at 20 (.rep [0] a3.Dirty)), .fact 100021 (.at 21 (.rep [] a3.Phase)), .fact 100022 (.at 22 (.rep [] a3.Deals)), .fact 100023 (.at 23 (.rep [] a3.Seq)), .fact 100032 (.at 32 (.rep [] x4.Stripe)), .fact 100033 (.at 33 (.ow [28] [29] 71 (x4.Blocks : List (List UInt8)))), .fact 100034 (.at 34 (.ow [30] [] 4 (x4.Dirty : List Bool))), .fact 100035 (.at 35 (.rep [] x4.Phase)), .fact 100036 (.at 36 (.rep [] x4.Deals)), .fact 100037 (.at 37 (.rep [] x4.Seq)), .fact 100017 (.obj 17 [(false, 1), (false, 1), (false, 1), (false, 1), (false, 1), (false, 1)]), .fact 100031 (.obj 31 [(false, 1), (false, 1), (false, 1), (false, 1), (false, 1), (false, 1)])] _ _
      refine CWalk.seq ?_
      refine CWalk.seq ?_
      refine CWalk.region ?_
      refine mv ?_
      refine mv ?_
      refine mv ?_
      obtain ⟨x41, hx41, hm⟩ := bind_some hm
      refine wo (Spec.idxLo hx41 sl25 (Has.s rfl) (Has.s rfl)) ?_
      refine wo (Spec.fieldLo fd45_1 (loHead_1 _) (Has.s rfl)) ?_
      refine wo (Spec.loadLo ty42 (Has.s rfl)) ?_
      refine wo (Spec.lenLo (Has.s rfl) Try.underlying42) ?_
      refine wo (Spec.lssI (Has.s rfl) (Has.s rfl)) ?_
      refine Walk.nil ?_
      refine Leaf.thenN ?_
      refine CWalk.cond rfl (fun hb => ?_) (fun hb => ?_)
      ·have hm := cond_t hb hm
       refine CWalk.skip ?_
       refine Leaf.thenN ?_
       refine CWalk.seq ?_
       refine CWalk.block ?_
       refine CWalk.seq ?_
       refine CWalk.region ?_
       refine wo (Spec.assign Has.int) ?_
       refine Walk.nil ?_
       refine Leaf.thenN ?_
       refine CWalk.block ?_
       obtain ⟨b50, hb50, hm⟩ := bind_some hm
       refine CWalk.loop (fun s : Int => [.fact 0 (.lo [38, 39] x5.1), .fact 2 (.rep [] (s37 : Int)), .fact 3 (.rep [] (s39 : Int)), .fact 4 (.rep [] (s : Int)), .fact 902001 (.cst (u1 1) (Fact.rep [0] (a1 : List Head))), .fact 902007 (.cst (u1 7) (Fact.isv 17)), .fact 902009 (.cst (u1 9) (Fact.ow [26] [27] 45 (x3 : List Head))), .fact 902010 (.cst (u1 10) (Fact.isv 31)), .fact 902015 (.cst (u1 15) (Fact.ow [42] [43] 45 (x7.1 : List Head))), .fact 902019 (.cst (u1 19) (Fact.rep [] ((((x9 && (x5.2 == x6.2)) && x10) && (x7.2 == x8.2)) : Bool))), .fact 100018 (.at 18 (.rep [] a3.Stripe)), .fact 100019 (.at 19 (.rep [0] a3.Blocks)), .fact 100020 (.at 20 (.rep [0] a3.Dirty)), .fact 100021 (.at 21 (.rep [] a3.Phase)), .fact 100022 (.at 22 (.rep [] a3.Deals)), .fact 100023 (.at 23 (.rep [] a3.Seq)), .fact 100032 (.at 32 (.rep [] x4.Stripe)), .fact 100033 (.at 33 (.ow [28] [29] 71 (x4.Blocks : List (List UInt8)))), .fact 100034 (.at 34 (.ow [30] [] 4 (x4.Dirty : List Bool))), .fact 100035 (.at 35 (.rep [] x4.Phase)), .fact 100036 (.at 36 (.rep [] x4.Deals)), .fact 100037 (.at 37 (.rep [] x4.Seq)), .fact 100017 (.obj 17 [(false, 1), (false, 1), (false, 1), (false, 1), (false, 1), (false, 1)]), .fact 100031 (.obj 31 [(false, 1), (false, 1), (false, 1), (false, 1), (false, 1), (false, 1)])]) (fun b : Unit => (Exit.exit 4, [.fact 0 (.lo [38, 39] x5.1), .fact 2 (.rep [] (s37 : Int)), .fact 3 (.rep [] (s39 : Int)), .fact 902001 (.cst (u1 1) (Fact.rep [0] (a1 : List Head))), .fact 902007 (.cst (u1 7) (Fact.isv 17)), .fact 902009 (.cst (u1 9) (Fact.ow [26] [27] 45 (x3 : List Head))), .fact 902010 (.cst (u1 10) (Fact.isv 31)), .fact 902015 (.cst (u1 15) (Fact.ow [42] [43] 45 (x7.1 : List Head))), .fact 902019 (.cst (u1 19) (Fact.rep [] ((((x9 && (x5.2 == x6.2)) && x10) && (x7.2 == x8.2)) : Bool))), .fact 100018 (.at 18 (.rep [] a3.Stripe)), .fact 100019 (.at 19 (.rep [0] a3.Blocks)), .fact 100020 (.at 20 (.rep [0] a3.Dirty)), .fact 100021 (.at 21 (.rep [] a3.Phase)), .fact 100022 (.at 22 (.rep [] a3.Deals)), .fact 100023 (.at 23 (.rep [] a3.Seq)), .fact 100032 (.at 32 (.rep [] x4.Stripe)), .fact 100033 (.at 33 (.ow [28] [29] 71 (x4.Blocks : List (List UInt8)))), .fact 100034 (.at 34 (.ow [30] [] 4 (x4.Dirty : List Bool))), .fact 100035 (.at 35 (.rep [] x4.Phase)), .fact 100036 (.at 36 (.rep [] x4.Deals)), .fact 100037 (.at 37 (.rep [] x4.Seq)), .fact 100017 (.obj 17 [(false, 1), (false, 1), (false, 1), (false, 1), (false, 1), (false, 1)]), .fact 100031 (.obj 31 [(false, 1), (false, 1), (false, 1), (false, 1), (false, 1), (false, 1)])])) hb50 (sn (st (st (st (Sub.cons (Has.cst (HasC.cv (HasC.s (s := 902001) rfl) (Cv.m rfl))) (sc (Sub.cons (Has.cst (HasC.cv (HasC.s (s := 902009) rfl) (Cv.owM (T := [26]) (te := [27]) rfl rfl))) (sc (Sub.cons (Has.cst (HasC.cv (HasC.s (s := 902015) rfl) (Cv.owM (T := [42]) (te := [43]) rfl rfl))) (Sub.cons (Has.cst (HasC.cv (HasC.s (s := 902019) rfl) Cv.fl)) (sf (sm (sm (sf (sf (sf (sf (Sub.cons (Has.at (HasG.cv (HasG.s rfl) (Cv.owM (T := [28]) (te := [29]) rfl rfl))) (Sub.cons (Has.at (HasG.cv (HasG.s rfl) (Cv.owF (T := [30]) (te := []) rfl))) (sf (sf (sf (sn (sn Sub.nil)))))))))))))))))))))))) ?_ ?_
       ·rintro s42 c43 hm
        replace hm : law19_ShelfTurns_L9 x5 s37 s39 s42 = some c43 := hm
        unfold law19_ShelfTurns_L9 at hm
        show CWalk _ [.fact 0 (.lo [38, 39] x5.1), .fact 2 (.rep [] (s37 : Int)), .fact 3 (.rep [] (s39 : Int)), .fact 4 (.rep [] (s42 : Int)), .fact 902001 (.cst (u1 1) (Fact.rep [0] (a1 : List Head))), .fact 902007 (.cst (u1 7) (Fact.isv 17)), .fact 902009 (.cst (u1 9) (Fact.ow [26] [27] 45 (x3 : List Head))), .fact 902010 (.cst (u1 10) (Fact.isv 31)), .fact 902015 (.cst (u1 15) (Fact.ow [42] [43] 45 (x7.1 : List Head))), .fact 902019 (.cst (u1 19) (Fact.rep [] ((((x9 && (x5.2 == x6.2)) && x10) && (x7.2 == x8.2)) : Bool))), .fact 100018 (.at 18 (.rep [] a3.Stripe)), .fact 100019 (.at 19 (.rep [0] a3.Blocks)), .fact 100020 (.at 20 (.rep [0] a3.Dirty)), .fact 100021 (.at 21 (.rep [] a3.Phase)), .fact 100022 (.at 22 (.rep [] a3.Deals)), .fact 100023 (.at 23 (.rep [] a3.Seq)), .fact 100032 (.at 32 (.rep [] x4.Stripe)), .fact 100033 (.at 33 (.ow [28] [29] 71 (x4.Blocks : List (List UInt8)))), .fact 100034 (.at 34 (.ow [30] [] 4 (x4.Dirty : List Bool))), .fact 100035 (.at 35 (.rep [] x4.Phase)), .fact 100036 (.at 36 (.rep [] x4.Deals)), .fact 100037 (.at 37 (.rep [] x4.Seq)), .fact 100017 (.obj 17 [(false, 1), (false, 1), (false, 1), (false, 1), (false, 1), (false, 1)]), .fact 100031 (.obj 31 [(false, 1), (false, 1), (false, 1), (false, 1), (false, 1), (false, 1)])] _ _
        refine CWalk.seq ?_
        refine CWalk.seq ?_
        refine CWalk.region ?_
        refine mv ?_
        refine mv ?_
        refine mv ?_
        obtain ⟨x44, hx44, hm⟩ := bind_some hm
        refine wo (Spec.idxLo hx44 sl25 (Has.s rfl) (Has.s rfl)) ?_
        refine wo (Spec.fieldLo fd45_1 (loHead_1 _) (Has.s rfl)) ?_
        refine wo (Spec.loadLo ty42 (Has.s rfl)) ?_
        refine mv ?_
        obtain ⟨x45, hx45, hm⟩ := bind_some hm
        refine wo (Spec.idxLo hx45 sl42 (Has.s rfl) (Has.s rfl)) ?_
        refine wo (Spec.loadLo ty71 (Has.s rfl)) ?_
        refine wo (Spec.lenLo (Has.s rfl) Try.underlying71) ?_
        refine wo (Spec.lssI (Has.s rfl) (Has.s rfl)) ?_
        refine Walk.nil ?_
        refine Leaf.thenN ?_
        refine CWalk.cond rfl (fun hb => ?_) (fun hb => ?_)
        ·have hm := cond_t hb hm
         refine CWalk.skip ?_
         refine Leaf.thenN ?_
         refine CWalk.seq ?_
         refine CWalk.block ?_
         refine CWalk.region ?_
         refine mv ?_
         refine mv ?_
         obtain ⟨x46, hx46, hm⟩ := bind_some hm
         refine wo (Spec.idxLo hx46 sl25 (Has.s rfl) (Has.s rfl)) ?_
         refine wo (Spec.fieldLo fd45_1 (loHead_1 _) (Has.s rfl)) ?_
         refine wo (Spec.loadLo ty42 (Has.s rfl)) ?_
         refine mv ?_
         obtain ⟨x47, hx47, hm⟩ := bind_some hm
         refine wo (Spec.idxLo hx47 sl42 (Has.s rfl) (Has.s rfl)) ?_
         refine wo (Spec.loadLo ty71 (Has.s rfl)) ?_
         refine mv ?_
         obtain ⟨x48, hx48, hm⟩ := bind_some hm
         refine wo (Spec.idxLo hx48 sl71 (Has.s rfl) (Has.s rfl)) ?_
         refine wo (Spec.loadLo ty5 (Has.s rfl)) ?_
         refine wo (Spec.add8Lo (Has.s rfl) (Has.u8 1 rfl)) ?_
         obtain ⟨x49, hx49, hm⟩ := bind_some hm
         refine wo (Spec.idxLo hx49 sl71 (Has.s rfl) (Has.s rfl)) ?_
         refine ws (Step.storeL (T := [38, 39]) (LL := [.fact 0 (.lo [38, 39] x5.1)]) rfl ty5 (Has.s rfl) (Has.s rfl) (LooseL.lo rfl LooseL.nil)) ?_
         refine Walk.nil ?_
         refine Leaf.blockN ?_
         refine Leaf.thenN ?_
         refine CWalk.region ?_
         refine mv ?_
         refine wo (Spec.addI (Has.s rfl) Has.int) ?_
         refine wo (Spec.assign (Has.s rfl)) ?_
         refine Walk.nil ?_
         exact Leaf.next hm (sn (st (st (st (Sub.cons (Has.cst (HasC.cv (HasC.s (s := 902001) rfl) (Cv.m rfl))) (sc (Sub.cons (Has.cst (HasC.cv (HasC.s (s := 902009) rfl) (Cv.owM (T := [26]) (te := [27]) rfl rfl))) (sc (Sub.cons (Has.cst (HasC.cv (HasC.s (s := 902015) rfl) (Cv.owM (T := [42]) (te := [43]) rfl rfl))) (Sub.cons (Has.cst (HasC.cv (HasC.s (s := 902019) rfl) Cv.fl)) (sf (sm (sm (sf (sf (sf (sf (Sub.cons (Has.at (HasG.cv (HasG.s rfl) (Cv.owM (T := [28]) (te := [29]) rfl rfl))) (Sub.cons (Has.at (HasG.cv (HasG.s rfl) (Cv.owF (T := [30]) (te := []) rfl))) (sf (sf (sf (sn (sn Sub.nil))))))))))))))))))))))))
        ·have hm := cond_f hb hm
         refine CWalk.exit ?_
         refine Leaf.thenE ?_
         exact Leaf.brk hm (fun h => nomatch h) rfl (sn (st (st (Sub.cons (Has.cst (HasC.cv (HasC.s (s := 902001) rfl) (Cv.m rfl))) (sc (Sub.cons (Has.cst (HasC.cv (HasC.s (s := 902009) rfl) (Cv.owM (T := [26]) (te := [27]) rfl rfl))) (sc (Sub.cons (Has.cst (HasC.cv (HasC.s (s := 902015) rfl) (Cv.owM (T := [42]) (te := [43]) rfl rfl))) (Sub.cons (Has.cst (HasC.cv (HasC.s (s := 902019) rfl) Cv.fl)) (sf (sm (sm (sf (sf (sf (sf (Sub.cons (Has.at (HasG.cv (HasG.s rfl) (Cv.owM (T := [28]) (te := [29]) rfl rfl))) (Sub.cons (Has.at (HasG.cv (HasG.s rfl) (Cv.owF (T := [30]) (te := []) rfl))) (sf (sf (sf (sn (sn Sub.nil)))))))))))))))))))))))
       ·intro _
        refine Leaf.blockE ?_
        refine Leaf.blockN ?_
        refine Leaf.thenN ?_
        refine CWalk.region ?_
        refine mv ?_
        refine wo (Spec.addI (Has.s rfl) Has.int) ?_
        refine wo (Spec.assign (Has.s rfl)) ?_
        refine Walk.nil ?_
        exact Leaf.next hm (sn (st (st (Sub.cons (Has.cst (HasC.cv (HasC.s (s := 902001) rfl) (Cv.m rfl))) (sc (Sub.cons (Has.cst (HasC.cv (HasC.s (s := 902009) rfl) (Cv.owM (T := [26]) (te := [27]) rfl rfl))) (sc (Sub.cons (Has.cst (HasC.cv (HasC.s (s := 902015) rfl) (Cv.owM (T := [42]) (te := [43]) rfl rfl))) (Sub.cons (Has.cst (HasC.cv (HasC.s (s := 902019) rfl) Cv.fl)) (sf (sm (sm (sf (sf (sf (sf (Sub.cons (Has.at (HasG.cv (HasG.s rfl) (Cv.owM (T := [28]) (te := [29]) rfl rfl))) (Sub.cons (Has.at (HasG.cv (HasG.s rfl) (Cv.owF (T := [30]) (te := []) rfl))) (sf (sf (sf (sn (sn Sub.nil)))))))))))))))))))))))
      ·have hm := cond_f hb hm
       refine CWalk.exit ?_
       refine Leaf.thenE ?_
       exact Leaf.brk hm (fun h => nomatch h) rfl (sn (st (Sub.cons (Has.cst (HasC.cv (HasC.s (s := 902001) rfl) (Cv.m rfl))) (sc (Sub.cons (Has.cst (HasC.cv (HasC.s (s := 902009) rfl) (Cv.owM (T := [26]) (te := [27]) rfl rfl))) (sc (Sub.cons (Has.cst (HasC.cv (HasC.s (s := 902015) rfl) (Cv.owM (T := [42]) (te := [43]) rfl rfl))) (Sub.cons (Has.cst (HasC.cv (HasC.s (s := 902019) rfl) Cv.fl)) (sf (sm (sm (sf (sf (sf (sf (Sub.cons (Has.at (HasG.cv (HasG.s rfl) (Cv.owM (T := [28]) (te := [29]) rfl rfl))) (Sub.cons (Has.at (HasG.cv (HasG.s rfl) (Cv.owF (T := [30]) (te := []) rfl))) (sf (sf (sf (sn (sn Sub.nil))))))))))))))))))))))
     ·intro _
      refine Leaf.blockE ?_
      refine Leaf.thenN ?_
      refine CWalk.seq ?_
      refine CWalk.region ?_
      refine wo (Spec.assign Has.int) ?_
      refine Walk.nil ?_
      refine Leaf.thenN ?_
      refine CWalk.block ?_
      obtain ⟨b59, hb59, hm⟩ := bind_some hm
      refine CWalk.loop (fun s : Int => [.fact 0 (.lo [38, 39] x5.1), .fact 2 (.rep [] (s37 : Int)), .fact 5 (.rep [] (s : Int)), .fact 902001 (.cst (u1 1) (Fact.rep [0] (a1 : List Head))), .fact 902007 (.cst (u1 7) (Fact.isv 17)), .fact 902009 (.cst (u1 9) (Fact.ow [26] [27] 45 (x3 : List Head))), .fact 902010 (.cst (u1 10) (Fact.isv 31)), .fact 902015 (.cst (u1 15) (Fact.ow [42] [43] 45 (x7.1 : List Head))), .fact 902019 (.cst (u1 19) (Fact.rep [] ((((x9 && (x5.2 == x6.2)) && x10) && (x7.2 == x8.2)) : Bool))), .fact 100018 (.at 18 (.rep [] a3.Stripe)), .fact 100019 (.at 19 (.rep [0] a3.Blocks)), .fact 100020 (.at 20 (.rep [0] a3.Dirty)), .fact 100021 (.at 21 (.rep [] a3.Phase)), .fact 100022 (.at 22 (.rep [] a3.Deals)), .fact 100023 (.at 23 (.rep [] a3.Seq)), .fact 100032 (.at 32 (.rep [] x4.Stripe)), .fact 100033 (.at 33 (.ow [28] [29] 71 (x4.Blocks : List (List UInt8)))), .fact 100034 (.at 34 (.ow [30] [] 4 (x4.Dirty : List Bool))), .fact 100035 (.at 35 (.rep [] x4.Phase)), .fact 100036 (.at 36 (.rep [] x4.Deals)), .fact 100037 (.at 37 (.rep [] x4.Seq)), .fact 100017 (.obj 17 [(false, 1), (false, 1), (false, 1), (false, 1), (false, 1), (false, 1)]), .fact 100031 (.obj 31 [(false, 1), (false, 1), (false, 1), (false, 1), (false, 1), (false, 1)])]) (fun b : Unit => (Exit.exit 6, [.fact 0 (.lo [38, 39] x5.1), .fact 2 (.rep [] (s37 : Int)), .fact 902001 (.cst (u1 1) (Fact.rep [0] (a1 : List Head))), .fact 902007 (.cst (u1 7) (Fact.isv 17)), .fact 902009 (.cst (u1 9) (Fact.ow [26] [27] 45 (x3 : List Head))), .fact 902010 (.cst (u1 10) (Fact.isv 31)), .fact 902015 (.cst (u1 15) (Fact.ow [42] [43] 45 (x7.1 : List Head))), .fact 902019 (.cst (u1 19) (Fact.rep [] ((((x9 && (x5.2 == x6.2)) && x10) && (x7.2 == x8.2)) : Bool))), .fact 100018 (.at 18 (.rep [] a3.Stripe)), .fact 100019 (.at 19 (.rep [0] a3.Blocks)), .fact 100020 (.at 20 (.rep [0] a3.Dirty)), .fact 100021 (.at 21 (.rep [] a3.Phase)), .fact 100022 (.at 22 (.rep [] a3.Deals)), .fact 100023 (.at 23 (.rep [] a3.Seq)), .fact 100032 (.at 32 (.rep [] x4.Stripe)), .fact 100033 (.at 33 (.ow [28] [29] 71 (x4.Blocks : List (List UInt8)))), .fact 100034 (.at 34 (.ow [30] [] 4 (x4.Dirty : List Bool))), .fact 100035 (.at 35 (.rep [] x4.Phase)), .fact 100036 (.at 36 (.rep [] x4.Deals)), .fact 100037 (.at 37 (.rep [] x4.Seq)), .fact 100017 (.obj 17 [(false, 1), (false, 1), (false, 1), (false, 1), (false, 1), (false, 1)]), .fact 100031 (.obj 31 [(false, 1), (false, 1), (false, 1), (false, 1), (false, 1), (false, 1)])])) hb59 (sn (st (st (Sub.cons (Has.cst (HasC.cv (HasC.s (s := 902001) rfl) (Cv.m rfl))) (sc (Sub.cons (Has.cst (HasC.cv (HasC.s (s := 902009) rfl) (Cv.owM (T := [26]) (te := [27]) rfl rfl))) (sc (Sub.cons (Has.cst (HasC.cv (HasC.s (s := 902015) rfl) (Cv.owM (T := [42]) (te := [43]) rfl rfl))) (Sub.cons (Has.cst (HasC.cv (HasC.s (s := 902019) rfl) Cv.fl)) (sf (sm (sm (sf (sf (sf (sf (Sub.cons (Has.at (HasG.cv (HasG.s rfl) (Cv.owM (T := [28]) (te := [29]) rfl rfl))) (Sub.cons (Has.at (HasG.cv (HasG.s rfl) (Cv.owF (T := [30]) (te := []) rfl))) (sf (sf (sf (sn (sn Sub.nil))))))))))))))))))))))) ?_ ?_
      ·rintro s52 c53 hm
       replace hm : law19_ShelfTurns_L10 x5 s37 s52 = some c53 := hm
       unfold law19_ShelfTurns_L10 at hm
       show CWalk _ [.fact 0 (.lo [38, 39] x5.1), .fact 2 (.rep [] (s37 : Int)), .fact 5 (.rep [] (s52 : Int)), .fact 902001 (.cst (u1 1) (Fact.rep [0] (a1 : List Head))), .fact 902007 (.cst (u1 7) (Fact.isv 17)), .fact 902009 (.cst (u1 9) (Fact.ow [26] [27] 45 (x3 : List Head))), .fact 902010 (.cst (u1 10) (Fact.isv 31)), .fact 902015 (.cst (u1 15) (Fact.ow [42] [43] 45 (x7.1 : List Head))), .fact 902019 (.cst (u1 19) (Fact.rep [] ((((x9 && (x5.2 == x6.2)) && x10) && (x7.2 == x8.2)) : Bool))), .fact 100018 (.at 18 (.rep [] a3.Stripe)), .fact 100019 (.at 19 (.rep [0] a3.Blocks)), .fact 100020 (.at 20 (.rep [0] a3.Dirty)), .fact 100021 (.at 21 (.rep [] a3.Phase)), .fact 100022 (.at 22 (.rep [] a3.Deals)), .fact 100023 (.at 23 (.rep [] a3.Seq)), .fact 100032 (.at 32 (.rep [] x4.Stripe)), .fact 100033 (.at 33 (.ow [28] [29] 71 (x4.Blocks : List (List UInt8)))), .fact 100034 (.at 34 (.ow [30] [] 4 (x4.Dirty : List Bool))), .fact 100035 (.at 35 (.rep [] x4.Phase)), .fact 100036 (.at 36 (.rep [] x4.Deals)), .fact 100037 (.at 37 (.rep [] x4.Seq)), .fact 100017 (.obj 17 [(false, 1), (false, 1), (false, 1), (false, 1), (false, 1), (false, 1)]), .fact 100031 (.obj 31 [(false, 1), (false, 1), (false, 1), (false, 1), (false, 1), (false, 1)])] _ _
       refine CWalk.seq ?_
       refine CWalk.seq ?_
       refine CWalk.region ?_
       refine mv ?_
       refine mv ?_
       refine mv ?_
       obtain ⟨x54, hx54, hm⟩ := bind_some hm
       refine wo (Spec.idxLo hx54 sl25 (Has.s rfl) (Has.s rfl)) ?_
       refine wo (Spec.fieldLo fd45_2 (loHead_2 _) (Has.s rfl)) ?_
       refine wo (Spec.loadLo ty43 (Has.s rfl)) ?_
       refine wo (Spec.lenLo (Has.s rfl) Try.underlying43) ?_
       refine wo (Spec.lssI (Has.s rfl) (Has.s rfl)) ?_
       refine Walk.nil ?_
       refine Leaf.thenN ?_
       refine CWalk.cond rfl (fun hb => ?_) (fun hb => ?_)
       ·have hm := cond_t hb hm
        refine CWalk.skip ?_
        refine Leaf.thenN ?_
        refine CWalk.seq ?_
        refine CWalk.block ?_
        obtain ⟨x55, hx55, hm⟩ := bind_some hm
        obtain ⟨x56, hx56, hm⟩ := bind_some hm
        obtain ⟨x57, hx57, hm⟩ := bind_some hm
        obtain ⟨x58, hx58, hm⟩ := bind_some hm
        refine CWalk.drawM [[], [], [0, 1], [0, 1, 2], [0, 1, 2, 3], [], [], [], [6, 7], [6, 7, 8], [6, 7, 8, 9], [], [6, 7, 8, 9, 10, 11], [6, 7, 8, 9, 10, 11, 12], [6, 7, 8, 9, 10, 11, 12, 13], [0, 1, 2, 3, 4, 5, 6, 7, 8, 9, 10, 11, 12, 13, 14], [0, 1, 2, 3, 4, 5, 6, 7, 8, 9, 10, 11, 12, 13, 14, 15]] [[.fact 58 (.lo [38, 39] x5.1)], [.fact 59 (.rep [] (s37 : Int))], [.fact 60 (.lptr [38, 39] (x55 : Head))], [.fact 61 (.lptr [38, 39] x55.Dirty)], [.fact 62 (.lo [38, 39] x55.Dirty)], [.fact 63 (.rep [] (s52 : Int))], [.fact 64 (.lo [38, 39] x5.1)], [.fact 65 (.rep [] (s37 : Int))], [.fact 66 (.lptr [38, 39] (x56 : Head))], [.fact 67 (.lptr [38, 39] x56.Dirty)], [.fact 68 (.lo [38, 39] x56.Dirty)], [.fact 69 (.rep [] (s52 : Int))], [.fact 70 (.lptr [38, 39] (x57 : Bool))], [.fact 71 (.lo [38, 39] (x57 : Bool))], [.fact 72 (.lo [] (false : Bool))], [.fact 73 (.lptr [38, 39] (x58 : Bool))], [.fact 0 (.lo [38, 39] x5.1), .fact 49 (.lo [38, 39] x5.1), .fact 51 (.lptr [38, 39] (x54 : Head)), .fact 52 (.lptr [38, 39] x54.Dirty), .fact 53 (.lo [38, 39] x54.Dirty), .fact 58 (.lo [38, 39] x5.1), .fact 60 (.lptr [38, 39] (x55 : Head)), .fact 61 (.lptr [38, 39] x55.Dirty), .fact 62 (.lo [38, 39] x55.Dirty), .fact 64 (.lo [38, 39] x5.1), .fact 66 (.lptr [38, 39] (x56 : Head)), .fact 67 (.lptr [38, 39] x56.Dirty), .fact 68 (.lo [38, 39] x56.Dirty), .fact 70 (.lptr [38, 39] (x57 : Bool)), .fact 71 (.lo [38, 39] (x57 : Bool)), .kill 38, .kill 39]] mixed (by kernel_rfl) (ao (so (Spec.move (Has.s rfl))) (ao (so (Spec.move (Has.s rfl))) (ao (so (Spec.idxLo hx55 sl25 (Has.s rfl) (Has.s rfl))) (ao (so (Spec.fieldLo fd45_2 (loHead_2 _) (Has.s rfl))) (ao (so (Spec.loadLo ty43 (Has.s rfl))) (ao (so (Spec.move (Has.s rfl))) (ao (so (Spec.move (Has.s rfl))) (ao (so (Spec.move (Has.s rfl))) (ao (so (Spec.idxLo hx56 sl25 (Has.s rfl) (Has.s rfl))) (ao (so (Spec.fieldLo fd45_2 (loHead_2 _) (Has.s rfl))) (ao (so (Spec.loadLo ty43 (Has.s rfl))) (ao (so (Spec.move (Has.s rfl))) (ao (so (Spec.idxLo hx57 sl43 (Has.s rfl) (Has.s rfl))) (ao (so (Spec.loadLo ty4 (Has.s rfl))) (ao (so (Spec.notLo (Has.s rfl))) (ao (so (Spec.idxLo hx58 sl43 (Has.s rfl) (Has.s rfl))) (ao (StepG.stE (Step.storeL (T := [38, 39]) (LL := [.fact 0 (.lo [38, 39] x5.1), .fact 49 (.lo [38, 39] x5.1), .fact 51 (.lptr [38, 39] (x54 : Head)), .fact 52 (.lptr [38, 39] x54.Dirty), .fact 53 (.lo [38, 39] x54.Dirty), .fact 58 (.lo [38, 39] x5.1), .fact 60 (.lptr [38, 39] (x55 : Head)), .fact 61 (.lptr [38, 39] x55.Dirty), .fact 62 (.lo [38, 39] x55.Dirty), .fact 64 (.lo [38, 39] x5.1), .fact 66 (.lptr [38, 39] (x56 : Head)), .fact 67 (.lptr [38, 39] x56.Dirty), .fact 68 (.lo [38, 39] x56.Dirty), .fact 70 (.lptr [38, 39] (x57 : Bool)), .fact 71 (.lo [38, 39] (x57 : Bool))]) rfl ty4 (Has.s rfl) (Has.s rfl) (LooseL.lo rfl (LooseL.lo rfl (LooseL.lptr rfl (LooseL.lptr rfl (LooseL.lo rfl (LooseL.lo rfl (LooseL.lptr rfl (LooseL.lptr rfl (LooseL.lo rfl (LooseL.lo rfl (LooseL.lptr rfl (LooseL.lptr rfl (LooseL.lo rfl (LooseL.lptr rfl (LooseL.lo rfl LooseL.nil))))))))))))))))) AllM.nil))))))))))))))))) ?_
        refine Leaf.blockN ?_
        refine Leaf.thenN ?_
        refine CWalk.region ?_
        refine mv ?_
        refine wo (Spec.addI (Has.s rfl) Has.int) ?_
        refine wo (Spec.assign (Has.s rfl)) ?_
        refine Walk.nil ?_
        exact Leaf.next hm (sn (st (st (Sub.cons (Has.cst (HasC.cv (HasC.s (s := 902001) rfl) (Cv.m rfl))) (sc (Sub.cons (Has.cst (HasC.cv (HasC.s (s := 902009) rfl) (Cv.owM (T := [26]) (te := [27]) rfl rfl))) (sc (Sub.cons (Has.cst (HasC.cv (HasC.s (s := 902015) rfl) (Cv.owM (T := [42]) (te := [43]) rfl rfl))) (Sub.cons (Has.cst (HasC.cv (HasC.s (s := 902019) rfl) Cv.fl)) (sf (sm (sm (sf (sf (sf (sf (Sub.cons (Has.at (HasG.cv (HasG.s rfl) (Cv.owM (T := [28]) (te := [29]) rfl rfl))) (Sub.cons (Has.at (HasG.cv (HasG.s rfl) (Cv.owF (T := [30]) (te := []) rfl))) (sf (sf (sf (sn (sn Sub.nil)))))))))))))))))))))))
       ·have hm := cond_f hb hm
        refine CWalk.exit ?_
        refine Leaf.thenE ?_
        exact Leaf.brk hm (fun h => nomatch h) rfl (sn (st (Sub.cons (Has.cst (HasC.cv (HasC.s (s := 902001) rfl) (Cv.m rfl))) (sc (Sub.cons (Has.cst (HasC.cv (HasC.s (s := 902009) rfl) (Cv.owM (T := [26]) (te := [27]) rfl rfl))) (sc (Sub.cons (Has.cst (HasC.cv (HasC.s (s := 902015) rfl) (Cv.owM (T := [42]) (te := [43]) rfl rfl))) (Sub.cons (Has.cst (HasC.cv (HasC.s (s := 902019) rfl) Cv.fl)) (sf (sm (sm (sf (sf (sf (sf (Sub.cons (Has.at (HasG.cv (HasG.s rfl) (Cv.owM (T := [28]) (te := [29]) rfl rfl))) (Sub.cons (Has.at (HasG.cv (HasG.s rfl) (Cv.owF (T := [30]) (te := []) rfl))) (sf (sf (sf (sn (sn Sub.nil))))))))))))))))))))))
      ·intro _
       refine Leaf.blockE ?_
       refine Leaf.blockN ?_
       refine Leaf.thenN ?_
       refine CWalk.region ?_
       refine mv ?_
       refine wo (Spec.addI (Has.s rfl) Has.int) ?_
       refine wo (Spec.assign (Has.s rfl)) ?_
       refine Walk.nil ?_
       exact Leaf.next hm (sn (st (Sub.cons (Has.cst (HasC.cv (HasC.s (s := 902001) rfl) (Cv.m rfl))) (sc (Sub.cons (Has.cst (HasC.cv (HasC.s (s := 902009) rfl) (Cv.owM (T := [26]) (te := [27]) rfl rfl))) (sc (Sub.cons (Has.cst (HasC.cv (HasC.s (s := 902015) rfl) (Cv.owM (T := [42]) (te := [43]) rfl rfl))) (Sub.cons (Has.cst (HasC.cv (HasC.s (s := 902019) rfl) Cv.fl)) (sf (sm (sm (sf (sf (sf (sf (Sub.cons (Has.at (HasG.cv (HasG.s rfl) (Cv.owM (T := [28]) (te := [29]) rfl rfl))) (Sub.cons (Has.at (HasG.cv (HasG.s rfl) (Cv.owF (T := [30]) (te := []) rfl))) (sf (sf (sf (sn (sn Sub.nil))))))))))))))))))))))
    ·have hm := cond_f hb hm
     refine CWalk.exit ?_
     refine Leaf.thenE ?_
     exact Leaf.brk hm (fun h => nomatch h) rfl (Sub.cons (Has.cst (HasC.cv (HasC.s (s := 902001) rfl) (Cv.m rfl))) (sc (Sub.cons (Has.cst (HasC.cv (HasC.s (s := 902009) rfl) (Cv.owM (T := [26]) (te := [27]) rfl rfl))) (sc (Sub.cons (Has.cst (HasC.cv (HasC.s (s := 902015) rfl) (Cv.owM (T := [42]) (te := [43]) rfl rfl))) (Sub.cons (Has.cst (HasC.cv (HasC.s (s := 902019) rfl) Cv.fl)) (sf (sm (sm (sf (sf (sf (sf (Sub.cons (Has.at (HasG.cv (HasG.s rfl) (Cv.owM (T := [28]) (te := [29]) rfl rfl))) (Sub.cons (Has.at (HasG.cv (HasG.s rfl) (Cv.owF (T := [30]) (te := []) rfl))) (sf (sf (sf (sn (sn Sub.nil))))))))))))))))))))
   ·intro _
    refine Leaf.blockE ?_
    exact Leaf.inN (Leaf.in0 (f0 := Fact.top) () hm rfl rfl (fun _ _ => trivial) (Low.slot rfl (HasC.cv (HasC.s (s := 902001) rfl) (Cv.m rfl)) (ls 902007 (Low.slot rfl (HasC.cv (HasC.s (s := 902009) rfl) (Cv.owM (T := [26]) (te := [27]) rfl rfl)) (ls 902010 (Low.slot rfl (HasC.cv (HasC.s (s := 902015) rfl) (Cv.owM (T := [42]) (te := [43]) rfl rfl)) (Low.slot rfl (HasC.cv (HasC.s (s := 902019) rfl) Cv.fl) (Low.res (lf (lm (lm (lf (lf (lf (lf (Low.keepG (HasG.cv (HasG.s rfl) (Cv.owM (T := [28]) (te := [29]) rfl rfl)) (Low.keepG (HasG.cv (HasG.s rfl) (Cv.owF (T := [30]) (te := []) rfl)) (lf (lf (lf (lo (lo Low.nil))))))))))))))))))))))
  ·rintro _ hm
   replace hm : law19_ShelfTurns_J1 a1 a3 x3 x4 x5 x6 x7 x8 x9 x10 = some r := hm
   unfold law19_ShelfTurns_J1 at hm
   show Walk _ _ _ [.fact 1 (.rep [0] (a1 : List Head)), .fact 7 (.isv 17), .fact 9 (.ow [26] [27] 45 (x3 : List Head)), .fact 10 (.isv 31), .fact 15 (.ow [42] [43] 45 (x7.1 : List Head)), .fact 19 (.rep [] ((((x9 && (x5.2 == x6.2)) && x10) && (x7.2 == x8.2)) : Bool)), .fact 77 (.top), .fact 100018 (.at 18 (.rep [] a3.Stripe)), .fact 100019 (.at 19 (.rep [0] a3.Blocks)), .fact 100020 (.at 20 (.rep [0] a3.Dirty)), .fact 100021 (.at 21 (.rep [] a3.Phase)), .fact 100022 (.at 22 (.rep [] a3.Deals)), .fact 100023 (.at 23 (.rep [] a3.Seq)), .fact 100032 (.at 32 (.rep [] x4.Stripe)), .fact 100033 (.at 33 (.ow [28] [29] 71 (x4.Blocks : List (List UInt8)))), .fact 100034 (.at 34 (.ow [30] [] 4 (x4.Dirty : List Bool))), .fact 100035 (.at 35 (.rep [] x4.Phase)), .fact 100036 (.at 36 (.rep [] x4.Deals)), .fact 100037 (.at 37 (.rep [] x4.Seq)), .fact 100017 (.obj 17 [(false, 1), (false, 1), (false, 1), (false, 1), (false, 1), (false, 1)]), .fact 100031 (.obj 31 [(false, 1), (false, 1), (false, 1), (false, 1), (false, 1), (false, 1)])] _
   refine Walk.nil ?_
   refine Leaf.thenN ?_
   refine CWalk.seq ?_
   refine CWalk.region ?_
   refine mv ?_
   refine Walk.inline (S := Unit) (fun p : Unit => [.fact 1 (.rep [0] (a1 : List Head)), .fact 7 (.isv 17), .fact 9 (.ow [26] [27] 45 (x3 : List Head)), .fact 10 (.isv 31), .fact 19 (.rep [] ((((x9 && (x5.2 == x6.2)) && x10) && (x7.2 == x8.2)) : Bool)), .fact 79 (.top), .fact 100018 (.at 18 (.rep [] a3.Stripe)), .fact 100019 (.at 19 (.rep [0] a3.Blocks)), .fact 100020 (.at 20 (.rep [0] a3.Dirty)), .fact 100021 (.at 21 (.rep [] a3.Phase)), .fact 100022 (.at 22 (.rep [] a3.Deals)), .fact 100023 (.at 23 (.rep [] a3.Seq)), .fact 100032 (.at 32 (.rep [] x4.Stripe)), .fact 100033 (.at 33 (.ow [28] [29] 71 (x4.Blocks : List (List UInt8)))), .fact 100034 (.at 34 (.ow [30] [] 4 (x4.Dirty : List Bool))), .fact 100035 (.at 35 (.rep [] x4.Phase)), .fact 100036 (.at 36 (.rep [] x4.Deals)), .fact 100037 (.at 37 (.rep [] x4.Seq)), .fact 100017 (.obj 17 [(false, 1), (false, 1), (false, 1), (false, 1), (false, 1), (false, 1)]), .fact 100031 (.obj 31 [(false, 1), (false, 1), (false, 1), (false, 1), (false, 1), (false, 1)])]) (fun p : Unit => law19_ShelfTurns_J2 a1 a3 x3 x4 x5 x6 x7 x8 x9 x10 = some r) (fun u1 => [.fact 100018 (.at 18 (.rep [] a3.Stripe)), .fact 100019 (.at 19 (.rep [0] a3.Blocks)), .fact 100020 (.at 20 (.rep [0] a3.Dirty)), .fact 100021 (.at 21 (.rep [] a3.Phase)), .fact 100022 (.at 22 (.rep [] a3.Deals)), .fact 100023 (.at 23 (.rep [] a3.Seq)), .fact 100032 (.at 32 (.rep [] x4.Stripe)), .fact 100033 (.at 33 (.ow [28] [29] 71 (x4.Blocks : List (List UInt8)))), .fact 100034 (.at 34 (.ow [30] [] 4 (x4.Dirty : List Bool))), .fact 100035 (.at 35 (.rep [] x4.Phase)), .fact 100036 (.at 36 (.rep [] x4.Deals)), .fact 100037 (.at 37 (.rep [] x4.Seq)), .fact 902001 (.cst (u1 1) (Fact.rep [0] (a1 : List Head))), .fact 902007 (.cst (u1 7) (Fact.isv 17)), .fact 902009 (.cst (u1 9) (Fact.ow [26] [27] 45 (x3 : List Head))), .fact 902010 (.cst (u1 10) (Fact.isv 31)), .fact 902019 (.cst (u1 19) (Fact.rep [] ((((x9 && (x5.2 == x6.2)) && x10) && (x7.2 == x8.2)) : Bool))), .fact 100017 (.obj 17 [(false, 1), (false, 1), (false, 1), (false, 1), (false, 1), (false, 1)]), .fact 100031 (.obj 31 [(false, 1), (false, 1), (false, 1), (false, 1), (false, 1), (false, 1)])]) (FA := [Fact.ow [42] [43] 45 (x7.1 : List Head)]) rfl Try.func19 rfl rfl rfl (CallOk.fn en19 (HasF.cons (Has.s rfl) HasF.nil)) (fun u1 => (ck (ck (ck (ck (ck (ck (ck (ck (ck (ck (ck (ck (cs 902000 1 (cs 902000 7 (cs 902000 9 (cs 902000 10 (cs 902000 19 (ck (ck Carry.nil)))))))))))))))))))) (fun u1 => ?_) ?_
   ·refine CWalk.seq ?_
    refine CWalk.region ?_
    refine wo (Spec.assign Has.int) ?_
    refine Walk.nil ?_
    refine Leaf.thenN ?_
    refine CWalk.block ?_
    obtain ⟨b36, hb36, hm⟩ := bind_some hm
    refine CWalk.loop (fun s : Int => [.fact 0 (.lo [42, 43] x7.1), .fact 2 (.rep [] (s : Int)), .fact 902001 (.cst (u1 1) (Fact.rep [0] (a1 : List Head))), .fact 902007 (.cst (u1 7) (Fact.isv 17)), .fact 902009 (.cst (u1 9) (Fact.ow [26] [27] 45 (x3 : List Head))), .fact 902010 (.cst (u1 10) (Fact.isv 31)), .fact 902019 (.cst (u1 19) (Fact.rep [] ((((x9 && (x5.2 == x6.2)) && x10) && (x7.2 == x8.2)) : Bool))), .fact 100018 (.at 18 (.rep [] a3.Stripe)), .fact 100019 (.at 19 (.rep [0] a3.Blocks)), .fact 100020 (.at 20 (.rep [0] a3.Dirty)), .fact 100021 (.at 21 (.rep [] a3.Phase)), .fact 100022 (.at 22 (.rep [] a3.Deals)), .fact 100023 (.at 23 (.rep [] a3.Seq)), .fact 100032 (.at 32 (.rep [] x4.Stripe)), .fact 100033 (.at 33 (.ow [28] [29] 71 (x4.Blocks : List (List UInt8)))), .fact 100034 (.at 34 (.ow [30] [] 4 (x4.Dirty : List Bool))), .fact 100035 (.at 35 (.rep [] x4.Phase)), .fact 100036 (.at 36 (.rep [] x4.Deals)), .fact 100037 (.at 37 (.rep [] x4.Seq)), .fact 100017 (.obj 17 [(false, 1), (false, 1), (false, 1), (false, 1), (false, 1), (false, 1)]), .fact 100031 (.obj 31 [(false, 1), (false, 1), (false, 1), (false, 1), (false, 1), (false, 1)])]) (fun b : Unit => (Exit.exit 0, [.fact 902001 (.cst (u1 1) (Fact.rep [0] (a1 : List Head))), .fact 902007 (.cst (u1 7) (Fact.isv 17)), .fact 902009 (.cst (u1 9) (Fact.ow [26] [27] 45 (x3 : List Head))), .fact 902010 (.cst (u1 10) (Fact.isv 31)), .fact 902019 (.cst (u1 19) (Fact.rep [] ((((x9 && (x5.2 == x6.2)) && x10) && (x7.2 == x8.2)) : Bool))), .fact 100018 (.at 18 (.rep [] a3.Stripe)), .fact 100019 (.at 19 (.rep [0] a3.Blocks)), .fact 100020 (.at 20 (.rep [0] a3.Dirty)), .fact 100021 (.at 21 (.rep [] a3.Phase)), .fact 100022 (.at 22 (.rep [] a3.Deals)), .fact 100023 (.at 23 (.rep [] a3.Seq)), .fact 100032 (.at 32 (.rep [] x4.Stripe)), .fact 100033 (.at 33 (.ow [28] [29] 71 (x4.Blocks : List (List UInt8)))), .fact 100034 (.at 34 (.ow [30] [] 4 (x4.Dirty : List Bool))), .fact 100035 (.at 35 (.rep [] x4.Phase)), .fact 100036 (.at 36 (.rep [] x4.Deals)), .fact 100037 (.at 37 (.rep [] x4.Seq)), .fact 100017 (.obj 17 [(false, 1), (false, 1), (false, 1), (false, 1), (false, 1), (false, 1)]), .fact 100031 (.obj 31 [(false, 1), (false, 1), (false, 1), (false, 1), (false, 1), (false, 1)])])) hb36 (Sub.cons (Has.cv (Has.s rfl) (Cv.trans (Cv.trans Cv.owSl (Cv.slRep (T' := [42, 43]) rfl rfl)) (Cv.lo rfl))) (st (Sub.cons (Has.cst (HasC.cv (HasC.s (s := 902001) rfl) (Cv.m rfl))) (sc (Sub.cons (Has.cst (HasC.cv (HasC.s (s := 902009) rfl) (Cv.owM (T := [26]) (te := [27]) rfl rfl))) (sc (Sub.cons (Has.cst (HasC.cv (HasC.s (s := 902019) rfl) Cv.fl)) (sf (sm (sm (sf (sf (sf (sf (Sub.cons (Has.at (HasG.cv (HasG.s rfl) (Cv.owM (T := [28]) (te := [29]) rfl rfl))) (Sub.cons (Has.at (HasG.cv (HasG.s rfl) (Cv.owF (T := [30]) (te := []) rfl))) (sf (sf (sf (sn (sn Sub.nil))))))))))))))))))))) ?_ ?_
    ·rintro s13 c14 hm
     replace hm : law19_ShelfTurns_L3 x7 s13 = some c14 := hm
     unfold law19_ShelfTurns_L3 at hm
     show CWalk _ [.fact 0 (.lo [42, 43] x7.1), .fact 2 (.rep [] (s13 : Int)), .fact 902001 (.cst (u1 1) (Fact.rep [0] (a1 : List Head))), .fact 902007 (.cst (u1 7) (Fact.isv 17)), .fact 902009 (.cst (u1 9) (Fact.ow [26] [27] 45 (x3 : List Head))), .fact 902010 (.cst (u1 10) (Fact.isv 31)), .fact 902019 (.cst (u1 19) (Fact.rep [] ((((x9 && (x5.2 == x6.2)) && x10) && (x7.2 == x8.2)) : Bool))), .fact 100018 (.at 18 (.rep [] a3.Stripe)), .fact 100019 (.at 19 (.rep [0] a3.Blocks)), .fact 100020 (.at 20 (.rep [0] a3.Dirty)), .fact 100021 (.at 21 (.rep [] a3.Phase)), .fact 100022 (.at 22 (.rep [] a3.Deals)), .fact 100023 (.at 23 (.rep [] a3.Seq)), .fact 100032 (.at 32 (.rep [] x4.Stripe)), .fact 100033 (.at 33 (.ow [28] [29] 71 (x4.Blocks : List (List UInt8)))), .fact 100034 (.at 34 (.ow [30] [] 4 (x4.Dirty : List Bool))), .fact 100035 (.at 35 (.rep [] x4.Phase)), .fact 100036 (.at 36 (.rep [] x4.Deals)), .fact 100037 (.at 37 (.rep [] x4.Seq)), .fact 100017 (.obj 17 [(false, 1), (false, 1), (false, 1), (false, 1), (false, 1), (false, 1)]), .fact 100031 (.obj 31 [(false, 1), (false, 1), (false, 1), (false, 1), (false, 1), (false, 1)])] _ _
     refine CWalk.seq ?_
     refine CWalk.seq ?_
     refine CWalk.region ?_
     refine mv ?_
     refine mv ?_
     refine wo (Spec.lenLo (Has.s rfl) Try.underlying25) ?_
     refine wo (Spec.lssI (Has.s rfl) (Has.s rfl)) ?_
     refine Walk.nil ?_
     refine Leaf.thenN ?_
     refine CWalk.cond rfl (fun hb => ?_) (fun hb => ?_)
     ·have hm := cond_t hb hm
      refine CWalk.skip ?_
      refine Leaf.thenN ?_
      refine CWalk.seq ?_
      refine CWalk.block ?_
      refine CWalk.seq ?_
      refine CWalk.seq ?_
      refine CWalk.region ?_
      refine wo (Spec.assign Has.int) ?_
      refine Walk.nil ?_
      refine Leaf.thenN ?_
      refine CWalk.block ?_
      obtain ⟨b27, hb27, hm⟩ := bind_some hm
      refine CWalk.loop (fun s : Int => [.fact 0 (.lo [42, 43] x7.1), .fact 2 (.rep [] (s13 : Int)), .fact 3 (.rep [] (s : Int)), .fact 902001 (.cst (u1 1) (Fact.rep [0] (a1 : List Head))), .fact 902007 (.cst (u1 7) (Fact.isv 17)), .fact 902009 (.cst (u1 9) (Fact.ow [26] [27] 45 (x3 : List Head))), .fact 902010 (.cst (u1 10) (Fact.isv 31)), .fact 902019 (.cst (u1 19) (Fact.rep [] ((((x9 && (x5.2 == x6.2)) && x10) && (x7.2 == x8.2)) : Bool))), .fact 100018 (.at 18 (.rep [] a3.Stripe)), .fact 100019 (.at 19 (.rep [0] a3.Blocks)), .fact 100020 (.at 20 (.rep [0] a3.Dirty)), .fact 100021 (.at 21 (.rep [] a3.Phase)), .fact 100022 (.at 22 (.rep [] a3.Deals)), .fact 100023 (.at 23 (.rep [] a3.Seq)), .fact 100032 (.at 32 (.rep [] x4.Stripe)), .fact 100033 (.at 33 (.ow [28] [29] 71 (x4.Blocks : List (List UInt8)))), .fact 100034 (.at 34 (.ow [30] [] 4 (x4.Dirty : List Bool))), .fact 100035 (.at 35 (.rep [] x4.Phase)), .fact 100036 (.at 36 (.rep [] x4.Deals)), .fact 100037 (.at 37 (.rep [] x4.Seq)), .fact 100017 (.obj 17 [(false, 1), (false, 1), (false, 1), (false, 1), (false, 1), (false, 1)]), .fact 100031 (.obj 31 [(false, 1), (false, 1), (false, 1), (false, 1), (false, 1), (false, 1)])]) (fun b : Unit => (Exit.exit 2, [.fact 0 (.lo [42, 43] x7.1), .fact 2 (.rep [] (s13 : Int)), .fact 902001 (.cst (u1 1) (Fact.rep [0] (a1 : List Head))), .fact 902007 (.cst (u1 7) (Fact.isv 17)), .fact 902009 (.cst (u1 9) (Fact.ow [26] [27] 45 (x3 : List Head))), .fact 902010 (.cst (u1 10) (Fact.isv 31)), .fact 902019 (.cst (u1 19) (Fact.rep [] ((((x9 && (x5.2 == x6.2)) && x10) && (x7.2 == x8.2)) : Bool))), .fact 100018 (.at 18 (.rep [] a3.Stripe)), .fact 100019 (.at 19 (.rep [0] a3.Blocks)), .fact 100020 (.at 20 (.rep [0] a3.Dirty)), .fact 100021 (.at 21 (.rep [] a3.Phase)), .fact 100022 (.at 22 (.rep [] a3.Deals)), .fact 100023 (.at 23 (.rep [] a3.Seq)), .fact 100032 (.at 32 (.rep [] x4.Stripe)), .fact 100033 (.at 33 (.ow [28] [29] 71 (x4.Blocks : List (List UInt8)))), .fact 100034 (.at 34 (.ow [30] [] 4 (x4.Dirty : List Bool))), .fact 100035 (.at 35 (.rep [] x4.Phase)), .fact 100036 (.at 36 (.rep [] x4.Deals)), .fact 100037 (.at 37 (.rep [] x4.Seq)), .fact 100017 (.obj 17 [(false, 1), (false, 1), (false, 1), (false, 1), (false, 1), (false, 1)]), .fact 100031 (.obj 31 [(false, 1), (false, 1), (false, 1), (false, 1), (false, 1), (false, 1)])])) hb27 (sn (st (st (Sub.cons (Has.cst (HasC.cv (HasC.s (s := 902001) rfl) (Cv.m rfl))) (sc (Sub.cons (Has.cst (HasC.cv (HasC.s (s := 902009) rfl) (Cv.owM (T := [26]) (te := [27]) rfl rfl))) (sc (Sub.cons (Has.cst (HasC.cv (HasC.s (s := 902019) rfl) Cv.fl)) (sf (sm (sm (sf (sf (sf (sf (Sub.cons (Has.at (HasG.cv (HasG.s rfl) (Cv.owM (T := [28]) (te := [29]) rfl rfl))) (Sub.cons (Has.at (HasG.cv (HasG.s rfl) (Cv.owF (T := [30]) (te := []) rfl))) (sf (sf (sf (sn (sn Sub.nil)))))))))))))))))))))) ?_ ?_
      ·rintro s15 c16 hm
       replace hm : law19_ShelfTurns_L4 x7 s13 s15 = some c16 := hm
       unfold law19_ShelfTurns_L4 at hm
       show CWalk _ [.fact 0 (.lo [42, 43] x7.1), .fact 2 (.rep [] (s13 : Int)), .fact 3 (.rep [] (s15 : Int)), .fact 902001 (.cst (u1 1) (Fact.rep [0] (a1 : List Head))), .fact 902007 (.cst (u1 7) (Fact.isv 17)), .fact 902009 (.cst (u1 9) (Fact.ow [26] [27] 45 (x3 : List Head))), .fact 902010 (.cst (u1 10) (Fact.isv 31)), .fact 902019 (.cst (u1 19) (Fact.rep [] ((((x9 && (x5.2 == x6.2)) && x10) && (x7.2 == x8.2)) : Bool))), .fact 100018 (.at 18 (.rep [] a3.Stripe)), .fact 100019 (.at 19 (.rep [0] a3.Blocks)), .fact 100020 (.at 20 (.rep [0] a3.Dirty)), .fact 100021 (.at 21 (.rep [] a3.Phase)), .fact 100022 (.at 22 (.rep [] a3.Deals)), .fact 100023 (.at 23 (.rep [] a3.Seq)), .fact 100032 (.at 32 (.rep [] x4.Stripe)), .fact 100033 (.at 33 (.ow [28] [29] 71 (x4.Blocks : List (List UInt8)))), .fact 100034 (.at 34 (.ow [30] [] 4 (x4.Dirty : List Bool))), .fact 100035 (.at 35 (.rep [] x4.Phase)), .fact 100036 (.at 36 (.rep [] x4.Deals)), .fact 100037 (.at 37 (.rep [] x4.Seq)), .fact 100017 (.obj 17 [(false, 1), (false, 1), (false, 1), (false, 1), (false, 1), (false, 1)]), .fact 100031 (.obj 31 [(false, 1), (false, 1), (false, 1), (false, 1), (false, 1), (false, 1)])] _ _
       refine CWalk.seq ?_
       refine CWalk.seq ?_
       refine CWalk.region ?_
       refine mv ?_
       refine mv ?_
       refine mv ?_
       obtain ⟨x17, hx17, hm⟩ := bind_some hm
       refine wo (Spec.idxLo hx17 sl25 (Has.s rfl) (Has.s rfl)) ?_
       refine wo (Spec.fieldLo fd45_1 (loHead_1 _) (Has.s rfl)) ?_
       refine wo (Spec.loadLo ty42 (Has.s rfl)) ?_
       refine wo (Spec.lenLo (Has.s rfl) Try.underlying42) ?_
       refine wo (Spec.lssI (Has.s rfl) (Has.s rfl)) ?_
       refine Walk.nil ?_
       refine Leaf.thenN ?_
       refine CWalk.cond rfl (fun hb => ?_) (fun hb => ?_)
       ·have hm := cond_t hb hm
        refine CWalk.skip ?_
        refine Leaf.thenN ?_
        refine CWalk.seq ?_
        refine CWalk.block ?_
        refine CWalk.seq ?_
        refine CWalk.region ?_
        refine wo (Spec.assign Has.int) ?_
        refine Walk.nil ?_
        refine Leaf.thenN ?_
        refine CWalk.block ?_
        obtain ⟨b26, hb26, hm⟩ := bind_some hm
        refine CWalk.loop (fun s : Int => [.fact 0 (.lo [42, 43] x7.1), .fact 2 (.rep [] (s13 : Int)), .fact 3 (.rep [] (s15 : Int)), .fact 4 (.rep [] (s : Int)), .fact 902001 (.cst (u1 1) (Fact.rep [0] (a1 : List Head))), .fact 902007 (.cst (u1 7) (Fact.isv 17)), .fact 902009 (.cst (u1 9) (Fact.ow [26] [27] 45 (x3 : List Head))), .fact 902010 (.cst (u1 10) (Fact.isv 31)), .fact 902019 (.cst (u1 19) (Fact.rep [] ((((x9 && (x5.2 == x6.2)) && x10) && (x7.2 == x8.2)) : Bool))), .fact 100018 (.at 18 (.rep [] a3.Stripe)), .fact 100019 (.at 19 (.rep [0] a3.Blocks)), .fact 100020 (.at 20 (.rep [0] a3.Dirty)), .fact 100021 (.at 21 (.rep [] a3.Phase)), .fact 100022 (.at 22 (.rep [] a3.Deals)), .fact 100023 (.at 23 (.rep [] a3.Seq)), .fact 100032 (.at 32 (.rep [] x4.Stripe)), .fact 100033 (.at 33 (.ow [28] [29] 71 (x4.Blocks : List (List UInt8)))), .fact 100034 (.at 34 (.ow [30] [] 4 (x4.Dirty : List Bool))), .fact 100035 (.at 35 (.rep [] x4.Phase)), .fact 100036 (.at 36 (.rep [] x4.Deals)), .fact 100037 (.at 37 (.rep [] x4.Seq)), .fact 100017 (.obj 17 [(false, 1), (false, 1), (false, 1), (false, 1), (false, 1), (false, 1)]), .fact 100031 (.obj 31 [(false, 1), (false, 1), (false, 1), (false, 1), (false, 1), (false, 1)])]) (fun b : Unit => (Exit.exit 4, [.fact 0 (.lo [42, 43] x7.1), .fact 2 (.rep [] (s13 : Int)), .fact 3 (.rep [] (s15 : Int)), .fact 902001 (.cst (u1 1) (Fact.rep [0] (a1 : List Head))), .fact 902007 (.cst (u1 7) (Fact.isv 17)), .fact 902009 (.cst (u1 9) (Fact.ow [26] [27] 45 (x3 : List Head))), .fact 902010 (.cst (u1 10) (Fact.isv 31)), .fact 902019 (.cst (u1 19) (Fact.rep [] ((((x9 && (x5.2 == x6.2)) && x10) && (x7.2 == x8.2)) : Bool))), .fact 100018 (.at 18 (.rep [] a3.Stripe)), .fact 100019 (.at 19 (.rep [0] a3.Blocks)), .fact 100020 (.at 20 (.rep [0] a3.Dirty)), .fact 100021 (.at 21 (.rep [] a3.Phase)), .fact 100022 (.at 22 (.rep [] a3.Deals)), .fact 100023 (.at 23 (.rep [] a3.Seq)), .fact 100032 (.at 32 (.rep [] x4.Stripe)), .fact 100033 (.at 33 (.ow [28] [29] 71 (x4.Blocks : List (List UInt8)))), .fact 100034 (.at 34 (.ow [30] [] 4 (x4.Dirty : List Bool))), .fact 100035 (.at 35 (.rep [] x4.Phase)), .fact 100036 (.at 36 (.rep [] x4.Deals)), .fact 100037 (.at 37 (.rep [] x4.Seq)), .fact 100017 (.obj 17 [(false, 1), (false, 1), (false, 1), (false, 1), (false, 1), (false, 1)]), .fact 100031 (.obj 31 [(false, 1), (false, 1), (false, 1), (false, 1), (false, 1), (false, 1)])])) hb26 (sn (st (st (st (Sub.cons (Has.cst (HasC.cv (HasC.s (s := 902001) rfl) (Cv.m rfl))) (sc (Sub.cons (Has.cst (HasC.cv (HasC.s (s := 902009) rfl) (Cv.owM (T := [26]) (te := [27]) rfl rfl))) (sc (Sub.cons (Has.cst (HasC.cv (HasC.s (s := 902019) rfl) Cv.fl)) (sf (sm (sm (sf (sf (sf (sf (Sub.cons (Has.at (HasG.cv (HasG.s rfl) (Cv.owM (T := [28]) (te := [29]) rfl rfl))) (Sub.cons (Has.at (HasG.cv (HasG.s rfl) (Cv.owF (T := [30]) (te := []) rfl))) (sf (sf (sf (sn (sn Sub.nil))))))))))))))))))))))) ?_ ?_
        ·rintro s18 c19 hm
         replace hm : law19_ShelfTurns_L5 x7 s13 s15 s18 = some c19 := hm
         unfold law19_ShelfTurns_L5 at hm
         show CWalk _ [.fact 0 (.lo [42, 43] x7.1), .fact 2 (.rep [] (s13 : Int)), .fact 3 (.rep [] (s15 : Int)), .fact 4 (.rep [] (s18 : Int)), .fact 902001 (.cst (u1 1) (Fact.rep [0] (a1 : List Head))), .fact 902007 (.cst (u1 7) (Fact.isv 17)), .fact 902009 (.cst (u1 9) (Fact.ow [26] [27] 45 (x3 : List Head))), .fact 902010 (.cst (u1 10) (Fact.isv 31)), .fact 902019 (.cst (u1 19) (Fact.rep [] ((((x9 && (x5.2 == x6.2)) && x10) && (x7.2 == x8.2)) : Bool))), .fact 100018 (.at 18 (.rep [] a3.Stripe)), .fact 100019 (.at 19 (.rep [0] a3.Blocks)), .fact 100020 (.at 20 (.rep [0] a3.Dirty)), .fact 100021 (.at 21 (.rep [] a3.Phase)), .fact 100022 (.at 22 (.rep [] a3.Deals)), .fact 100023 (.at 23 (.rep [] a3.Seq)), .fact 100032 (.at 32 (.rep [] x4.Stripe)), .fact 100033 (.at 33 (.ow [28] [29] 71 (x4.Blocks : List (List UInt8)))), .fact 100034 (.at 34 (.ow [30] [] 4 (x4.Dirty : List Bool))), .fact 100035 (.at 35 (.rep [] x4.Phase)), .fact 100036 (.at 36 (.rep [] x4.Deals)), .fact 100037 (.at 37 (.rep [] x4.Seq)), .fact 100017 (.obj 17 [(false, 1), (false, 1), (false, 1), (false, 1), (false, 1), (false, 1)]), .fact 100031 (.obj 31 [(false, 1), (false, 1), (false, 1), (false, 1), (false, 1), (false, 1)])] _ _
         refine CWalk.seq ?_
         refine CWalk.seq ?_
         refine CWalk.region ?_
         refine mv ?_
         refine mv ?_
         refine mv ?_
         obtain ⟨x20, hx20, hm⟩ := bind_some hm
         refine wo (Spec.idxLo hx20 sl25 (Has.s rfl) (Has.s rfl)) ?_
         refine wo (Spec.fieldLo fd45_1 (loHead_1 _) (Has.s rfl)) ?_
         refine wo (Spec.loadLo ty42 (Has.s rfl)) ?_
         refine mv ?_
         obtain ⟨x21, hx21, hm⟩ := bind_some hm
         refine wo (Spec.idxLo hx21 sl42 (Has.s rfl) (Has.s rfl)) ?_
         refine wo (Spec.loadLo ty71 (Has.s rfl)) ?_
         refine wo (Spec.lenLo (Has.s rfl) Try.underlying71) ?_
         refine wo (Spec.lssI (Has.s rfl) (Has.s rfl)) ?_
         refine Walk.nil ?_
         refine Leaf.thenN ?_
         refine CWalk.cond rfl (fun hb => ?_) (fun hb => ?_)
         ·have hm := cond_t hb hm
          refine CWalk.skip ?_
          refine Leaf.thenN ?_
          refine CWalk.seq ?_
          refine CWalk.block ?_
          refine CWalk.region ?_
          refine mv ?_
          refine mv ?_
          obtain ⟨x22, hx22, hm⟩ := bind_some hm
          refine wo (Spec.idxLo hx22 sl25 (Has.s rfl) (Has.s rfl)) ?_
          refine wo (Spec.fieldLo fd45_1 (loHead_1 _) (Has.s rfl)) ?_
          refine wo (Spec.loadLo ty42 (Has.s rfl)) ?_
          refine mv ?_
          obtain ⟨x23, hx23, hm⟩ := bind_some hm
          refine wo (Spec.idxLo hx23 sl42 (Has.s rfl) (Has.s rfl)) ?_
          refine wo (Spec.loadLo ty71 (Has.s rfl)) ?_
          refine mv ?_
          obtain ⟨x24, hx24, hm⟩ := bind_some hm
          refine wo (Spec.idxLo hx24 sl71 (Has.s rfl) (Has.s rfl)) ?_
          refine wo (Spec.loadLo ty5 (Has.s rfl)) ?_
          refine wo (Spec.add8Lo (Has.s rfl) (Has.u8 1 rfl)) ?_
          obtain ⟨x25, hx25, hm⟩ := bind_some hm
          refine wo (Spec.idxLo hx25 sl71 (Has.s rfl) (Has.s rfl)) ?_
          refine ws (Step.storeL (T := [42, 43]) (LL := [.fact 0 (.lo [42, 43] x7.1)]) rfl ty5 (Has.s rfl) (Has.s rfl) (LooseL.lo rfl LooseL.nil)) ?_
          refine Walk.nil ?_
          refine Leaf.blockN ?_
          refine Leaf.thenN ?_
          refine CWalk.region ?_
          refine mv ?_
          refine wo (Spec.addI (Has.s rfl) Has.int) ?_
          refine wo (Spec.assign (Has.s rfl)) ?_
          refine Walk.nil ?_
          exact Leaf.next hm (sn (st (st (st (Sub.cons (Has.cst (HasC.cv (HasC.s (s := 902001) rfl) (Cv.m rfl))) (sc (Sub.cons (Has.cst (HasC.cv (HasC.s (s := 902009) rfl) (Cv.owM (T := [26]) (te := [27]) rfl rfl))) (sc (Sub.cons (Has.cst (HasC.cv (HasC.s (s := 902019) rfl) Cv.fl)) (sf (sm (sm (sf (sf (sf (sf (Sub.cons (Has.at (HasG.cv (HasG.s rfl) (Cv.owM (T := [28]) (te := [29]) rfl rfl))) (Sub.cons (Has.at (HasG.cv (HasG.s rfl) (Cv.owF (T := [30]) (te := []) rfl))) (sf (sf (sf (sn (sn Sub.nil)))))))))))))))))))))))
         ·have hm := cond_f hb hm
          refine CWalk.exit ?_
          refine Leaf.thenE ?_
          exact Leaf.brk hm (fun h => nomatch h) rfl (sn (st (st (Sub.cons (Has.cst (HasC.cv (HasC.s (s := 902001) rfl) (Cv.m rfl))) (sc (Sub.cons (Has.cst (HasC.cv (HasC.s (s := 902009) rfl) (Cv.owM (T := [26]) (te := [27]) rfl rfl))) (sc (Sub.cons (Has.cst (HasC.cv (HasC.s (s := 902019) rfl) Cv.fl)) (sf (sm (sm (sf (sf (sf (sf (Sub.cons (Has.at (HasG.cv (HasG.s rfl) (Cv.owM (T := [28]) (te := [29]) rfl rfl))) (Sub.cons (Has.at (HasG.cv (HasG.s rfl) (Cv.owF (T := [30]) (te := []) rfl))) (sf (sf (sf (sn (sn Sub.nil))))))))))))))))))))))
        ·intro _
         refine Leaf.blockE ?_
         refine Leaf.blockN ?_
         refine Leaf.thenN ?_
         refine CWalk.region ?_
         refine mv ?_
         refine wo (Spec.addI (Has.s rfl) Has.int) ?_
         refine wo (Spec.assign (Has.s rfl)) ?_
         refine Walk.nil ?_
         exact Leaf.next hm (sn (st (st (Sub.cons (Has.cst (HasC.cv (HasC.s (s := 902001) rfl) (Cv.m rfl))) (sc (Sub.cons (Has.cst (HasC.cv (HasC.s (s := 902009) rfl) (Cv.owM (T := [26]) (te := [27]) rfl rfl))) (sc (Sub.cons (Has.cst (HasC.cv (HasC.s (s := 902019) rfl) Cv.fl)) (sf (sm (sm (sf (sf (sf (sf (Sub.cons (Has.at (HasG.cv (HasG.s rfl) (Cv.owM (T := [28]) (te := [29]) rfl rfl))) (Sub.cons (Has.at (HasG.cv (HasG.s rfl) (Cv.owF (T := [30]) (te := []) rfl))) (sf (sf (sf (sn (sn Sub.nil))))))))))))))))))))))
       ·have hm := cond_f hb hm
        refine CWalk.exit ?_
        refine Leaf.thenE ?_
        exact Leaf.brk hm (fun h => nomatch h) rfl (sn (st (Sub.cons (Has.cst (HasC.cv (HasC.s (s := 902001) rfl) (Cv.m rfl))) (sc (Sub.cons (Has.cst (HasC.cv (HasC.s (s := 902009) rfl) (Cv.owM (T := [26]) (te := [27]) rfl rfl))) (sc (Sub.cons (Has.cst (HasC.cv (HasC.s (s := 902019) rfl) Cv.fl)) (sf (sm (sm (sf (sf (sf (sf (Sub.cons (Has.at (HasG.cv (HasG.s rfl) (Cv.owM (T := [28]) (te := [29]) rfl rfl))) (Sub.cons (Has.at (HasG.cv (HasG.s rfl) (Cv.owF (T := [30]) (te := []) rfl))) (sf (sf (sf (sn (sn Sub.nil)))))))))))))))))))))
      ·intro _
       refine Leaf.blockE ?_
       refine Leaf.thenN ?_
       refine CWalk.seq ?_
       refine CWalk.region ?_
       refine wo (Spec.assign Has.int) ?_
       refine Walk.nil ?_
       refine Leaf.thenN ?_
       refine CWalk.block ?_
       obtain ⟨b35, hb35, hm⟩ := bind_some hm
       refine CWalk.loop (fun s : Int => [.fact 0 (.lo [42, 43] x7.1), .fact 2 (.rep [] (s13 : Int)), .fact 5 (.rep [] (s : Int)), .fact 902001 (.cst (u1 1) (Fact.rep [0] (a1 : List Head))), .fact 902007 (.cst (u1 7) (Fact.isv 17)), .fact 902009 (.cst (u1 9) (Fact.ow [26] [27] 45 (x3 : List Head))), .fact 902010 (.cst (u1 10) (Fact.isv 31)), .fact 902019 (.cst (u1 19) (Fact.rep [] ((((x9 && (x5.2 == x6.2)) && x10) && (x7.2 == x8.2)) : Bool))), .fact 100018 (.at 18 (.rep [] a3.Stripe)), .fact 100019 (.at 19 (.rep [0] a3.Blocks)), .fact 100020 (.at 20 (.rep [0] a3.Dirty)), .fact 100021 (.at 21 (.rep [] a3.Phase)), .fact 100022 (.at 22 (.rep [] a3.Deals)), .fact 100023 (.at 23 (.rep [] a3.Seq)), .fact 100032 (.at 32 (.rep [] x4.Stripe)), .fact 100033 (.at 33 (.ow [28] [29] 71 (x4.Blocks : List (List UInt8)))), .fact 100034 (.at 34 (.ow [30] [] 4 (x4.Dirty : List Bool))), .fact 100035 (.at 35 (.rep [] x4.Phase)), .fact 100036 (.at 36 (.rep [] x4.Deals)), .fact 100037 (.at 37 (.rep [] x4.Seq)), .fact 100017 (.obj 17 [(false, 1), (false, 1), (false, 1), (false, 1), (false, 1), (false, 1)]), .fact 100031 (.obj 31 [(false, 1), (false, 1), (false, 1), (false, 1), (false, 1), (false, 1)])]) (fun b : Unit => (Exit.exit 6, [.fact 0 (.lo [42, 43] x7.1), .fact 2 (.rep [] (s13 : Int)), .fact 902001 (.cst (u1 1) (Fact.rep [0] (a1 : List Head))), .fact 902007 (.cst (u1 7) (Fact.isv 17)), .fact 902009 (.cst (u1 9) (Fact.ow [26] [27] 45 (x3 : List Head))), .fact 902010 (.cst (u1 10) (Fact.isv 31)), .fact 902019 (.cst (u1 19) (Fact.rep [] ((((x9 && (x5.2 == x6.2)) && x10) && (x7.2 == x8.2)) : Bool))), .fact 100018 (.at 18 (.rep [] a3.Stripe)), .fact 100019 (.at 19 (.rep [0] a3.Blocks)), .fact 100020 (.at 20 (.rep [0] a3.Dirty)), .fact 100021 (.at 21 (.rep [] a3.Phase)), .fact 100022 (.at 22 (.rep [] a3.Deals)), .fact 100023 (.at 23 (.rep [] a3.Seq)), .fact 100032 (.at 32 (.rep [] x4.Stripe)), .fact 100033 (.at 33 (.ow [28] [29] 71 (x4.Blocks : List (List UInt8)))), .fact 100034 (.at 34 (.ow [30] [] 4 (x4.Dirty : List Bool))), .fact 100035 (.at 35 (.rep [] x4.Phase)), .fact 100036 (.at 36 (.rep [] x4.Deals)), .fact 100037 (.at 37 (.rep [] x4.Seq)), .fact 100017 (.obj 17 [(false, 1), (false, 1), (false, 1), (false, 1), (false, 1), (false, 1)]), .fact 100031 (.obj 31 [(false, 1), (false, 1), (false, 1), (false, 1), (false, 1), (false, 1)])])) hb35 (sn (st (st (Sub.cons (Has.cst (HasC.cv (HasC.s (s := 902001) rfl) (Cv.m rfl))) (sc (Sub.cons (Has.cst (HasC.cv (HasC.s (s := 902009) rfl) (Cv.owM (T := [26]) (te := [27]) rfl rfl))) (sc (Sub.cons (Has.cst (HasC.cv (HasC.s (s := 902019) rfl) Cv.fl)) (sf (sm (sm (sf (sf (sf (sf (Sub.cons (Has.at (HasG.cv (HasG.s rfl) (Cv.owM (T := [28]) (te := [29]) rfl rfl))) (Sub.cons (Has.at (HasG.cv (HasG.s rfl) (Cv.owF (T := [30]) (te := []) rfl))) (sf (sf (sf (sn (sn Sub.nil)))))))))))))))))))))) ?_ ?_
       ·rintro s28 c29 hm
        replace hm : law19_ShelfTurns_L6 x7 s13 s28 = some c29 := hm
        unfold law19_ShelfTurns_L6 at hm
        show CWalk _ [.fact 0 (.lo [42, 43] x7.1), .fact 2 (.rep [] (s13 : Int)), .fact 5 (.rep [] (s28 : Int)), .fact 902001 (.cst (u1 1) (Fact.rep [0] (a1 : List Head))), .fact 902007 (.cst (u1 7) (Fact.isv 17)), .fact 902009 (.cst (u1 9) (Fact.ow [26] [27] 45 (x3 : List Head))), .fact 902010 (.cst (u1 10) (Fact.isv 31)), .fact 902019 (.cst (u1 19) (Fact.rep [] ((((x9 && (x5.2 == x6.2)) && x10) && (x7.2 == x8.2)) : Bool))), .fact 100018 (.at 18 (.rep [] a3.Stripe)), .fact 100019 (.at 19 (.rep [0] a3.Blocks)), .fact 100020 (.at 20 (.rep [0] a3.Dirty)), .fact 100021 (.at 21 (.rep [] a3.Phase)), .fact 100022 (.at 22 (.rep [] a3.Deals)), .fact 100023 (.at 23 (.rep [] a3.Seq)), .fact 100032 (.at 32 (.rep [] x4.Stripe)), .fact 100033 (.at 33 (.ow [28] [29] 71 (x4.Blocks : List (List UInt8)))), .fact 100034 (.at 34 (.ow [30] [] 4 (x4.Dirty : List Bool))), .fact 100035 (.at 35 (.rep [] x4.Phase)), .fact 100036 (.at 36 (.rep [] x4.Deals)), .fact 100037 (.at 37 (.rep [] x4.Seq)), .fact 100017 (.obj 17 [(false, 1), (false, 1), (false, 1), (false, 1), (false, 1), (false, 1)]), .fact 100031 (.obj 31 [(false, 1), (false, 1), (false, 1), (false, 1), (false, 1), (false, 1)])] _ _
        refine CWalk.seq ?_
        refine CWalk.seq ?_
        refine CWalk.region ?_
        refine mv ?_
        refine mv ?_
        refine mv ?_
        obtain ⟨x30, hx30, hm⟩ := bind_some hm
        refine wo (Spec.idxLo hx30 sl25 (Has.s rfl) (Has.s rfl)) ?_
        refine wo (Spec.fieldLo fd45_2 (loHead_2 _) (Has.s rfl)) ?_
        refine wo (Spec.loadLo ty43 (Has.s rfl)) ?_
        refine wo (Spec.lenLo (Has.s rfl) Try.underlying43) ?_
        refine wo (Spec.lssI (Has.s rfl) (Has.s rfl)) ?_
        refine Walk.nil ?_
        refine Leaf.thenN ?_
        refine CWalk.cond rfl (fun hb => ?_) (fun hb => ?_)
        ·have hm := cond_t hb hm
         refine CWalk.skip ?_
         refine Leaf.thenN ?_
         refine CWalk.seq ?_
         refine CWalk.block ?_
         obtain ⟨x31, hx31, hm⟩ := bind_some hm
         obtain ⟨x32, hx32, hm⟩ := bind_some hm
         obtain ⟨x33, hx33, hm⟩ := bind_some hm
         obtain ⟨x34, hx34, hm⟩ := bind_some hm
         refine CWalk.drawM [[], [], [0, 1], [0, 1, 2], [0, 1, 2, 3], [], [], [], [6, 7], [6, 7, 8], [6, 7, 8, 9], [], [6, 7, 8, 9, 10, 11], [6, 7, 8, 9, 10, 11, 12], [6, 7, 8, 9, 10, 11, 12, 13], [0, 1, 2, 3, 4, 5, 6, 7, 8, 9, 10, 11, 12, 13, 14], [0, 1, 2, 3, 4, 5, 6, 7, 8, 9, 10, 11, 12, 13, 14, 15]] [[.fact 58 (.lo [42, 43] x7.1)], [.fact 59 (.rep [] (s13 : Int))], [.fact 60 (.lptr [42, 43] (x31 : Head))], [.fact 61 (.lptr [42, 43] x31.Dirty)], [.fact 62 (.lo [42, 43] x31.Dirty)], [.fact 63 (.rep [] (s28 : Int))], [.fact 64 (.lo [42, 43] x7.1)], [.fact 65 (.rep [] (s13 : Int))], [.fact 66 (.lptr [42, 43] (x32 : Head))], [.fact 67 (.lptr [42, 43] x32.Dirty)], [.fact 68 (.lo [42, 43] x32.Dirty)], [.fact 69 (.rep [] (s28 : Int))], [.fact 70 (.lptr [42, 43] (x33 : Bool))], [.fact 71 (.lo [42, 43] (x33 : Bool))], [.fact 72 (.lo [] (false : Bool))], [.fact 73 (.lptr [42, 43] (x34 : Bool))], [.fact 0 (.lo [42, 43] x7.1), .fact 49 (.lo [42, 43] x7.1), .fact 51 (.lptr [42, 43] (x30 : Head)), .fact 52 (.lptr [42, 43] x30.Dirty), .fact 53 (.lo [42, 43] x30.Dirty), .fact 58 (.lo [42, 43] x7.1), .fact 60 (.lptr [42, 43] (x31 : Head)), .fact 61 (.lptr [42, 43] x31.Dirty), .fact 62 (.lo [42, 43] x31.Dirty), .fact 64 (.lo [42, 43] x7.1), .fact 66 (.lptr [42, 43] (x32 : Head)), .fact 67 (.lptr [42, 43] x32.Dirty), .fact 68 (.lo [42, 43] x32.Dirty), .fact 70 (.lptr [42, 43] (x33 : Bool)), .fact 71 (.lo [42, 43] (x33 : Bool)), .kill 42, .kill 43]] mixed (by kernel_rfl) (ao (so (Spec.move (Has.s rfl))) (ao (so (Spec.move (Has.s rfl))) (ao (so (Spec.idxLo hx31 sl25 (Has.s rfl) (Has.s rfl))) (ao (so (Spec.fieldLo fd45_2 (loHead_2 _) (Has.s rfl))) (ao (so (Spec.loadLo ty43 (Has.s rfl))) (ao (so (Spec.move (Has.s rfl))) (ao (so (Spec.move (Has.s rfl))) (ao (so (Spec.move (Has.s rfl))) (ao (so (Spec.idxLo hx32 sl25 (Has.s rfl) (Has.s rfl))) (ao (so (Spec.fieldLo fd45_2 (loHead_2 _) (Has.s rfl))) (ao (so (Spec.loadLo ty43 (Has.s rfl))) (ao (so (Spec.move (Has.s rfl))) (ao (so (Spec.idxLo hx33 sl43 (Has.s rfl) (Has.s rfl))) (ao (so (Spec.loadLo ty4 (Has.s rfl))) (ao (so (Spec.notLo (Has.s rfl))) (ao (so (Spec.idxLo hx34 sl43 (Has.s rfl) (Has.s rfl))) (ao (StepG.stE (Step.storeL (T := [42, 43]) (LL := [.fact 0 (.lo [42, 43] x7.1), .fact 49 (.lo [42, 43] x7.1), .fact 51 (.lptr [42, 43] (x30 : Head)), .fact 52 (.lptr [42, 43] x30.Dirty), .fact 53 (.lo [42, 43] x30.Dirty), .fact 58 (.lo [42, 43] x7.1), .fact 60 (.lptr [42, 43] (x31 : Head)), .fact 61 (.lptr [42, 43] x31.Dirty), .fact 62 (.lo [42, 43] x31.Dirty), .fact 64 (.lo [42, 43] x7.1), .fact 66 (.lptr [42, 43] (x32 : Head)), .fact 67 (.lptr [42, 43] x32.Dirty), .fact 68 (.lo [42, 43] x32.Dirty), .fact 70 (.lptr [42, 43] (x33 : Bool)), .fact 71 (.lo [42, 43] (x33 : Bool))]) rfl ty4 (Has.s rfl) (Has.s rfl) (LooseL.lo rfl (LooseL.lo rfl (LooseL.lptr rfl (LooseL.lptr rfl (LooseL.lo rfl (LooseL.lo rfl (LooseL.lptr rfl (LooseL.lptr rfl (LooseL.lo rfl (LooseL.lo rfl (LooseL.lptr rfl (LooseL.lptr rfl (LooseL.lo rfl (LooseL.lptr rfl (LooseL.lo rfl LooseL.nil))))))))))))))))) AllM.nil))))))))))))))))) ?_
         refine Leaf.blockN ?_
         refine Leaf.thenN ?_
         refine CWalk.region ?_
         refine mv ?_
         refine wo (Spec.addI (Has.s rfl) Has.int) ?_
         refine wo (Spec.assign (Has.s rfl)) ?_
         refine Walk.nil ?_
         exact Leaf.next hm (sn (st (st (Sub.cons (Has.cst (HasC.cv (HasC.s (s := 902001) rfl) (Cv.m rfl))) (sc (Sub.cons (Has.cst (HasC.cv (HasC.s (s := 902009) rfl) (Cv.owM (T := [26]) (te := [27]) rfl rfl))) (sc (Sub.cons (Has.cst (HasC.cv (HasC.s (s := 902019) rfl) Cv.fl)) (sf (sm (sm (sf (sf (sf (sf (Sub.cons (Has.at (HasG.cv (HasG.s rfl) (Cv.owM (T := [28]) (te := [29]) rfl rfl))) (Sub.cons (Has.at (HasG.cv (HasG.s rfl) (Cv.owF (T := [30]) (te := []) rfl))) (sf (sf (sf (sn (sn Sub.nil))))))))))))))))))))))
        ·have hm := cond_f hb hm
         refine CWalk.exit ?_
         refine Leaf.thenE ?_
         exact Leaf.brk hm (fun h => nomatch h) rfl (sn (st (Sub.cons (Has.cst (HasC.cv (HasC.s (s := 902001) rfl) (Cv.m rfl))) (sc (Sub.cons (Has.cst (HasC.cv (HasC.s (s := 902009) rfl) (Cv.owM (T := [26]) (te := [27]) rfl rfl))) (sc (Sub.cons (Has.cst (HasC.cv (HasC.s (s := 902019) rfl) Cv.fl)) (sf (sm (sm (sf (sf (sf (sf (Sub.cons (Has.at (HasG.cv (HasG.s rfl) (Cv.owM (T := [28]) (te := [29]) rfl rfl))) (Sub.cons (Has.at (HasG.cv (HasG.s rfl) (Cv.owF (T := [30]) (te := []) rfl))) (sf (sf (sf (sn (sn Sub.nil)))))))))))))))))))))
       ·intro _
        refine Leaf.blockE ?_
        refine Leaf.blockN ?_
        refine Leaf.thenN ?_
        refine CWalk.region ?_
        refine mv ?_
        refine wo (Spec.addI (Has.s rfl) Has.int) ?_
        refine wo (Spec.assign (Has.s rfl)) ?_
        refine Walk.nil ?_
        exact Leaf.next hm (sn (st (Sub.cons (Has.cst (HasC.cv (HasC.s (s := 902001) rfl) (Cv.m rfl))) (sc (Sub.cons (Has.cst (HasC.cv (HasC.s (s := 902009) rfl) (Cv.owM (T := [26]) (te := [27]) rfl rfl))) (sc (Sub.cons (Has.cst (HasC.cv (HasC.s (s := 902019) rfl) Cv.fl)) (sf (sm (sm (sf (sf (sf (sf (Sub.cons (Has.at (HasG.cv (HasG.s rfl) (Cv.owM (T := [28]) (te := [29]) rfl rfl))) (Sub.cons (Has.at (HasG.cv (HasG.s rfl) (Cv.owF (T := [30]) (te := []) rfl))) (sf (sf (sf (sn (sn Sub.nil)))))))))))))))))))))
     ·have hm := cond_f hb hm
      refine CWalk.exit ?_
      refine Leaf.thenE ?_
      exact Leaf.brk hm (fun h => nomatch h) rfl (Sub.cons (Has.cst (HasC.cv (HasC.s (s := 902001) rfl) (Cv.m rfl))) (sc (Sub.cons (Has.cst (HasC.cv (HasC.s (s := 902009) rfl) (Cv.owM (T := [26]) (te := [27]) rfl rfl))) (sc (Sub.cons (Has.cst (HasC.cv (HasC.s (s := 902019) rfl) Cv.fl)) (sf (sm (sm (sf (sf (sf (sf (Sub.cons (Has.at (HasG.cv (HasG.s rfl) (Cv.owM (T := [28]) (te := [29]) rfl rfl))) (Sub.cons (Has.at (HasG.cv (HasG.s rfl) (Cv.owF (T := [30]) (te := []) rfl))) (sf (sf (sf (sn (sn Sub.nil)))))))))))))))))))
    ·intro _
     refine Leaf.blockE ?_
     exact Leaf.inN (Leaf.in0 (f0 := Fact.top) () hm rfl rfl (fun _ _ => trivial) (Low.slot rfl (HasC.cv (HasC.s (s := 902001) rfl) (Cv.m rfl)) (ls 902007 (Low.slot rfl (HasC.cv (HasC.s (s := 902009) rfl) (Cv.owM (T := [26]) (te := [27]) rfl rfl)) (ls 902010 (Low.slot rfl (HasC.cv (HasC.s (s := 902019) rfl) Cv.fl) (Low.res (lf (lm (lm (lf (lf (lf (lf (Low.keepG (HasG.cv (HasG.s rfl) (Cv.owM (T := [28]) (te := [29]) rfl rfl)) (Low.keepG (HasG.cv (HasG.s rfl) (Cv.owF (T := [30]) (te := []) rfl)) (lf (lf (lf (lo (lo Low.nil)))))))))))))))))))))
   ·rintro _ hm
    replace hm : law19_ShelfTurns_J2 a1 a3 x3 x4 x5 x6 x7 x8 x9 x10 = some r := hm
    unfold law19_ShelfTurns_J2 at hm
    show Walk _ _ _ [.fact 1 (.rep [0] (a1 : List Head)), .fact 7 (.isv 17), .fact 9 (.ow [26] [27] 45 (x3 : List Head)), .fact 10 (.isv 31), .fact 19 (.rep [] ((((x9 && (x5.2 == x6.2)) && x10) && (x7.2 == x8.2)) : Bool)), .fact 79 (.top), .fact 100018 (.at 18 (.rep [] a3.Stripe)), .fact 100019 (.at 19 (.rep [0] a3.Blocks)), .fact 100020 (.at 20 (.rep [0] a3.Dirty)), .fact 100021 (.at 21 (.rep [] a3.Phase)), .fact 100022 (.at 22 (.rep [] a3.Deals)), .fact 100023 (.at 23 (.rep [] a3.Seq)), .fact 100032 (.at 32 (.rep [] x4.Stripe)), .fact 100033 (.at 33 (.ow [28] [29] 71 (x4.Blocks : List (List UInt8)))), .fact 100034 (.at 34 (.ow [30] [] 4 (x4.Dirty : List Bool))), .fact 100035 (.at 35 (.rep [] x4.Phase)), .fact 100036 (.at 36 (.rep [] x4.Deals)), .fact 100037 (.at 37 (.rep [] x4.Seq)), .fact 100017 (.obj 17 [(false, 1), (false, 1), (false, 1), (false, 1), (false, 1), (false, 1)]), .fact 100031 (.obj 31 [(false, 1), (false, 1), (false, 1), (false, 1), (false, 1), (false, 1)])] _
    refine Walk.nil ?_
    refine Leaf.thenN ?_
    refine CWalk.seq ?_
    refine CWalk.region ?_
    refine mv ?_
    refine mv ?_
    refine wg rfl rfl (fun hb => Spec.move (Has.s rfl)) ?_
    refine wg rfl rfl (fun hb => Spec.move (Has.s rfl)) ?_
    obtain ⟨x11, hx11, hm⟩ := bind_some hm
    refine wg (f := Fact.rep [] (x11 : Bool)) rfl rfl (fun hb => Spec.callE [0, 26, 27] 48 rfl en17 (ref19_Same_c x3 a1 (gO_t hx11 hb)) (HasAll.cons (Has.m (Has.cv (Has.u rfl hb) (Cv.trans Cv.owSl (Cv.slRep (T' := [26, 27]) rfl rfl))) rfl) (HasAll.cons (Has.m (Has.u rfl hb) rfl) HasAll.nil))) ?_
    refine wo (Spec.and (Has.s rfl) (fun h => Has.u rfl h)) ?_
    refine mv ?_
    refine wg rfl rfl (fun hb => Spec.loadObj (ls := [(false, 1, Fact.rep [] x4.Stripe), (false, 1, Fact.ow [28] [29] 71 (x4.Blocks : List (List UInt8))), (false, 1, Fact.ow [30] [] 4 (x4.Dirty : List Bool)), (false, 1, Fact.rep [] x4.Phase), (false, 1, Fact.rep [] x4.Deals), (false, 1, Fact.rep [] x4.Seq)]) ty45 rfl rfl (Has.s rfl) rfl (HasGs.cons (HasG.s rfl) (HasGs.cons (HasG.s rfl) (HasGs.cons (HasG.s rfl) (HasGs.cons (HasG.s rfl) (HasGs.cons (HasG.s rfl) (HasGs.cons (HasG.s rfl) HasGs.nil))))))) ?_
    refine wg rfl rfl (fun hb => Spec.loadObj (ls := [(false, 1, Fact.rep [] a3.Stripe), (false, 1, Fact.rep [0] a3.Blocks), (false, 1, Fact.rep [0] a3.Dirty), (false, 1, Fact.rep [] a3.Phase), (false, 1, Fact.rep [] a3.Deals), (false, 1, Fact.rep [] a3.Seq)]) ty45 rfl rfl (Has.s rfl) rfl (HasGs.cons (HasG.s rfl) (HasGs.cons (HasG.s rfl) (HasGs.cons (HasG.s rfl) (HasGs.cons (HasG.s rfl) (HasGs.cons (HasG.s rfl) (HasGs.cons (HasG.s rfl) HasGs.nil))))))) ?_
    obtain ⟨x12, hx12, hm⟩ := bind_some hm
    refine wg (f := Fact.rep [] (x12 : Bool)) rfl rfl (fun hb => Spec.callE [0, 28, 29, 30] 49 rfl en26 (ref16_Same_c x4 a3 (gO_t hx12 hb)) (HasAll.cons (Has.m (Has.cv (Has.u rfl hb) (Cv.trans (Cv.flds (CvL.cons Cv.fl (CvL.cons (Cv.trans (Cv.trans Cv.owSl (Cv.slRep (T' := [28, 29]) rfl rfl)) (Cv.m rfl)) (CvL.cons (Cv.trans (Cv.trans Cv.owSl (Cv.slRep (T' := [30]) rfl rfl)) (Cv.m rfl)) (CvL.cons Cv.fl (CvL.cons Cv.fl (CvL.cons Cv.fl CvL.nil))))))) (Cv.close (T := [28, 29, 30]) (chHead x4)))) rfl) (HasAll.cons (Has.m (Has.cv (Has.u rfl hb) (Cv.trans (Cv.flds (CvL.cons Cv.fl (CvL.cons (Cv.m rfl) (CvL.cons (Cv.m rfl) (CvL.cons Cv.fl (CvL.cons Cv.fl (CvL.cons Cv.fl CvL.nil))))))) (Cv.close (T := [0]) (chHead a3)))) rfl) HasAll.nil))) ?_
    refine wo (Spec.and (Has.s rfl) (fun h => Has.u rfl h)) ?_
    refine wo (Spec.assign (Has.s rfl)) ?_
    refine Walk.nil ?_
    refine Leaf.thenN ?_
    refine CWalk.ret ?_
    obtain rfl := Option.some.inj hm
    exact Leaf.retC1 rfl (HasR.cv (HasR.tmp (Has.s rfl)) Cv.fl)

end Go.Proofs.Ytnehbcbljaghnaa
