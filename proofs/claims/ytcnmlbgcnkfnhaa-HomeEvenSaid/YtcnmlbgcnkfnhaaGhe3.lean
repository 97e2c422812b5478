/- Printed by a program of ours: models of functions, and that calls do what they say. -/
import Derived.Test.YtcnmlbgcnkfnhaaGhe2
namespace Go.Proofs.Ytcnmlbgcnkfnhaa
open Go GL
set_option linter.unusedVariables false

def law21_HomeEven_L1 (a0 : Config) (a1 : List Disk) (a2 : Deal) (s6 : List (List UInt8)) (s7 : Int) : Option (Ctl ((List (List UInt8)) × Int) (((List (List UInt8))) ⊕ (Unit))) :=
  (bif (decide (s7 < (wI (a0.Members - (1 : Int))))) then Option.bind (fetch_Block a0 a1 (-1 : Int) a2.Stripe s7) (fun x9 => (bif (x9.2 != (0 : Int)) then some (Ctl.brk (Sum.inr ())) else Option.bind (app s6 ([x9.1])) (fun x10 => some (Ctl.next (x10, (wI (s7 + (1 : Int)))))))) else some (Ctl.brk (Sum.inl s6)))
def law21_HomeEven_J3 (s14 : Int) (j16 : List (List UInt8)) : Option (Ctl ((List (List UInt8)) × Int) ((List (List UInt8)))) :=
  some (Ctl.next (j16, (wI (s14 + (1 : Int)))))
def law21_HomeEven_L2 (a2 : Deal) (s13 : List (List UInt8)) (s14 : Int) : Option (Ctl ((List (List UInt8)) × Int) ((List (List UInt8)))) :=
  (bif (decide (s14 < ((a2.Slots).length : Int))) then Option.bind (idx a2.Slots s14) (fun x17 => Option.bind (idx a2.Blocks s14) (fun x18 => Option.bind (bnd (s13).length x17) (fun x19 => Option.bind (idx a2.Blocks s14) (fun x20 => (bif (((x20).length : Int) == (0 : Int)) then Option.bind (idx a2.Slots s14) (fun x21 => Option.bind (law21_full (0 : UInt8)) (fun x22 => Option.bind (bnd ((s13).set x19 x18).length x21) (fun x23 => (law21_HomeEven_J3 s14 (((s13).set x19 x18).set x23 x22))))) else (law21_HomeEven_J3 s14 ((s13).set x19 x18))))))) else some (Ctl.brk s13))
def law21_HomeEven_L4 (a0 : Config) (a1 : List Disk) (s28 : Int) : Option (Ctl (Int) ((Unit) ⊕ (Unit))) :=
  (bif (decide (s28 < a0.Members)) then Option.bind (idx a1 s28) (fun x30 => (bif x30.Dead then some (Ctl.brk (Sum.inr ())) else some (Ctl.next (wI (s28 + (1 : Int)))))) else some (Ctl.brk (Sum.inl ())))
def law21_HomeEven_L5 (a0 : Config) (a2 : Deal) (a3 : Int) (b24 : (List (List UInt8))) (x27 : (List Disk) × Int) (s33 : Int) : Option (Ctl (Int) ((Unit) ⊕ (Unit))) :=
  (bif (decide (s33 < (wI (a0.Members - (1 : Int))))) then Option.bind (fetch_Block a0 x27.1 a3 a2.Stripe s33) (fun x35 => Option.bind (gO (!(x35.2 != (0 : Int))) (idx b24 s33)) (fun x36 => (bif ((x35.2 != (0 : Int)) || (!((Str.mk x35.1).s == (Str.mk x36).s))) then some (Ctl.brk (Sum.inr ())) else some (Ctl.next (wI (s33 + (1 : Int))))))) else some (Ctl.brk (Sum.inl ())))
/-- freeboard/freeboardlaw21.HomeEven -/
def law21_HomeEven (a0 : Config) (a1 : List Disk) (a2 : Deal) (a3 : Int) : Option (Bool) :=
  Option.bind (law21_alive) (fun x1 => Option.bind (ref05_Great a1) (fun x2 => Option.bind (gO (!x2) (ref13_Great a2)) (fun x3 => Option.bind (gO (!(x2 || x3)) (fetch_Check a0 a1)) (fun x4 => Option.bind (gO (!((x2 || x3) || (x4 != (0 : Int)))) (deal_Check a0 a2)) (fun x5 => (bif ((((((x2 || x3) || (x4 != (0 : Int))) || (x5 != (0 : Int))) || (decide (a3 < (0 : Int)))) || (decide (a3 ≥ a0.Members))) || (!x1)) then some x1 else Option.bind (loopM (fun s : (List (List UInt8)) × Int => law21_HomeEven_L1 a0 a1 a2 s.1 s.2) FUEL (([] : List (List UInt8)), (0 : Int))) (fun b11 => Sum.elim (fun b12 => Option.bind (loopM (fun s : (List (List UInt8)) × Int => law21_HomeEven_L2 a2 s.1 s.2) FUEL (b12, (0 : Int))) (fun b24 => Option.bind (fold_Fold b24) (fun x25 => Option.bind (home_Again a0 (-1 : Int) (Deal.mk a2.Stripe a2.Slots a2.Blocks x25.1)) (fun x26 => Option.bind (acts_Run a1 x26.1 ((x26.1).length : Int)) (fun x27 => (bif ((x25.2 != (0 : Int)) || (x26.2 != (0 : Int))) then some false else (bif (x27.2 != (0 : Int)) then some (x27.2 == (9 : Int)) else Option.bind (loopM (fun s : Int => law21_HomeEven_L4 a0 a1 s) FUEL (0 : Int)) (fun b31 => Sum.elim (fun b32 => Option.bind (loopM (fun s : Int => law21_HomeEven_L5 a0 a2 a3 b24 x27 s) FUEL (0 : Int)) (fun b37 => Sum.elim (fun b38 => some true) (fun b39 => some false) b37)) (fun b40 => some true) b31)))))))) (fun b41 => some true) b11)))))))
set_option maxRecDepth 100000 in
set_option maxHeartbeats 2000000 in
theorem law21_HomeEven_c (a0 : Config) (a1 : List Disk) (a2 : Deal) (a3 : Int) {r : Bool} (hm : law21_HomeEven a0 a1 a2 a3 = some r) : Ctr Try.prog 5 [.rep 0 a0, .rep 0 a1, .rep 0 a2, .rep 0 a3] (.fl r) [] := by
 refine ctr_of_walk [[]] 186 Try.func5 rfl rfl rfl rfl (fun w0 om => ?_)
 unfold law21_HomeEven at hm
 refine CWalk.sub (G' := [.fact 0 (.rep [] (a0 : Config)), .fact 1 (.rep [0] (a1 : List Disk)), .fact 2 (.rep [0] (a2 : Deal)), .fact 3 (.rep [] (a3 : Int))]) (Sub.cons (Has.fl (Has.s rfl)) (sn (sn (Sub.cons (Has.fl (Has.s rfl)) Sub.nil)))) ?_
 refine CWalk.seq ?_
 refine CWalk.region ?_
 refine ws (Step.boxObj (ls := [(false, 1, Fact.rep [] a0.Id), (false, 1, Fact.rep [] a0.Members), (false, 1, Fact.rep [] a0.Chunk), (false, 1, Fact.rep [] a0.Rows), (false, 1, Fact.rep [] a0.Log), (false, 1, Fact.rep [] a0.Heads)]) 10 rfl rfl rfl rfl (HasL.flds (Has.cv (Has.s rfl) (Cv.trans (Cv.opens (chConfig a0)) (Cv.flds (CvL.cons Cv.fl (CvL.cons Cv.fl (CvL.cons Cv.fl (CvL.cons Cv.fl (CvL.cons Cv.fl (CvL.cons Cv.fl CvL.nil))))))))))) ?_
 refine ws (Step.boxObj (ls := [(false, 1, Fact.rep [] a2.Stripe), (false, 1, Fact.rep [0] a2.Slots), (false, 1, Fact.rep [0] a2.Blocks), (false, 1, Fact.rep [0] a2.Parity)]) 17 rfl rfl rfl rfl (HasL.flds (Has.cv (Has.s rfl) (Cv.trans (Cv.opens (chDeal a2)) (Cv.flds (CvL.cons Cv.fl (CvL.cons Cv.refl (CvL.cons Cv.refl (CvL.cons Cv.refl CvL.nil))))))))) ?_
 refine wo (Spec.assign Has.bool) ?_
 refine Walk.nil ?_
 refine Leaf.thenN ?_
 refine CWalk.seq ?_
 refine CWalk.region ?_
 obtain ⟨x1, hx1, hm⟩ := bind_some hm
 refine wo (f := Fact.rep [] (x1 : Bool)) (Spec.callE [] 22 rfl en7 (law21_alive_c  hx1) HasAll.nil) ?_
 refine wo (Spec.assign (Has.s rfl)) ?_
 refine Walk.nil ?_
 refine Leaf.thenN ?_
 refine CWalk.seq ?_
 refine CWalk.seq ?_
 refine CWalk.region ?_
 refine mv ?_
 obtain ⟨x2, hx2, hm⟩ := bind_some hm
 refine wo (f := Fact.rep [] (x2 : Bool)) (Spec.callE [0] 23 rfl en19 (ref05_Great_c a1 hx2) (HasAll.cons (Has.m (Has.s rfl) rfl) HasAll.nil)) ?_
 refine mv ?_
 refine wg rfl rfl (fun hb => Spec.loadObj (ls := [(false, 1, Fact.rep [] a2.Stripe), (false, 1, Fact.rep [0] a2.Slots), (false, 1, Fact.rep [0] a2.Blocks), (false, 1, Fact.rep [0] a2.Parity)]) ty43 rfl rfl (Has.s rfl) rfl (HasGs.cons (HasG.s rfl) (HasGs.cons (HasG.s rfl) (HasGs.cons (HasG.s rfl) (HasGs.cons (HasG.s rfl) HasGs.nil))))) ?_
 obtain ⟨x3, hx3, hm⟩ := bind_some hm
 refine wg (f := Fact.rep [] (x3 : Bool)) rfl rfl (fun hb => Spec.callE [0] 24 rfl en20 (ref13_Great_c a2 (gO_t hx3 (not_t hb))) (HasAll.cons (Has.m (Has.cv (Has.u rfl hb) (Cv.trans (Cv.flds (CvL.cons Cv.fl (CvL.cons (Cv.m rfl) (CvL.cons (Cv.m rfl) (CvL.cons (Cv.m rfl) CvL.nil))))) (Cv.close (T := [0]) (chDeal a2)))) rfl) HasAll.nil)) ?_
 refine wo (Spec.or (Has.s rfl) (fun h => Has.u rfl h)) ?_
 refine mv ?_
 refine wg rfl rfl (fun hb => Spec.loadObj (ls := [(false, 1, Fact.rep [] a0.Id), (false, 1, Fact.rep [] a0.Members), (false, 1, Fact.rep [] a0.Chunk), (false, 1, Fact.rep [] a0.Rows), (false, 1, Fact.rep [] a0.Log), (false, 1, Fact.rep [] a0.Heads)]) ty24 rfl rfl (Has.s rfl) rfl (HasGs.cons (HasG.s rfl) (HasGs.cons (HasG.s rfl) (HasGs.cons (HasG.s rfl) (HasGs.cons (HasG.s rfl) (HasGs.cons (HasG.s rfl) (HasGs.cons (HasG.s rfl) HasGs.nil))))))) ?_
 refine wg rfl rfl (fun hb => Spec.move (Has.s rfl)) ?_
 obtain ⟨x4, hx4, hm⟩ := bind_some hm
 refine wg (f := Fact.rep [] (x4 : Int)) rfl rfl (fun hb => Spec.callE [0] 25 rfl en21 (fetch_Check_c a0 a1 (gO_t hx4 (not_t hb))) (HasAll.cons (Has.fl (Has.cv (Has.u rfl hb) (Cv.trans (Cv.flds (CvL.cons Cv.fl (CvL.cons Cv.fl (CvL.cons Cv.fl (CvL.cons Cv.fl (CvL.cons Cv.fl (CvL.cons Cv.fl CvL.nil))))))) (Cv.close (T := []) (chConfig a0))))) (HasAll.cons (Has.m (Has.u rfl hb) rfl) HasAll.nil))) ?_
 refine wg rfl rfl (fun hb => Spec.neqI (Has.u rfl hb) Has.int) ?_
 refine wo (Spec.or (Has.s rfl) (fun h => Has.u rfl h)) ?_
 refine mv ?_
 refine wg rfl rfl (fun hb => Spec.loadObj (ls := [(false, 1, Fact.rep [] a0.Id), (false, 1, Fact.rep [] a0.Members), (false, 1, Fact.rep [] a0.Chunk), (false, 1, Fact.rep [] a0.Rows), (false, 1, Fact.rep [] a0.Log), (false, 1, Fact.rep [] a0.Heads)]) ty24 rfl rfl (Has.s rfl) rfl (HasGs.cons (HasG.s rfl) (HasGs.cons (HasG.s rfl) (HasGs.cons (HasG.s rfl) (HasGs.cons (HasG.s rfl) (HasGs.cons (HasG.s rfl) (HasGs.cons (HasG.s rfl) HasGs.nil))))))) ?_
 refine wg rfl rfl (fun hb => Spec.loadObj (ls := [(false, 1, Fact.rep [] a2.Stripe), (false, 1, Fact.rep [0] a2.Slots), (false, 1, Fact.rep [0] a2.Blocks), (false, 1, Fact.rep [0] a2.Parity)]) ty43 rfl rfl (Has.s rfl) rfl (HasGs.cons (HasG.s rfl) (HasGs.cons (HasG.s rfl) (HasGs.cons (HasG.s rfl) (HasGs.cons (HasG.s rfl) HasGs.nil))))) ?_
 obtain ⟨x5, hx5, hm⟩ := bind_some hm
 refine wg (f := Fact.rep [] (x5 : Int)) rfl rfl (fun hb => Spec.callE [0] 26 rfl en22 (deal_Check_c a0 a2 (gO_t hx5 (not_t hb))) (HasAll.cons (Has.fl (Has.cv (Has.u rfl hb) (Cv.trans (Cv.flds (CvL.cons Cv.fl (CvL.cons Cv.fl (CvL.cons Cv.fl (CvL.cons Cv.fl (CvL.cons Cv.fl (CvL.cons Cv.fl CvL.nil))))))) (Cv.close (T := []) (chConfig a0))))) (HasAll.cons (Has.m (Has.cv (Has.u rfl hb) (Cv.trans (Cv.flds (CvL.cons Cv.fl (CvL.cons (Cv.m rfl) (CvL.cons (Cv.m rfl) (CvL.cons (Cv.m rfl) CvL.nil))))) (Cv.close (T := [0]) (chDeal a2)))) rfl) HasAll.nil))) ?_
 refine wg rfl rfl (fun hb => Spec.neqI (Has.u rfl hb) Has.int) ?_
 refine wo (Spec.or (Has.s rfl) (fun h => Has.u rfl h)) ?_
 refine mv ?_
 refine wg rfl rfl (fun hb => Spec.move (Has.s rfl)) ?_
 refine wg rfl rfl (fun hb => Spec.lssI (Has.u rfl hb) Has.int) ?_
 refine wo (Spec.or (Has.s rfl) (fun h => Has.u rfl h)) ?_
 refine mv ?_
 refine wg rfl rfl (fun hb => Spec.move (Has.s rfl)) ?_
 refine wg rfl rfl (fun hb => Spec.fieldAddrO fd24_1 (Has.cv (Has.s rfl) (Cv.isvP rfl))) ?_
 refine wg rfl rfl (fun hb => Spec.loadF (i := 1) ty3 rfl (Has.u rfl hb) rfl (HasG.s rfl)) ?_
 refine wg rfl rfl (fun hb => Spec.geqI (Has.u rfl hb) (Has.u rfl hb)) ?_
 refine wo (Spec.or (Has.s rfl) (fun h => Has.u rfl h)) ?_
 refine mv ?_
 refine wg rfl rfl (fun hb => Spec.move (Has.s rfl)) ?_
 refine wg rfl rfl (fun hb => Spec.not (Has.u rfl hb)) ?_
 refine wo (Spec.or (Has.s rfl) (fun h => Has.u rfl h)) ?_
 refine Walk.nil ?_
 refine Leaf.thenN ?_
 refine CWalk.cond rfl (fun hb => ?_) (fun hb => ?_)
 ·have hm := cond_t hb hm
  refine CWalk.seq ?_
  refine CWalk.region ?_
  refine mv ?_
  refine wo (Spec.assign (Has.s rfl)) ?_
  refine Walk.nil ?_
  refine Leaf.thenN ?_
  refine CWalk.ret ?_
  refine Leaf.thenR ?_
  obtain rfl := Option.some.inj hm
  exact Leaf.retC1 rfl (HasR.cv (HasR.tmp (Has.s rfl)) Cv.fl)
 ·have hm := cond_f hb hm
  refine CWalk.skip ?_
  refine Leaf.thenN ?_
  refine CWalk.seq ?_
  refine CWalk.region ?_
  refine wo (Spec.assign Has.nilv) ?_
  refine Walk.nil ?_
  refine Leaf.thenN ?_
  refine CWalk.seq ?_
  refine CWalk.seq ?_
  refine CWalk.region ?_
  refine wo (Spec.assign Has.int) ?_
  refine Walk.nil ?_
  refine Leaf.thenN ?_
  refine CWalk.block ?_
  obtain ⟨b11, hb11, hm⟩ := bind_some hm
  refine CWalk.loop (fun s : (List (List UInt8)) × Int => [.fact 1 (.rep [0] (a1 : List Disk)), .fact 3 (.rep [] (a3 : Int)), .fact 4 (.isv 10), .fact 6 (.isv 17), .fact 10 (.ow [29] [27, 28] 35 (s.1 : List (List UInt8))), .fact 11 (.rep [] s.2), .fact 100011 (.at 11 (.rep [] a0.Id)), .fact 100012 (.at 12 (.rep [] a0.Members)), .fact 100013 (.at 13 (.rep [] a0.Chunk)), .fact 100014 (.at 14 (.rep [] a0.Rows)), .fact 100015 (.at 15 (.rep [] a0.Log)), .fact 100016 (.at 16 (.rep [] a0.Heads)), .fact 100018 (.at 18 (.rep [] a2.Stripe)), .fact 100019 (.at 19 (.rep [0] a2.Slots)), .fact 100020 (.at 20 (.rep [0] a2.Blocks)), .fact 100021 (.at 21 (.rep [0] a2.Parity)), .fact 100010 (.obj 10 [(false, 1), (false, 1), (false, 1), (false, 1), (false, 1), (false, 1)]), .fact 100017 (.obj 17 [(false, 1), (false, 1), (false, 1), (false, 1)])]) (fun b : ((List (List UInt8))) ⊕ (Unit) => Sum.elim (fun b => (Exit.exit 0, [.fact 1 (.rep [0] (a1 : List Disk)), .fact 3 (.rep [] (a3 : Int)), .fact 4 (.isv 10), .fact 6 (.isv 17), .fact 10 (.ow [29] [27, 28] 35 (b : List (List UInt8))), .fact 100011 (.at 11 (.rep [] a0.Id)), .fact 100012 (.at 12 (.rep [] a0.Members)), .fact 100013 (.at 13 (.rep [] a0.Chunk)), .fact 100014 (.at 14 (.rep [] a0.Rows)), .fact 100015 (.at 15 (.rep [] a0.Log)), .fact 100016 (.at 16 (.rep [] a0.Heads)), .fact 100018 (.at 18 (.rep [] a2.Stripe)), .fact 100019 (.at 19 (.rep [0] a2.Slots)), .fact 100020 (.at 20 (.rep [0] a2.Blocks)), .fact 100021 (.at 21 (.rep [0] a2.Parity)), .fact 100010 (.obj 10 [(false, 1), (false, 1), (false, 1), (false, 1), (false, 1), (false, 1)]), .fact 100017 (.obj 17 [(false, 1), (false, 1), (false, 1), (false, 1)])])) (fun b => (Exit.ret, [.fact 8 (.rep [] (true : Bool))])) b) hb11 (su (st (sn (sn (Sub.cons (Has.cv (Has.s rfl) (Cv.trans Cv.nilOw (Cv.owM (T := []) (te := []) rfl rfl))) (st (sf (sf (sf (sf (sf (sf (sf (sm (sm (sm (sn (sn Sub.nil)))))))))))))))))) ?_ ?_
  ·rintro ⟨s6, s7⟩ c8 hm
   replace hm : law21_HomeEven_L1 a0 a1 a2 s6 s7 = some c8 := hm
   unfold law21_HomeEven_L1 at hm
   show CWalk _ [.fact 1 (.rep [0] (a1 : List Disk)), .fact 3 (.rep [] (a3 : Int)), .fact 4 (.isv 10), .fact 6 (.isv 17), .fact 10 (.ow [29] [27, 28] 35 (s6 : List (List UInt8))), .fact 11 (.rep [] (s7 : Int)), .fact 100011 (.at 11 (.rep [] a0.Id)), .fact 100012 (.at 12 (.rep [] a0.Members)), .fact 100013 (.at 13 (.rep [] a0.Chunk)), .fact 100014 (.at 14 (.rep [] a0.Rows)), .fact 100015 (.at 15 (.rep [] a0.Log)), .fact 100016 (.at 16 (.rep [] a0.Heads)), .fact 100018 (.at 18 (.rep [] a2.Stripe)), .fact 100019 (.at 19 (.rep [0] a2.Slots)), .fact 100020 (.at 20 (.rep [0] a2.Blocks)), .fact 100021 (.at 21 (.rep [0] a2.Parity)), .fact 100010 (.obj 10 [(false, 1), (false, 1), (false, 1), (false, 1), (false, 1), (false, 1)]), .fact 100017 (.obj 17 [(false, 1), (false, 1), (false, 1), (false, 1)])] _ _
   refine CWalk.seq ?_
   refine CWalk.seq ?_
   refine CWalk.region ?_
   refine mv ?_
   refine wo (Spec.fieldAddrO fd24_1 (Has.cv (Has.s rfl) (Cv.isvP rfl))) ?_
   refine wo (Spec.loadF (i := 1) ty3 rfl (Has.s rfl) rfl (HasG.s rfl)) ?_
   refine wo (Spec.subI (Has.s rfl) Has.int) ?_
   refine wo (Spec.lssI (Has.s rfl) (Has.s rfl)) ?_
   refine Walk.nil ?_
   refine Leaf.thenN ?_
   refine CWalk.cond rfl (fun hb => ?_) (fun hb => ?_)
   ·have hm := cond_t hb hm
    refine CWalk.skip ?_
    refine Leaf.thenN ?_
    refine CWalk.seq ?_
    refine CWalk.block ?_
    refine CWalk.seq ?_
    refine CWalk.region ?_
    refine wo (Spec.loadObj (ls := [(false, 1, Fact.rep [] a0.Id), (false, 1, Fact.rep [] a0.Members), (false, 1, Fact.rep [] a0.Chunk), (false, 1, Fact.rep [] a0.Rows), (false, 1, Fact.rep [] a0.Log), (false, 1, Fact.rep [] a0.Heads)]) ty24 rfl rfl (Has.s rfl) rfl (HasGs.cons (HasG.s rfl) (HasGs.cons (HasG.s rfl) (HasGs.cons (HasG.s rfl) (HasGs.cons (HasG.s rfl) (HasGs.cons (HasG.s rfl) (HasGs.cons (HasG.s rfl) HasGs.nil))))))) ?_
    refine mv ?_
    refine wo (Spec.fieldAddrO fd43_0 (Has.cv (Has.s rfl) (Cv.isvP rfl))) ?_
    refine wo (Spec.loadF (i := 0) ty3 rfl (Has.s rfl) rfl (HasG.s rfl)) ?_
    refine mv ?_
    obtain ⟨x9, hx9, hm⟩ := bind_some hm
    refine wo (f := Fact.tup2 (Fact.sl [27] [] (x9.1 : List UInt8)) (Fact.rep [] x9.2)) (Spec.callE [0] 27 rfl en23 (fetch_Block_c a0 a1 (-1 : Int) a2.Stripe s7 hx9) (HasAll.cons (Has.fl (Has.cv (Has.s rfl) (Cv.trans (Cv.flds (CvL.cons Cv.fl (CvL.cons Cv.fl (CvL.cons Cv.fl (CvL.cons Cv.fl (CvL.cons Cv.fl (CvL.cons Cv.fl CvL.nil))))))) (Cv.close (T := []) (chConfig a0))))) (HasAll.cons (Has.m (Has.s rfl) rfl) (HasAll.cons (Has.fl Has.int) (HasAll.cons (Has.fl (Has.s rfl)) (HasAll.cons (Has.fl (Has.s rfl)) HasAll.nil)))))) ?_
    refine mv ?_
    refine wo (Spec.ext0 (Has.s rfl)) ?_
    refine wo (Spec.ext1 (Has.s rfl)) ?_
    refine wo (Spec.assign (Has.s rfl)) ?_
    refine wo (Spec.assign (Has.s rfl)) ?_
    refine Walk.nil ?_
    refine Leaf.thenN ?_
    refine CWalk.seq ?_
    refine CWalk.seq ?_
    refine CWalk.region ?_
    refine mv ?_
    refine wo (Spec.neqI (Has.s rfl) Has.int) ?_
    refine Walk.nil ?_
    refine Leaf.thenN ?_
    refine CWalk.cond rfl (fun hb => ?_) (fun hb => ?_)
    ·have hm := cond_t hb hm
     refine CWalk.seq ?_
     refine CWalk.region ?_
     refine wo (Spec.assign Has.bool) ?_
     refine Walk.nil ?_
     refine Leaf.thenN ?_
     refine CWalk.ret ?_
     refine Leaf.thenR ?_
     refine Leaf.blockR ?_
     refine Leaf.thenR ?_
     exact Leaf.brk hm (fun h => nomatch h) rfl (st Sub.nil)
    ·have hm := cond_f hb hm
     refine CWalk.skip ?_
     refine Leaf.thenN ?_
     refine CWalk.region ?_
     refine mv ?_
     refine mv ?_
     refine wo (Spec.lit (xs := [.tmp 78]) (T := [27]) 28 rfl ow25 rfl rfl rfl rfl (HasEach.cons (Has.m (Has.cv (Has.s rfl) (Cv.slRep (T' := [27]) rfl rfl)) rfl) HasEach.nil)) ?_
     obtain ⟨x10, hx10, hm⟩ := bind_some hm
     refine ws (Step.appendOw (T := [29]) (te' := [27, 28]) hx10 rfl rfl rfl ow25 (Has.s rfl) (Has.s rfl) (ElKeeps.tags rfl rfl) (ElKeeps.tags rfl rfl)) ?_
     refine wo (Spec.assign (Has.s rfl)) ?_
     refine Walk.nil ?_
     refine Leaf.blockN ?_
     refine Leaf.thenN ?_
     refine CWalk.region ?_
     refine mv ?_
     refine wo (Spec.addI (Has.s rfl) Has.int) ?_
     refine wo (Spec.assign (Has.s rfl)) ?_
     refine Walk.nil ?_
     exact Leaf.next hm (su (st (sn (sn (Sub.cons (Has.cv (Has.s rfl) (Cv.owM (T := [29]) (te := [27, 28]) rfl rfl)) (st (sf (sf (sf (sf (sf (sf (sf (sm (sm (sm (sn (sn Sub.nil))))))))))))))))))
   ·have hm := cond_f hb hm
    refine CWalk.exit ?_
    refine Leaf.thenE ?_
    exact Leaf.brk hm (fun h => nomatch h) rfl (su (st (sn (sn (Sub.cons (Has.cv (Has.s rfl) (Cv.owM (T := [29]) (te := [27, 28]) rfl rfl)) (sf (sf (sf (sf (sf (sf (sf (sm (sm (sm (sn (sn Sub.nil)))))))))))))))))
  ·intro _
   rcases b11 with b12 | b41
   ·have hm := selim_l hm
    refine Leaf.blockE ?_
    refine Leaf.thenN ?_
    refine CWalk.seq ?_
    refine CWalk.seq ?_
    refine CWalk.region ?_
    refine wo (Spec.assign Has.int) ?_
    refine Walk.nil ?_
    refine Leaf.thenN ?_
    refine CWalk.block ?_
    obtain ⟨b24, hb24, hm⟩ := bind_some hm
    refine CWalk.loop (fun s : (List (List UInt8)) × Int => [.fact 1 (.rep [0] (a1 : List Disk)), .fact 3 (.rep [] (a3 : Int)), .fact 4 (.isv 10), .fact 6 (.isv 17), .fact 10 (.ow [29, 30] [0, 27, 28, 31] 35 (s.1 : List (List UInt8))), .fact 14 (.rep [] s.2), .fact 100011 (.at 11 (.rep [] a0.Id)), .fact 100012 (.at 12 (.rep [] a0.Members)), .fact 100013 (.at 13 (.rep [] a0.Chunk)), .fact 100014 (.at 14 (.rep [] a0.Rows)), .fact 100015 (.at 15 (.rep [] a0.Log)), .fact 100016 (.at 16 (.rep [] a0.Heads)), .fact 100018 (.at 18 (.rep [] a2.Stripe)), .fact 100019 (.at 19 (.rep [0] a2.Slots)), .fact 100020 (.at 20 (.rep [0] a2.Blocks)), .fact 100021 (.at 21 (.rep [0] a2.Parity)), .fact 100010 (.obj 10 [(false, 1), (false, 1), (false, 1), (false, 1), (false, 1), (false, 1)]), .fact 100017 (.obj 17 [(false, 1), (false, 1), (false, 1), (false, 1)])]) (fun b : (List (List UInt8)) => (Exit.exit 2, [.fact 1 (.rep [0] (a1 : List Disk)), .fact 3 (.rep [] (a3 : Int)), .fact 4 (.isv 10), .fact 6 (.isv 17), .fact 10 (.ow [29, 30] [0, 27, 28, 31] 35 (b : List (List UInt8))), .fact 100011 (.at 11 (.rep [] a0.Id)), .fact 100012 (.at 12 (.rep [] a0.Members)), .fact 100013 (.at 13 (.rep [] a0.Chunk)), .fact 100014 (.at 14 (.rep [] a0.Rows)), .fact 100015 (.at 15 (.rep [] a0.Log)), .fact 100016 (.at 16 (.rep [] a0.Heads)), .fact 100018 (.at 18 (.rep [] a2.Stripe)), .fact 100019 (.at 19 (.rep [0] a2.Slots)), .fact 100020 (.at 20 (.rep [0] a2.Blocks)), .fact 100021 (.at 21 (.rep [0] a2.Parity)), .fact 100010 (.obj 10 [(false, 1), (false, 1), (false, 1), (false, 1), (false, 1), (false, 1)]), .fact 100017 (.obj 17 [(false, 1), (false, 1), (false, 1), (false, 1)])])) hb24 (su (st (sn (sn (Sub.cons (Has.cv (Has.s rfl) (Cv.owM (T := [29]) (te := [27, 28]) rfl rfl)) (st (sf (sf (sf (sf (sf (sf (sf (sm (sm (sm (sn (sn Sub.nil)))))))))))))))))) ?_ ?_
    ·rintro ⟨s13, s14⟩ c15 hm
     replace hm : law21_HomeEven_L2 a2 s13 s14 = some c15 := hm
     unfold law21_HomeEven_L2 at hm
     show CWalk _ [.fact 1 (.rep [0] (a1 : List Disk)), .fact 3 (.rep [] (a3 : Int)), .fact 4 (.isv 10), .fact 6 (.isv 17), .fact 10 (.ow [29, 30] [0, 27, 28, 31] 35 (s13 : List (List UInt8))), .fact 14 (.rep [] (s14 : Int)), .fact 100011 (.at 11 (.rep [] a0.Id)), .fact 100012 (.at 12 (.rep [] a0.Members)), .fact 100013 (.at 13 (.rep [] a0.Chunk)), .fact 100014 (.at 14 (.rep [] a0.Rows)), .fact 100015 (.at 15 (.rep [] a0.Log)), .fact 100016 (.at 16 (.rep [] a0.Heads)), .fact 100018 (.at 18 (.rep [] a2.Stripe)), .fact 100019 (.at 19 (.rep [0] a2.Slots)), .fact 100020 (.at 20 (.rep [0] a2.Blocks)), .fact 100021 (.at 21 (.rep [0] a2.Parity)), .fact 100010 (.obj 10 [(false, 1), (false, 1), (false, 1), (false, 1), (false, 1), (false, 1)]), .fact 100017 (.obj 17 [(false, 1), (false, 1), (false, 1), (false, 1)])] _ _
     refine CWalk.seq ?_
     refine CWalk.seq ?_
     refine CWalk.region ?_
     refine mv ?_
     refine wo (Spec.fieldAddrO fd43_1 (Has.cv (Has.s rfl) (Cv.isvP rfl))) ?_
     refine wo (Spec.loadF (i := 1) ty41 rfl (Has.s rfl) rfl (HasG.s rfl)) ?_
     refine wo (Spec.len (Has.s rfl) Try.underlying41) ?_
     refine wo (Spec.lssI (Has.s rfl) (Has.s rfl)) ?_
     refine Walk.nil ?_
     refine Leaf.thenN ?_
     refine CWalk.cond rfl (fun hb => ?_) (fun hb => ?_)
     ·have hm := cond_t hb hm
      refine CWalk.skip ?_
      refine Leaf.thenN ?_
      refine CWalk.seqJ (fun p : (List (List UInt8)) => [.fact 1 (.rep [0] (a1 : List Disk)), .fact 3 (.rep [] (a3 : Int)), .fact 4 (.isv 10), .fact 6 (.isv 17), .fact 10 (.isv 30), .fact 14 (.rep [] (s14 : Int)), .fact 100011 (.at 11 (.rep [] a0.Id)), .fact 100012 (.at 12 (.rep [] a0.Members)), .fact 100013 (.at 13 (.rep [] a0.Chunk)), .fact 100014 (.at 14 (.rep [] a0.Rows)), .fact 100015 (.at 15 (.rep [] a0.Log)), .fact 100016 (.at 16 (.rep [] a0.Heads)), .fact 100018 (.at 18 (.rep [] a2.Stripe)), .fact 100019 (.at 19 (.rep [0] a2.Slots)), .fact 100020 (.at 20 (.rep [0] a2.Blocks)), .fact 100021 (.at 21 (.rep [0] a2.Parity)), .fact 100010 (.obj 10 [(false, 1), (false, 1), (false, 1), (false, 1), (false, 1), (false, 1)]), .fact 100017 (.obj 17 [(false, 1), (false, 1), (false, 1), (false, 1)]), .fact 100030 (.own 30 [0, 27, 28, 31] 35 (p : List (List UInt8)))]) (fun p : (List (List UInt8)) => law21_HomeEven_J3 s14 p = some c15) ?_ ?_
      ·rintro j16 hm
       replace hm : law21_HomeEven_J3 s14 j16 = some c15 := hm
       unfold law21_HomeEven_J3 at hm
       show CWalk _ [.fact 1 (.rep [0] (a1 : List Disk)), .fact 3 (.rep [] (a3 : Int)), .fact 4 (.isv 10), .fact 6 (.isv 17), .fact 10 (.isv 30), .fact 14 (.rep [] (s14 : Int)), .fact 100011 (.at 11 (.rep [] a0.Id)), .fact 100012 (.at 12 (.rep [] a0.Members)), .fact 100013 (.at 13 (.rep [] a0.Chunk)), .fact 100014 (.at 14 (.rep [] a0.Rows)), .fact 100015 (.at 15 (.rep [] a0.Log)), .fact 100016 (.at 16 (.rep [] a0.Heads)), .fact 100018 (.at 18 (.rep [] a2.Stripe)), .fact 100019 (.at 19 (.rep [0] a2.Slots)), .fact 100020 (.at 20 (.rep [0] a2.Blocks)), .fact 100021 (.at 21 (.rep [0] a2.Parity)), .fact 100010 (.obj 10 [(false, 1), (false, 1), (false, 1), (false, 1), (false, 1), (false, 1)]), .fact 100017 (.obj 17 [(false, 1), (false, 1), (false, 1), (false, 1)]), .fact 100030 (.own 30 [0, 27, 28, 31] 35 (j16 : List (List UInt8)))] _ _
       refine CWalk.region ?_
       refine mv ?_
       refine wo (Spec.addI (Has.s rfl) Has.int) ?_
       refine wo (Spec.assign (Has.s rfl)) ?_
       refine Walk.nil ?_
       exact Leaf.next hm (su (st (sn (sn (Sub.cons (Has.cv (Has.s rfl) (Cv.trans (Cv.isvOw rfl) (Cv.owM (T := [30]) (te := [0, 27, 28, 31]) rfl rfl))) (st (sf (sf (sf (sf (sf (sf (sf (sm (sm (sm (sn (sn Sub.nil))))))))))))))))))
      ·refine CWalk.block ?_
       refine CWalk.seq ?_
       refine CWalk.ad (Ad.ow (s := 10) 30 rfl rfl (ElT.tags rfl) rfl (Cv.owM (T := [29, 30]) (te := [0, 27, 28, 31]) (T' := [29, 30]) (te' := [0, 27, 28, 31]) rfl rfl)) ?_
       obtain ⟨x17, hx17, hm⟩ := bind_some hm
       obtain ⟨x18, hx18, hm⟩ := bind_some hm
       obtain ⟨x19, hx19, hm⟩ := bind_some hm
       refine CWalk.drawM [[], [], [1], [], [1, 2, 3], [1, 2, 3, 4], [], [6], [], [6, 7, 8], [6, 7, 8, 9], [0, 1, 2, 3, 4, 5, 6, 7, 8, 9, 10], [0, 1, 2, 3, 4, 5, 6, 7, 8, 9, 10, 11]] [[.fact 88 (.isv 30)], [.fact 89 (.pto 17 1)], [.fact 90 (.rep [0] a2.Slots)], [.fact 91 (.rep [] (s14 : Int))], [.fact 92 (.ptr [0] (x17 : Int))], [.fact 93 (.rep [] (x17 : Int))], [.fact 94 (.pto 17 2)], [.fact 95 (.rep [0] a2.Blocks)], [.fact 96 (.rep [] (s14 : Int))], [.fact 97 (.ptr [0] (x18 : List UInt8))], [.fact 98 (.rep [0] (x18 : List UInt8))], [.fact 99 (.pto 30 (x19 * Rp.n (List UInt8)))], [.fact 100030 (.own 30 [0, 27, 28, 31] 35 ((s13).set x19 x18 : List (List UInt8))), .kill 30]] mixed (by kernel_rfl) (ao (so (Spec.move (Has.s rfl))) (ao (so (Spec.fieldAddrO fd43_1 (Has.cv (Has.s rfl) (Cv.isvP rfl)))) (ao (so (Spec.loadF (i := 1) ty41 rfl (Has.s rfl) rfl (HasG.s rfl))) (ao (so (Spec.move (Has.s rfl))) (ao (so (Spec.indexAddr hx17 sl41 (Has.s rfl) (Has.s rfl))) (ao (so ((Spec.load ty3 (Has.s rfl)).flat (T' := []))) (ao (so (Spec.fieldAddrO fd43_2 (Has.cv (Has.s rfl) (Cv.isvP rfl)))) (ao (so (Spec.loadF (i := 2) ty25 rfl (Has.s rfl) rfl (HasG.s rfl))) (ao (so (Spec.move (Has.s rfl))) (ao (so (Spec.indexAddr hx18 sl25 (Has.s rfl) (Has.s rfl))) (ao (so (Spec.load ty35 (Has.s rfl))) (ao (so (Spec.idxOwn hx19 ow25 (Has.s rfl) rfl (Has.s rfl))) (ao (StepG.stE (Step.storeOwn (te' := [0, 27, 28, 31]) rfl (bnd_lt hx19 rfl) ty35 (Has.s rfl) rfl (Has.s rfl) (ElKeep.tags rfl rfl) (ElKeep.tags rfl rfl))) AllM.nil))))))))))))) ?_
       refine Leaf.thenN ?_
       refine CWalk.seq ?_
       refine CWalk.region ?_
       refine wo (Spec.fieldAddrO fd43_2 (Has.cv (Has.s rfl) (Cv.isvP rfl))) ?_
       refine wo (Spec.loadF (i := 2) ty25 rfl (Has.s rfl) rfl (HasG.s rfl)) ?_
       refine mv ?_
       obtain ⟨x20, hx20, hm⟩ := bind_some hm
       refine wo (Spec.indexAddr hx20 sl25 (Has.s rfl) (Has.s rfl)) ?_
       refine wo (Spec.load ty35 (Has.s rfl)) ?_
       refine wo (Spec.len (Has.s rfl) Try.underlying35) ?_
       refine wo (Spec.eqlI (Has.s rfl) Has.int) ?_
       refine Walk.nil ?_
       refine Leaf.thenN ?_
       refine CWalk.cond rfl (fun hb => ?_) (fun hb => ?_)
       ·have hm := cond_t hb hm
        obtain ⟨x21, hx21, hm⟩ := bind_some hm
        obtain ⟨x22, hx22, hm⟩ := bind_some hm
        obtain ⟨x23, hx23, hm⟩ := bind_some hm
        refine CWalk.drawM [[], [], [1], [], [1, 2, 3], [1, 2, 3, 4], [], [0, 1, 2, 3, 4, 5, 6], [0, 1, 2, 3, 4, 5, 6, 7]] [[.fact 107 (.isv 30)], [.fact 108 (.pto 17 1)], [.fact 109 (.rep [0] a2.Slots)], [.fact 110 (.rep [] (s14 : Int))], [.fact 111 (.ptr [0] (x21 : Int))], [.fact 112 (.rep [] (x21 : Int))], [.fact 113 (.ow [31] [] 5 (x22 : List UInt8))], [.fact 114 (.pto 30 (x23 * Rp.n (List UInt8)))], [.fact 100030 (.own 30 [0, 27, 28, 31] 35 (((s13).set x19 x18).set x23 x22 : List (List UInt8))), .kill 30]] mixed (by kernel_rfl) (ao (so (Spec.move (Has.s rfl))) (ao (so (Spec.fieldAddrO fd43_1 (Has.cv (Has.s rfl) (Cv.isvP rfl)))) (ao (so (Spec.loadF (i := 1) ty41 rfl (Has.s rfl) rfl (HasG.s rfl))) (ao (so (Spec.move (Has.s rfl))) (ao (so (Spec.indexAddr hx21 sl41 (Has.s rfl) (Has.s rfl))) (ao (so ((Spec.load ty3 (Has.s rfl)).flat (T' := []))) (ao (so (Spec.callE [] 31 rfl en24 (law21_full_c (0 : UInt8) hx22) (HasAll.cons (Has.fl (Has.u8 0 rfl)) HasAll.nil))) (ao (so (Spec.idxOwn hx23 ow25 (Has.s rfl) rfl (Has.s rfl))) (ao (StepG.stE (Step.storeOwn (te' := [0, 27, 28, 31]) rfl (bnd_lt hx23 rfl) ty35 (Has.s rfl) rfl (Has.cv (Has.s rfl) (Cv.trans Cv.owSl (Cv.slRep (T' := [31]) rfl rfl))) (ElKeep.tags rfl rfl) (ElKeep.tags rfl rfl))) AllM.nil))))))))) ?_
        refine Leaf.blockN ?_
        exact Leaf.join (((s13).set x19 x18).set x23 x22) hm (su (st (sn (sn (sn (st (sf (sf (sf (sf (sf (sf (sf (sm (sm (sm (sn (sn (Sub.cons (Has.ownM (Has.s rfl) rfl) Sub.nil)))))))))))))))))))
       ·have hm := cond_f hb hm
        refine CWalk.skip ?_
        refine Leaf.blockN ?_
        exact Leaf.join ((s13).set x19 x18) hm (su (st (sn (sn (sn (st (sf (sf (sf (sf (sf (sf (sf (sm (sm (sm (sn (sn (Sub.cons (Has.ownM (Has.s rfl) rfl) Sub.nil)))))))))))))))))))
     ·have hm := cond_f hb hm
      refine CWalk.exit ?_
      refine Leaf.thenE ?_
      exact Leaf.brk hm (fun h => nomatch h) rfl (su (st (sn (sn (Sub.cons (Has.cv (Has.s rfl) (Cv.owM (T := [29, 30]) (te := [0, 27, 28, 31]) rfl rfl)) (sf (sf (sf (sf (sf (sf (sf (sm (sm (sm (sn (sn Sub.nil)))))))))))))))))
    ·intro _
     refine Leaf.blockE ?_
     refine Leaf.thenN ?_
     refine CWalk.seq ?_
     refine CWalk.region ?_
     refine mv ?_
     obtain ⟨x25, hx25, hm⟩ := bind_some hm
     refine wo (f := Fact.tup2 (Fact.sl [32] [] (x25.1 : List UInt8)) (Fact.rep [] x25.2)) (Spec.callE [0, 27, 28, 29, 30, 31] 32 rfl en25 (fold_Fold_c b24 hx25) (HasAll.cons (Has.m (Has.cv (Has.s rfl) (Cv.trans Cv.owSl (Cv.slRep (T' := [0, 27, 28, 29, 30, 31]) rfl rfl))) rfl) HasAll.nil)) ?_
     refine mv ?_
     refine wo (Spec.ext0 (Has.s rfl)) ?_
     refine wo (Spec.ext1 (Has.s rfl)) ?_
     refine wo (Spec.assign (Has.s rfl)) ?_
     refine wo (Spec.assign (Has.s rfl)) ?_
     refine Walk.nil ?_
     refine Leaf.thenN ?_
     refine CWalk.seq ?_
     refine CWalk.region ?_
     refine mv ?_
     refine wo (Spec.fieldAddrO fd43_3 (Has.cv (Has.s rfl) (Cv.isvP rfl))) ?_
     refine ws (Step.storeF (i := 3) (f := Fact.sl [32] [] (x25.1 : List UInt8)) rfl ty35 rfl (Has.s rfl) rfl (Has.cv (Has.s rfl) (Cv.slRep (T' := [32]) rfl rfl)) (Has.s rfl) rfl) ?_
     refine Walk.nil ?_
     refine Leaf.thenN ?_
     refine CWalk.seq ?_
     refine CWalk.region ?_
     refine wo (Spec.loadObj (ls := [(false, 1, Fact.rep [] a0.Id), (false, 1, Fact.rep [] a0.Members), (false, 1, Fact.rep [] a0.Chunk), (false, 1, Fact.rep [] a0.Rows), (false, 1, Fact.rep [] a0.Log), (false, 1, Fact.rep [] a0.Heads)]) ty24 rfl rfl (Has.s rfl) rfl (HasGs.cons (HasG.s rfl) (HasGs.cons (HasG.s rfl) (HasGs.cons (HasG.s rfl) (HasGs.cons (HasG.s rfl) (HasGs.cons (HasG.s rfl) (HasGs.cons (HasG.s rfl) HasGs.nil))))))) ?_
     refine wo (Spec.loadObj (ls := [(false, 1, Fact.rep [] a2.Stripe), (false, 1, Fact.rep [0] a2.Slots), (false, 1, Fact.rep [0] a2.Blocks), (false, 1, Fact.sl [32] [] (x25.1 : List UInt8))]) ty43 rfl rfl (Has.s rfl) rfl (HasGs.cons (HasG.s rfl) (HasGs.cons (HasG.s rfl) (HasGs.cons (HasG.s rfl) (HasGs.cons (HasG.s rfl) HasGs.nil))))) ?_
     obtain ⟨x26, hx26, hm⟩ := bind_some hm
     refine wo (f := Fact.tup2 (Fact.ow [33] [34] 37 (x26.1 : List Act37)) (Fact.rep [] x26.2)) (Spec.callE [0, 32] 33 rfl en12 (home_Again_c a0 (-1 : Int) (Deal.mk a2.Stripe a2.Slots a2.Blocks x25.1) hx26) (HasAll.cons (Has.fl (Has.cv (Has.s rfl) (Cv.trans (Cv.flds (CvL.cons Cv.fl (CvL.cons Cv.fl (CvL.cons Cv.fl (CvL.cons Cv.fl (CvL.cons Cv.fl (CvL.cons Cv.fl CvL.nil))))))) (Cv.close (T := []) (chConfig a0))))) (HasAll.cons (Has.fl Has.int) (HasAll.cons (Has.m (Has.cv (Has.s rfl) (Cv.trans (Cv.flds (CvL.cons Cv.fl (CvL.cons (Cv.m rfl) (CvL.cons (Cv.m rfl) (CvL.cons (Cv.trans (Cv.slRep (T' := [32]) rfl rfl) (Cv.m rfl)) CvL.nil))))) (Cv.close (T := [0, 32]) (chDeal (Deal.mk a2.Stripe a2.Slots a2.Blocks x25.1))))) rfl) HasAll.nil)))) ?_
     refine mv ?_
     refine wo (Spec.ext0 (Has.s rfl)) ?_
     refine wo (Spec.ext1 (Has.s rfl)) ?_
     refine wo (Spec.assign (Has.s rfl)) ?_
     refine wo (Spec.assign (Has.s rfl)) ?_
     refine Walk.nil ?_
     refine Leaf.thenN ?_
     refine CWalk.seq ?_
     refine CWalk.region ?_
     refine mv ?_
     refine mv ?_
     refine mv ?_
     refine wo (Spec.len (Has.cv (Has.s rfl) (Cv.trans Cv.owSl (Cv.slRep (T' := [33, 34]) rfl rfl))) Try.underlying31) ?_
     obtain ⟨x27, hx27, hm⟩ := bind_some hm
     refine wo (f := Fact.tup2 (Fact.ow [35] [36] 66 (x27.1 : List Disk)) (Fact.rep [] x27.2)) (Spec.callE [0, 33, 34] 35 rfl en26 (acts_Run_c a1 x26.1 ((x26.1).length : Int) hx27) (HasAll.cons (Has.m (Has.s rfl) rfl) (HasAll.cons (Has.m (Has.cv (Has.s rfl) (Cv.trans Cv.owSl (Cv.slRep (T' := [33, 34]) rfl rfl))) rfl) (HasAll.cons (Has.fl (Has.s rfl)) HasAll.nil)))) ?_
     refine mv ?_
     refine wo (Spec.ext0 (Has.s rfl)) ?_
     refine wo (Spec.ext1 (Has.s rfl)) ?_
     refine wo (Spec.assign (Has.s rfl)) ?_
     refine wo (Spec.assign (Has.s rfl)) ?_
     refine Walk.nil ?_
     refine Leaf.thenN ?_
     refine CWalk.seq ?_
     refine CWalk.seq ?_
     refine CWalk.region ?_
     refine mv ?_
     refine wo (Spec.neqI (Has.s rfl) Has.int) ?_
     refine mv ?_
     refine wg rfl rfl (fun hb => Spec.move (Has.s rfl)) ?_
     refine wg rfl rfl (fun hb => Spec.neqI (Has.u rfl hb) Has.int) ?_
     refine wo (Spec.or (Has.s rfl) (fun h => Has.u rfl h)) ?_
     refine Walk.nil ?_
     refine Leaf.thenN ?_
     refine CWalk.cond rfl (fun hb => ?_) (fun hb => ?_)
     ·have hm := cond_t hb hm
      refine CWalk.seq ?_
      refine CWalk.region ?_
      refine wo (Spec.assign Has.bool) ?_
      refine Walk.nil ?_
      refine Leaf.thenN ?_
      refine CWalk.ret ?_
      refine Leaf.thenR ?_
      obtain rfl := Option.some.inj hm
      exact Leaf.retC1 rfl (HasR.cv (HasR.tmp (Has.s rfl)) Cv.fl)
     ·have hm := cond_f hb hm
      refine CWalk.skip ?_
      refine Leaf.thenN ?_
      refine CWalk.seq ?_
      refine CWalk.seq ?_
      refine CWalk.region ?_
      refine mv ?_
      refine wo (Spec.neqI (Has.s rfl) Has.int) ?_
      refine Walk.nil ?_
      refine Leaf.thenN ?_
      refine CWalk.cond rfl (fun hb => ?_) (fun hb => ?_)
      ·have hm := cond_t hb hm
       refine CWalk.seq ?_
       refine CWalk.region ?_
       refine mv ?_
       refine wo (Spec.eqlI (Has.s rfl) Has.int) ?_
       refine wo (Spec.assign (Has.s rfl)) ?_
       refine Walk.nil ?_
       refine Leaf.thenN ?_
       refine CWalk.ret ?_
       refine Leaf.thenR ?_
       obtain rfl := Option.some.inj hm
       exact Leaf.retC1 rfl (HasR.cv (HasR.tmp (Has.s rfl)) Cv.fl)
      ·have hm := cond_f hb hm
       refine CWalk.skip ?_
       refine Leaf.thenN ?_
       refine CWalk.seq ?_
       refine CWalk.seq ?_
       refine CWalk.region ?_
       refine wo (Spec.assign Has.int) ?_
       refine Walk.nil ?_
       refine Leaf.thenN ?_
       refine CWalk.block ?_
       obtain ⟨b31, hb31, hm⟩ := bind_some hm
       refine CWalk.loop (fun s : Int => [.fact 1 (.rep [0] (a1 : List Disk)), .fact 3 (.rep [] (a3 : Int)), .fact 4 (.isv 10), .fact 6 (.isv 17), .fact 10 (.ow [29, 30] [0, 27, 28, 31] 35 (b24 : List (List UInt8))), .fact 19 (.ow [35] [36] 66 (x27.1 : List Disk)), .fact 21 (.rep [] (s : Int)), .fact 100011 (.at 11 (.rep [] a0.Id)), .fact 100012 (.at 12 (.rep [] a0.Members)), .fact 100013 (.at 13 (.rep [] a0.Chunk)), .fact 100014 (.at 14 (.rep [] a0.Rows)), .fact 100015 (.at 15 (.rep [] a0.Log)), .fact 100016 (.at 16 (.rep [] a0.Heads)), .fact 100018 (.at 18 (.rep [] a2.Stripe)), .fact 100019 (.at 19 (.rep [0] a2.Slots)), .fact 100020 (.at 20 (.rep [0] a2.Blocks)), .fact 100021 (.at 21 (.sl [32] [] (x25.1 : List UInt8))), .fact 100010 (.obj 10 [(false, 1), (false, 1), (false, 1), (false, 1), (false, 1), (false, 1)]), .fact 100017 (.obj 17 [(false, 1), (false, 1), (false, 1), (false, 1)])]) (fun b : (Unit) ⊕ (Unit) => Sum.elim (fun b => (Exit.exit 4, [.fact 3 (.rep [] (a3 : Int)), .fact 4 (.isv 10), .fact 6 (.isv 17), .fact 10 (.ow [29, 30] [0, 27, 28, 31] 35 (b24 : List (List UInt8))), .fact 19 (.ow [35] [36] 66 (x27.1 : List Disk)), .fact 100011 (.at 11 (.rep [] a0.Id)), .fact 100012 (.at 12 (.rep [] a0.Members)), .fact 100013 (.at 13 (.rep [] a0.Chunk)), .fact 100014 (.at 14 (.rep [] a0.Rows)), .fact 100015 (.at 15 (.rep [] a0.Log)), .fact 100016 (.at 16 (.rep [] a0.Heads)), .fact 100018 (.at 18 (.rep [] a2.Stripe)), .fact 100019 (.at 19 (.rep [0] a2.Slots)), .fact 100020 (.at 20 (.rep [0] a2.Blocks)), .fact 100021 (.at 21 (.sl [32] [] (x25.1 : List UInt8))), .fact 100010 (.obj 10 [(false, 1), (false, 1), (false, 1), (false, 1), (false, 1), (false, 1)]), .fact 100017 (.obj 17 [(false, 1), (false, 1), (false, 1), (false, 1)])])) (fun b => (Exit.ret, [.fact 8 (.rep [] (true : Bool))])) b) hb31 (su (st (sn (sn (Sub.cons (Has.cv (Has.s rfl) (Cv.owM (T := [29, 30]) (te := [0, 27, 28, 31]) rfl rfl)) (Sub.cons (Has.cv (Has.s rfl) (Cv.owM (T := [35]) (te := [36]) rfl rfl)) (st (sf (sf (sf (sf (sf (sf (sf (sm (sm (Sub.cons (Has.at (HasG.cv (HasG.s rfl) (Cv.slF (T := [32]) (te := []) rfl))) (sn (sn Sub.nil))))))))))))))))))) ?_ ?_
       ·rintro s28 c29 hm
        replace hm : law21_HomeEven_L4 a0 a1 s28 = some c29 := hm
        unfold law21_HomeEven_L4 at hm
        show CWalk _ [.fact 1 (.rep [0] (a1 : List Disk)), .fact 3 (.rep [] (a3 : Int)), .fact 4 (.isv 10), .fact 6 (.isv 17), .fact 10 (.ow [29, 30] [0, 27, 28, 31] 35 (b24 : List (List UInt8))), .fact 19 (.ow [35] [36] 66 (x27.1 : List Disk)), .fact 21 (.rep [] (s28 : Int)), .fact 100011 (.at 11 (.rep [] a0.Id)), .fact 100012 (.at 12 (.rep [] a0.Members)), .fact 100013 (.at 13 (.rep [] a0.Chunk)), .fact 100014 (.at 14 (.rep [] a0.Rows)), .fact 100015 (.at 15 (.rep [] a0.Log)), .fact 100016 (.at 16 (.rep [] a0.Heads)), .fact 100018 (.at 18 (.rep [] a2.Stripe)), .fact 100019 (.at 19 (.rep [0] a2.Slots)), .fact 100020 (.at 20 (.rep [0] a2.Blocks)), .fact 100021 (.at 21 (.sl [32] [] (x25.1 : List UInt8))), .fact 100010 (.obj 10 [(false, 1), (false, 1), (false, 1), (false, 1), (false, 1), (false, 1)]), .fact 100017 (.obj 17 [(false, 1), (false, 1), (false, 1), (false, 1)])] _ _
        refine CWalk.seq ?_
        refine CWalk.seq ?_
        refine CWalk.region ?_
        refine mv ?_
        refine wo (Spec.fieldAddrO fd24_1 (Has.cv (Has.s rfl) (Cv.isvP rfl))) ?_
        refine wo (Spec.loadF (i := 1) ty3 rfl (Has.s rfl) rfl (HasG.s rfl)) ?_
        refine wo (Spec.lssI (Has.s rfl) (Has.s rfl)) ?_
        refine Walk.nil ?_
        refine Leaf.thenN ?_
        refine CWalk.cond rfl (fun hb => ?_) (fun hb => ?_)
        ·have hm := cond_t hb hm
         refine CWalk.skip ?_
         refine Leaf.thenN ?_
         refine CWalk.seq ?_
         refine CWalk.block ?_
         refine CWalk.seq ?_
         refine CWalk.region ?_
         refine mv ?_
         refine mv ?_
         obtain ⟨x30, hx30, hm⟩ := bind_some hm
         refine wo (Spec.indexAddr hx30 sl53 (Has.s rfl) (Has.s rfl)) ?_
         refine wo (Spec.fieldAddrP fd66_2 (chDisk x30) rfl (Has.s rfl)) ?_
         refine wo ((Spec.load ty4 (Has.s rfl)).flat (T' := [])) ?_
         refine Walk.nil ?_
         refine Leaf.thenN ?_
         refine CWalk.cond rfl (fun hb => ?_) (fun hb => ?_)
         ·have hm := cond_t hb hm
          refine CWalk.seq ?_
          refine CWalk.region ?_
          refine wo (Spec.assign Has.bool) ?_
          refine Walk.nil ?_
          refine Leaf.thenN ?_
          refine CWalk.ret ?_
          refine Leaf.blockR ?_
          refine Leaf.thenR ?_
          exact Leaf.brk hm (fun h => nomatch h) rfl (st Sub.nil)
         ·have hm := cond_f hb hm
          refine CWalk.skip ?_
          refine Leaf.blockN ?_
          refine Leaf.thenN ?_
          refine CWalk.region ?_
          refine mv ?_
          refine wo (Spec.addI (Has.s rfl) Has.int) ?_
          refine wo (Spec.assign (Has.s rfl)) ?_
          refine Walk.nil ?_
          exact Leaf.next hm (su (st (sn (sn (Sub.cons (Has.cv (Has.s rfl) (Cv.owM (T := [29, 30]) (te := [0, 27, 28, 31]) rfl rfl)) (Sub.cons (Has.cv (Has.s rfl) (Cv.owM (T := [35]) (te := [36]) rfl rfl)) (st (sf (sf (sf (sf (sf (sf (sf (sm (sm (Sub.cons (Has.at (HasG.cv (HasG.s rfl) (Cv.slF (T := [32]) (te := []) rfl))) (sn (sn Sub.nil)))))))))))))))))))
        ·have hm := cond_f hb hm
         refine CWalk.exit ?_
         refine Leaf.thenE ?_
         exact Leaf.brk hm (fun h => nomatch h) rfl (st (sn (sn (Sub.cons (Has.cv (Has.s rfl) (Cv.owM (T := [29, 30]) (te := [0, 27, 28, 31]) rfl rfl)) (Sub.cons (Has.cv (Has.s rfl) (Cv.owM (T := [35]) (te := [36]) rfl rfl)) (sf (sf (sf (sf (sf (sf (sf (sm (sm (Sub.cons (Has.at (HasG.cv (HasG.s rfl) (Cv.slF (T := [32]) (te := []) rfl))) (sn (sn Sub.nil)))))))))))))))))
       ·intro _
        rcases b31 with b32 | b40
        ·have hm := selim_l hm
         refine Leaf.blockE ?_
         refine Leaf.thenN ?_
         refine CWalk.seq ?_
         refine CWalk.seq ?_
         refine CWalk.region ?_
         refine wo (Spec.assign Has.int) ?_
         refine Walk.nil ?_
         refine Leaf.thenN ?_
         refine CWalk.block ?_
         obtain ⟨b37, hb37, hm⟩ := bind_some hm
         refine CWalk.loop (fun s : Int => [.fact 3 (.rep [] (a3 : Int)), .fact 4 (.isv 10), .fact 6 (.isv 17), .fact 10 (.ow [29, 30] [0, 27, 28, 31] 35 (b24 : List (List UInt8))), .fact 19 (.ow [35] [36] 66 (x27.1 : List Disk)), .fact 22 (.rep [] (s : Int)), .fact 100011 (.at 11 (.rep [] a0.Id)), .fact 100012 (.at 12 (.rep [] a0.Members)), .fact 100013 (.at 13 (.rep [] a0.Chunk)), .fact 100014 (.at 14 (.rep [] a0.Rows)), .fact 100015 (.at 15 (.rep [] a0.Log)), .fact 100016 (.at 16 (.rep [] a0.Heads)), .fact 100018 (.at 18 (.rep [] a2.Stripe)), .fact 100019 (.at 19 (.rep [0] a2.Slots)), .fact 100020 (.at 20 (.rep [0] a2.Blocks)), .fact 100021 (.at 21 (.sl [32] [] (x25.1 : List UInt8))), .fact 100010 (.obj 10 [(false, 1), (false, 1), (false, 1), (false, 1), (false, 1), (false, 1)]), .fact 100017 (.obj 17 [(false, 1), (false, 1), (false, 1), (false, 1)])]) (fun b : (Unit) ⊕ (Unit) => Sum.elim (fun b => (Exit.exit 6, [])) (fun b => (Exit.ret, [.fact 8 (.rep [] (false : Bool))])) b) hb37 (st (sn (sn (Sub.cons (Has.cv (Has.s rfl) (Cv.owM (T := [29, 30]) (te := [0, 27, 28, 31]) rfl rfl)) (Sub.cons (Has.cv (Has.s rfl) (Cv.owM (T := [35]) (te := [36]) rfl rfl)) (st (sf (sf (sf (sf (sf (sf (sf (sm (sm (Sub.cons (Has.at (HasG.cv (HasG.s rfl) (Cv.slF (T := [32]) (te := []) rfl))) (sn (sn Sub.nil)))))))))))))))))) ?_ ?_
         ·rintro s33 c34 hm
          replace hm : law21_HomeEven_L5 a0 a2 a3 b24 x27 s33 = some c34 := hm
          unfold law21_HomeEven_L5 at hm
          show CWalk _ [.fact 3 (.rep [] (a3 : Int)), .fact 4 (.isv 10), .fact 6 (.isv 17), .fact 10 (.ow [29, 30] [0, 27, 28, 31] 35 (b24 : List (List UInt8))), .fact 19 (.ow [35] [36] 66 (x27.1 : List Disk)), .fact 22 (.rep [] (s33 : Int)), .fact 100011 (.at 11 (.rep [] a0.Id)), .fact 100012 (.at 12 (.rep [] a0.Members)), .fact 100013 (.at 13 (.rep [] a0.Chunk)), .fact 100014 (.at 14 (.rep [] a0.Rows)), .fact 100015 (.at 15 (.rep [] a0.Log)), .fact 100016 (.at 16 (.rep [] a0.Heads)), .fact 100018 (.at 18 (.rep [] a2.Stripe)), .fact 100019 (.at 19 (.rep [0] a2.Slots)), .fact 100020 (.at 20 (.rep [0] a2.Blocks)), .fact 100021 (.at 21 (.sl [32] [] (x25.1 : List UInt8))), .fact 100010 (.obj 10 [(false, 1), (false, 1), (false, 1), (false, 1), (false, 1), (false, 1)]), .fact 100017 (.obj 17 [(false, 1), (false, 1), (false, 1), (false, 1)])] _ _
          refine CWalk.seq ?_
          refine CWalk.seq ?_
          refine CWalk.region ?_
          refine mv ?_
          refine wo (Spec.fieldAddrO fd24_1 (Has.cv (Has.s rfl) (Cv.isvP rfl))) ?_
          refine wo (Spec.loadF (i := 1) ty3 rfl (Has.s rfl) rfl (HasG.s rfl)) ?_
          refine wo (Spec.subI (Has.s rfl) Has.int) ?_
          refine wo (Spec.lssI (Has.s rfl) (Has.s rfl)) ?_
          refine Walk.nil ?_
          refine Leaf.thenN ?_
          refine CWalk.cond rfl (fun hb => ?_) (fun hb => ?_)
          ·have hm := cond_t hb hm
           refine CWalk.skip ?_
           refine Leaf.thenN ?_
           refine CWalk.seq ?_
           refine CWalk.block ?_
           refine CWalk.seq ?_
           refine CWalk.region ?_
           refine wo (Spec.loadObj (ls := [(false, 1, Fact.rep [] a0.Id), (false, 1, Fact.rep [] a0.Members), (false, 1, Fact.rep [] a0.Chunk), (false, 1, Fact.rep [] a0.Rows), (false, 1, Fact.rep [] a0.Log), (false, 1, Fact.rep [] a0.Heads)]) ty24 rfl rfl (Has.s rfl) rfl (HasGs.cons (HasG.s rfl) (HasGs.cons (HasG.s rfl) (HasGs.cons (HasG.s rfl) (HasGs.cons (HasG.s rfl) (HasGs.cons (HasG.s rfl) (HasGs.cons (HasG.s rfl) HasGs.nil))))))) ?_
           refine mv ?_
           refine mv ?_
           refine wo (Spec.fieldAddrO fd43_0 (Has.cv (Has.s rfl) (Cv.isvP rfl))) ?_
           refine wo (Spec.loadF (i := 0) ty3 rfl (Has.s rfl) rfl (HasG.s rfl)) ?_
           refine mv ?_
           obtain ⟨x35, hx35, hm⟩ := bind_some hm
           refine wo (f := Fact.tup2 (Fact.sl [37] [] (x35.1 : List UInt8)) (Fact.rep [] x35.2)) (Spec.callE [35, 36] 37 rfl en23 (fetch_Block_c a0 x27.1 a3 a2.Stripe s33 hx35) (HasAll.cons (Has.fl (Has.cv (Has.s rfl) (Cv.trans (Cv.flds (CvL.cons Cv.fl (CvL.cons Cv.fl (CvL.cons Cv.fl (CvL.cons Cv.fl (CvL.cons Cv.fl (CvL.cons Cv.fl CvL.nil))))))) (Cv.close (T := []) (chConfig a0))))) (HasAll.cons (Has.m (Has.cv (Has.s rfl) (Cv.trans Cv.owSl (Cv.slRep (T' := [35, 36]) rfl rfl))) rfl) (HasAll.cons (Has.fl (Has.s rfl)) (HasAll.cons (Has.fl (Has.s rfl)) (HasAll.cons (Has.fl (Has.s rfl)) HasAll.nil)))))) ?_
           refine mv ?_
           refine wo (Spec.ext0 (Has.s rfl)) ?_
           refine wo (Spec.ext1 (Has.s rfl)) ?_
           refine wo (Spec.assign (Has.s rfl)) ?_
           refine wo (Spec.assign (Has.s rfl)) ?_
           refine Walk.nil ?_
           refine Leaf.thenN ?_
           refine CWalk.seq ?_
           obtain ⟨x36, hx36, hm⟩ := bind_some hm
           refine CWalk.drawM [[], [0], [0, 1], [0, 1, 2], [0, 1, 2, 3], [0, 1, 2], [0, 1, 2], [0, 1, 2, 5, 6], [0, 1, 2, 5, 6, 7], [0, 1, 2, 5, 6, 7, 8], [0, 1, 2, 3, 4, 5, 6, 7, 8, 9], [0, 1, 2, 3, 4, 5, 6, 7, 8, 9, 10]] [[.fact 174 (.rep [] x35.2)], [.fact 175 (.rep [] ((x35.2 != (0 : Int)) : Bool))], [.fact 176 (.rep [] ((x35.2 != (0 : Int)) : Bool))], [.fact 177 (.under ((x35.2 != (0 : Int)) = false) (.sl [37] [] (x35.1 : List UInt8)))], [.fact 178 (.under ((x35.2 != (0 : Int)) = false) (.rep [] ((Str.mk x35.1) : Str)))], [.fact 179 (.under ((x35.2 != (0 : Int)) = false) (.ow [29, 30] [0, 27, 28, 31] 35 (b24 : List (List UInt8))))], [.fact 180 (.under ((x35.2 != (0 : Int)) = false) (.rep [] (s33 : Int)))], [.fact 181 (.under ((x35.2 != (0 : Int)) = false) (.pts [29, 30] [0, 27, 28, 31] (x36 : List UInt8)))], [.fact 182 (.under ((x35.2 != (0 : Int)) = false) (.rep [0, 27, 28, 31] (x36 : List UInt8)))], [.fact 183 (.under ((x35.2 != (0 : Int)) = false) (.rep [] ((Str.mk x36) : Str)))], [.fact 184 (.under ((x35.2 != (0 : Int)) = false) (.rep [] ((!((Str.mk x35.1).s == (Str.mk x36).s)) : Bool)))], [.fact 185 (.rep [] (((x35.2 != (0 : Int)) || (!((Str.mk x35.1).s == (Str.mk x36).s))) : Bool))]] mixed (by kernel_rfl) (ao (so (Spec.move (Has.s rfl))) (ao (so (Spec.neqI (Has.s rfl) Has.int)) (ao (so (Spec.move (Has.s rfl))) (ao (StepG.opg rfl rfl rfl (fun hb => Spec.move (Has.s rfl))) (ao (StepG.opg rfl rfl rfl (fun hb => Spec.toStr Try.underlying35 Try.underlying5 Try.underlying9 (Has.cv (Has.u rfl hb) (Cv.slRep (T' := [37]) rfl rfl)))) (ao (StepG.opg rfl rfl rfl (fun hb => Spec.move (Has.s rfl))) (ao (StepG.opg rfl rfl rfl (fun hb => Spec.move (Has.s rfl))) (ao (StepG.opg rfl rfl rfl (fun hb => Spec.indexSl (gO_t hx36 (not_t hb)) sl25 (Has.cv (Has.u rfl hb) Cv.owSl) (Has.u rfl hb))) (ao (StepG.opg rfl rfl rfl (fun hb => Spec.loadS ty35 (Has.u rfl hb))) (ao (StepG.opg rfl rfl rfl (fun hb => Spec.toStr Try.underlying35 Try.underlying5 Try.underlying9 (Has.u rfl hb))) (ao (StepG.opg rfl rfl rfl (fun hb => Spec.neqS (Has.u rfl hb) (Has.u rfl hb))) (ao (so (Spec.or (Has.s rfl) (fun h => Has.u rfl h))) AllM.nil)))))))))))) ?_
           refine Leaf.thenN ?_
           refine CWalk.cond rfl (fun hb => ?_) (fun hb => ?_)
           ·have hm := cond_t hb hm
            refine CWalk.seq ?_
            refine CWalk.region ?_
            refine wo (Spec.assign Has.bool) ?_
            refine Walk.nil ?_
            refine Leaf.thenN ?_
            refine CWalk.ret ?_
            refine Leaf.blockR ?_
            refine Leaf.thenR ?_
            exact Leaf.brk hm (fun h => nomatch h) rfl (st Sub.nil)
           ·have hm := cond_f hb hm
            refine CWalk.skip ?_
            refine Leaf.blockN ?_
            refine Leaf.thenN ?_
            refine CWalk.region ?_
            refine mv ?_
            refine wo (Spec.addI (Has.s rfl) Has.int) ?_
            refine wo (Spec.assign (Has.s rfl)) ?_
            refine Walk.nil ?_
            exact Leaf.next hm (st (sn (sn (Sub.cons (Has.cv (Has.s rfl) (Cv.owM (T := [29, 30]) (te := [0, 27, 28, 31]) rfl rfl)) (Sub.cons (Has.cv (Has.s rfl) (Cv.owM (T := [35]) (te := [36]) rfl rfl)) (st (sf (sf (sf (sf (sf (sf (sf (sm (sm (Sub.cons (Has.at (HasG.cv (HasG.s rfl) (Cv.slF (T := [32]) (te := []) rfl))) (sn (sn Sub.nil))))))))))))))))))
          ·have hm := cond_f hb hm
           refine CWalk.exit ?_
           refine Leaf.thenE ?_
           exact Leaf.brk hm (fun h => nomatch h) rfl (Sub.nil)
         ·intro _
          rcases b37 with b38 | b39
          ·have hm := selim_l hm
           refine Leaf.blockE ?_
           refine Leaf.thenN ?_
           refine CWalk.seq ?_
           refine CWalk.region ?_
           refine wo (Spec.assign Has.bool) ?_
           refine Walk.nil ?_
           refine Leaf.thenN ?_
           refine CWalk.ret ?_
           obtain rfl := Option.some.inj hm
           exact Leaf.retC1 rfl (HasR.cv (HasR.tmp (Has.s rfl)) Cv.fl)
          ·have hm := selim_r hm
           refine Leaf.blockR ?_
           refine Leaf.thenR ?_
           obtain rfl := Option.some.inj hm
           exact Leaf.retC1 rfl (HasR.cv (HasR.tmp (Has.s rfl)) Cv.fl)
        ·have hm := selim_r hm
         refine Leaf.blockR ?_
         refine Leaf.thenR ?_
         obtain rfl := Option.some.inj hm
         exact Leaf.retC1 rfl (HasR.cv (HasR.tmp (Has.s rfl)) Cv.fl)
   ·have hm := selim_r hm
    refine Leaf.blockR ?_
    refine Leaf.thenR ?_
    obtain rfl := Option.some.inj hm
    exact Leaf.retC1 rfl (HasR.cv (HasR.tmp (Has.s rfl)) Cv.fl)

end Go.Proofs.Ytcnmlbgcnkfnhaa
