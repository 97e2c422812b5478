/- Printed by a program of ours: models of functions, and that calls do what they say. -/
import Derived.Test.YtbedfodlofannaaGvo1
namespace Go.Proofs.Ytbedfodlofannaa
open Go GL
set_option linter.unusedVariables false

def head_Know_J1 (j1 : Int) (j2 : List (List UInt8)) (j3 : List Bool) (j4 : UInt8) (j5 : Bool) (j6 : UInt32) (j7 : Int) : Option (Head × Int) :=
  some ((Head.mk j1 j2 j3 j4 j5 j6), j7)
def head_Know_J2 (j11 : Int) (j12 : List (List UInt8)) (j13 : List Bool) (j14 : UInt8) (j15 : Bool) (j16 : UInt32) : Option (Head × Int) :=
  (head_Know_J1 j11 j12 j13 j14 j15 j16 (0 : Int))
def head_Know_J3 (x10 : Head) (j17 : List (List UInt8)) : Option (Head × Int) :=
  (bif ((0 : Int) == (0 : Int)) then (head_Know_J2 x10.Stripe j17 x10.Dirty x10.Phase x10.Deals x10.Seq) else (head_Know_J2 (0 : Int) ([] : List (List UInt8)) ([] : List Bool) (0 : UInt8) false (0 : UInt32)))
def head_Know_J4 (x10 : Head) (j18 : List (List UInt8)) : Option (Head × Int) :=
  (head_Know_J3 x10 j18)
/-- freeboard/head.Know -/
def head_Know (a0 : Config) (a1 : Head) (a2 : Int) (a3 : List UInt8) : Option (Head × Int) :=
  Option.bind (head_Check a0 a1) (fun x8 => (bif (x8 != (0 : Int)) then (head_Know_J1 (0 : Int) ([] : List (List UInt8)) ([] : List Bool) (0 : UInt8) false (0 : UInt32) x8) else (bif ((decide (a2 < (0 : Int))) || (decide (a2 ≥ (wI (a0.Members - (1 : Int)))))) then (head_Know_J1 (0 : Int) ([] : List (List UInt8)) ([] : List Bool) (0 : UInt8) false (0 : UInt32) (2 : Int)) else Option.bind (head_odd a3) (fun x9 => (bif x9 then (head_Know_J1 (0 : Int) ([] : List (List UInt8)) ([] : List Bool) (0 : UInt8) false (0 : UInt32) (3 : Int)) else Option.bind (head_Twin a1) (fun x10 => Option.bind (idx x10.Blocks a2) (fun x19 => (bif (((x19).length : Int) == (0 : Int)) then Option.bind (head_block a3) (fun x20 => Option.bind (bnd (x10.Blocks).length a2) (fun x21 => (head_Know_J4 x10 ((x10.Blocks).set x21 x20)))) else (head_Know_J4 x10 x10.Blocks)))))))))
set_option maxRecDepth 100000 in
set_option maxHeartbeats 2000000 in
theorem head_Know_c (a0 : Config) (a1 : Head) (a2 : Int) (a3 : List UInt8) {r : Head × Int} (hm : head_Know a0 a1 a2 a3 = some r) : Ctr Try.prog 23 [.rep 0 a0, .rep 0 a1, .rep 0 a2, .rep 0 a3] (.tup2 (.flds [(false, 1, (.fl r.1.Stripe)), (false, 1, (.own 0 (some 1) 36 r.1.Blocks)), (false, 1, (.own 2 none 4 r.1.Dirty)), (false, 1, (.fl r.1.Phase)), (false, 1, (.fl r.1.Deals)), (false, 1, (.fl r.1.Seq))]) (.fl r.2)) [] := by
 refine ctr_of_walk [[58, 68], [59, 69], [60]] 18 Try.func23 rfl rfl rfl rfl (fun w0 om => ?_)
 unfold head_Know at hm
 refine CWalk.sub (G' := [.fact 0 (.rep [] (a0 : Config)), .fact 1 (.rep [0] (a1 : Head)), .fact 2 (.rep [] (a2 : Int)), .fact 3 (.rep [0] (a3 : List UInt8))]) (Sub.cons (Has.fl (Has.s rfl)) (sn (Sub.cons (Has.fl (Has.s rfl)) (sn Sub.nil)))) ?_
 refine CWalk.seq ?_
 refine CWalk.region ?_
 refine ws (Step.boxObj (ls := [(false, 1, Fact.rep [] a0.Id), (false, 1, Fact.rep [] a0.Members), (false, 1, Fact.rep [] a0.Chunk), (false, 1, Fact.rep [] a0.Rows), (false, 1, Fact.rep [] a0.Log), (false, 1, Fact.rep [] a0.Heads)]) 10 rfl rfl rfl rfl (HasL.flds (Has.cv (Has.s rfl) (Cv.trans (Cv.opens (chConfig a0)) (Cv.flds (CvL.cons Cv.fl (CvL.cons Cv.fl (CvL.cons Cv.fl (CvL.cons Cv.fl (CvL.cons Cv.fl (CvL.cons Cv.fl CvL.nil))))))))))) ?_
 refine ws (Step.boxObj (ls := [(false, 1, Fact.rep [] a1.Stripe), (false, 1, Fact.rep [0] a1.Blocks), (false, 1, Fact.rep [0] a1.Dirty), (false, 1, Fact.rep [] a1.Phase), (false, 1, Fact.rep [] a1.Deals), (false, 1, Fact.rep [] a1.Seq)]) 17 rfl rfl rfl rfl (HasL.flds (Has.cv (Has.s rfl) (Cv.trans (Cv.opens (chHead a1)) (Cv.flds (CvL.cons Cv.fl (CvL.cons Cv.refl (CvL.cons Cv.refl (CvL.cons Cv.fl (CvL.cons Cv.fl (CvL.cons Cv.fl CvL.nil))))))))))) ?_
 refine ws (Step.boxObj (ls := [(false, 1, Fact.rep [] (a2 : Int))]) 24 rfl rfl rfl rfl (HasL.one (Has.s rfl) rfl (Has.s rfl))) ?_
 refine ws (Step.boxObj (ls := [(false, 1, Fact.rep [0] (a3 : List UInt8))]) 26 rfl rfl rfl rfl (HasL.one (Has.s rfl) rfl (Has.s rfl))) ?_
 refine ws (Step.allocObj (ls := [(false, 1, Fact.rep [] ((0 : Int) : Int)), (false, 1, Fact.nilv), (false, 1, Fact.nilv), (false, 1, Fact.rep [] ((0 : UInt8) : UInt8)), (false, 1, Fact.rep [] (false : Bool)), (false, 1, Fact.rep [] ((0 : UInt32) : UInt32))]) 28 rfl rfl rfl rfl zl28) ?_
 refine wo (Spec.assign Has.int) ?_
 refine Walk.nil ?_
 refine Leaf.thenN ?_
 refine CWalk.seq ?_
 refine CWalk.region ?_
 refine wo (Spec.loadObj (ls := [(false, 1, Fact.rep [] a0.Id), (false, 1, Fact.rep [] a0.Members), (false, 1, Fact.rep [] a0.Chunk), (false, 1, Fact.rep [] a0.Rows), (false, 1, Fact.rep [] a0.Log), (false, 1, Fact.rep [] a0.Heads)]) ty24 rfl rfl (Has.s rfl) rfl (HasGs.cons (HasG.s rfl) (HasGs.cons (HasG.s rfl) (HasGs.cons (HasG.s rfl) (HasGs.cons (HasG.s rfl) (HasGs.cons (HasG.s rfl) (HasGs.cons (HasG.s rfl) HasGs.nil))))))) ?_
 refine wo (Spec.loadObj (ls := [(false, 1, Fact.rep [] a1.Stripe), (false, 1, Fact.rep [0] a1.Blocks), (false, 1, Fact.rep [0] a1.Dirty), (false, 1, Fact.rep [] a1.Phase), (false, 1, Fact.rep [] a1.Deals), (false, 1, Fact.rep [] a1.Seq)]) ty28 rfl rfl (Has.s rfl) rfl (HasGs.cons (HasG.s rfl) (HasGs.cons (HasG.s rfl) (HasGs.cons (HasG.s rfl) (HasGs.cons (HasG.s rfl) (HasGs.cons (HasG.s rfl) (HasGs.cons (HasG.s rfl) HasGs.nil))))))) ?_
 refine wo (Spec.loadF (i := 0) ty3 rfl (Has.cv (Has.s rfl) (Cv.isvP rfl)) rfl (HasG.s rfl)) ?_
 refine wo (Spec.loadF (i := 0) ty36 rfl (Has.cv (Has.s rfl) (Cv.isvP rfl)) rfl (HasG.s rfl)) ?_
 refine wo (Spec.makeFunc (xs := []) (ys := [.tmp 6, .tmp 7]) rfl rfl HasF.nil (HasF.cons (Has.s rfl) (HasF.cons (Has.s rfl) HasF.nil)) (fun _ _ _ => rfl)) ?_
 refine Walk.inline (S := Int × (List (List UInt8)) × (List Bool) × UInt8 × Bool × UInt32 × Int) (fun p : Int × (List (List UInt8)) × (List Bool) × UInt8 × Bool × UInt32 × Int => [.fact 8 (.isv 28), .fact 15 (.tup2 (Fact.flds [(false, 1, Fact.rep [] p.1), (false, 1, Fact.ow [58, 68] [59, 69] 36 (p.2.1 : List (List UInt8))), (false, 1, Fact.ow [60] [] 4 (p.2.2.1 : List Bool)), (false, 1, Fact.rep [] p.2.2.2.1), (false, 1, Fact.rep [] p.2.2.2.2.1), (false, 1, Fact.rep [] p.2.2.2.2.2.1)]) (Fact.rep [] p.2.2.2.2.2.2)), .fact 100029 (.at 29 (.rep [] ((0 : Int) : Int))), .fact 100030 (.at 30 (.nilv)), .fact 100031 (.at 31 (.nilv)), .fact 100032 (.at 32 (.rep [] ((0 : UInt8) : UInt8))), .fact 100033 (.at 33 (.rep [] (false : Bool))), .fact 100034 (.at 34 (.rep [] ((0 : UInt32) : UInt32))), .fact 100028 (.obj 28 [(false, 1), (false, 1), (false, 1), (false, 1), (false, 1), (false, 1)])]) (fun p : Int × (List (List UInt8)) × (List Bool) × UInt8 × Bool × UInt32 × Int => head_Know_J1 p.1 p.2.1 p.2.2.1 p.2.2.2.1 p.2.2.2.2.1 p.2.2.2.2.2.1 p.2.2.2.2.2.2 = some r) (fun u1 => [.fact 100025 (.at 25 (.rep [] (a2 : Int))), .fact 100027 (.at 27 (.rep [0] (a3 : List UInt8))), .fact 100029 (.at 29 (.rep [] ((0 : Int) : Int))), .fact 100030 (.at 30 (.nilv)), .fact 100031 (.at 31 (.nilv)), .fact 100032 (.at 32 (.rep [] ((0 : UInt8) : UInt8))), .fact 100033 (.at 33 (.rep [] (false : Bool))), .fact 100034 (.at 34 (.rep [] ((0 : UInt32) : UInt32))), .fact 902008 (.cst (u1 8) (Fact.isv 28)), .fact 100024 (.obj 24 [(false, 1)]), .fact 100026 (.obj 26 [(false, 1)]), .fact 100028 (.obj 28 [(false, 1), (false, 1), (false, 1), (false, 1), (false, 1), (false, 1)])]) (FA := [Fact.flds [(false, 1, Fact.rep [] a0.Id), (false, 1, Fact.rep [] a0.Members), (false, 1, Fact.rep [] a0.Chunk), (false, 1, Fact.rep [] a0.Rows), (false, 1, Fact.rep [] a0.Log), (false, 1, Fact.rep [] a0.Heads)], Fact.flds [(false, 1, Fact.rep [] a1.Stripe), (false, 1, Fact.rep [0] a1.Blocks), (false, 1, Fact.rep [0] a1.Dirty), (false, 1, Fact.rep [] a1.Phase), (false, 1, Fact.rep [] a1.Deals), (false, 1, Fact.rep [] a1.Seq)], Fact.rep [] (a2 : Int), Fact.rep [0] (a3 : List UInt8), Fact.fnv 50 [] [Fact.isv 24, Fact.isv 26]]) rfl Try.func47 rfl rfl rfl (CallOk.fn en47 (HasF.cons (Has.s rfl) (HasF.cons (Has.s rfl) (HasF.cons (Has.s rfl) (HasF.cons (Has.s rfl) (HasF.cons (Has.s rfl) HasF.nil)))))) (fun u1 => (ck (ck (ck (ck (ck (ck (ck (ck (cs 902000 8 (ck (ck (ck Carry.nil))))))))))))) (fun u1 => ?_) ?_
 ·refine CWalk.seq ?_
  refine CWalk.region ?_
  refine ws (Step.boxObj (ls := [(false, 1, Fact.rep [] a0.Id), (false, 1, Fact.rep [] a0.Members), (false, 1, Fact.rep [] a0.Chunk), (false, 1, Fact.rep [] a0.Rows), (false, 1, Fact.rep [] a0.Log), (false, 1, Fact.rep [] a0.Heads)]) 35 rfl rfl rfl rfl (HasL.flds (Has.s rfl))) ?_
  refine ws (Step.boxObj (ls := [(false, 1, Fact.rep [] a1.Stripe), (false, 1, Fact.rep [0] a1.Blocks), (false, 1, Fact.rep [0] a1.Dirty), (false, 1, Fact.rep [] a1.Phase), (false, 1, Fact.rep [] a1.Deals), (false, 1, Fact.rep [] a1.Seq)]) 42 rfl rfl rfl rfl (HasL.flds (Has.s rfl))) ?_
  refine ws (Step.allocObj (ls := [(false, 1, Fact.rep [] ((0 : Int) : Int)), (false, 1, Fact.nilv), (false, 1, Fact.nilv), (false, 1, Fact.rep [] ((0 : UInt8) : UInt8)), (false, 1, Fact.rep [] (false : Bool)), (false, 1, Fact.rep [] ((0 : UInt32) : UInt32))]) 49 rfl rfl rfl rfl zl28) ?_
  refine wo (Spec.assign Has.int) ?_
  refine Walk.nil ?_
  refine Leaf.thenN ?_
  refine CWalk.seq ?_
  refine CWalk.seq ?_
  refine CWalk.region ?_
  refine wo (Spec.loadObj (ls := [(false, 1, Fact.rep [] a0.Id), (false, 1, Fact.rep [] a0.Members), (false, 1, Fact.rep [] a0.Chunk), (false, 1, Fact.rep [] a0.Rows), (false, 1, Fact.rep [] a0.Log), (false, 1, Fact.rep [] a0.Heads)]) ty24 rfl rfl (Has.s rfl) rfl (HasGs.cons (HasG.s rfl) (HasGs.cons (HasG.s rfl) (HasGs.cons (HasG.s rfl) (HasGs.cons (HasG.s rfl) (HasGs.cons (HasG.s rfl) (HasGs.cons (HasG.s rfl) HasGs.nil))))))) ?_
  refine wo (Spec.loadObj (ls := [(false, 1, Fact.rep [] a1.Stripe), (false, 1, Fact.rep [0] a1.Blocks), (false, 1, Fact.rep [0] a1.Dirty), (false, 1, Fact.rep [] a1.Phase), (false, 1, Fact.rep [] a1.Deals), (false, 1, Fact.rep [] a1.Seq)]) ty28 rfl rfl (Has.s rfl) rfl (HasGs.cons (HasG.s rfl) (HasGs.cons (HasG.s rfl) (HasGs.cons (HasG.s rfl) (HasGs.cons (HasG.s rfl) (HasGs.cons (HasG.s rfl) (HasGs.cons (HasG.s rfl) HasGs.nil))))))) ?_
  obtain ⟨x8, hx8, hm⟩ := bind_some hm
  refine wo (f := Fact.rep [] (x8 : Int)) (Spec.callE [0] 56 rfl en27 (head_Check_c a0 a1 hx8) (HasAll.cons (Has.fl (Has.cv (Has.s rfl) (Cv.trans (Cv.flds (CvL.cons Cv.fl (CvL.cons Cv.fl (CvL.cons Cv.fl (CvL.cons Cv.fl (CvL.cons Cv.fl (CvL.cons Cv.fl CvL.nil))))))) (Cv.close (T := []) (chConfig a0))))) (HasAll.cons (Has.m (Has.cv (Has.s rfl) (Cv.trans (Cv.flds (CvL.cons Cv.fl (CvL.cons (Cv.m rfl) (CvL.cons (Cv.m rfl) (CvL.cons Cv.fl (CvL.cons Cv.fl (CvL.cons Cv.fl CvL.nil))))))) (Cv.close (T := [0]) (chHead a1)))) rfl) HasAll.nil))) ?_
  refine wo (Spec.assign (Has.s rfl)) ?_
  refine Walk.nil ?_
  refine Leaf.thenN ?_
  refine CWalk.seq ?_
  refine CWalk.region ?_
  refine mv ?_
  refine wo (Spec.neqI (Has.s rfl) Has.int) ?_
  refine Walk.nil ?_
  refine Leaf.thenN ?_
  refine CWalk.cond rfl (fun hb => ?_) (fun hb => ?_)
  ·have hm := cond_t hb hm
   refine CWalk.ret ?_
   refine Leaf.thenR ?_
   exact Leaf.in2 ((0 : Int), ([] : List (List UInt8)), ([] : List Bool), (0 : UInt8), false, (0 : UInt32), x8) hm rfl rfl (HasR.cv (HasR.obj (ls := [(false, 1, Fact.rep [] ((0 : Int) : Int)), (false, 1, Fact.nilv), (false, 1, Fact.nilv), (false, 1, Fact.rep [] ((0 : UInt8) : UInt8)), (false, 1, Fact.rep [] (false : Bool)), (false, 1, Fact.rep [] ((0 : UInt32) : UInt32))]) ty28 rfl rfl (Has.s rfl) rfl (HasGs.cons (HasG.s rfl) (HasGs.cons (HasG.s rfl) (HasGs.cons (HasG.s rfl) (HasGs.cons (HasG.s rfl) (HasGs.cons (HasG.s rfl) (HasGs.cons (HasG.s rfl) HasGs.nil))))))) (Cv.flds (CvL.cons Cv.fl (CvL.cons (Cv.trans Cv.nilOw (Cv.owM (T := []) (te := []) rfl rfl)) (CvL.cons (Cv.trans Cv.nilOw (Cv.owF (T := []) (te := []) rfl)) (CvL.cons Cv.fl (CvL.cons Cv.fl (CvL.cons Cv.fl CvL.nil)))))))) (HasR.cv (HasR.tmp (Has.s rfl)) Cv.fl) (ls 902008 (Low.res (lf (lg (lg (lf (lf (lf (lo Low.nil)))))))))
  ·have hm := cond_f hb hm
   refine CWalk.skip ?_
   refine Leaf.thenN ?_
   refine CWalk.seq ?_
   refine CWalk.seq ?_
   refine CWalk.region ?_
   refine mv ?_
   refine wo (Spec.lssI (Has.s rfl) Has.int) ?_
   refine mv ?_
   refine wg rfl rfl (fun hb => Spec.move (Has.s rfl)) ?_
   refine wg rfl rfl (fun hb => Spec.fieldAddrO fd24_1 (Has.cv (Has.s rfl) (Cv.isvP rfl))) ?_
   refine wg rfl rfl (fun hb => Spec.loadF (i := 1) ty3 rfl (Has.u rfl hb) rfl (HasG.s rfl)) ?_
   refine wg rfl rfl (fun hb => Spec.subI (Has.u rfl hb) Has.int) ?_
   refine wg rfl rfl (fun hb => Spec.geqI (Has.u rfl hb) (Has.u rfl hb)) ?_
   refine wo (Spec.or (Has.s rfl) (fun h => Has.u rfl h)) ?_
   refine Walk.nil ?_
   refine Leaf.thenN ?_
   refine CWalk.cond rfl (fun hb => ?_) (fun hb => ?_)
   ·have hm := cond_t hb hm
    refine CWalk.seq ?_
    refine CWalk.region ?_
    refine wo (Spec.loadObj (ls := [(false, 1, Fact.rep [] ((0 : Int) : Int)), (false, 1, Fact.nilv), (false, 1, Fact.nilv), (false, 1, Fact.rep [] ((0 : UInt8) : UInt8)), (false, 1, Fact.rep [] (false : Bool)), (false, 1, Fact.rep [] ((0 : UInt32) : UInt32))]) ty28 rfl rfl (Has.s rfl) rfl (HasGs.cons (HasG.s rfl) (HasGs.cons (HasG.s rfl) (HasGs.cons (HasG.s rfl) (HasGs.cons (HasG.s rfl) (HasGs.cons (HasG.s rfl) (HasGs.cons (HasG.s rfl) HasGs.nil))))))) ?_
    refine ws (Step.storeObj (ls := [(false, 1, Fact.rep [] ((0 : Int) : Int)), (false, 1, Fact.nilv), (false, 1, Fact.nilv), (false, 1, Fact.rep [] ((0 : UInt8) : UInt8)), (false, 1, Fact.rep [] (false : Bool)), (false, 1, Fact.rep [] ((0 : UInt32) : UInt32))]) rfl ty28 rfl rfl (Has.s rfl) rfl (HasL.flds (Has.s rfl)) rfl) ?_
    refine wo (Spec.assign Has.int) ?_
    refine Walk.nil ?_
    refine Leaf.thenN ?_
    refine CWalk.ret ?_
    refine Leaf.thenR ?_
    exact Leaf.in2 ((0 : Int), ([] : List (List UInt8)), ([] : List Bool), (0 : UInt8), false, (0 : UInt32), (2 : Int)) hm rfl rfl (HasR.cv (HasR.obj (ls := [(false, 1, Fact.rep [] ((0 : Int) : Int)), (false, 1, Fact.nilv), (false, 1, Fact.nilv), (false, 1, Fact.rep [] ((0 : UInt8) : UInt8)), (false, 1, Fact.rep [] (false : Bool)), (false, 1, Fact.rep [] ((0 : UInt32) : UInt32))]) ty28 rfl rfl (Has.s rfl) rfl (HasGs.cons (HasG.s rfl) (HasGs.cons (HasG.s rfl) (HasGs.cons (HasG.s rfl) (HasGs.cons (HasG.s rfl) (HasGs.cons (HasG.s rfl) (HasGs.cons (HasG.s rfl) HasGs.nil))))))) (Cv.flds (CvL.cons Cv.fl (CvL.cons (Cv.trans Cv.nilOw (Cv.owM (T := []) (te := []) rfl rfl)) (CvL.cons (Cv.trans Cv.nilOw (Cv.owF (T := []) (te := []) rfl)) (CvL.cons Cv.fl (CvL.cons Cv.fl (CvL.cons Cv.fl CvL.nil)))))))) (HasR.cv (HasR.tmp (Has.s rfl)) Cv.fl) (ls 902008 (Low.res (lf (lg (lg (lf (lf (lf (lo Low.nil)))))))))
   ·have hm := cond_f hb hm
    refine CWalk.skip ?_
    refine Leaf.thenN ?_
    refine CWalk.seq ?_
    refine CWalk.seq ?_
    refine CWalk.region ?_
    refine mv ?_
    obtain ⟨x9, hx9, hm⟩ := bind_some hm
    refine wo (f := Fact.rep [] (x9 : Bool)) (Spec.callE [0] 57 rfl en51 (head_odd_c a3 hx9) (HasAll.cons (Has.m (Has.s rfl) rfl) HasAll.nil)) ?_
    refine Walk.nil ?_
    refine Leaf.thenN ?_
    refine CWalk.cond rfl (fun hb => ?_) (fun hb => ?_)
    ·have hm := cond_t hb hm
     refine CWalk.seq ?_
     refine CWalk.region ?_
     refine wo (Spec.loadObj (ls := [(false, 1, Fact.rep [] ((0 : Int) : Int)), (false, 1, Fact.nilv), (false, 1, Fact.nilv), (false, 1, Fact.rep [] ((0 : UInt8) : UInt8)), (false, 1, Fact.rep [] (false : Bool)), (false, 1, Fact.rep [] ((0 : UInt32) : UInt32))]) ty28 rfl rfl (Has.s rfl) rfl (HasGs.cons (HasG.s rfl) (HasGs.cons (HasG.s rfl) (HasGs.cons (HasG.s rfl) (HasGs.cons (HasG.s rfl) (HasGs.cons (HasG.s rfl) (HasGs.cons (HasG.s rfl) HasGs.nil))))))) ?_
     refine ws (Step.storeObj (ls := [(false, 1, Fact.rep [] ((0 : Int) : Int)), (false, 1, Fact.nilv), (false, 1, Fact.nilv), (false, 1, Fact.rep [] ((0 : UInt8) : UInt8)), (false, 1, Fact.rep [] (false : Bool)), (false, 1, Fact.rep [] ((0 : UInt32) : UInt32))]) rfl ty28 rfl rfl (Has.s rfl) rfl (HasL.flds (Has.s rfl)) rfl) ?_
     refine wo (Spec.assign Has.int) ?_
     refine Walk.nil ?_
     refine Leaf.thenN ?_
     refine CWalk.ret ?_
     refine Leaf.thenR ?_
     exact Leaf.in2 ((0 : Int), ([] : List (List UInt8)), ([] : List Bool), (0 : UInt8), false, (0 : UInt32), (3 : Int)) hm rfl rfl (HasR.cv (HasR.obj (ls := [(false, 1, Fact.rep [] ((0 : Int) : Int)), (false, 1, Fact.nilv), (false, 1, Fact.nilv), (false, 1, Fact.rep [] ((0 : UInt8) : UInt8)), (false, 1, Fact.rep [] (false : Bool)), (false, 1, Fact.rep [] ((0 : UInt32) : UInt32))]) ty28 rfl rfl (Has.s rfl) rfl (HasGs.cons (HasG.s rfl) (HasGs.cons (HasG.s rfl) (HasGs.cons (HasG.s rfl) (HasGs.cons (HasG.s rfl) (HasGs.cons (HasG.s rfl) (HasGs.cons (HasG.s rfl) HasGs.nil))))))) (Cv.flds (CvL.cons Cv.fl (CvL.cons (Cv.trans Cv.nilOw (Cv.owM (T := []) (te := []) rfl rfl)) (CvL.cons (Cv.trans Cv.nilOw (Cv.owF (T := []) (te := []) rfl)) (CvL.cons Cv.fl (CvL.cons Cv.fl (CvL.cons Cv.fl CvL.nil)))))))) (HasR.cv (HasR.tmp (Has.s rfl)) Cv.fl) (ls 902008 (Low.res (lf (lg (lg (lf (lf (lf (lo Low.nil)))))))))
    ·have hm := cond_f hb hm
     refine CWalk.skip ?_
     refine Leaf.thenN ?_
     refine CWalk.seq ?_
     refine CWalk.region ?_
     refine wo (Spec.loadObj (ls := [(false, 1, Fact.rep [] a1.Stripe), (false, 1, Fact.rep [0] a1.Blocks), (false, 1, Fact.rep [0] a1.Dirty), (false, 1, Fact.rep [] a1.Phase), (false, 1, Fact.rep [] a1.Deals), (false, 1, Fact.rep [] a1.Seq)]) ty28 rfl rfl (Has.s rfl) rfl (HasGs.cons (HasG.s rfl) (HasGs.cons (HasG.s rfl) (HasGs.cons (HasG.s rfl) (HasGs.cons (HasG.s rfl) (HasGs.cons (HasG.s rfl) (HasGs.cons (HasG.s rfl) HasGs.nil))))))) ?_
     obtain ⟨x10, hx10, hm⟩ := bind_some hm
     refine wo (f := Fact.flds [(false, 1, Fact.rep [] x10.Stripe), (false, 1, Fact.ow [58] [59] 36 (x10.Blocks : List (List UInt8))), (false, 1, Fact.ow [60] [] 4 (x10.Dirty : List Bool)), (false, 1, Fact.rep [] x10.Phase), (false, 1, Fact.rep [] x10.Deals), (false, 1, Fact.rep [] x10.Seq)]) (Spec.callE [0] 58 rfl en69 (head_Twin_c a1 hx10) (HasAll.cons (Has.m (Has.cv (Has.s rfl) (Cv.trans (Cv.flds (CvL.cons Cv.fl (CvL.cons (Cv.m rfl) (CvL.cons (Cv.m rfl) (CvL.cons Cv.fl (CvL.cons Cv.fl (CvL.cons Cv.fl CvL.nil))))))) (Cv.close (T := [0]) (chHead a1)))) rfl) HasAll.nil)) ?_
     refine ws (Step.allocObj (ls := [(false, 1, Fact.rep [] ((0 : Int) : Int)), (false, 1, Fact.nilv), (false, 1, Fact.nilv), (false, 1, Fact.rep [] ((0 : UInt8) : UInt8)), (false, 1, Fact.rep [] (false : Bool)), (false, 1, Fact.rep [] ((0 : UInt32) : UInt32))]) 61 rfl rfl rfl rfl zl28) ?_
     refine ws (Step.storeObj (ls := [(false, 1, Fact.rep [] x10.Stripe), (false, 1, Fact.ow [58] [59] 36 (x10.Blocks : List (List UInt8))), (false, 1, Fact.ow [60] [] 4 (x10.Dirty : List Bool)), (false, 1, Fact.rep [] x10.Phase), (false, 1, Fact.rep [] x10.Deals), (false, 1, Fact.rep [] x10.Seq)]) rfl ty28 rfl rfl (Has.s rfl) rfl (HasL.flds (Has.s rfl)) rfl) ?_
     refine Walk.nil ?_
     refine Leaf.thenN ?_
     refine CWalk.seqJ (fun p : Int × (List (List UInt8)) × (List Bool) × UInt8 × Bool × UInt32 => [.fact 10 (.isv 49), .fact 11 (.rep [] ((0 : Int) : Int)), .fact 902008 (.cst (u1 8) (Fact.isv 28)), .fact 100050 (.at 50 (.rep [] p.1)), .fact 100051 (.at 51 (.ow [58, 68] [59, 69] 36 (p.2.1 : List (List UInt8)))), .fact 100052 (.at 52 (.ow [60] [] 4 (p.2.2.1 : List Bool))), .fact 100053 (.at 53 (.rep [] p.2.2.2.1)), .fact 100054 (.at 54 (.rep [] p.2.2.2.2.1)), .fact 100055 (.at 55 (.rep [] p.2.2.2.2.2)), .fact 100029 (.at 29 (.rep [] ((0 : Int) : Int))), .fact 100030 (.at 30 (.nilv)), .fact 100031 (.at 31 (.nilv)), .fact 100032 (.at 32 (.rep [] ((0 : UInt8) : UInt8))), .fact 100033 (.at 33 (.rep [] (false : Bool))), .fact 100034 (.at 34 (.rep [] ((0 : UInt32) : UInt32))), .fact 100049 (.obj 49 [(false, 1), (false, 1), (false, 1), (false, 1), (false, 1), (false, 1)]), .fact 100028 (.obj 28 [(false, 1), (false, 1), (false, 1), (false, 1), (false, 1), (false, 1)])]) (fun p : Int × (List (List UInt8)) × (List Bool) × UInt8 × Bool × UInt32 => head_Know_J2 p.1 p.2.1 p.2.2.1 p.2.2.2.1 p.2.2.2.2.1 p.2.2.2.2.2 = some r) ?_ ?_
     ·rintro ⟨j11, j12, j13, j14, j15, j16⟩ hm
      replace hm : head_Know_J2 j11 j12 j13 j14 j15 j16 = some r := hm
      unfold head_Know_J2 at hm
      show CWalk _ [.fact 10 (.isv 49), .fact 11 (.rep [] ((0 : Int) : Int)), .fact 902008 (.cst (u1 8) (Fact.isv 28)), .fact 100050 (.at 50 (.rep [] (j11 : Int))), .fact 100051 (.at 51 (.ow [58, 68] [59, 69] 36 (j12 : List (List UInt8)))), .fact 100052 (.at 52 (.ow [60] [] 4 (j13 : List Bool))), .fact 100053 (.at 53 (.rep [] (j14 : UInt8))), .fact 100054 (.at 54 (.rep [] (j15 : Bool))), .fact 100055 (.at 55 (.rep [] (j16 : UInt32))), .fact 100029 (.at 29 (.rep [] ((0 : Int) : Int))), .fact 100030 (.at 30 (.nilv)), .fact 100031 (.at 31 (.nilv)), .fact 100032 (.at 32 (.rep [] ((0 : UInt8) : UInt8))), .fact 100033 (.at 33 (.rep [] (false : Bool))), .fact 100034 (.at 34 (.rep [] ((0 : UInt32) : UInt32))), .fact 100049 (.obj 49 [(false, 1), (false, 1), (false, 1), (false, 1), (false, 1), (false, 1)]), .fact 100028 (.obj 28 [(false, 1), (false, 1), (false, 1), (false, 1), (false, 1), (false, 1)])] _ _
      refine CWalk.ret ?_
      exact Leaf.in2 (j11, j12, j13, j14, j15, j16, (0 : Int)) hm rfl rfl (HasR.cv (HasR.obj (ls := [(false, 1, Fact.rep [] (j11 : Int)), (false, 1, Fact.ow [58, 68] [59, 69] 36 (j12 : List (List UInt8))), (false, 1, Fact.ow [60] [] 4 (j13 : List Bool)), (false, 1, Fact.rep [] (j14 : UInt8)), (false, 1, Fact.rep [] (j15 : Bool)), (false, 1, Fact.rep [] (j16 : UInt32))]) ty28 rfl rfl (Has.s rfl) rfl (HasGs.cons (HasG.s rfl) (HasGs.cons (HasG.s rfl) (HasGs.cons (HasG.s rfl) (HasGs.cons (HasG.s rfl) (HasGs.cons (HasG.s rfl) (HasGs.cons (HasG.s rfl) HasGs.nil))))))) (Cv.flds (CvL.cons Cv.fl (CvL.cons (Cv.owM (T := [58, 68]) (te := [59, 69]) rfl rfl) (CvL.cons (Cv.owF (T := [60]) (te := []) rfl) (CvL.cons Cv.fl (CvL.cons Cv.fl (CvL.cons Cv.fl CvL.nil)))))))) (HasR.cv (HasR.tmp (Has.s rfl)) Cv.fl) (ls 902008 (Low.res (lf (lg (lg (lf (lf (lf (lo Low.nil)))))))))
     ·refine CWalk.seq ?_
      refine CWalk.region ?_
      refine mv ?_
      refine Walk.inline (S := (List (List UInt8))) (fun p : (List (List UInt8)) => [.fact 10 (.isv 49), .fact 12 (.isv 61), .fact 34 (.rep [] ((0 : Int) : Int)), .fact 902008 (.cst (u1 8) (Fact.isv 28)), .fact 100050 (.at 50 (.rep [] ((0 : Int) : Int))), .fact 100051 (.at 51 (.nilv)), .fact 100052 (.at 52 (.nilv)), .fact 100053 (.at 53 (.rep [] ((0 : UInt8) : UInt8))), .fact 100054 (.at 54 (.rep [] (false : Bool))), .fact 100055 (.at 55 (.rep [] ((0 : UInt32) : UInt32))), .fact 100062 (.at 62 (.rep [] x10.Stripe)), .fact 100063 (.at 63 (.ow [58, 68] [59, 69] 36 (p : List (List UInt8)))), .fact 100064 (.at 64 (.ow [60] [] 4 (x10.Dirty : List Bool))), .fact 100065 (.at 65 (.rep [] x10.Phase)), .fact 100066 (.at 66 (.rep [] x10.Deals)), .fact 100067 (.at 67 (.rep [] x10.Seq)), .fact 100029 (.at 29 (.rep [] ((0 : Int) : Int))), .fact 100030 (.at 30 (.nilv)), .fact 100031 (.at 31 (.nilv)), .fact 100032 (.at 32 (.rep [] ((0 : UInt8) : UInt8))), .fact 100033 (.at 33 (.rep [] (false : Bool))), .fact 100034 (.at 34 (.rep [] ((0 : UInt32) : UInt32))), .fact 100049 (.obj 49 [(false, 1), (false, 1), (false, 1), (false, 1), (false, 1), (false, 1)]), .fact 100061 (.obj 61 [(false, 1), (false, 1), (false, 1), (false, 1), (false, 1), (false, 1)]), .fact 100028 (.obj 28 [(false, 1), (false, 1), (false, 1), (false, 1), (false, 1), (false, 1)])]) (fun p : (List (List UInt8)) => head_Know_J3 x10 p = some r) (fun u2 => [.fact 100025 (.at 25 (.rep [] (a2 : Int))), .fact 100027 (.at 27 (.rep [0] (a3 : List UInt8))), .fact 100029 (.at 29 (.rep [] ((0 : Int) : Int))), .fact 100030 (.at 30 (.nilv)), .fact 100031 (.at 31 (.nilv)), .fact 100032 (.at 32 (.rep [] ((0 : UInt8) : UInt8))), .fact 100033 (.at 33 (.rep [] (false : Bool))), .fact 100034 (.at 34 (.rep [] ((0 : UInt32) : UInt32))), .fact 100050 (.at 50 (.rep [] ((0 : Int) : Int))), .fact 100051 (.at 51 (.nilv)), .fact 100052 (.at 52 (.nilv)), .fact 100053 (.at 53 (.rep [] ((0 : UInt8) : UInt8))), .fact 100054 (.at 54 (.rep [] (false : Bool))), .fact 100055 (.at 55 (.rep [] ((0 : UInt32) : UInt32))), .fact 100062 (.at 62 (.rep [] x10.Stripe)), .fact 100063 (.at 63 (.ow [58] [59] 36 (x10.Blocks : List (List UInt8)))), .fact 100064 (.at 64 (.ow [60] [] 4 (x10.Dirty : List Bool))), .fact 100065 (.at 65 (.rep [] x10.Phase)), .fact 100066 (.at 66 (.rep [] x10.Deals)), .fact 100067 (.at 67 (.rep [] x10.Seq)), .fact 902008 (.cst (u1 8) (Fact.isv 28)), .fact 904010 (.cst (u2 10) (Fact.isv 49)), .fact 904012 (.cst (u2 12) (Fact.isv 61)), .fact 100024 (.obj 24 [(false, 1)]), .fact 100026 (.obj 26 [(false, 1)]), .fact 100028 (.obj 28 [(false, 1), (false, 1), (false, 1), (false, 1), (false, 1), (false, 1)]), .fact 100049 (.obj 49 [(false, 1), (false, 1), (false, 1), (false, 1), (false, 1), (false, 1)]), .fact 100061 (.obj 61 [(false, 1), (false, 1), (false, 1), (false, 1), (false, 1), (false, 1)])]) (FA := [Fact.isv 61, Fact.isv 24, Fact.isv 26]) rfl Try.func50 rfl rfl rfl (CallOk.valE en50 (Has.s rfl) (HasF.cons (Has.s rfl) HasF.nil)) (fun u2 => (ck (ck (ck (ck (ck (ck (ck (ck (ck (ck (ck (ck (ck (ck (ck (ck (ck (ck (ck (ck (ck (cs 904000 10 (cs 904000 12 (ck (ck (ck (ck (ck Carry.nil))))))))))))))))))))))))))))) (fun u2 => ?_) ?_
      ·refine CWalk.seq ?_
       refine CWalk.region ?_
       refine wo (Spec.assign Has.int) ?_
       refine Walk.nil ?_
       refine Leaf.thenN ?_
       refine CWalk.seqJ (fun p : (List (List UInt8)) => [.fact 902008 (.cst (u1 8) (Fact.isv 28)), .fact 904010 (.cst (u2 10) (Fact.isv 49)), .fact 904012 (.cst (u2 12) (Fact.isv 61)), .fact 100029 (.at 29 (.rep [] ((0 : Int) : Int))), .fact 100030 (.at 30 (.nilv)), .fact 100031 (.at 31 (.nilv)), .fact 100032 (.at 32 (.rep [] ((0 : UInt8) : UInt8))), .fact 100033 (.at 33 (.rep [] (false : Bool))), .fact 100034 (.at 34 (.rep [] ((0 : UInt32) : UInt32))), .fact 100050 (.at 50 (.rep [] ((0 : Int) : Int))), .fact 100051 (.at 51 (.nilv)), .fact 100052 (.at 52 (.nilv)), .fact 100053 (.at 53 (.rep [] ((0 : UInt8) : UInt8))), .fact 100054 (.at 54 (.rep [] (false : Bool))), .fact 100055 (.at 55 (.rep [] ((0 : UInt32) : UInt32))), .fact 100062 (.at 62 (.rep [] x10.Stripe)), .fact 100063 (.at 63 (.ow [58, 68] [59, 69] 36 (p : List (List UInt8)))), .fact 100064 (.at 64 (.ow [60] [] 4 (x10.Dirty : List Bool))), .fact 100065 (.at 65 (.rep [] x10.Phase)), .fact 100066 (.at 66 (.rep [] x10.Deals)), .fact 100067 (.at 67 (.rep [] x10.Seq)), .fact 100028 (.obj 28 [(false, 1), (false, 1), (false, 1), (false, 1), (false, 1), (false, 1)]), .fact 100049 (.obj 49 [(false, 1), (false, 1), (false, 1), (false, 1), (false, 1), (false, 1)]), .fact 100061 (.obj 61 [(false, 1), (false, 1), (false, 1), (false, 1), (false, 1), (false, 1)])]) (fun p : (List (List UInt8)) => head_Know_J4 x10 p = some r) ?_ ?_
       ·rintro j18 hm
        replace hm : head_Know_J4 x10 j18 = some r := hm
        unfold head_Know_J4 at hm
        show CWalk _ [.fact 902008 (.cst (u1 8) (Fact.isv 28)), .fact 904010 (.cst (u2 10) (Fact.isv 49)), .fact 904012 (.cst (u2 12) (Fact.isv 61)), .fact 100029 (.at 29 (.rep [] ((0 : Int) : Int))), .fact 100030 (.at 30 (.nilv)), .fact 100031 (.at 31 (.nilv)), .fact 100032 (.at 32 (.rep [] ((0 : UInt8) : UInt8))), .fact 100033 (.at 33 (.rep [] (false : Bool))), .fact 100034 (.at 34 (.rep [] ((0 : UInt32) : UInt32))), .fact 100050 (.at 50 (.rep [] ((0 : Int) : Int))), .fact 100051 (.at 51 (.nilv)), .fact 100052 (.at 52 (.nilv)), .fact 100053 (.at 53 (.rep [] ((0 : UInt8) : UInt8))), .fact 100054 (.at 54 (.rep [] (false : Bool))), .fact 100055 (.at 55 (.rep [] ((0 : UInt32) : UInt32))), .fact 100062 (.at 62 (.rep [] x10.Stripe)), .fact 100063 (.at 63 (.ow [58, 68] [59, 69] 36 (j18 : List (List UInt8)))), .fact 100064 (.at 64 (.ow [60] [] 4 (x10.Dirty : List Bool))), .fact 100065 (.at 65 (.rep [] x10.Phase)), .fact 100066 (.at 66 (.rep [] x10.Deals)), .fact 100067 (.at 67 (.rep [] x10.Seq)), .fact 100028 (.obj 28 [(false, 1), (false, 1), (false, 1), (false, 1), (false, 1), (false, 1)]), .fact 100049 (.obj 49 [(false, 1), (false, 1), (false, 1), (false, 1), (false, 1), (false, 1)]), .fact 100061 (.obj 61 [(false, 1), (false, 1), (false, 1), (false, 1), (false, 1), (false, 1)])] _ _
        refine CWalk.seq ?_
        refine CWalk.region ?_
        refine wo (Spec.assign Has.int) ?_
        refine Walk.nil ?_
        refine Leaf.thenN ?_
        refine CWalk.ret ?_
        exact Leaf.in1 j18 hm rfl rfl (HasR.cv (HasR.tmp (Has.s rfl)) Cv.fl) (ls 904010 (ls 904012 (Low.res (lc (lf (lg (lg (lf (lf (lf (lf (Low.keepG (HasG.cv (HasG.s rfl) (Cv.owM (T := [58, 68]) (te := [59, 69]) rfl rfl)) (Low.keepG (HasG.cv (HasG.s rfl) (Cv.owF (T := [60]) (te := []) rfl)) (lf (lf (lf (lf (lg (lg (lf (lf (lf (lo (lo (lo Low.nil)))))))))))))))))))))))))
       ·refine CWalk.seq ?_
        obtain ⟨x19, hx19, hm⟩ := bind_some hm
        refine CWalk.drawM [[], [0], [0, 1], [0, 1, 2], [], [0, 1, 2, 3, 4], [0, 1, 2, 3, 4, 5], [0, 1, 2, 3, 4, 5, 6], [0, 1, 2, 3, 4, 5, 6, 7]] [[.fact 5 (.isv 61)], [.fact 6 (.isv 61)], [.fact 7 (.pto 61 1)], [.fact 8 (.ow [58] [59] 36 (x10.Blocks : List (List UInt8)))], [.fact 9 (.rep [] (a2 : Int))], [.fact 10 (.pts [58] [59] (x19 : List UInt8))], [.fact 11 (.rep [59] (x19 : List UInt8))], [.fact 12 (.rep [] (((x19).length : Int) : Int))], [.fact 13 (.rep [] ((((x19).length : Int) == (0 : Int)) : Bool))]] mixed (by kernel_rfl) (ao (so (Spec.move (Has.s rfl))) (ao (so (Spec.nilCheckI (Has.s rfl) rfl)) (ao (so (Spec.fieldAddrO fd28_1 (Has.cv (Has.s rfl) (Cv.isvP rfl)))) (ao (so (Spec.loadF (i := 1) ty25 rfl (Has.s rfl) rfl (HasG.s rfl))) (ao (so (Spec.loadF (i := 0) ty3 rfl (Has.cv (Has.s rfl) (Cv.isvP rfl)) rfl (HasG.s rfl))) (ao (so (Spec.indexSl hx19 sl25 (Has.cv (Has.s rfl) Cv.owSl) (Has.s rfl))) (ao (so (Spec.loadS ty36 (Has.s rfl))) (ao (so (Spec.len (Has.s rfl) Try.underlying36)) (ao (so (Spec.eqlI (Has.s rfl) Has.int)) AllM.nil))))))))) ?_
        refine Leaf.thenN ?_
        refine CWalk.cond rfl (fun hb => ?_) (fun hb => ?_)
        ·have hm := cond_t hb hm
         refine CWalk.ad (Ad.owF (i := 63) 68 rfl rfl rfl (ElT.tags rfl) rfl (Cv.owM (T := [58]) (te := [59]) (T' := [58]) (te' := [59]) rfl rfl)) ?_
         obtain ⟨x20, hx20, hm⟩ := bind_some hm
         obtain ⟨x21, hx21, hm⟩ := bind_some hm
         refine CWalk.drawM [[], [0], [0, 1], [0, 1, 2], [], [], [5], [0, 1, 2, 3, 4, 5, 6], [0, 1, 2, 3, 4, 5, 6, 7]] [[.fact 14 (.isv 61)], [.fact 15 (.isv 61)], [.fact 16 (.pto 61 1)], [.fact 17 (.isv 68)], [.fact 18 (.rep [] (a2 : Int))], [.fact 19 (.rep [0] (a3 : List UInt8))], [.fact 20 (.ow [69] [] 5 (x20 : List UInt8))], [.fact 21 (.pto 68 (x21 * Rp.n (List UInt8)))], [.fact 100068 (.own 68 [59, 69] 36 ((x10.Blocks).set x21 x20 : List (List UInt8))), .kill 68]] mixed (by kernel_rfl) (ao (so (Spec.move (Has.s rfl))) (ao (so (Spec.nilCheckI (Has.s rfl) rfl)) (ao (so (Spec.fieldAddrO fd28_1 (Has.cv (Has.s rfl) (Cv.isvP rfl)))) (ao (so (Spec.loadF (i := 1) ty25 rfl (Has.s rfl) rfl (HasG.s rfl))) (ao (so (Spec.loadF (i := 0) ty3 rfl (Has.cv (Has.s rfl) (Cv.isvP rfl)) rfl (HasG.s rfl))) (ao (so (Spec.loadF (i := 0) ty36 rfl (Has.cv (Has.s rfl) (Cv.isvP rfl)) rfl (HasG.s rfl))) (ao (so (Spec.callE [0] 69 rfl en49 (head_block_c a3 hx20) (HasAll.cons (Has.m (Has.s rfl) rfl) HasAll.nil))) (ao (so (Spec.idxOwn hx21 ow25 (Has.s rfl) rfl (Has.s rfl))) (ao (StepG.stE (Step.storeOwn (te' := [59, 69]) rfl (bnd_lt hx21 rfl) ty36 (Has.s rfl) rfl (Has.cv (Has.s rfl) (Cv.trans Cv.owSl (Cv.slRep (T' := [69]) rfl rfl))) (ElKeep.tags rfl rfl) (ElKeep.tags rfl rfl))) AllM.nil))))))))) ?_
         exact Leaf.join ((x10.Blocks).set x21 x20) hm (sc (sc (sc (sf (sg (sg (sf (sf (sf (sf (sg (sg (sf (sf (sf (sf (Sub.cons (Has.at (HasG.cv (HasG.s rfl) (Cv.trans (Cv.isvOw rfl) (Cv.owM (T := [68]) (te := [59, 69]) rfl rfl)))) (Sub.cons (Has.at (HasG.cv (HasG.s rfl) (Cv.owF (T := [60]) (te := []) rfl))) (sf (sf (sf (sn (sn (sn Sub.nil))))))))))))))))))))))))
        ·have hm := cond_f hb hm
         refine CWalk.skip ?_
         exact Leaf.join x10.Blocks hm (sc (sc (sc (sf (sg (sg (sf (sf (sf (sf (sg (sg (sf (sf (sf (sf (Sub.cons (Has.at (HasG.cv (HasG.s rfl) (Cv.owM (T := [58]) (te := [59]) rfl rfl))) (Sub.cons (Has.at (HasG.cv (HasG.s rfl) (Cv.owF (T := [60]) (te := []) rfl))) (sf (sf (sf (sn (sn (sn Sub.nil))))))))))))))))))))))))
      ·rintro j17 hm
       replace hm : head_Know_J3 x10 j17 = some r := hm
       unfold head_Know_J3 at hm
       show Walk _ _ _ [.fact 10 (.isv 49), .fact 12 (.isv 61), .fact 34 (.rep [] ((0 : Int) : Int)), .fact 902008 (.cst (u1 8) (Fact.isv 28)), .fact 100050 (.at 50 (.rep [] ((0 : Int) : Int))), .fact 100051 (.at 51 (.nilv)), .fact 100052 (.at 52 (.nilv)), .fact 100053 (.at 53 (.rep [] ((0 : UInt8) : UInt8))), .fact 100054 (.at 54 (.rep [] (false : Bool))), .fact 100055 (.at 55 (.rep [] ((0 : UInt32) : UInt32))), .fact 100062 (.at 62 (.rep [] x10.Stripe)), .fact 100063 (.at 63 (.ow [58, 68] [59, 69] 36 (j17 : List (List UInt8)))), .fact 100064 (.at 64 (.ow [60] [] 4 (x10.Dirty : List Bool))), .fact 100065 (.at 65 (.rep [] x10.Phase)), .fact 100066 (.at 66 (.rep [] x10.Deals)), .fact 100067 (.at 67 (.rep [] x10.Seq)), .fact 100029 (.at 29 (.rep [] ((0 : Int) : Int))), .fact 100030 (.at 30 (.nilv)), .fact 100031 (.at 31 (.nilv)), .fact 100032 (.at 32 (.rep [] ((0 : UInt8) : UInt8))), .fact 100033 (.at 33 (.rep [] (false : Bool))), .fact 100034 (.at 34 (.rep [] ((0 : UInt32) : UInt32))), .fact 100049 (.obj 49 [(false, 1), (false, 1), (false, 1), (false, 1), (false, 1), (false, 1)]), .fact 100061 (.obj 61 [(false, 1), (false, 1), (false, 1), (false, 1), (false, 1), (false, 1)]), .fact 100028 (.obj 28 [(false, 1), (false, 1), (false, 1), (false, 1), (false, 1), (false, 1)])] _
       refine wo (Spec.assign (Has.s rfl)) ?_
       refine Walk.nil ?_
       refine Leaf.thenN ?_
       refine CWalk.seq ?_
       refine CWalk.region ?_
       refine mv ?_
       refine wo (Spec.eqlI (Has.s rfl) Has.int) ?_
       refine Walk.nil ?_
       refine Leaf.thenN ?_
       refine CWalk.cond rfl (fun hb => ?_) (fun hb => ?_)
       ·have hm := cond_t hb hm
        refine CWalk.region ?_
        refine wo (Spec.loadObj (ls := [(false, 1, Fact.rep [] x10.Stripe), (false, 1, Fact.ow [58, 68] [59, 69] 36 (j17 : List (List UInt8))), (false, 1, Fact.ow [60] [] 4 (x10.Dirty : List Bool)), (false, 1, Fact.rep [] x10.Phase), (false, 1, Fact.rep [] x10.Deals), (false, 1, Fact.rep [] x10.Seq)]) ty28 rfl rfl (Has.s rfl) rfl (HasGs.cons (HasG.s rfl) (HasGs.cons (HasG.s rfl) (HasGs.cons (HasG.s rfl) (HasGs.cons (HasG.s rfl) (HasGs.cons (HasG.s rfl) (HasGs.cons (HasG.s rfl) HasGs.nil))))))) ?_
        refine ws (Step.storeObj (ls := [(false, 1, Fact.rep [] x10.Stripe), (false, 1, Fact.ow [58, 68] [59, 69] 36 (j17 : List (List UInt8))), (false, 1, Fact.ow [60] [] 4 (x10.Dirty : List Bool)), (false, 1, Fact.rep [] x10.Phase), (false, 1, Fact.rep [] x10.Deals), (false, 1, Fact.rep [] x10.Seq)]) rfl ty28 rfl rfl (Has.s rfl) rfl (HasL.flds (Has.s rfl)) rfl) ?_
        refine Walk.nil ?_
        exact Leaf.join (x10.Stripe, j17, x10.Dirty, x10.Phase, x10.Deals, x10.Seq) hm (sn (st (sc (sf (Sub.cons (Has.at (HasG.cv (HasG.s rfl) (Cv.owM (T := [58, 68]) (te := [59, 69]) rfl rfl))) (Sub.cons (Has.at (HasG.cv (HasG.s rfl) (Cv.owF (T := [60]) (te := []) rfl))) (sf (sf (sf (sf (sg (sg (sf (sf (sf (sn (sn Sub.nil)))))))))))))))))
       ·have hm := cond_f hb hm
        refine CWalk.skip ?_
        exact Leaf.join ((0 : Int), ([] : List (List UInt8)), ([] : List Bool), (0 : UInt8), false, (0 : UInt32)) hm (sn (st (sc (sf (Sub.cons (Has.at (HasG.cv (HasG.s rfl) (Cv.trans Cv.nilOw (Cv.owM (T := []) (te := []) rfl rfl)))) (Sub.cons (Has.at (HasG.cv (HasG.s rfl) (Cv.trans Cv.nilOw (Cv.owF (T := []) (te := []) rfl)))) (sf (sf (sf (sf (sg (sg (sf (sf (sf (sn (sn Sub.nil)))))))))))))))))
 ·rintro ⟨j1, j2, j3, j4, j5, j6, j7⟩ hm
  replace hm : head_Know_J1 j1 j2 j3 j4 j5 j6 j7 = some r := hm
  unfold head_Know_J1 at hm
  show Walk _ _ _ [.fact 8 (.isv 28), .fact 15 (.tup2 (Fact.flds [(false, 1, Fact.rep [] (j1 : Int)), (false, 1, Fact.ow [58, 68] [59, 69] 36 (j2 : List (List UInt8))), (false, 1, Fact.ow [60] [] 4 (j3 : List Bool)), (false, 1, Fact.rep [] (j4 : UInt8)), (false, 1, Fact.rep [] (j5 : Bool)), (false, 1, Fact.rep [] (j6 : UInt32))]) (Fact.rep [] (j7 : Int))), .fact 100029 (.at 29 (.rep [] ((0 : Int) : Int))), .fact 100030 (.at 30 (.nilv)), .fact 100031 (.at 31 (.nilv)), .fact 100032 (.at 32 (.rep [] ((0 : UInt8) : UInt8))), .fact 100033 (.at 33 (.rep [] (false : Bool))), .fact 100034 (.at 34 (.rep [] ((0 : UInt32) : UInt32))), .fact 100028 (.obj 28 [(false, 1), (false, 1), (false, 1), (false, 1), (false, 1), (false, 1)])] _
  refine wo (Spec.ext0 (Has.s rfl)) ?_
  refine wo (Spec.ext1 (Has.s rfl)) ?_
  refine ws (Step.storeObj (ls := [(false, 1, Fact.rep [] (j1 : Int)), (false, 1, Fact.ow [58, 68] [59, 69] 36 (j2 : List (List UInt8))), (false, 1, Fact.ow [60] [] 4 (j3 : List Bool)), (false, 1, Fact.rep [] (j4 : UInt8)), (false, 1, Fact.rep [] (j5 : Bool)), (false, 1, Fact.rep [] (j6 : UInt32))]) rfl ty28 rfl rfl (Has.s rfl) rfl (HasL.flds (Has.s rfl)) rfl) ?_
  refine wo (Spec.assign (Has.s rfl)) ?_
  refine Walk.nil ?_
  refine Leaf.thenN ?_
  refine CWalk.ret ?_
  obtain rfl := Option.some.inj hm
  exact Leaf.retC2 rfl (HasR.cv (HasR.obj (ls := [(false, 1, Fact.rep [] (j1 : Int)), (false, 1, Fact.ow [58, 68] [59, 69] 36 (j2 : List (List UInt8))), (false, 1, Fact.ow [60] [] 4 (j3 : List Bool)), (false, 1, Fact.rep [] (j4 : UInt8)), (false, 1, Fact.rep [] (j5 : Bool)), (false, 1, Fact.rep [] (j6 : UInt32))]) ty28 rfl rfl (Has.s rfl) rfl (HasGs.cons (HasG.s rfl) (HasGs.cons (HasG.s rfl) (HasGs.cons (HasG.s rfl) (HasGs.cons (HasG.s rfl) (HasGs.cons (HasG.s rfl) (HasGs.cons (HasG.s rfl) HasGs.nil))))))) (Cv.flds (CvL.cons Cv.fl (CvL.cons (Cv.owM (T := [58, 68]) (te := [59, 69]) rfl rfl) (CvL.cons (Cv.owF (T := [60]) (te := []) rfl) (CvL.cons Cv.fl (CvL.cons Cv.fl (CvL.cons Cv.fl CvL.nil)))))))) (HasR.cv (HasR.tmp (Has.s rfl)) Cv.fl)

def ref16_Dirty_L1 (a0 : Head) (s1 : Int) : Option (Ctl (Int) ((Unit) ⊕ (Unit))) :=
  (bif (decide (s1 < ((a0.Dirty).length : Int))) then Option.bind (idx a0.Dirty s1) (fun x3 => (bif x3 then some (Ctl.brk (Sum.inr ())) else some (Ctl.next (wI (s1 + (1 : Int)))))) else some (Ctl.brk (Sum.inl ())))
/-- freeboard/freeboardref16.Dirty -/
def ref16_Dirty (a0 : Head) : Option (Bool) :=
  Option.bind (loopM (fun s : Int => ref16_Dirty_L1 a0 s) FUEL (0 : Int)) (fun b4 => Sum.elim (fun b5 => some false) (fun b6 => some true) b4)
set_option maxRecDepth 100000 in
set_option maxHeartbeats 2000000 in
theorem ref16_Dirty_c (a0 : Head) {r : Bool} (hm : ref16_Dirty a0 = some r) : Ctr Try.prog 24 [.rep 0 a0] (.fl r) [] := by
 refine ctr_of_walk [[]] 16 Try.func24 rfl rfl rfl rfl (fun w0 om => ?_)
 unfold ref16_Dirty at hm
 refine CWalk.sub (G' := [.fact 0 (.rep [0] (a0 : Head))]) (sn Sub.nil) ?_
 refine CWalk.seq ?_
 refine CWalk.region ?_
 refine ws (Step.boxObj (ls := [(false, 1, Fact.rep [] a0.Stripe), (false, 1, Fact.rep [0] a0.Blocks), (false, 1, Fact.rep [0] a0.Dirty), (false, 1, Fact.rep [] a0.Phase), (false, 1, Fact.rep [] a0.Deals), (false, 1, Fact.rep [] a0.Seq)]) 10 rfl rfl rfl rfl (HasL.flds (Has.cv (Has.s rfl) (Cv.trans (Cv.opens (chHead a0)) (Cv.flds (CvL.cons Cv.fl (CvL.cons Cv.refl (CvL.cons Cv.refl (CvL.cons Cv.fl (CvL.cons Cv.fl (CvL.cons Cv.fl CvL.nil))))))))))) ?_
 refine wo (Spec.assign Has.bool) ?_
 refine Walk.nil ?_
 refine Leaf.thenN ?_
 refine CWalk.seq ?_
 refine CWalk.seq ?_
 refine CWalk.region ?_
 refine wo (Spec.assign Has.int) ?_
 refine Walk.nil ?_
 refine Leaf.thenN ?_
 refine CWalk.block ?_
 obtain ⟨b4, hb4, hm⟩ := bind_some hm
 refine CWalk.loop (fun s : Int => [.fact 1 (.isv 10), .fact 3 (.rep [] (s : Int)), .fact 100011 (.at 11 (.rep [] a0.Stripe)), .fact 100012 (.at 12 (.rep [0] a0.Blocks)), .fact 100013 (.at 13 (.rep [0] a0.Dirty)), .fact 100014 (.at 14 (.rep [] a0.Phase)), .fact 100015 (.at 15 (.rep [] a0.Deals)), .fact 100016 (.at 16 (.rep [] a0.Seq)), .fact 100010 (.obj 10 [(false, 1), (false, 1), (false, 1), (false, 1), (false, 1), (false, 1)])]) (fun b : (Unit) ⊕ (Unit) => Sum.elim (fun b => (Exit.exit 0, [])) (fun b => (Exit.ret, [.fact 2 (.rep [] (true : Bool))])) b) hb4 (sn (st (sf (sm (sm (sf (sf (sf (sn Sub.nil))))))))) ?_ ?_
 ·rintro s1 c2 hm
  replace hm : ref16_Dirty_L1 a0 s1 = some c2 := hm
  unfold ref16_Dirty_L1 at hm
  show CWalk _ [.fact 1 (.isv 10), .fact 3 (.rep [] (s1 : Int)), .fact 100011 (.at 11 (.rep [] a0.Stripe)), .fact 100012 (.at 12 (.rep [0] a0.Blocks)), .fact 100013 (.at 13 (.rep [0] a0.Dirty)), .fact 100014 (.at 14 (.rep [] a0.Phase)), .fact 100015 (.at 15 (.rep [] a0.Deals)), .fact 100016 (.at 16 (.rep [] a0.Seq)), .fact 100010 (.obj 10 [(false, 1), (false, 1), (false, 1), (false, 1), (false, 1), (false, 1)])] _ _
  refine CWalk.seq ?_
  refine CWalk.seq ?_
  refine CWalk.region ?_
  refine mv ?_
  refine wo (Spec.fieldAddrO fd28_2 (Has.cv (Has.s rfl) (Cv.isvP rfl))) ?_
  refine wo (Spec.loadF (i := 2) ty26 rfl (Has.s rfl) rfl (HasG.s rfl)) ?_
  refine wo (Spec.len (Has.s rfl) Try.underlying26) ?_
  refine wo (Spec.lssI (Has.s rfl) (Has.s rfl)) ?_
  refine Walk.nil ?_
  refine Leaf.thenN ?_
  refine CWalk.cond rfl (fun hb => ?_) (fun hb => ?_)
  ·have hm := cond_t hb hm
   refine CWalk.skip ?_
   refine Leaf.thenN ?_
   refine CWalk.seq ?_
   refine CWalk.block ?_
   refine CWalk.seq ?_
   refine CWalk.region ?_
   refine wo (Spec.fieldAddrO fd28_2 (Has.cv (Has.s rfl) (Cv.isvP rfl))) ?_
   refine wo (Spec.loadF (i := 2) ty26 rfl (Has.s rfl) rfl (HasG.s rfl)) ?_
   refine mv ?_
   obtain ⟨x3, hx3, hm⟩ := bind_some hm
   refine wo (Spec.indexAddr hx3 sl26 (Has.s rfl) (Has.s rfl)) ?_
   refine wo ((Spec.load ty4 (Has.s rfl)).flat (T' := [])) ?_
   refine Walk.nil ?_
   refine Leaf.thenN ?_
   refine CWalk.cond rfl (fun hb => ?_) (fun hb => ?_)
   ·have hm := cond_t hb hm
    refine CWalk.seq ?_
    refine CWalk.region ?_
    refine wo (Spec.assign Has.bool) ?_
    refine Walk.nil ?_
    refine Leaf.thenN ?_
    refine CWalk.ret ?_
    refine Leaf.blockR ?_
    refine Leaf.thenR ?_
    exact Leaf.brk hm (fun h => nomatch h) rfl (st Sub.nil)
   ·have hm := cond_f hb hm
    refine CWalk.skip ?_
    refine Leaf.blockN ?_
    refine Leaf.thenN ?_
    refine CWalk.region ?_
    refine mv ?_
    refine wo (Spec.addI (Has.s rfl) Has.int) ?_
    refine wo (Spec.assign (Has.s rfl)) ?_
    refine Walk.nil ?_
    exact Leaf.next hm (sn (st (sf (sm (sm (sf (sf (sf (sn Sub.nil)))))))))
  ·have hm := cond_f hb hm
   refine CWalk.exit ?_
   refine Leaf.thenE ?_
   exact Leaf.brk hm (fun h => nomatch h) rfl (Sub.nil)
 ·intro _
  rcases b4 with b5 | b6
  ·have hm := selim_l hm
   refine Leaf.blockE ?_
   refine Leaf.thenN ?_
   refine CWalk.seq ?_
   refine CWalk.region ?_
   refine wo (Spec.assign Has.bool) ?_
   refine Walk.nil ?_
   refine Leaf.thenN ?_
   refine CWalk.ret ?_
   obtain rfl := Option.some.inj hm
   exact Leaf.retC1 rfl (HasR.cv (HasR.tmp (Has.s rfl)) Cv.fl)
  ·have hm := selim_r hm
   refine Leaf.blockR ?_
   refine Leaf.thenR ?_
   obtain rfl := Option.some.inj hm
   exact Leaf.retC1 rfl (HasR.cv (HasR.tmp (Has.s rfl)) Cv.fl)

/-- freeboard/turn.divide -/
def turn_divide (a0 : Int) (a1 : Int) : Option (Int × Int) :=
  Option.bind (quoI a0 a1) (fun x1 => Option.bind (remI a0 a1) (fun x2 => some (x1, x2)))
set_option maxRecDepth 100000 in
set_option maxHeartbeats 2000000 in
theorem turn_divide_c (a0 : Int) (a1 : Int) {r : Int × Int} (hm : turn_divide a0 a1 = some r) : Ctr Try.prog 67 [.rep 0 a0, .rep 0 a1] (.tup2 (.fl r.1) (.fl r.2)) [] := by
 refine ctr_of_walk [[]] 12 Try.func67 rfl rfl rfl rfl (fun w0 om => ?_)
 unfold turn_divide at hm
 refine CWalk.sub (G' := [.fact 0 (.rep [] (a0 : Int)), .fact 1 (.rep [] (a1 : Int))]) (Sub.cons (Has.fl (Has.s rfl)) (Sub.cons (Has.fl (Has.s rfl)) Sub.nil)) ?_
 refine CWalk.seq ?_
 refine CWalk.region ?_
 refine wo (Spec.assign Has.int) ?_
 refine wo (Spec.assign Has.int) ?_
 refine Walk.nil ?_
 refine Leaf.thenN ?_
 refine CWalk.seq ?_
 obtain ⟨x1, hx1, hm⟩ := bind_some hm
 obtain ⟨x2, hx2, hm⟩ := bind_some hm
 refine CWalk.drawM [[], [], [0, 1], [], [], [3, 4], [0, 1, 2], [0, 1, 2, 3, 4, 5, 6]] [[.fact 6 (.rep [] (a0 : Int))], [.fact 7 (.rep [] (a1 : Int))], [.fact 8 (.rep [] (x1 : Int))], [.fact 9 (.rep [] (a0 : Int))], [.fact 10 (.rep [] (a1 : Int))], [.fact 11 (.rep [] (x2 : Int))], [.fact 4 (.rep [] (x1 : Int))], [.fact 5 (.rep [] (x2 : Int))]] mixed (by kernel_rfl) (ao (so (Spec.move (Has.s rfl))) (ao (so (Spec.move (Has.s rfl))) (ao (so (Spec.quoI hx1 (Has.s rfl) (Has.s rfl))) (ao (so (Spec.move (Has.s rfl))) (ao (so (Spec.move (Has.s rfl))) (ao (so (Spec.remI hx2 (Has.s rfl) (Has.s rfl))) (ao (so (Spec.assign (Has.s rfl))) (ao (so (Spec.assign (Has.s rfl))) AllM.nil)))))))) ?_
 refine Leaf.thenN ?_
 refine CWalk.ret ?_
 obtain rfl := Option.some.inj hm
 exact Leaf.retC2 rfl (HasR.cv (HasR.tmp (Has.s rfl)) Cv.fl) (HasR.cv (HasR.tmp (Has.s rfl)) Cv.fl)

def turn_at_J1 (a0 : Config) (a1 : Int) (j2 : Bool) : Option (Row83 × Int) :=
  (bif j2 then some ((Row83.mk (Config.mk (0 : UInt32) (0 : Int) (0 : Int) (0 : Int) (0 : Int) (0 : Int)) (0 : Int)), (2 : Int)) else Option.bind (turn_divide a1 a0.Chunk) (fun x3 => some ((Row83.mk a0 x3.1), (0 : Int))))
/-- freeboard/turn.at -/
def turn_at (a0 : Config) (a1 : Int) (a2 : Int) (a3 : Int) : Option (Row83 × Int) :=
  Option.bind (shape_Stripes a0) (fun x1 => (bif (x1.2 != (0 : Int)) then some ((Row83.mk (Config.mk (0 : UInt32) (0 : Int) (0 : Int) (0 : Int) (0 : Int) (0 : Int)) (0 : Int)), x1.2) else (bif (decide (a1 < (0 : Int))) then (turn_at_J1 a0 a1 (decide (a1 < (0 : Int)))) else (bif (decide (a1 ≥ x1.1)) then (turn_at_J1 a0 a1 (decide (a1 ≥ x1.1))) else (bif (decide (a2 < (0 : Int))) then (turn_at_J1 a0 a1 (decide (a2 < (0 : Int)))) else (turn_at_J1 a0 a1 (decide (a2 ≥ a3))))))))
set_option maxRecDepth 100000 in
set_option maxHeartbeats 2000000 in
theorem turn_at_c (a0 : Config) (a1 : Int) (a2 : Int) (a3 : Int) {r : Row83 × Int} (hm : turn_at a0 a1 a2 a3 = some r) : Ctr Try.prog 45 [.rep 0 a0, .rep 0 a1, .rep 0 a2, .rep 0 a3] (.tup2 (.fl r.1) (.fl r.2)) [] := by
 refine ctr_of_walk [[]] 46 Try.func45 rfl rfl rfl rfl (fun w0 om => ?_)
 unfold turn_at at hm
 refine CWalk.sub (G' := [.fact 0 (.rep [] (a0 : Config)), .fact 1 (.rep [] (a1 : Int)), .fact 2 (.rep [] (a2 : Int)), .fact 3 (.rep [] (a3 : Int))]) (Sub.cons (Has.fl (Has.s rfl)) (Sub.cons (Has.fl (Has.s rfl)) (Sub.cons (Has.fl (Has.s rfl)) (Sub.cons (Has.fl (Has.s rfl)) Sub.nil)))) ?_
 refine CWalk.seq ?_
 refine CWalk.region ?_
 refine ws (Step.boxObj (ls := [(false, 1, Fact.rep [] a0.Id), (false, 1, Fact.rep [] a0.Members), (false, 1, Fact.rep [] a0.Chunk), (false, 1, Fact.rep [] a0.Rows), (false, 1, Fact.rep [] a0.Log), (false, 1, Fact.rep [] a0.Heads)]) 10 rfl rfl rfl rfl (HasL.flds (Has.cv (Has.s rfl) (Cv.trans (Cv.opens (chConfig a0)) (Cv.flds (CvL.cons Cv.fl (CvL.cons Cv.fl (CvL.cons Cv.fl (CvL.cons Cv.fl (CvL.cons Cv.fl (CvL.cons Cv.fl CvL.nil))))))))))) ?_
 refine ws (Step.allocObj (ls := [(false, 1, Fact.rep [] ((0 : UInt32) : UInt32)), (false, 1, Fact.rep [] ((0 : Int) : Int)), (false, 1, Fact.rep [] ((0 : Int) : Int)), (false, 1, Fact.rep [] ((0 : Int) : Int)), (false, 1, Fact.rep [] ((0 : Int) : Int)), (false, 1, Fact.rep [] ((0 : Int) : Int)), (false, 1, Fact.rep [] ((0 : Int) : Int))]) 17 rfl rfl rfl rfl zl83) ?_
 refine wo (Spec.assign Has.int) ?_
 refine Walk.nil ?_
 refine Leaf.thenN ?_
 refine CWalk.seq ?_
 refine CWalk.region ?_
 refine wo (Spec.loadObj (ls := [(false, 1, Fact.rep [] a0.Id), (false, 1, Fact.rep [] a0.Members), (false, 1, Fact.rep [] a0.Chunk), (false, 1, Fact.rep [] a0.Rows), (false, 1, Fact.rep [] a0.Log), (false, 1, Fact.rep [] a0.Heads)]) ty24 rfl rfl (Has.s rfl) rfl (HasGs.cons (HasG.s rfl) (HasGs.cons (HasG.s rfl) (HasGs.cons (HasG.s rfl) (HasGs.cons (HasG.s rfl) (HasGs.cons (HasG.s rfl) (HasGs.cons (HasG.s rfl) HasGs.nil))))))) ?_
 obtain ⟨x1, hx1, hm⟩ := bind_some hm
 refine wo (f := Fact.tup2 (Fact.rep [] x1.1) (Fact.rep [] x1.2)) (Spec.callE [] 25 rfl en38 (shape_Stripes_c a0 hx1) (HasAll.cons (Has.fl (Has.cv (Has.s rfl) (Cv.trans (Cv.flds (CvL.cons Cv.fl (CvL.cons Cv.fl (CvL.cons Cv.fl (CvL.cons Cv.fl (CvL.cons Cv.fl (CvL.cons Cv.fl CvL.nil))))))) (Cv.close (T := []) (chConfig a0))))) HasAll.nil)) ?_
 refine mv ?_
 refine wo (Spec.ext0 (Has.s rfl)) ?_
 refine wo (Spec.ext1 (Has.s rfl)) ?_
 refine wo (Spec.assign (Has.s rfl)) ?_
 refine wo (Spec.assign (Has.s rfl)) ?_
 refine Walk.nil ?_
 refine Leaf.thenN ?_
 refine CWalk.seq ?_
 refine CWalk.block ?_
 refine CWalk.seq ?_
 refine CWalk.region ?_
 refine mv ?_
 refine wo (Spec.neqI (Has.s rfl) Has.int) ?_
 refine wo (Spec.assign (Has.s rfl)) ?_
 refine Walk.nil ?_
 refine Leaf.thenN ?_
 refine CWalk.cond rfl (fun hb => ?_) (fun hb => ?_)
 ·have hm := cond_t hb hm
  refine CWalk.seq ?_
  refine CWalk.region ?_
  refine wo (Spec.build (us := []) (ls' := [(true, 6, Fact.flds [(false, 1, Fact.rep [] ((0 : UInt32) : UInt32)), (false, 1, Fact.rep [] ((0 : Int) : Int)), (false, 1, Fact.rep [] ((0 : Int) : Int)), (false, 1, Fact.rep [] ((0 : Int) : Int)), (false, 1, Fact.rep [] ((0 : Int) : Int)), (false, 1, Fact.rep [] ((0 : Int) : Int))]), (false, 1, Fact.rep [] ((0 : Int) : Int))]) bd83 rfl BP.nil) ?_
  refine mv ?_
  refine ws (Step.storeObj (ls := [(false, 1, Fact.rep [] ((0 : UInt32) : UInt32)), (false, 1, Fact.rep [] ((0 : Int) : Int)), (false, 1, Fact.rep [] ((0 : Int) : Int)), (false, 1, Fact.rep [] ((0 : Int) : Int)), (false, 1, Fact.rep [] ((0 : Int) : Int)), (false, 1, Fact.rep [] ((0 : Int) : Int)), (false, 1, Fact.rep [] ((0 : Int) : Int))]) rfl ty83 rfl rfl (Has.s rfl) rfl (HasL.flds (Has.cv (Has.s rfl) (Cv.flat (FlatR.sub (FlatR.cons (FlatR.cons (FlatR.cons (FlatR.cons (FlatR.cons (FlatR.cons FlatR.nil)))))) rfl (FlatR.cons FlatR.nil))))) rfl) ?_
  refine wo (Spec.assign (Has.s rfl)) ?_
  refine Walk.nil ?_
  refine Leaf.thenN ?_
  refine CWalk.ret ?_
  refine Leaf.blockR ?_
  refine Leaf.thenR ?_
  obtain rfl := Option.some.inj hm
  exact Leaf.retC2 rfl (HasR.cv (HasR.cv (HasR.obj (ls := [(false, 1, Fact.rep [] ((0 : UInt32) : UInt32)), (false, 1, Fact.rep [] ((0 : Int) : Int)), (false, 1, Fact.rep [] ((0 : Int) : Int)), (false, 1, Fact.rep [] ((0 : Int) : Int)), (false, 1, Fact.rep [] ((0 : Int) : Int)), (false, 1, Fact.rep [] ((0 : Int) : Int)), (false, 1, Fact.rep [] ((0 : Int) : Int))]) ty83 rfl rfl (Has.s rfl) rfl (HasGs.cons (HasG.s rfl) (HasGs.cons (HasG.s rfl) (HasGs.cons (HasG.s rfl) (HasGs.cons (HasG.s rfl) (HasGs.cons (HasG.s rfl) (HasGs.cons (HasG.s rfl) (HasGs.cons (HasG.s rfl) HasGs.nil)))))))) (Cv.unflat (FlatR.sub (FlatR.cons (FlatR.cons (FlatR.cons (FlatR.cons (FlatR.cons (FlatR.cons FlatR.nil)))))) rfl (FlatR.cons FlatR.nil)))) (Cv.trans (Cv.trans (Cv.flds (CvL.cons (Cv.trans (Cv.trans (Cv.flds (CvL.cons Cv.fl (CvL.cons Cv.fl (CvL.cons Cv.fl (CvL.cons Cv.fl (CvL.cons Cv.fl (CvL.cons Cv.fl CvL.nil))))))) (Cv.close (T := []) (chConfig (Config.mk (0 : UInt32) (0 : Int) (0 : Int) (0 : Int) (0 : Int) (0 : Int))))) Cv.fl) (CvL.cons Cv.fl CvL.nil))) (Cv.close (T := []) (chRow83 (Row83.mk (Config.mk (0 : UInt32) (0 : Int) (0 : Int) (0 : Int) (0 : Int) (0 : Int)) (0 : Int))))) Cv.fl)) (HasR.cv (HasR.tmp (Has.s rfl)) Cv.fl)
 ·have hm := cond_f hb hm
  refine CWalk.seqJ (fun p : Bool => [.fact 1 (.rep [] (a1 : Int)), .fact 4 (.isv 10), .fact 8 (.isv 17), .fact 24 (.rep [] (p : Bool)), .fact 100011 (.at 11 (.rep [] a0.Id)), .fact 100012 (.at 12 (.rep [] a0.Members)), .fact 100013 (.at 13 (.rep [] a0.Chunk)), .fact 100014 (.at 14 (.rep [] a0.Rows)), .fact 100015 (.at 15 (.rep [] a0.Log)), .fact 100016 (.at 16 (.rep [] a0.Heads)), .fact 100018 (.at 18 (.rep [] ((0 : UInt32) : UInt32))), .fact 100019 (.at 19 (.rep [] ((0 : Int) : Int))), .fact 100020 (.at 20 (.rep [] ((0 : Int) : Int))), .fact 100021 (.at 21 (.rep [] ((0 : Int) : Int))), .fact 100022 (.at 22 (.rep [] ((0 : Int) : Int))), .fact 100023 (.at 23 (.rep [] ((0 : Int) : Int))), .fact 100024 (.at 24 (.rep [] ((0 : Int) : Int))), .fact 100010 (.obj 10 [(false, 1), (false, 1), (false, 1), (false, 1), (false, 1), (false, 1)]), .fact 100017 (.obj 17 [(false, 1), (false, 1), (false, 1), (false, 1), (false, 1), (false, 1), (false, 1)])]) (fun p : Bool => turn_at_J1 a0 a1 p = some r) ?_ ?_
  ·rintro j2 hm
   replace hm : turn_at_J1 a0 a1 j2 = some r := hm
   unfold turn_at_J1 at hm
   show CWalk _ [.fact 1 (.rep [] (a1 : Int)), .fact 4 (.isv 10), .fact 8 (.isv 17), .fact 24 (.rep [] (j2 : Bool)), .fact 100011 (.at 11 (.rep [] a0.Id)), .fact 100012 (.at 12 (.rep [] a0.Members)), .fact 100013 (.at 13 (.rep [] a0.Chunk)), .fact 100014 (.at 14 (.rep [] a0.Rows)), .fact 100015 (.at 15 (.rep [] a0.Log)), .fact 100016 (.at 16 (.rep [] a0.Heads)), .fact 100018 (.at 18 (.rep [] ((0 : UInt32) : UInt32))), .fact 100019 (.at 19 (.rep [] ((0 : Int) : Int))), .fact 100020 (.at 20 (.rep [] ((0 : Int) : Int))), .fact 100021 (.at 21 (.rep [] ((0 : Int) : Int))), .fact 100022 (.at 22 (.rep [] ((0 : Int) : Int))), .fact 100023 (.at 23 (.rep [] ((0 : Int) : Int))), .fact 100024 (.at 24 (.rep [] ((0 : Int) : Int))), .fact 100010 (.obj 10 [(false, 1), (false, 1), (false, 1), (false, 1), (false, 1), (false, 1)]), .fact 100017 (.obj 17 [(false, 1), (false, 1), (false, 1), (false, 1), (false, 1), (false, 1), (false, 1)])] _ _
   refine CWalk.cond rfl (fun hb => ?_) (fun hb => ?_)
   ·have hm := cond_t hb hm
    refine CWalk.seq ?_
    refine CWalk.region ?_
    refine wo (Spec.build (us := []) (ls' := [(true, 6, Fact.flds [(false, 1, Fact.rep [] ((0 : UInt32) : UInt32)), (false, 1, Fact.rep [] ((0 : Int) : Int)), (false, 1, Fact.rep [] ((0 : Int) : Int)), (false, 1, Fact.rep [] ((0 : Int) : Int)), (false, 1, Fact.rep [] ((0 : Int) : Int)), (false, 1, Fact.rep [] ((0 : Int) : Int))]), (false, 1, Fact.rep [] ((0 : Int) : Int))]) bd83 rfl BP.nil) ?_
    refine ws (Step.storeObj (ls := [(false, 1, Fact.rep [] ((0 : UInt32) : UInt32)), (false, 1, Fact.rep [] ((0 : Int) : Int)), (false, 1, Fact.rep [] ((0 : Int) : Int)), (false, 1, Fact.rep [] ((0 : Int) : Int)), (false, 1, Fact.rep [] ((0 : Int) : Int)), (false, 1, Fact.rep [] ((0 : Int) : Int)), (false, 1, Fact.rep [] ((0 : Int) : Int))]) rfl ty83 rfl rfl (Has.s rfl) rfl (HasL.flds (Has.cv (Has.s rfl) (Cv.flat (FlatR.sub (FlatR.cons (FlatR.cons (FlatR.cons (FlatR.cons (FlatR.cons (FlatR.cons FlatR.nil)))))) rfl (FlatR.cons FlatR.nil))))) rfl) ?_
    refine wo (Spec.assign Has.int) ?_
    refine Walk.nil ?_
    refine Leaf.thenN ?_
    refine CWalk.ret ?_
    refine Leaf.blockR ?_
    refine Leaf.thenR ?_
    obtain rfl := Option.some.inj hm
    exact Leaf.retC2 rfl (HasR.cv (HasR.cv (HasR.obj (ls := [(false, 1, Fact.rep [] ((0 : UInt32) : UInt32)), (false, 1, Fact.rep [] ((0 : Int) : Int)), (false, 1, Fact.rep [] ((0 : Int) : Int)), (false, 1, Fact.rep [] ((0 : Int) : Int)), (false, 1, Fact.rep [] ((0 : Int) : Int)), (false, 1, Fact.rep [] ((0 : Int) : Int)), (false, 1, Fact.rep [] ((0 : Int) : Int))]) ty83 rfl rfl (Has.s rfl) rfl (HasGs.cons (HasG.s rfl) (HasGs.cons (HasG.s rfl) (HasGs.cons (HasG.s rfl) (HasGs.cons (HasG.s rfl) (HasGs.cons (HasG.s rfl) (HasGs.cons (HasG.s rfl) (HasGs.cons (HasG.s rfl) HasGs.nil)))))))) (Cv.unflat (FlatR.sub (FlatR.cons (FlatR.cons (FlatR.cons (FlatR.cons (FlatR.cons (FlatR.cons FlatR.nil)))))) rfl (FlatR.cons FlatR.nil)))) (Cv.trans (Cv.trans (Cv.flds (CvL.cons (Cv.trans (Cv.trans (Cv.flds (CvL.cons Cv.fl (CvL.cons Cv.fl (CvL.cons Cv.fl (CvL.cons Cv.fl (CvL.cons Cv.fl (CvL.cons Cv.fl CvL.nil))))))) (Cv.close (T := []) (chConfig (Config.mk (0 : UInt32) (0 : Int) (0 : Int) (0 : Int) (0 : Int) (0 : Int))))) Cv.fl) (CvL.cons Cv.fl CvL.nil))) (Cv.close (T := []) (chRow83 (Row83.mk (Config.mk (0 : UInt32) (0 : Int) (0 : Int) (0 : Int) (0 : Int) (0 : Int)) (0 : Int))))) Cv.fl)) (HasR.cv (HasR.tmp (Has.s rfl)) Cv.fl)
   ·have hm := cond_f hb hm
    refine CWalk.skip ?_
    refine Leaf.blockN ?_
    refine Leaf.thenN ?_
    refine CWalk.seq ?_
    refine CWalk.region ?_
    refine mv ?_
    refine wo (Spec.fieldAddrO fd24_2 (Has.cv (Has.s rfl) (Cv.isvP rfl))) ?_
    refine wo (Spec.loadF (i := 2) ty3 rfl (Has.s rfl) rfl (HasG.s rfl)) ?_
    obtain ⟨x3, hx3, hm⟩ := bind_some hm
    refine wo (f := Fact.tup2 (Fact.rep [] x3.1) (Fact.rep [] x3.2)) (Spec.callE [] 26 rfl en67 (turn_divide_c a1 a0.Chunk hx3) (HasAll.cons (Has.fl (Has.s rfl)) (HasAll.cons (Has.fl (Has.s rfl)) HasAll.nil))) ?_
    refine mv ?_
    refine wo (Spec.ext0 (Has.s rfl)) ?_
    refine wo (Spec.ext1 (Has.s rfl)) ?_
    refine wo (Spec.assign (Has.s rfl)) ?_
    refine wo (Spec.assign (Has.s rfl)) ?_
    refine Walk.nil ?_
    refine Leaf.thenN ?_
    refine CWalk.seq ?_
    refine CWalk.region ?_
    refine wo (Spec.loadObj (ls := [(false, 1, Fact.rep [] a0.Id), (false, 1, Fact.rep [] a0.Members), (false, 1, Fact.rep [] a0.Chunk), (false, 1, Fact.rep [] a0.Rows), (false, 1, Fact.rep [] a0.Log), (false, 1, Fact.rep [] a0.Heads)]) ty24 rfl rfl (Has.s rfl) rfl (HasGs.cons (HasG.s rfl) (HasGs.cons (HasG.s rfl) (HasGs.cons (HasG.s rfl) (HasGs.cons (HasG.s rfl) (HasGs.cons (HasG.s rfl) (HasGs.cons (HasG.s rfl) HasGs.nil))))))) ?_
    refine mv ?_
    refine wo (Spec.build (us := [(0, .tmp 43), (1, .tmp 44)]) (ls' := [(true, 6, Fact.flds [(false, 1, Fact.rep [] a0.Id), (false, 1, Fact.rep [] a0.Members), (false, 1, Fact.rep [] a0.Chunk), (false, 1, Fact.rep [] a0.Rows), (false, 1, Fact.rep [] a0.Log), (false, 1, Fact.rep [] a0.Heads)]), (false, 1, Fact.rep [] x3.1)]) bd83 rfl (BP.cons rfl rfl (Has.cv (Has.s rfl) (Cv.trans (Cv.flds (CvL.cons Cv.fl (CvL.cons Cv.fl (CvL.cons Cv.fl (CvL.cons Cv.fl (CvL.cons Cv.fl (CvL.cons Cv.fl CvL.nil))))))) (Cv.close (T := []) (chConfig a0)))) (Has.s rfl) (BP.cons rfl rfl (Has.s rfl) (Has.s rfl) BP.nil))) ?_
    refine ws (Step.storeObj (ls := [(false, 1, Fact.rep [] a0.Id), (false, 1, Fact.rep [] a0.Members), (false, 1, Fact.rep [] a0.Chunk), (false, 1, Fact.rep [] a0.Rows), (false, 1, Fact.rep [] a0.Log), (false, 1, Fact.rep [] a0.Heads), (false, 1, Fact.rep [] x3.1)]) rfl ty83 rfl rfl (Has.s rfl) rfl (HasL.flds (Has.cv (Has.s rfl) (Cv.flat (FlatR.sub (FlatR.cons (FlatR.cons (FlatR.cons (FlatR.cons (FlatR.cons (FlatR.cons FlatR.nil)))))) rfl (FlatR.cons FlatR.nil))))) rfl) ?_
    refine wo (Spec.assign Has.int) ?_
    refine Walk.nil ?_
    refine Leaf.thenN ?_
    refine CWalk.ret ?_
    obtain rfl := Option.some.inj hm
    exact Leaf.retC2 rfl (HasR.cv (HasR.cv (HasR.obj (ls := [(false, 1, Fact.rep [] a0.Id), (false, 1, Fact.rep [] a0.Members), (false, 1, Fact.rep [] a0.Chunk), (false, 1, Fact.rep [] a0.Rows), (false, 1, Fact.rep [] a0.Log), (false, 1, Fact.rep [] a0.Heads), (false, 1, Fact.rep [] x3.1)]) ty83 rfl rfl (Has.s rfl) rfl (HasGs.cons (HasG.s rfl) (HasGs.cons (HasG.s rfl) (HasGs.cons (HasG.s rfl) (HasGs.cons (HasG.s rfl) (HasGs.cons (HasG.s rfl) (HasGs.cons (HasG.s rfl) (HasGs.cons (HasG.s rfl) HasGs.nil)))))))) (Cv.unflat (FlatR.sub (FlatR.cons (FlatR.cons (FlatR.cons (FlatR.cons (FlatR.cons (FlatR.cons FlatR.nil)))))) rfl (FlatR.cons FlatR.nil)))) (Cv.trans (Cv.trans (Cv.flds (CvL.cons (Cv.trans (Cv.trans (Cv.flds (CvL.cons Cv.fl (CvL.cons Cv.fl (CvL.cons Cv.fl (CvL.cons Cv.fl (CvL.cons Cv.fl (CvL.cons Cv.fl CvL.nil))))))) (Cv.close (T := []) (chConfig a0))) Cv.fl) (CvL.cons Cv.fl CvL.nil))) (Cv.close (T := []) (chRow83 (Row83.mk a0 x3.1)))) Cv.fl)) (HasR.cv (HasR.tmp (Has.s rfl)) Cv.fl)
  ·refine CWalk.seq ?_
   refine CWalk.region ?_
   refine mv ?_
   refine wo (Spec.lssI (Has.s rfl) Has.int) ?_
   refine wo (Spec.assign (Has.s rfl)) ?_
   refine Walk.nil ?_
   refine Leaf.thenN ?_
   refine CWalk.cond rfl (fun hb => ?_) (fun hb => ?_)
   ·have hm := cond_t hb hm
    refine CWalk.skip ?_
    exact Leaf.join (decide (a1 < (0 : Int))) hm (st (sn (sn (st (sf (sf (sf (sf (sf (sf (sf (sf (sf (sf (sf (sf (sf (sn (sn Sub.nil)))))))))))))))))))
   ·have hm := cond_f hb hm
    refine CWalk.seq ?_
    refine CWalk.region ?_
    refine mv ?_
    refine mv ?_
    refine wo (Spec.geqI (Has.s rfl) (Has.s rfl)) ?_
    refine wo (Spec.assign (Has.s rfl)) ?_
    refine Walk.nil ?_
    refine Leaf.thenN ?_
    refine CWalk.cond rfl (fun hb => ?_) (fun hb => ?_)
    ·have hm := cond_t hb hm
     refine CWalk.skip ?_
     exact Leaf.join (decide (a1 ≥ x1.1)) hm (st (sn (sn (st (sf (sf (sf (sf (sf (sf (sf (sf (sf (sf (sf (sf (sf (sn (sn Sub.nil)))))))))))))))))))
    ·have hm := cond_f hb hm
     refine CWalk.seq ?_
     refine CWalk.region ?_
     refine mv ?_
     refine wo (Spec.lssI (Has.s rfl) Has.int) ?_
     refine wo (Spec.assign (Has.s rfl)) ?_
     refine Walk.nil ?_
     refine Leaf.thenN ?_
     refine CWalk.cond rfl (fun hb => ?_) (fun hb => ?_)
     ·have hm := cond_t hb hm
      refine CWalk.skip ?_
      exact Leaf.join (decide (a2 < (0 : Int))) hm (st (sn (sn (st (sf (sf (sf (sf (sf (sf (sf (sf (sf (sf (sf (sf (sf (sn (sn Sub.nil)))))))))))))))))))
     ·have hm := cond_f hb hm
      refine CWalk.region ?_
      refine mv ?_
      refine mv ?_
      refine wo (Spec.geqI (Has.s rfl) (Has.s rfl)) ?_
      refine wo (Spec.assign (Has.s rfl)) ?_
      refine Walk.nil ?_
      exact Leaf.join (decide (a2 ≥ a3)) hm (st (sn (sn (st (sf (sf (sf (sf (sf (sf (sf (sf (sf (sf (sf (sf (sf (sn (sn Sub.nil)))))))))))))))))))

/-- (freeboard/turn.row).parity -/
def turn_row_parity (a0 : Row83) : Option (Int) :=
  Option.bind (turn_divide a0.n a0.Config.Members) (fun x1 => some (wI ((wI (a0.Config.Members - (1 : Int))) - x1.2)))
set_option maxRecDepth 100000 in
set_option maxHeartbeats 2000000 in
theorem turn_row_parity_c (a0 : Row83) {r : Int} (hm : turn_row_parity a0 = some r) : Ctr Try.prog 68 [.rep 0 a0] (.fl r) [] := by
 refine ctr_of_walk [[]] 20 Try.func68 rfl rfl rfl rfl (fun w0 om => ?_)
 unfold turn_row_parity at hm
 refine CWalk.sub (G' := [.fact 0 (.rep [] (a0 : Row83))]) (Sub.cons (Has.fl (Has.s rfl)) Sub.nil) ?_
 refine CWalk.seq ?_
 refine CWalk.region ?_
 refine ws (Step.boxObj (ls := [(false, 1, Fact.rep [] a0.Config.Id), (false, 1, Fact.rep [] a0.Config.Members), (false, 1, Fact.rep [] a0.Config.Chunk), (false, 1, Fact.rep [] a0.Config.Rows), (false, 1, Fact.rep [] a0.Config.Log), (false, 1, Fact.rep [] a0.Config.Heads), (false, 1, Fact.rep [] a0.n)]) 10 rfl rfl rfl rfl (HasL.flds (Has.cv (Has.s rfl) (Cv.trans (Cv.trans (Cv.trans (Cv.opens (chRow83 a0)) (Cv.flds (CvL.cons Cv.fl (CvL.cons Cv.fl CvL.nil)))) (Cv.flds (ls := [(true, 6, Fact.rep [] a0.Config), (false, 1, Fact.rep [] a0.n)]) (ms := [(true, 6, Fact.flds [(false, 1, Fact.rep [] a0.Config.Id), (false, 1, Fact.rep [] a0.Config.Members), (false, 1, Fact.rep [] a0.Config.Chunk), (false, 1, Fact.rep [] a0.Config.Rows), (false, 1, Fact.rep [] a0.Config.Log), (false, 1, Fact.rep [] a0.Config.Heads)]), (false, 1, Fact.rep [] a0.n)]) (CvL.cons (Cv.trans (Cv.opens (chConfig a0.Config)) (Cv.flds (CvL.cons Cv.fl (CvL.cons Cv.fl (CvL.cons Cv.fl (CvL.cons Cv.fl (CvL.cons Cv.fl (CvL.cons Cv.fl CvL.nil)))))))) (CvL.cons Cv.refl CvL.nil)))) (Cv.flat (FlatR.sub (FlatR.cons (FlatR.cons (FlatR.cons (FlatR.cons (FlatR.cons (FlatR.cons FlatR.nil)))))) rfl (FlatR.cons FlatR.nil))))))) ?_
 refine wo (Spec.assign Has.int) ?_
 refine Walk.nil ?_
 refine Leaf.thenN ?_
 refine CWalk.seq ?_
 refine CWalk.region ?_
 refine wo (Spec.fieldAddrO fd83_1 (Has.cv (Has.s rfl) (Cv.isvP rfl))) ?_
 refine wo (Spec.loadF (i := 6) ty3 rfl (Has.s rfl) rfl (HasG.s rfl)) ?_
 refine wo (Spec.fieldAddrO fd83_0 (Has.cv (Has.s rfl) (Cv.isvP rfl))) ?_
 refine wo (Spec.fieldAddrO fd24_1 (Has.s rfl)) ?_
 refine wo (Spec.loadF (i := 1) ty3 rfl (Has.s rfl) rfl (HasG.s rfl)) ?_
 obtain ⟨x1, hx1, hm⟩ := bind_some hm
 refine wo (f := Fact.tup2 (Fact.rep [] x1.1) (Fact.rep [] x1.2)) (Spec.callE [] 18 rfl en67 (turn_divide_c a0.n a0.Config.Members hx1) (HasAll.cons (Has.fl (Has.s rfl)) (HasAll.cons (Has.fl (Has.s rfl)) HasAll.nil))) ?_
 refine mv ?_
 refine wo (Spec.ext0 (Has.s rfl)) ?_
 refine wo (Spec.ext1 (Has.s rfl)) ?_
 refine wo (Spec.assign (Has.s rfl)) ?_
 refine wo (Spec.assign (Has.s rfl)) ?_
 refine Walk.nil ?_
 refine Leaf.thenN ?_
 refine CWalk.seq ?_
 refine CWalk.region ?_
 refine wo (Spec.fieldAddrO fd83_0 (Has.cv (Has.s rfl) (Cv.isvP rfl))) ?_
 refine wo (Spec.fieldAddrO fd24_1 (Has.s rfl)) ?_
 refine wo (Spec.loadF (i := 1) ty3 rfl (Has.s rfl) rfl (HasG.s rfl)) ?_
 refine wo (Spec.subI (Has.s rfl) Has.int) ?_
 refine mv ?_
 refine wo (Spec.subI (Has.s rfl) (Has.s rfl)) ?_
 refine wo (Spec.assign (Has.s rfl)) ?_
 refine Walk.nil ?_
 refine Leaf.thenN ?_
 refine CWalk.ret ?_
 obtain rfl := Option.some.inj hm
 exact Leaf.retC1 rfl (HasR.cv (HasR.tmp (Has.s rfl)) Cv.fl)

/-- (freeboard/turn.row).slot -/
def turn_row_slot (a0 : Row83) (a1 : Int) : Option (Int) :=
  Option.bind (turn_row_parity a0) (fun x1 => Option.bind (turn_divide (wI ((wI ((wI (a1 + a0.Config.Members)) - x1)) - (1 : Int))) a0.Config.Members) (fun x2 => some x2.2))
set_option maxRecDepth 100000 in
set_option maxHeartbeats 2000000 in
theorem turn_row_slot_c (a0 : Row83) (a1 : Int) {r : Int} (hm : turn_row_slot a0 a1 = some r) : Ctr Try.prog 46 [.rep 0 a0, .rep 0 a1] (.fl r) [] := by
 refine ctr_of_walk [[]] 24 Try.func46 rfl rfl rfl rfl (fun w0 om => ?_)
 unfold turn_row_slot at hm
 refine CWalk.sub (G' := [.fact 0 (.rep [] (a0 : Row83)), .fact 1 (.rep [] (a1 : Int))]) (Sub.cons (Has.fl (Has.s rfl)) (Sub.cons (Has.fl (Has.s rfl)) Sub.nil)) ?_
 refine CWalk.seq ?_
 refine CWalk.region ?_
 refine ws (Step.boxObj (ls := [(false, 1, Fact.rep [] a0.Config.Id), (false, 1, Fact.rep [] a0.Config.Members), (false, 1, Fact.rep [] a0.Config.Chunk), (false, 1, Fact.rep [] a0.Config.Rows), (false, 1, Fact.rep [] a0.Config.Log), (false, 1, Fact.rep [] a0.Config.Heads), (false, 1, Fact.rep [] a0.n)]) 10 rfl rfl rfl rfl (HasL.flds (Has.cv (Has.s rfl) (Cv.trans (Cv.trans (Cv.trans (Cv.opens (chRow83 a0)) (Cv.flds (CvL.cons Cv.fl (CvL.cons Cv.fl CvL.nil)))) (Cv.flds (ls := [(true, 6, Fact.rep [] a0.Config), (false, 1, Fact.rep [] a0.n)]) (ms := [(true, 6, Fact.flds [(false, 1, Fact.rep [] a0.Config.Id), (false, 1, Fact.rep [] a0.Config.Members), (false, 1, Fact.rep [] a0.Config.Chunk), (false, 1, Fact.rep [] a0.Config.Rows), (false, 1, Fact.rep [] a0.Config.Log), (false, 1, Fact.rep [] a0.Config.Heads)]), (false, 1, Fact.rep [] a0.n)]) (CvL.cons (Cv.trans (Cv.opens (chConfig a0.Config)) (Cv.flds (CvL.cons Cv.fl (CvL.cons Cv.fl (CvL.cons Cv.fl (CvL.cons Cv.fl (CvL.cons Cv.fl (CvL.cons Cv.fl CvL.nil)))))))) (CvL.cons Cv.refl CvL.nil)))) (Cv.flat (FlatR.sub (FlatR.cons (FlatR.cons (FlatR.cons (FlatR.cons (FlatR.cons (FlatR.cons FlatR.nil)))))) rfl (FlatR.cons FlatR.nil))))))) ?_
 refine wo (Spec.assign Has.int) ?_
 refine Walk.nil ?_
 refine Leaf.thenN ?_
 refine CWalk.seq ?_
 obtain ⟨x1, hx1, hm⟩ := bind_some hm
 obtain ⟨x2, hx2, hm⟩ := bind_some hm
 refine CWalk.drawM [[], [], [1], [1, 2], [0, 1, 2, 3], [], [5], [0, 1, 2, 3, 4, 5, 6], [0, 1, 2, 3, 4, 5, 6, 7], [], [9], [9, 10], [0, 1, 2, 3, 4, 5, 6, 7, 8, 9, 10, 11], [0, 1, 2, 3, 4, 5, 6, 7, 8, 9, 10, 11, 12], [0, 1, 2, 3, 4, 5, 6, 7, 8, 9, 10, 11, 12, 13], [0, 1, 2, 3, 4, 5, 6, 7, 8, 9, 10, 11, 12, 13], [0, 1, 2, 3, 4, 5, 6, 7, 8, 9, 10, 11, 12, 13, 14], [0, 1, 2, 3, 4, 5, 6, 7, 8, 9, 10, 11, 12, 13, 14, 15, 16]] [[.fact 8 (.rep [] (a1 : Int))], [.fact 9 (.pto 10 0)], [.fact 10 (.pto 10 1)], [.fact 11 (.rep [] a0.Config.Members)], [.fact 12 (.rep [] ((wI (a1 + a0.Config.Members)) : Int))], [.fact 13 (.flds [(true, 6, Fact.flds [(false, 1, Fact.rep [] a0.Config.Id), (false, 1, Fact.rep [] a0.Config.Members), (false, 1, Fact.rep [] a0.Config.Chunk), (false, 1, Fact.rep [] a0.Config.Rows), (false, 1, Fact.rep [] a0.Config.Log), (false, 1, Fact.rep [] a0.Config.Heads)]), (false, 1, Fact.rep [] a0.n)])], [.fact 14 (.rep [] (x1 : Int))], [.fact 15 (.rep [] ((wI ((wI (a1 + a0.Config.Members)) - x1)) : Int))], [.fact 16 (.rep [] ((wI ((wI ((wI (a1 + a0.Config.Members)) - x1)) - (1 : Int))) : Int))], [.fact 17 (.pto 10 0)], [.fact 18 (.pto 10 1)], [.fact 19 (.rep [] a0.Config.Members)], [.fact 20 (.tup2 (Fact.rep [] x2.1) (Fact.rep [] x2.2))], [.fact 7 (.tup2 (Fact.rep [] x2.1) (Fact.rep [] x2.2))], [.fact 21 (.rep [] x2.1)], [.fact 22 (.rep [] x2.2)], [.fact 5 (.rep [] x2.1)], [.fact 6 (.rep [] x2.2)]] mixed (by kernel_rfl) (ao (so (Spec.move (Has.s rfl))) (ao (so (Spec.fieldAddrO fd83_0 (Has.cv (Has.s rfl) (Cv.isvP rfl)))) (ao (so (Spec.fieldAddrO fd24_1 (Has.s rfl))) (ao (so (Spec.loadF (i := 1) ty3 rfl (Has.s rfl) rfl (HasG.s rfl))) (ao (so (Spec.addI (Has.s rfl) (Has.s rfl))) (ao (so (Spec.unflat (FlatR.sub (FlatR.cons (FlatR.cons (FlatR.cons (FlatR.cons (FlatR.cons (FlatR.cons FlatR.nil)))))) rfl (FlatR.cons FlatR.nil)) (Spec.loadObj (ls := [(false, 1, Fact.rep [] a0.Config.Id), (false, 1, Fact.rep [] a0.Config.Members), (false, 1, Fact.rep [] a0.Config.Chunk), (false, 1, Fact.rep [] a0.Config.Rows), (false, 1, Fact.rep [] a0.Config.Log), (false, 1, Fact.rep [] a0.Config.Heads), (false, 1, Fact.rep [] a0.n)]) ty83 rfl rfl (Has.s rfl) rfl (HasGs.cons (HasG.s rfl) (HasGs.cons (HasG.s rfl) (HasGs.cons (HasG.s rfl) (HasGs.cons (HasG.s rfl) (HasGs.cons (HasG.s rfl) (HasGs.cons (HasG.s rfl) (HasGs.cons (HasG.s rfl) HasGs.nil)))))))))) (ao (so (Spec.callE [] 18 rfl en68 (turn_row_parity_c a0 hx1) (HasAll.cons (Has.fl (Has.cv (Has.s rfl) (Cv.trans (Cv.flds (CvL.cons (Cv.trans (Cv.trans (Cv.flds (CvL.cons Cv.fl (CvL.cons Cv.fl (CvL.cons Cv.fl (CvL.cons Cv.fl (CvL.cons Cv.fl (CvL.cons Cv.fl CvL.nil))))))) (Cv.close (T := []) (chConfig a0.Config))) Cv.fl) (CvL.cons Cv.fl CvL.nil))) (Cv.close (T := []) (chRow83 a0))))) HasAll.nil))) (ao (so (Spec.subI (Has.s rfl) (Has.s rfl))) (ao (so (Spec.subI (Has.s rfl) Has.int)) (ao (so (Spec.fieldAddrO fd83_0 (Has.cv (Has.s rfl) (Cv.isvP rfl)))) (ao (so (Spec.fieldAddrO fd24_1 (Has.s rfl))) (ao (so (Spec.loadF (i := 1) ty3 rfl (Has.s rfl) rfl (HasG.s rfl))) (ao (so (Spec.callE [] 19 rfl en67 (turn_divide_c (wI ((wI ((wI (a1 + a0.Config.Members)) - x1)) - (1 : Int))) a0.Config.Members hx2) (HasAll.cons (Has.fl (Has.s rfl)) (HasAll.cons (Has.fl (Has.s rfl)) HasAll.nil)))) (ao (so (Spec.move (Has.s rfl))) (ao (so (Spec.ext0 (Has.s rfl))) (ao (so (Spec.ext1 (Has.s rfl))) (ao (so (Spec.assign (Has.s rfl))) (ao (so (Spec.assign (Has.s rfl))) AllM.nil)))))))))))))))))) ?_
 refine Leaf.thenN ?_
 refine CWalk.seq ?_
 refine CWalk.region ?_
 refine mv ?_
 refine wo (Spec.assign (Has.s rfl)) ?_
 refine Walk.nil ?_
 refine Leaf.thenN ?_
 refine CWalk.ret ?_
 obtain rfl := Option.some.inj hm
 exact Leaf.retC1 rfl (HasR.cv (HasR.tmp (Has.s rfl)) Cv.fl)

/-- freeboard/turn.Slot -/
def turn_Slot (a0 : Config) (a1 : Int) (a2 : Int) : Option (Int × Int) :=
  Option.bind (turn_at a0 a1 a2 a0.Members) (fun x1 => (bif (x1.2 != (0 : Int)) then some ((0 : Int), x1.2) else Option.bind (turn_row_slot x1.1 a2) (fun x2 => some (x2, (0 : Int)))))
set_option maxRecDepth 100000 in
set_option maxHeartbeats 2000000 in
theorem turn_Slot_c (a0 : Config) (a1 : Int) (a2 : Int) {r : Int × Int} (hm : turn_Slot a0 a1 a2 = some r) : Ctr Try.prog 20 [.rep 0 a0, .rep 0 a1, .rep 0 a2] (.tup2 (.fl r.1) (.fl r.2)) [] := by
 refine ctr_of_walk [[]] 25 Try.func20 rfl rfl rfl rfl (fun w0 om => ?_)
 unfold turn_Slot at hm
 refine CWalk.sub (G' := [.fact 0 (.rep [] (a0 : Config)), .fact 1 (.rep [] (a1 : Int)), .fact 2 (.rep [] (a2 : Int))]) (Sub.cons (Has.fl (Has.s rfl)) (Sub.cons (Has.fl (Has.s rfl)) (Sub.cons (Has.fl (Has.s rfl)) Sub.nil))) ?_
 refine CWalk.seq ?_
 refine CWalk.region ?_
 refine ws (Step.boxObj (ls := [(false, 1, Fact.rep [] a0.Id), (false, 1, Fact.rep [] a0.Members), (false, 1, Fact.rep [] a0.Chunk), (false, 1, Fact.rep [] a0.Rows), (false, 1, Fact.rep [] a0.Log), (false, 1, Fact.rep [] a0.Heads)]) 10 rfl rfl rfl rfl (HasL.flds (Has.cv (Has.s rfl) (Cv.trans (Cv.opens (chConfig a0)) (Cv.flds (CvL.cons Cv.fl (CvL.cons Cv.fl (CvL.cons Cv.fl (CvL.cons Cv.fl (CvL.cons Cv.fl (CvL.cons Cv.fl CvL.nil))))))))))) ?_
 refine wo (Spec.assign Has.int) ?_
 refine wo (Spec.assign Has.int) ?_
 refine Walk.nil ?_
 refine Leaf.thenN ?_
 refine CWalk.seq ?_
 refine CWalk.region ?_
 refine wo (Spec.loadObj (ls := [(false, 1, Fact.rep [] a0.Id), (false, 1, Fact.rep [] a0.Members), (false, 1, Fact.rep [] a0.Chunk), (false, 1, Fact.rep [] a0.Rows), (false, 1, Fact.rep [] a0.Log), (false, 1, Fact.rep [] a0.Heads)]) ty24 rfl rfl (Has.s rfl) rfl (HasGs.cons (HasG.s rfl) (HasGs.cons (HasG.s rfl) (HasGs.cons (HasG.s rfl) (HasGs.cons (HasG.s rfl) (HasGs.cons (HasG.s rfl) (HasGs.cons (HasG.s rfl) HasGs.nil))))))) ?_
 refine mv ?_
 refine mv ?_
 refine wo (Spec.fieldAddrO fd24_1 (Has.cv (Has.s rfl) (Cv.isvP rfl))) ?_
 refine wo (Spec.loadF (i := 1) ty3 rfl (Has.s rfl) rfl (HasG.s rfl)) ?_
 obtain ⟨x1, hx1, hm⟩ := bind_some hm
 refine wo (f := Fact.tup2 (Fact.rep [] x1.1) (Fact.rep [] x1.2)) (Spec.callE [] 17 rfl en45 (turn_at_c a0 a1 a2 a0.Members hx1) (HasAll.cons (Has.fl (Has.cv (Has.s rfl) (Cv.trans (Cv.flds (CvL.cons Cv.fl (CvL.cons Cv.fl (CvL.cons Cv.fl (CvL.cons Cv.fl (CvL.cons Cv.fl (CvL.cons Cv.fl CvL.nil))))))) (Cv.close (T := []) (chConfig a0))))) (HasAll.cons (Has.fl (Has.s rfl)) (HasAll.cons (Has.fl (Has.s rfl)) (HasAll.cons (Has.fl (Has.s rfl)) HasAll.nil))))) ?_
 refine mv ?_
 refine wo (Spec.ext0 (Has.s rfl)) ?_
 refine wo (Spec.ext1 (Has.s rfl)) ?_
 refine ws (Step.allocObj (ls := [(false, 1, Fact.rep [] ((0 : UInt32) : UInt32)), (false, 1, Fact.rep [] ((0 : Int) : Int)), (false, 1, Fact.rep [] ((0 : Int) : Int)), (false, 1, Fact.rep [] ((0 : Int) : Int)), (false, 1, Fact.rep [] ((0 : Int) : Int)), (false, 1, Fact.rep [] ((0 : Int) : Int)), (false, 1, Fact.rep [] ((0 : Int) : Int))]) 18 rfl rfl rfl rfl zl83) ?_
 refine ws (Step.storeObj (ls := [(false, 1, Fact.rep [] x1.1.Config.Id), (false, 1, Fact.rep [] x1.1.Config.Members), (false, 1, Fact.rep [] x1.1.Config.Chunk), (false, 1, Fact.rep [] x1.1.Config.Rows), (false, 1, Fact.rep [] x1.1.Config.Log), (false, 1, Fact.rep [] x1.1.Config.Heads), (false, 1, Fact.rep [] x1.1.n)]) rfl ty83 rfl rfl (Has.s rfl) rfl (HasL.flds (Has.cv (Has.s rfl) (Cv.trans (Cv.trans (Cv.trans (Cv.opens (chRow83 x1.1)) (Cv.flds (CvL.cons Cv.fl (CvL.cons Cv.fl CvL.nil)))) (Cv.flds (ls := [(true, 6, Fact.rep [] x1.1.Config), (false, 1, Fact.rep [] x1.1.n)]) (ms := [(true, 6, Fact.flds [(false, 1, Fact.rep [] x1.1.Config.Id), (false, 1, Fact.rep [] x1.1.Config.Members), (false, 1, Fact.rep [] x1.1.Config.Chunk), (false, 1, Fact.rep [] x1.1.Config.Rows), (false, 1, Fact.rep [] x1.1.Config.Log), (false, 1, Fact.rep [] x1.1.Config.Heads)]), (false, 1, Fact.rep [] x1.1.n)]) (CvL.cons (Cv.trans (Cv.opens (chConfig x1.1.Config)) (Cv.flds (CvL.cons Cv.fl (CvL.cons Cv.fl (CvL.cons Cv.fl (CvL.cons Cv.fl (CvL.cons Cv.fl (CvL.cons Cv.fl CvL.nil)))))))) (CvL.cons Cv.refl CvL.nil)))) (Cv.flat (FlatR.sub (FlatR.cons (FlatR.cons (FlatR.cons (FlatR.cons (FlatR.cons (FlatR.cons FlatR.nil)))))) rfl (FlatR.cons FlatR.nil)))))) rfl) ?_
 refine wo (Spec.assign (Has.s rfl)) ?_
 refine Walk.nil ?_
 refine Leaf.thenN ?_
 refine CWalk.seq ?_
 refine CWalk.seq ?_
 refine CWalk.region ?_
 refine mv ?_
 refine wo (Spec.neqI (Has.s rfl) Has.int) ?_
 refine Walk.nil ?_
 refine Leaf.thenN ?_
 refine CWalk.cond rfl (fun hb => ?_) (fun hb => ?_)
 ·have hm := cond_t hb hm
  refine CWalk.seq ?_
  refine CWalk.region ?_
  refine mv ?_
  refine wo (Spec.assign Has.int) ?_
  refine wo (Spec.assign (Has.s rfl)) ?_
  refine Walk.nil ?_
  refine Leaf.thenN ?_
  refine CWalk.ret ?_
  refine Leaf.thenR ?_
  obtain rfl := Option.some.inj hm
  exact Leaf.retC2 rfl (HasR.cv (HasR.tmp (Has.s rfl)) Cv.fl) (HasR.cv (HasR.tmp (Has.s rfl)) Cv.fl)
 ·have hm := cond_f hb hm
  refine CWalk.skip ?_
  refine Leaf.thenN ?_
  refine CWalk.seq ?_
  refine CWalk.region ?_
  refine wo (Spec.unflat (FlatR.sub (FlatR.cons (FlatR.cons (FlatR.cons (FlatR.cons (FlatR.cons (FlatR.cons FlatR.nil)))))) rfl (FlatR.cons FlatR.nil)) (Spec.loadObj (ls := [(false, 1, Fact.rep [] x1.1.Config.Id), (false, 1, Fact.rep [] x1.1.Config.Members), (false, 1, Fact.rep [] x1.1.Config.Chunk), (false, 1, Fact.rep [] x1.1.Config.Rows), (false, 1, Fact.rep [] x1.1.Config.Log), (false, 1, Fact.rep [] x1.1.Config.Heads), (false, 1, Fact.rep [] x1.1.n)]) ty83 rfl rfl (Has.s rfl) rfl (HasGs.cons (HasG.s rfl) (HasGs.cons (HasG.s rfl) (HasGs.cons (HasG.s rfl) (HasGs.cons (HasG.s rfl) (HasGs.cons (HasG.s rfl) (HasGs.cons (HasG.s rfl) (HasGs.cons (HasG.s rfl) HasGs.nil))))))))) ?_
  refine mv ?_
  obtain ⟨x2, hx2, hm⟩ := bind_some hm
  refine wo (f := Fact.rep [] (x2 : Int)) (Spec.callE [] 26 rfl en46 (turn_row_slot_c x1.1 a2 hx2) (HasAll.cons (Has.fl (Has.cv (Has.s rfl) (Cv.trans (Cv.flds (CvL.cons (Cv.trans (Cv.trans (Cv.flds (CvL.cons Cv.fl (CvL.cons Cv.fl (CvL.cons Cv.fl (CvL.cons Cv.fl (CvL.cons Cv.fl (CvL.cons Cv.fl CvL.nil))))))) (Cv.close (T := []) (chConfig x1.1.Config))) Cv.fl) (CvL.cons Cv.fl CvL.nil))) (Cv.close (T := []) (chRow83 x1.1))))) (HasAll.cons (Has.fl (Has.s rfl)) HasAll.nil))) ?_
  refine wo (Spec.assign (Has.s rfl)) ?_
  refine wo (Spec.assign Has.int) ?_
  refine Walk.nil ?_
  refine Leaf.thenN ?_
  refine CWalk.ret ?_
  obtain rfl := Option.some.inj hm
  exact Leaf.retC2 rfl (HasR.cv (HasR.tmp (Has.s rfl)) Cv.fl) (HasR.cv (HasR.tmp (Has.s rfl)) Cv.fl)

/-- freeboard/plan.lost -/
def plan_lost (a0 : Config) (a1 : Int) (a2 : Int) : Option (Int) :=
  (bif (a2 == (-1 : Int)) then some (-1 : Int) else Option.bind (turn_Slot a0 a1 a2) (fun x1 => some x1.1))
set_option maxRecDepth 100000 in
set_option maxHeartbeats 2000000 in
theorem plan_lost_c (a0 : Config) (a1 : Int) (a2 : Int) {r : Int} (hm : plan_lost a0 a1 a2 = some r) : Ctr Try.prog 42 [.rep 0 a0, .rep 0 a1, .rep 0 a2] (.fl r) [] := by
 refine ctr_of_walk [[]] 19 Try.func42 rfl rfl rfl rfl (fun w0 om => ?_)
 unfold plan_lost at hm
 refine CWalk.sub (G' := [.fact 0 (.rep [] (a0 : Config)), .fact 1 (.rep [] (a1 : Int)), .fact 2 (.rep [] (a2 : Int))]) (Sub.cons (Has.fl (Has.s rfl)) (Sub.cons (Has.fl (Has.s rfl)) (Sub.cons (Has.fl (Has.s rfl)) Sub.nil))) ?_
 refine CWalk.seq ?_
 refine CWalk.region ?_
 refine ws (Step.boxObj (ls := [(false, 1, Fact.rep [] a0.Id), (false, 1, Fact.rep [] a0.Members), (false, 1, Fact.rep [] a0.Chunk), (false, 1, Fact.rep [] a0.Rows), (false, 1, Fact.rep [] a0.Log), (false, 1, Fact.rep [] a0.Heads)]) 10 rfl rfl rfl rfl (HasL.flds (Has.cv (Has.s rfl) (Cv.trans (Cv.opens (chConfig a0)) (Cv.flds (CvL.cons Cv.fl (CvL.cons Cv.fl (CvL.cons Cv.fl (CvL.cons Cv.fl (CvL.cons Cv.fl (CvL.cons Cv.fl CvL.nil))))))))))) ?_
 refine wo (Spec.assign Has.int) ?_
 refine Walk.nil ?_
 refine Leaf.thenN ?_
 refine CWalk.seq ?_
 refine CWalk.seq ?_
 refine CWalk.region ?_
 refine mv ?_
 refine wo (Spec.eqlI (Has.s rfl) Has.int) ?_
 refine Walk.nil ?_
 refine Leaf.thenN ?_
 refine CWalk.cond rfl (fun hb => ?_) (fun hb => ?_)
 ·have hm := cond_t hb hm
  refine CWalk.seq ?_
  refine CWalk.region ?_
  refine wo (Spec.assign Has.int) ?_
  refine Walk.nil ?_
  refine Leaf.thenN ?_
  refine CWalk.ret ?_
  refine Leaf.thenR ?_
  obtain rfl := Option.some.inj hm
  exact Leaf.retC1 rfl (HasR.cv (HasR.tmp (Has.s rfl)) Cv.fl)
 ·have hm := cond_f hb hm
  refine CWalk.skip ?_
  refine Leaf.thenN ?_
  refine CWalk.seq ?_
  refine CWalk.region ?_
  refine wo (Spec.loadObj (ls := [(false, 1, Fact.rep [] a0.Id), (false, 1, Fact.rep [] a0.Members), (false, 1, Fact.rep [] a0.Chunk), (false, 1, Fact.rep [] a0.Rows), (false, 1, Fact.rep [] a0.Log), (false, 1, Fact.rep [] a0.Heads)]) ty24 rfl rfl (Has.s rfl) rfl (HasGs.cons (HasG.s rfl) (HasGs.cons (HasG.s rfl) (HasGs.cons (HasG.s rfl) (HasGs.cons (HasG.s rfl) (HasGs.cons (HasG.s rfl) (HasGs.cons (HasG.s rfl) HasGs.nil))))))) ?_
  refine mv ?_
  refine mv ?_
  obtain ⟨x1, hx1, hm⟩ := bind_some hm
  refine wo (f := Fact.tup2 (Fact.rep [] x1.1) (Fact.rep [] x1.2)) (Spec.callE [] 17 rfl en20 (turn_Slot_c a0 a1 a2 hx1) (HasAll.cons (Has.fl (Has.cv (Has.s rfl) (Cv.trans (Cv.flds (CvL.cons Cv.fl (CvL.cons Cv.fl (CvL.cons Cv.fl (CvL.cons Cv.fl (CvL.cons Cv.fl (CvL.cons Cv.fl CvL.nil))))))) (Cv.close (T := []) (chConfig a0))))) (HasAll.cons (Has.fl (Has.s rfl)) (HasAll.cons (Has.fl (Has.s rfl)) HasAll.nil)))) ?_
  refine mv ?_
  refine wo (Spec.ext0 (Has.s rfl)) ?_
  refine wo (Spec.ext1 (Has.s rfl)) ?_
  refine wo (Spec.assign (Has.s rfl)) ?_
  refine wo (Spec.assign (Has.s rfl)) ?_
  refine Walk.nil ?_
  refine Leaf.thenN ?_
  refine CWalk.seq ?_
  refine CWalk.region ?_
  refine mv ?_
  refine wo (Spec.assign (Has.s rfl)) ?_
  refine Walk.nil ?_
  refine Leaf.thenN ?_
  refine CWalk.ret ?_
  obtain rfl := Option.some.inj hm
  exact Leaf.retC1 rfl (HasR.cv (HasR.tmp (Has.s rfl)) Cv.fl)

def slices_Index_int_int_L1 (a0 : List Int) (a1 : Int) (s1 : Int) : Option (Ctl (Int) ((Unit) ⊕ (Int))) :=
  (bif (decide (s1 < ((a0).length : Int))) then Option.bind (idx a0 s1) (fun x3 => (bif (a1 == x3) then some (Ctl.brk (Sum.inr s1)) else some (Ctl.next (wI (s1 + (1 : Int)))))) else some (Ctl.brk (Sum.inl ())))
/-- slices.Index[[]int,int] -/
def slices_Index_int_int (a0 : List Int) (a1 : Int) : Option (Int) :=
  Option.bind (loopM (fun s : Int => slices_Index_int_int_L1 a0 a1 s) FUEL (0 : Int)) (fun b4 => Sum.elim (fun b5 => some (-1 : Int)) (fun b6 => some b6) b4)
set_option maxRecDepth 100000 in
set_option maxHeartbeats 2000000 in
theorem slices_Index_int_int_c (a0 : List Int) (a1 : Int) {r : Int} (hm : slices_Index_int_int a0 a1 = some r) : Ctr Try.prog 76 [.rep 0 a0, .rep 0 a1] (.fl r) [] := by
 refine ctr_of_walk [[]] 19 Try.func76 rfl rfl rfl rfl (fun w0 om => ?_)
 unfold slices_Index_int_int at hm
 refine CWalk.sub (G' := [.fact 0 (.rep [0] (a0 : List Int)), .fact 1 (.rep [] (a1 : Int))]) (sn (Sub.cons (Has.fl (Has.s rfl)) Sub.nil)) ?_
 refine CWalk.seq ?_
 refine CWalk.region ?_
 refine wo (Spec.assign Has.int) ?_
 refine Walk.nil ?_
 refine Leaf.thenN ?_
 refine CWalk.seq ?_
 refine CWalk.seq ?_
 refine CWalk.region ?_
 refine mv ?_
 refine wo (Spec.len (Has.s rfl) Try.underlying29) ?_
 refine wo (Spec.move Has.int) ?_
 refine Walk.nil ?_
 refine Leaf.thenN ?_
 refine CWalk.block ?_
 obtain ⟨b4, hb4, hm⟩ := bind_some hm
 refine CWalk.loop (fun s : Int => [.fact 0 (.rep [0] (a0 : List Int)), .fact 1 (.rep [] (a1 : Int)), .fact 7 (.rep [] (((a0).length : Int) : Int)), .fact 8 (.rep [] (s : Int))]) (fun b : (Unit) ⊕ (Int) => Sum.elim (fun b => (Exit.exit 0, [])) (fun b => (Exit.ret, [.fact 4 (.rep [] (b : Int))])) b) hb4 (su (st (st (st Sub.nil)))) ?_ ?_
 ·rintro s1 c2 hm
  replace hm : slices_Index_int_int_L1 a0 a1 s1 = some c2 := hm
  unfold slices_Index_int_int_L1 at hm
  show CWalk _ [.fact 0 (.rep [0] (a0 : List Int)), .fact 1 (.rep [] (a1 : Int)), .fact 7 (.rep [] (((a0).length : Int) : Int)), .fact 8 (.rep [] (s1 : Int))] _ _
  refine CWalk.seq ?_
  refine CWalk.region ?_
  refine wo (Spec.lssI (Has.s rfl) (Has.s rfl)) ?_
  refine Walk.nil ?_
  refine Leaf.thenN ?_
  refine CWalk.seq ?_
  refine CWalk.cond rfl (fun hb => ?_) (fun hb => ?_)
  ·have hm := cond_t hb hm
   refine CWalk.skip ?_
   refine Leaf.thenN ?_
   refine CWalk.seq ?_
   refine CWalk.block ?_
   refine CWalk.seq ?_
   refine CWalk.region ?_
   refine mv ?_
   refine wo (Spec.assign (Has.s rfl)) ?_
   refine Walk.nil ?_
   refine Leaf.thenN ?_
   refine CWalk.seq ?_
   refine CWalk.region ?_
   refine mv ?_
   refine mv ?_
   refine mv ?_
   obtain ⟨x3, hx3, hm⟩ := bind_some hm
   refine wo (Spec.indexAddr hx3 sl29 (Has.s rfl) (Has.s rfl)) ?_
   refine wo ((Spec.load ty3 (Has.s rfl)).flat (T' := [])) ?_
   refine wo (Spec.eqlI (Has.s rfl) (Has.s rfl)) ?_
   refine Walk.nil ?_
   refine Leaf.thenN ?_
   refine CWalk.cond rfl (fun hb => ?_) (fun hb => ?_)
   ·have hm := cond_t hb hm
    refine CWalk.seq ?_
    refine CWalk.region ?_
    refine mv ?_
    refine wo (Spec.assign (Has.s rfl)) ?_
    refine Walk.nil ?_
    refine Leaf.thenN ?_
    refine CWalk.ret ?_
    refine Leaf.blockR ?_
    refine Leaf.thenR ?_
    exact Leaf.brk hm (fun h => nomatch h) rfl (st Sub.nil)
   ·have hm := cond_f hb hm
    refine CWalk.skip ?_
    refine Leaf.blockN ?_
    refine Leaf.thenN ?_
    refine CWalk.region ?_
    refine wo (Spec.addI (Has.s rfl) Has.int) ?_
    refine mv ?_
    refine Walk.nil ?_
    exact Leaf.next hm (su (st (st (st Sub.nil))))
  ·have hm := cond_f hb hm
   refine CWalk.exit ?_
   refine Leaf.thenE ?_
   exact Leaf.brk hm (fun h => nomatch h) rfl (Sub.nil)
 ·intro _
  rcases b4 with b5 | b6
  ·have hm := selim_l hm
   refine Leaf.blockE ?_
   refine Leaf.thenN ?_
   refine CWalk.seq ?_
   refine CWalk.region ?_
   refine wo (Spec.assign Has.int) ?_
   refine Walk.nil ?_
   refine Leaf.thenN ?_
   refine CWalk.ret ?_
   obtain rfl := Option.some.inj hm
   exact Leaf.retC1 rfl (HasR.cv (HasR.tmp (Has.s rfl)) Cv.fl)
  ·have hm := selim_r hm
   refine Leaf.blockR ?_
   refine Leaf.thenR ?_
   obtain rfl := Option.some.inj hm
   exact Leaf.retC1 rfl (HasR.cv (HasR.tmp (Has.s rfl)) Cv.fl)

/-- slices.Contains[[]int,int] -/
def slices_Contains_int_int (a0 : List Int) (a1 : Int) : Option (Bool) :=
  Option.bind (slices_Index_int_int a0 a1) (fun x1 => some (decide (x1 ≥ (0 : Int))))
set_option maxRecDepth 100000 in
set_option maxHeartbeats 2000000 in
theorem slices_Contains_int_int_c (a0 : List Int) (a1 : Int) {r : Bool} (hm : slices_Contains_int_int a0 a1 = some r) : Ctr Try.prog 65 [.rep 0 a0, .rep 0 a1] (.fl r) [] := by
 refine ctr_of_walk [[]] 9 Try.func65 rfl rfl rfl rfl (fun w0 om => ?_)
 unfold slices_Contains_int_int at hm
 refine CWalk.sub (G' := [.fact 0 (.rep [0] (a0 : List Int)), .fact 1 (.rep [] (a1 : Int))]) (sn (Sub.cons (Has.fl (Has.s rfl)) Sub.nil)) ?_
 refine CWalk.seq ?_
 refine CWalk.region ?_
 refine wo (Spec.assign Has.bool) ?_
 refine Walk.nil ?_
 refine Leaf.thenN ?_
 refine CWalk.seq ?_
 refine CWalk.region ?_
 refine mv ?_
 refine mv ?_
 obtain ⟨x1, hx1, hm⟩ := bind_some hm
 refine wo (f := Fact.rep [] (x1 : Int)) (Spec.callE [0] 10 rfl en76 (slices_Index_int_int_c a0 a1 hx1) (HasAll.cons (Has.m (Has.s rfl) rfl) (HasAll.cons (Has.fl (Has.s rfl)) HasAll.nil))) ?_
 refine wo (Spec.geqI (Has.s rfl) Has.int) ?_
 refine wo (Spec.assign (Has.s rfl)) ?_
 refine Walk.nil ?_
 refine Leaf.thenN ?_
 refine CWalk.ret ?_
 obtain rfl := Option.some.inj hm
 exact Leaf.retC1 rfl (HasR.cv (HasR.tmp (Has.s rfl)) Cv.fl)

def plan_some_J2 (s2 : Int) (j4 : List Plan) : Option (Ctl ((List Plan) × Int) ((List Plan))) :=
  some (Ctl.next (j4, (wI (s2 + (1 : Int)))))
def plan_some_L1 (a0 : Int) (a1 : List Plan) (s1 : List Plan) (s2 : Int) : Option (Ctl ((List Plan) × Int) ((List Plan))) :=
  (bif (decide (s2 < ((a1).length : Int))) then Option.bind (idx a1 s2) (fun x5 => Option.bind (slices_Contains_int_int x5.Reads a0) (fun x6 => (bif (!x6) then Option.bind (app s1 ([x5])) (fun x7 => (plan_some_J2 s2 x7)) else (plan_some_J2 s2 s1)))) else some (Ctl.brk s1))
/-- freeboard/plan.some -/
def plan_some (a0 : Int) (a1 : List Plan) : Option ((List Plan)) :=
  Option.bind (loopM (fun s : (List Plan) × Int => plan_some_L1 a0 a1 s.1 s.2) FUEL (([] : List Plan), (0 : Int))) (fun b8 => some b8)
set_option maxRecDepth 100000 in
set_option maxHeartbeats 2000000 in
theorem plan_some_c (a0 : Int) (a1 : List Plan) {r : (List Plan)} (hm : plan_some a0 a1 = some r) : Ctr Try.prog 41 [.rep 0 a0, .rep 0 a1] (.own 0 (some 1) 31 r) [1] := by
 refine ctr_of_walk [[15], [0, 14]] 25 Try.func41 rfl rfl rfl rfl (fun w0 om => ?_)
 unfold plan_some at hm
 refine CWalk.sub (G' := [.fact 0 (.rep [] (a0 : Int)), .fact 1 (.rep [0] (a1 : List Plan))]) (Sub.cons (Has.fl (Has.s rfl)) (sn Sub.nil)) ?_
 refine CWalk.seq ?_
 refine CWalk.region ?_
 refine wo (Spec.assign Has.nilv) ?_
 refine Walk.nil ?_
 refine Leaf.thenN ?_
 refine CWalk.seq ?_
 refine CWalk.region ?_
 refine wo (Spec.assign Has.nilv) ?_
 refine Walk.nil ?_
 refine Leaf.thenN ?_
 refine CWalk.seq ?_
 refine CWalk.seq ?_
 refine CWalk.region ?_
 refine mv ?_
 refine wo (Spec.len (Has.s rfl) Try.underlying77) ?_
 refine wo (Spec.move Has.int) ?_
 refine Walk.nil ?_
 refine Leaf.thenN ?_
 refine CWalk.block ?_
 obtain ⟨b8, hb8, hm⟩ := bind_some hm
 refine CWalk.loop (fun s : (List Plan) × Int => [.fact 0 (.rep [] (a0 : Int)), .fact 5 (.ow [15] [0, 14] 31 (s.1 : List Plan)), .fact 8 (.rep [0] (a1 : List Plan)), .fact 9 (.rep [] (((a1).length : Int) : Int)), .fact 10 (.rep [] s.2)]) (fun b : (List Plan) => (Exit.exit 0, [.fact 5 (.ow [15] [0, 14] 31 (b : List Plan))])) hb8 (st (Sub.cons (Has.cv (Has.s rfl) (Cv.trans Cv.nilOw (Cv.owM (T := []) (te := []) rfl rfl))) (su (st (st Sub.nil))))) ?_ ?_
 ·rintro ⟨s1, s2⟩ c3 hm
  replace hm : plan_some_L1 a0 a1 s1 s2 = some c3 := hm
  unfold plan_some_L1 at hm
  show CWalk _ [.fact 0 (.rep [] (a0 : Int)), .fact 5 (.ow [15] [0, 14] 31 (s1 : List Plan)), .fact 8 (.rep [0] (a1 : List Plan)), .fact 9 (.rep [] (((a1).length : Int) : Int)), .fact 10 (.rep [] (s2 : Int))] _ _
  refine CWalk.seq ?_
  refine CWalk.region ?_
  refine wo (Spec.lssI (Has.s rfl) (Has.s rfl)) ?_
  refine Walk.nil ?_
  refine Leaf.thenN ?_
  refine CWalk.seq ?_
  refine CWalk.cond rfl (fun hb => ?_) (fun hb => ?_)
  ·have hm := cond_t hb hm
   refine CWalk.skip ?_
   refine Leaf.thenN ?_
   refine CWalk.seqJ (fun p : (List Plan) => [.fact 0 (.rep [] (a0 : Int)), .fact 5 (.ow [15] [0, 14] 31 (p : List Plan)), .fact 8 (.rep [0] (a1 : List Plan)), .fact 9 (.rep [] (((a1).length : Int) : Int)), .fact 10 (.rep [] (s2 : Int))]) (fun p : (List Plan) => plan_some_J2 s2 p = some c3) ?_ ?_
   ·rintro j4 hm
    replace hm : plan_some_J2 s2 j4 = some c3 := hm
    unfold plan_some_J2 at hm
    show CWalk _ [.fact 0 (.rep [] (a0 : Int)), .fact 5 (.ow [15] [0, 14] 31 (j4 : List Plan)), .fact 8 (.rep [0] (a1 : List Plan)), .fact 9 (.rep [] (((a1).length : Int) : Int)), .fact 10 (.rep [] (s2 : Int))] _ _
    refine CWalk.region ?_
    refine wo (Spec.addI (Has.s rfl) Has.int) ?_
    refine mv ?_
    refine Walk.nil ?_
    exact Leaf.next hm (st (Sub.cons (Has.cv (Has.s rfl) (Cv.owM (T := [15]) (te := [0, 14]) rfl rfl)) (su (st (st Sub.nil)))))
   ·refine CWalk.block ?_
    refine CWalk.seq ?_
    refine CWalk.region ?_
    obtain ⟨x5, hx5, hm⟩ := bind_some hm
    refine wo (Spec.indexAddr hx5 sl77 (Has.s rfl) (Has.s rfl)) ?_
    refine wo (Spec.load ty31 (Has.s rfl)) ?_
    refine ws (Step.allocObj (ls := [(false, 1, Fact.rep [] ((0 : UInt8) : UInt8)), (false, 1, Fact.nilv)]) 10 rfl rfl rfl rfl zl31) ?_
    refine ws (Step.storeObj (ls := [(false, 1, Fact.rep [] x5.Kind), (false, 1, Fact.rep [0] x5.Reads)]) rfl ty31 rfl rfl (Has.s rfl) rfl (HasL.flds (Has.cv (Has.s rfl) (Cv.trans (Cv.opens (chPlan x5)) (Cv.flds (CvL.cons Cv.fl (CvL.cons Cv.refl CvL.nil)))))) rfl) ?_
    refine Walk.nil ?_
    refine Leaf.thenN ?_
    refine CWalk.seq ?_
    refine CWalk.region ?_
    refine wo (Spec.fieldAddrO fd31_1 (Has.cv (Has.s rfl) (Cv.isvP rfl))) ?_
    refine wo (Spec.loadF (i := 1) ty29 rfl (Has.s rfl) rfl (HasG.s rfl)) ?_
    refine mv ?_
    obtain ⟨x6, hx6, hm⟩ := bind_some hm
    refine wo (f := Fact.rep [] (x6 : Bool)) (Spec.callE [0] 13 rfl en65 (slices_Contains_int_int_c x5.Reads a0 hx6) (HasAll.cons (Has.m (Has.s rfl) rfl) (HasAll.cons (Has.fl (Has.s rfl)) HasAll.nil))) ?_
    refine wo (Spec.not (Has.s rfl)) ?_
    refine Walk.nil ?_
    refine Leaf.thenN ?_
    refine CWalk.cond rfl (fun hb => ?_) (fun hb => ?_)
    ·have hm := cond_t hb hm
     refine CWalk.region ?_
     refine mv ?_
     refine wo (Spec.loadObj (ls := [(false, 1, Fact.rep [] x5.Kind), (false, 1, Fact.rep [0] x5.Reads)]) ty31 rfl rfl (Has.s rfl) rfl (HasGs.cons (HasG.s rfl) (HasGs.cons (HasG.s rfl) HasGs.nil))) ?_
     refine wo (Spec.lit (xs := [.tmp 20]) (T := [0]) 14 rfl ow77 rfl rfl rfl rfl (HasEach.cons (Has.m (Has.cv (Has.s rfl) (Cv.trans (Cv.flds (CvL.cons Cv.fl (CvL.cons (Cv.m rfl) CvL.nil))) (Cv.close (T := [0]) (chPlan x5)))) rfl) HasEach.nil)) ?_
     obtain ⟨x7, hx7, hm⟩ := bind_some hm
     refine ws (Step.appendOw (T := [15]) (te' := [0, 14]) hx7 rfl rfl rfl ow77 (Has.s rfl) (Has.s rfl) (ElKeeps.tags rfl rfl) (ElKeeps.tags rfl rfl)) ?_
     refine wo (Spec.assign (Has.s rfl)) ?_
     refine Walk.nil ?_
     refine Leaf.blockN ?_
     exact Leaf.join x7 hm (st (Sub.cons (Has.cv (Has.s rfl) (Cv.owM (T := [15]) (te := [0, 14]) rfl rfl)) (su (st (st Sub.nil)))))
    ·have hm := cond_f hb hm
     refine CWalk.skip ?_
     refine Leaf.blockN ?_
     exact Leaf.join s1 hm (st (Sub.cons (Has.cv (Has.s rfl) (Cv.owM (T := [15]) (te := [0, 14]) rfl rfl)) (su (st (st Sub.nil)))))
  ·have hm := cond_f hb hm
   refine CWalk.exit ?_
   refine Leaf.thenE ?_
   exact Leaf.brk hm (fun h => nomatch h) rfl (Sub.cons (Has.cv (Has.s rfl) (Cv.owM (T := [15]) (te := [0, 14]) rfl rfl)) Sub.nil)
 ·intro _
  refine Leaf.blockE ?_
  refine Leaf.thenN ?_
  refine CWalk.seq ?_
  refine CWalk.region ?_
  refine mv ?_
  refine wo (Spec.assign (Has.s rfl)) ?_
  refine Walk.nil ?_
  refine Leaf.thenN ?_
  refine CWalk.ret ?_
  obtain rfl := Option.some.inj hm
  exact Leaf.retC1 rfl (HasR.cv (HasR.tmp (Has.s rfl)) (Cv.owM (T := [15]) (te := [0, 14]) rfl rfl))

def slices_MinFunc_api_Plan_api_Plan_J3 (s2 : Int) (j6 : UInt8) (j7 : List Int) : Option (Ctl (Int × UInt8 × (List Int)) (UInt8 × (List Int))) :=
  some (Ctl.next ((wI (s2 + (1 : Int))), j6, j7))
def slices_MinFunc_api_Plan_api_Plan_L2 (a0 : List Plan) (a1 : (Plan × Plan) → Option Int) (s2 : Int) (s3 : UInt8) (s4 : List Int) : Option (Ctl (Int × UInt8 × (List Int)) (UInt8 × (List Int))) :=
  (bif (decide (s2 < ((a0).length : Int))) then Option.bind (idx a0 s2) (fun x8 => Option.bind (a1 (x8, (Plan.mk s3 s4))) (fun x9 => (bif (decide (x9 < (0 : Int))) then Option.bind (idx a0 s2) (fun x10 => (slices_MinFunc_api_Plan_api_Plan_J3 s2 x10.Kind x10.Reads)) else (slices_MinFunc_api_Plan_api_Plan_J3 s2 s3 s4)))) else some (Ctl.brk (s3, s4)))
def slices_MinFunc_api_Plan_api_Plan_J1 (a0 : List Plan) (a1 : (Plan × Plan) → Option Int) : Option (Plan) :=
  Option.bind (idx a0 (0 : Int)) (fun x1 => Option.bind (loopM (fun s : Int × UInt8 × (List Int) => slices_MinFunc_api_Plan_api_Plan_L2 a0 a1 s.1 s.2.1 s.2.2) FUEL ((1 : Int), x1.Kind, x1.Reads)) (fun b11 => some (Plan.mk b11.1 b11.2)))
/-- slices.MinFunc[[]freeboard/api.Plan,freeboard/api.Plan] -/
def slices_MinFunc_api_Plan_api_Plan (a0 : List Plan) (a1 : (Plan × Plan) → Option Int) : Option (Plan) :=
  (bif (decide (((a0).length : Int) < (1 : Int))) then none else (slices_MinFunc_api_Plan_api_Plan_J1 a0 a1))
set_option maxRecDepth 100000 in
set_option maxHeartbeats 2000000 in
theorem slices_MinFunc_api_Plan_api_Plan_c (a0 : List Plan) (a1 : (Plan × Plan) → Option Int) {r : Plan} (hm : slices_MinFunc_api_Plan_api_Plan a0 a1 = some r) : Ctr Try.prog 40 [.rep 0 a0, .fn Try.prog pre2 0 a1] (.flds [(false, 1, (.fl r.Kind)), (false, 1, (.rep 0 r.Reads))]) [0] := by
 refine ctr_of_walk [[0]] 33 Try.func40 rfl rfl rfl rfl (fun w0 om => ?_)
 unfold slices_MinFunc_api_Plan_api_Plan at hm
 refine CWalk.sub (G' := [.fact 0 (.rep [0] (a0 : List Plan)), .fact 1 (.fn Try.prog pre2 [0] (a1))]) (sn (sn Sub.nil)) ?_
 refine CWalk.seq ?_
 refine CWalk.region ?_
 refine ws (Step.allocObj (ls := [(false, 1, Fact.rep [] ((0 : UInt8) : UInt8)), (false, 1, Fact.nilv)]) 10 rfl rfl rfl rfl zl31) ?_
 refine Walk.nil ?_
 refine Leaf.thenN ?_
 refine CWalk.seqJ (fun p : Unit => [.fact 0 (.rep [0] (a0 : List Plan)), .fact 1 (.fn Try.prog pre2 [0] (a1)), .fact 4 (.isv 10), .fact 100011 (.at 11 (.rep [] ((0 : UInt8) : UInt8))), .fact 100012 (.at 12 (.nilv)), .fact 100010 (.obj 10 [(false, 1), (false, 1)])]) (fun p : Unit => slices_MinFunc_api_Plan_api_Plan_J1 a0 a1 = some r) ?_ ?_
 ·rintro _ hm
  replace hm : slices_MinFunc_api_Plan_api_Plan_J1 a0 a1 = some r := hm
  unfold slices_MinFunc_api_Plan_api_Plan_J1 at hm
  show CWalk _ [.fact 0 (.rep [0] (a0 : List Plan)), .fact 1 (.fn Try.prog pre2 [0] (a1)), .fact 4 (.isv 10), .fact 100011 (.at 11 (.rep [] ((0 : UInt8) : UInt8))), .fact 100012 (.at 12 (.nilv)), .fact 100010 (.obj 10 [(false, 1), (false, 1)])] _ _
  refine CWalk.seq ?_
  refine CWalk.region ?_
  refine mv ?_
  obtain ⟨x1, hx1, hm⟩ := bind_some hm
  refine wo (Spec.indexAddr hx1 sl77 (Has.s rfl) Has.int) ?_
  refine wo (Spec.load ty31 (Has.s rfl)) ?_
  refine ws (Step.allocObj (ls := [(false, 1, Fact.rep [] ((0 : UInt8) : UInt8)), (false, 1, Fact.nilv)]) 13 rfl rfl rfl rfl zl31) ?_
  refine ws (Step.storeObj (ls := [(false, 1, Fact.rep [] x1.Kind), (false, 1, Fact.rep [0] x1.Reads)]) rfl ty31 rfl rfl (Has.s rfl) rfl (HasL.flds (Has.cv (Has.s rfl) (Cv.trans (Cv.opens (chPlan x1)) (Cv.flds (CvL.cons Cv.fl (CvL.cons Cv.refl CvL.nil)))))) rfl) ?_
  refine Walk.nil ?_
  refine Leaf.thenN ?_
  refine CWalk.seq ?_
  refine CWalk.seq ?_
  refine CWalk.region ?_
  refine wo (Spec.assign Has.int) ?_
  refine Walk.nil ?_
  refine Leaf.thenN ?_
  refine CWalk.block ?_
  obtain ⟨b11, hb11, hm⟩ := bind_some hm
  refine CWalk.loop (fun s : Int × UInt8 × (List Int) => [.fact 0 (.rep [0] (a0 : List Plan)), .fact 1 (.fn Try.prog pre2 [0] (a1)), .fact 4 (.isv 10), .fact 5 (.isv 13), .fact 6 (.rep [] s.1), .fact 100011 (.at 11 (.rep [] ((0 : UInt8) : UInt8))), .fact 100012 (.at 12 (.nilv)), .fact 100014 (.at 14 (.rep [] s.2.1)), .fact 100015 (.at 15 (.rep [0] s.2.2)), .fact 100010 (.obj 10 [(false, 1), (false, 1)]), .fact 100013 (.obj 13 [(false, 1), (false, 1)])]) (fun b : UInt8 × (List Int) => (Exit.exit 0, [.fact 4 (.isv 10), .fact 5 (.isv 13), .fact 100011 (.at 11 (.rep [] ((0 : UInt8) : UInt8))), .fact 100012 (.at 12 (.nilv)), .fact 100014 (.at 14 (.rep [] b.1)), .fact 100015 (.at 15 (.rep [0] b.2)), .fact 100010 (.obj 10 [(false, 1), (false, 1)]), .fact 100013 (.obj 13 [(false, 1), (false, 1)])])) hb11 (su (sn (sn (sn (st (sf (sg (sf (sm (sn (sn Sub.nil))))))))))) ?_ ?_
  ·rintro ⟨s2, s3, s4⟩ c5 hm
   replace hm : slices_MinFunc_api_Plan_api_Plan_L2 a0 a1 s2 s3 s4 = some c5 := hm
   unfold slices_MinFunc_api_Plan_api_Plan_L2 at hm
   show CWalk _ [.fact 0 (.rep [0] (a0 : List Plan)), .fact 1 (.fn Try.prog pre2 [0] (a1)), .fact 4 (.isv 10), .fact 5 (.isv 13), .fact 6 (.rep [] (s2 : Int)), .fact 100011 (.at 11 (.rep [] ((0 : UInt8) : UInt8))), .fact 100012 (.at 12 (.nilv)), .fact 100014 (.at 14 (.rep [] (s3 : UInt8))), .fact 100015 (.at 15 (.rep [0] (s4 : List Int))), .fact 100010 (.obj 10 [(false, 1), (false, 1)]), .fact 100013 (.obj 13 [(false, 1), (false, 1)])] _ _
   refine CWalk.seq ?_
   refine CWalk.seq ?_
   refine CWalk.region ?_
   refine mv ?_
   refine mv ?_
   refine wo (Spec.len (Has.s rfl) Try.underlying77) ?_
   refine wo (Spec.lssI (Has.s rfl) (Has.s rfl)) ?_
   refine Walk.nil ?_
   refine Leaf.thenN ?_
   refine CWalk.cond rfl (fun hb => ?_) (fun hb => ?_)
   ·have hm := cond_t hb hm
    refine CWalk.skip ?_
    refine Leaf.thenN ?_
    refine CWalk.seqJ (fun p : UInt8 × (List Int) => [.fact 0 (.rep [0] (a0 : List Plan)), .fact 1 (.fn Try.prog pre2 [0] (a1)), .fact 4 (.isv 10), .fact 5 (.isv 13), .fact 6 (.rep [] (s2 : Int)), .fact 100011 (.at 11 (.rep [] ((0 : UInt8) : UInt8))), .fact 100012 (.at 12 (.nilv)), .fact 100014 (.at 14 (.rep [] p.1)), .fact 100015 (.at 15 (.rep [0] p.2)), .fact 100010 (.obj 10 [(false, 1), (false, 1)]), .fact 100013 (.obj 13 [(false, 1), (false, 1)])]) (fun p : UInt8 × (List Int) => slices_MinFunc_api_Plan_api_Plan_J3 s2 p.1 p.2 = some c5) ?_ ?_
    ·rintro ⟨j6, j7⟩ hm
     replace hm : slices_MinFunc_api_Plan_api_Plan_J3 s2 j6 j7 = some c5 := hm
     unfold slices_MinFunc_api_Plan_api_Plan_J3 at hm
     show CWalk _ [.fact 0 (.rep [0] (a0 : List Plan)), .fact 1 (.fn Try.prog pre2 [0] (a1)), .fact 4 (.isv 10), .fact 5 (.isv 13), .fact 6 (.rep [] (s2 : Int)), .fact 100011 (.at 11 (.rep [] ((0 : UInt8) : UInt8))), .fact 100012 (.at 12 (.nilv)), .fact 100014 (.at 14 (.rep [] (j6 : UInt8))), .fact 100015 (.at 15 (.rep [0] (j7 : List Int))), .fact 100010 (.obj 10 [(false, 1), (false, 1)]), .fact 100013 (.obj 13 [(false, 1), (false, 1)])] _ _
     refine CWalk.region ?_
     refine mv ?_
     refine wo (Spec.addI (Has.s rfl) Has.int) ?_
     refine wo (Spec.assign (Has.s rfl)) ?_
     refine Walk.nil ?_
     exact Leaf.next hm (su (sn (sn (sn (st (sf (sg (sf (sm (sn (sn Sub.nil)))))))))))
    ·refine CWalk.block ?_
     refine CWalk.seq ?_
     obtain ⟨x8, hx8, hm⟩ := bind_some hm
     obtain ⟨x9, hx9, hm⟩ := bind_some hm
     refine CWalk.drawM [[], [], [], [1, 2], [1, 2, 3], [], [0, 1, 2, 3, 4, 5], [0, 1, 2, 3, 4, 5, 6]] [[.fact 20 (.fn Try.prog pre2 [0] (a1))], [.fact 21 (.rep [0] (a0 : List Plan))], [.fact 22 (.rep [] (s2 : Int))], [.fact 23 (.ptr [0] (x8 : Plan))], [.fact 24 (.rep [0] (x8 : Plan))], [.fact 25 (.flds [(false, 1, Fact.rep [] (s3 : UInt8)), (false, 1, Fact.rep [0] (s4 : List Int))])], [.fact 26 (.rep [] (x9 : Int))], [.fact 27 (.rep [] ((decide (x9 < (0 : Int))) : Bool))]] mixed (by kernel_rfl) (ao (so (Spec.move (Has.s rfl))) (ao (so (Spec.move (Has.s rfl))) (ao (so (Spec.move (Has.s rfl))) (ao (so (Spec.indexAddr hx8 sl77 (Has.s rfl) (Has.s rfl))) (ao (so (Spec.load ty31 (Has.s rfl))) (ao (so (Spec.loadObj (ls := [(false, 1, Fact.rep [] (s3 : UInt8)), (false, 1, Fact.rep [0] (s4 : List Int))]) ty31 rfl rfl (Has.s rfl) rfl (HasGs.cons (HasG.s rfl) (HasGs.cons (HasG.s rfl) HasGs.nil)))) (ao (so (Spec.callFn (xs := [.tmp 24, .tmp 25]) (x := (x8, (Plan.mk s3 s4))) [0] 16 rfl hx9 (Has.s rfl) (HasAll.cons (Has.m (Has.s rfl) rfl) (HasAll.cons (Has.m (Has.cv (Has.s rfl) (Cv.trans (Cv.flds (CvL.cons Cv.fl (CvL.cons (Cv.m rfl) CvL.nil))) (Cv.close (T := [0]) (chPlan (Plan.mk s3 s4))))) rfl) HasAll.nil)))) (ao (so (Spec.lssI (Has.s rfl) Has.int)) AllM.nil)))))))) ?_
     refine Leaf.thenN ?_
     refine CWalk.cond rfl (fun hb => ?_) (fun hb => ?_)
     ·have hm := cond_t hb hm
      refine CWalk.region ?_
      refine mv ?_
      refine mv ?_
      obtain ⟨x10, hx10, hm⟩ := bind_some hm
      refine wo (Spec.indexAddr hx10 sl77 (Has.s rfl) (Has.s rfl)) ?_
      refine wo (Spec.load ty31 (Has.s rfl)) ?_
      refine ws (Step.storeObj (ls := [(false, 1, Fact.rep [] x10.Kind), (false, 1, Fact.rep [0] x10.Reads)]) rfl ty31 rfl rfl (Has.s rfl) rfl (HasL.flds (Has.cv (Has.s rfl) (Cv.trans (Cv.opens (chPlan x10)) (Cv.flds (CvL.cons Cv.fl (CvL.cons Cv.refl CvL.nil)))))) rfl) ?_
      refine Walk.nil ?_
      refine Leaf.blockN ?_
      exact Leaf.join (x10.Kind, x10.Reads) hm (su (sn (sn (sn (st (sf (sg (sf (sm (sn (sn Sub.nil)))))))))))
     ·have hm := cond_f hb hm
      refine CWalk.skip ?_
      refine Leaf.blockN ?_
      exact Leaf.join (s3, s4) hm (su (sn (sn (sn (st (sf (sg (sf (sm (sn (sn Sub.nil)))))))))))
   ·have hm := cond_f hb hm
    refine CWalk.exit ?_
    refine Leaf.thenE ?_
    exact Leaf.brk hm (fun h => nomatch h) rfl (sn (sn (sf (sg (sf (sm (sn (sn Sub.nil))))))))
  ·intro _
   refine Leaf.blockE ?_
   refine Leaf.thenN ?_
   refine CWalk.seq ?_
   refine CWalk.region ?_
   refine wo (Spec.loadObj (ls := [(false, 1, Fact.rep [] b11.1), (false, 1, Fact.rep [0] b11.2)]) ty31 rfl rfl (Has.s rfl) rfl (HasGs.cons (HasG.s rfl) (HasGs.cons (HasG.s rfl) HasGs.nil))) ?_
   refine ws (Step.storeObj (ls := [(false, 1, Fact.rep [] b11.1), (false, 1, Fact.rep [0] b11.2)]) rfl ty31 rfl rfl (Has.s rfl) rfl (HasL.flds (Has.s rfl)) rfl) ?_
   refine Walk.nil ?_
   refine Leaf.thenN ?_
   refine CWalk.ret ?_
   obtain rfl := Option.some.inj hm
   exact Leaf.retC1 rfl (HasR.cv (HasR.obj (ls := [(false, 1, Fact.rep [] b11.1), (false, 1, Fact.rep [0] b11.2)]) ty31 rfl rfl (Has.s rfl) rfl (HasGs.cons (HasG.s rfl) (HasGs.cons (HasG.s rfl) HasGs.nil))) (Cv.flds (CvL.cons Cv.fl (CvL.cons (Cv.m rfl) CvL.nil))))
 ·refine CWalk.seq ?_
  refine CWalk.region ?_
  refine mv ?_
  refine wo (Spec.len (Has.s rfl) Try.underlying77) ?_
  refine wo (Spec.lssI (Has.s rfl) Has.int) ?_
  refine Walk.nil ?_
  refine Leaf.thenN ?_
  refine CWalk.cond rfl (fun hb => ?_) (fun hb => ?_)
  ·have hm := cond_t hb hm
   refine CWalk.region ?_
   exact nomatch hm
  ·have hm := cond_f hb hm
   refine CWalk.skip ?_
   exact Leaf.join () hm (su (sn (sn (sf (sg (sn Sub.nil))))))

/-- cmp.isNaN[int] -/
def cmp_isNaN_int (a0 : Int) : Option (Bool) :=
  some (a0 != a0)
set_option maxRecDepth 100000 in
set_option maxHeartbeats 2000000 in
theorem cmp_isNaN_int_c (a0 : Int) {r : Bool} (hm : cmp_isNaN_int a0 = some r) : Ctr Try.prog 66 [.rep 0 a0] (.fl r) [] := by
 refine ctr_of_walk [[]] 6 Try.func66 rfl rfl rfl rfl (fun w0 om => ?_)
 unfold cmp_isNaN_int at hm
 refine CWalk.sub (G' := [.fact 0 (.rep [] (a0 : Int))]) (Sub.cons (Has.fl (Has.s rfl)) Sub.nil) ?_
 refine CWalk.seq ?_
 refine CWalk.region ?_
 refine wo (Spec.assign Has.bool) ?_
 refine Walk.nil ?_
 refine Leaf.thenN ?_
 refine CWalk.seq ?_
 refine CWalk.region ?_
 refine mv ?_
 refine mv ?_
 refine wo (Spec.neqI (Has.s rfl) (Has.s rfl)) ?_
 refine wo (Spec.assign (Has.s rfl)) ?_
 refine Walk.nil ?_
 refine Leaf.thenN ?_
 refine CWalk.ret ?_
 obtain rfl := Option.some.inj hm
 exact Leaf.retC1 rfl (HasR.cv (HasR.tmp (Has.s rfl)) Cv.fl)

/-- cmp.Compare[int] -/
def cmp_Compare_int (a0 : Int) (a1 : Int) : Option (Int) :=
  Option.bind (cmp_isNaN_int a0) (fun x1 => Option.bind (cmp_isNaN_int a1) (fun x2 => (bif x1 then (bif x2 then some (0 : Int) else some (-1 : Int)) else (bif x2 then some (1 : Int) else (bif (decide (a0 < a1)) then some (-1 : Int) else (bif (decide (a0 > a1)) then some (1 : Int) else some (0 : Int)))))))
set_option maxRecDepth 100000 in
set_option maxHeartbeats 2000000 in
theorem cmp_Compare_int_c (a0 : Int) (a1 : Int) {r : Int} (hm : cmp_Compare_int a0 a1 = some r) : Ctr Try.prog 44 [.rep 0 a0, .rep 0 a1] (.fl r) [] := by
 refine ctr_of_walk [[]] 20 Try.func44 rfl rfl rfl rfl (fun w0 om => ?_)
 unfold cmp_Compare_int at hm
 refine CWalk.sub (G' := [.fact 0 (.rep [] (a0 : Int)), .fact 1 (.rep [] (a1 : Int))]) (Sub.cons (Has.fl (Has.s rfl)) (Sub.cons (Has.fl (Has.s rfl)) Sub.nil)) ?_
 refine CWalk.seq ?_
 refine CWalk.region ?_
 refine wo (Spec.assign Has.int) ?_
 refine Walk.nil ?_
 refine Leaf.thenN ?_
 refine CWalk.seq ?_
 refine CWalk.region ?_
 refine mv ?_
 obtain ⟨x1, hx1, hm⟩ := bind_some hm
 refine wo (f := Fact.rep [] (x1 : Bool)) (Spec.callE [] 10 rfl en66 (cmp_isNaN_int_c a0 hx1) (HasAll.cons (Has.fl (Has.s rfl)) HasAll.nil)) ?_
 refine wo (Spec.assign (Has.s rfl)) ?_
 refine Walk.nil ?_
 refine Leaf.thenN ?_
 refine CWalk.seq ?_
 refine CWalk.region ?_
 refine mv ?_
 obtain ⟨x2, hx2, hm⟩ := bind_some hm
 refine wo (f := Fact.rep [] (x2 : Bool)) (Spec.callE [] 11 rfl en66 (cmp_isNaN_int_c a1 hx2) (HasAll.cons (Has.fl (Has.s rfl)) HasAll.nil)) ?_
 refine wo (Spec.assign (Has.s rfl)) ?_
 refine Walk.nil ?_
 refine Leaf.thenN ?_
 refine CWalk.seq ?_
 refine CWalk.seq ?_
 refine CWalk.region ?_
 refine mv ?_
 refine Walk.nil ?_
 refine Leaf.thenN ?_
 refine CWalk.cond rfl (fun hb => ?_) (fun hb => ?_)
 ·have hm := cond_t hb hm
  refine CWalk.seq ?_
  refine CWalk.seq ?_
  refine CWalk.region ?_
  refine mv ?_
  refine Walk.nil ?_
  refine Leaf.thenN ?_
  refine CWalk.cond rfl (fun hb => ?_) (fun hb => ?_)
  ·have hm := cond_t hb hm
   refine CWalk.seq ?_
   refine CWalk.region ?_
   refine wo (Spec.assign Has.int) ?_
   refine Walk.nil ?_
   refine Leaf.thenN ?_
   refine CWalk.ret ?_
   refine Leaf.thenR ?_
   refine Leaf.thenR ?_
   obtain rfl := Option.some.inj hm
   exact Leaf.retC1 rfl (HasR.cv (HasR.tmp (Has.s rfl)) Cv.fl)
  ·have hm := cond_f hb hm
   refine CWalk.skip ?_
   refine Leaf.thenN ?_
   refine CWalk.seq ?_
   refine CWalk.region ?_
   refine wo (Spec.assign Has.int) ?_
   refine Walk.nil ?_
   refine Leaf.thenN ?_
   refine CWalk.ret ?_
   refine Leaf.thenR ?_
   obtain rfl := Option.some.inj hm
   exact Leaf.retC1 rfl (HasR.cv (HasR.tmp (Has.s rfl)) Cv.fl)
 ·have hm := cond_f hb hm
  refine CWalk.skip ?_
  refine Leaf.thenN ?_
  refine CWalk.seq ?_
  refine CWalk.seq ?_
  refine CWalk.region ?_
  refine mv ?_
  refine Walk.nil ?_
  refine Leaf.thenN ?_
  refine CWalk.cond rfl (fun hb => ?_) (fun hb => ?_)
  ·have hm := cond_t hb hm
   refine CWalk.seq ?_
   refine CWalk.region ?_
   refine wo (Spec.assign Has.int) ?_
   refine Walk.nil ?_
   refine Leaf.thenN ?_
   refine CWalk.ret ?_
   refine Leaf.thenR ?_
   obtain rfl := Option.some.inj hm
   exact Leaf.retC1 rfl (HasR.cv (HasR.tmp (Has.s rfl)) Cv.fl)
  ·have hm := cond_f hb hm
   refine CWalk.skip ?_
   refine Leaf.thenN ?_
   refine CWalk.seq ?_
   refine CWalk.seq ?_
   refine CWalk.region ?_
   refine mv ?_
   refine mv ?_
   refine wo (Spec.lssI (Has.s rfl) (Has.s rfl)) ?_
   refine Walk.nil ?_
   refine Leaf.thenN ?_
   refine CWalk.cond rfl (fun hb => ?_) (fun hb => ?_)
   ·have hm := cond_t hb hm
    refine CWalk.seq ?_
    refine CWalk.region ?_
    refine wo (Spec.assign Has.int) ?_
    refine Walk.nil ?_
    refine Leaf.thenN ?_
    refine CWalk.ret ?_
    refine Leaf.thenR ?_
    obtain rfl := Option.some.inj hm
    exact Leaf.retC1 rfl (HasR.cv (HasR.tmp (Has.s rfl)) Cv.fl)
   ·have hm := cond_f hb hm
    refine CWalk.skip ?_
    refine Leaf.thenN ?_
    refine CWalk.seq ?_
    refine CWalk.seq ?_
    refine CWalk.region ?_
    refine mv ?_
    refine mv ?_
    refine wo (Spec.gtrI (Has.s rfl) (Has.s rfl)) ?_
    refine Walk.nil ?_
    refine Leaf.thenN ?_
    refine CWalk.cond rfl (fun hb => ?_) (fun hb => ?_)
    ·have hm := cond_t hb hm
     refine CWalk.seq ?_
     refine CWalk.region ?_
     refine wo (Spec.assign Has.int) ?_
     refine Walk.nil ?_
     refine Leaf.thenN ?_
     refine CWalk.ret ?_
     refine Leaf.thenR ?_
     obtain rfl := Option.some.inj hm
     exact Leaf.retC1 rfl (HasR.cv (HasR.tmp (Has.s rfl)) Cv.fl)
    ·have hm := cond_f hb hm
     refine CWalk.skip ?_
     refine Leaf.thenN ?_
     refine CWalk.seq ?_
     refine CWalk.region ?_
     refine wo (Spec.assign Has.int) ?_
     refine Walk.nil ?_
     refine Leaf.thenN ?_
     refine CWalk.ret ?_
     obtain rfl := Option.some.inj hm
     exact Leaf.retC1 rfl (HasR.cv (HasR.tmp (Has.s rfl)) Cv.fl)

/-- freeboard/plan.Of$1 -/
def plan_Of_1 (a0 : Plan) (a1 : Plan) : Option (Int) :=
  Option.bind (cmp_Compare_int ((a0.Reads).length : Int) ((a1.Reads).length : Int)) (fun x1 => some x1)
set_option maxRecDepth 100000 in
set_option maxHeartbeats 2000000 in
theorem plan_Of_1_c (a0 : Plan) (a1 : Plan) {r : Int} (hm : plan_Of_1 a0 a1 = some r) : Ctr Try.prog 43 [.rep 0 a0, .rep 0 a1] (.fl r) [] := by
 refine ctr_of_walk [[]] 12 Try.func43 rfl rfl rfl rfl (fun w0 om => ?_)
 unfold plan_Of_1 at hm
 refine CWalk.sub (G' := [.fact 0 (.rep [0] (a0 : Plan)), .fact 1 (.rep [0] (a1 : Plan))]) (sn (sn Sub.nil)) ?_
 refine CWalk.seq ?_
 refine CWalk.region ?_
 refine ws (Step.boxObj (ls := [(false, 1, Fact.rep [] a0.Kind), (false, 1, Fact.rep [0] a0.Reads)]) 10 rfl rfl rfl rfl (HasL.flds (Has.cv (Has.s rfl) (Cv.trans (Cv.opens (chPlan a0)) (Cv.flds (CvL.cons Cv.fl (CvL.cons Cv.refl CvL.nil))))))) ?_
 refine ws (Step.boxObj (ls := [(false, 1, Fact.rep [] a1.Kind), (false, 1, Fact.rep [0] a1.Reads)]) 13 rfl rfl rfl rfl (HasL.flds (Has.cv (Has.s rfl) (Cv.trans (Cv.opens (chPlan a1)) (Cv.flds (CvL.cons Cv.fl (CvL.cons Cv.refl CvL.nil))))))) ?_
 refine wo (Spec.assign Has.int) ?_
 refine Walk.nil ?_
 refine Leaf.thenN ?_
 refine CWalk.seq ?_
 refine CWalk.region ?_
 refine wo (Spec.fieldAddrO fd31_1 (Has.cv (Has.s rfl) (Cv.isvP rfl))) ?_
 refine wo (Spec.loadF (i := 1) ty29 rfl (Has.s rfl) rfl (HasG.s rfl)) ?_
 refine wo (Spec.len (Has.s rfl) Try.underlying29) ?_
 refine wo (Spec.fieldAddrO fd31_1 (Has.cv (Has.s rfl) (Cv.isvP rfl))) ?_
 refine wo (Spec.loadF (i := 1) ty29 rfl (Has.s rfl) rfl (HasG.s rfl)) ?_
 refine wo (Spec.len (Has.s rfl) Try.underlying29) ?_
 obtain ⟨x1, hx1, hm⟩ := bind_some hm
 refine wo (f := Fact.rep [] (x1 : Int)) (Spec.callE [] 16 rfl en44 (cmp_Compare_int_c ((a0.Reads).length : Int) ((a1.Reads).length : Int) hx1) (HasAll.cons (Has.fl (Has.s rfl)) (HasAll.cons (Has.fl (Has.s rfl)) HasAll.nil))) ?_
 refine wo (Spec.assign (Has.s rfl)) ?_
 refine Walk.nil ?_
 refine Leaf.thenN ?_
 refine CWalk.ret ?_
 obtain rfl := Option.some.inj hm
 exact Leaf.retC1 rfl (HasR.cv (HasR.tmp (Has.s rfl)) Cv.fl)

def plan_Of_J2 (s3 : Int) (j7 : List Int) (j8 : List Int) : Option (Ctl (Int × (List Int) × (List Int)) ((List Int) × (List Int))) :=
  some (Ctl.next ((wI (s3 + (1 : Int))), j7, j8))
def plan_Of_J3 (a1 : Head) (s3 : Int) (s4 : List Int) (j10 : List Int) : Option (Ctl (Int × (List Int) × (List Int)) ((List Int) × (List Int))) :=
  Option.bind (idx a1.Blocks s3) (fun x11 => (bif (((x11).length : Int) == (0 : Int)) then Option.bind (app s4 ([s3])) (fun x12 => (plan_Of_J2 s3 x12 j10)) else (plan_Of_J2 s3 s4 j10)))
def plan_Of_L1 (a1 : Head) (s3 : Int) (s4 : List Int) (s5 : List Int) : Option (Ctl (Int × (List Int) × (List Int)) ((List Int) × (List Int))) :=
  (bif (decide (s3 < ((a1.Dirty).length : Int))) then Option.bind (idx a1.Dirty s3) (fun x9 => (bif x9 then Option.bind (app s5 ([s3])) (fun x13 => (plan_Of_J3 a1 s3 s4 x13)) else (plan_Of_J3 a1 s3 s4 s5))) else some (Ctl.brk (s4, s5)))
/-- freeboard/plan.Of -/
def plan_Of (a0 : Config) (a1 : Head) (a2 : Int) : Option (Plan × Int) :=
  Option.bind (head_Check a0 a1) (fun x1 => (bif (x1 != (0 : Int)) then some ((Plan.mk (0 : UInt8) ([] : List Int)), x1) else (bif ((decide (a2 < (-1 : Int))) || (decide (a2 ≥ a0.Members))) then some ((Plan.mk (0 : UInt8) ([] : List Int)), (2 : Int)) else Option.bind (gO (!(a1.Phase != (0 : UInt8))) (slices_Contains_bool_bool a1.Dirty true)) (fun x2 => (bif ((a1.Phase != (0 : UInt8)) || (!x2)) then some ((Plan.mk (0 : UInt8) ([] : List Int)), (6 : Int)) else Option.bind (loopM (fun s : Int × (List Int) × (List Int) => plan_Of_L1 a1 s.1 s.2.1 s.2.2) FUEL ((0 : Int), ([] : List Int), ([] : List Int))) (fun b14 => (bif (((b14.1).length : Int) == (0 : Int)) then some ((Plan.mk (1 : UInt8) ([] : List Int)), (0 : Int)) else Option.bind (app b14.2 ([(wI (a0.Members - (1 : Int)))])) (fun x15 => Option.bind (plan_lost a0 a1.Stripe a2) (fun x16 => Option.bind (plan_some x16 ([(Plan.mk (2 : UInt8) b14.1), (Plan.mk (3 : UInt8) x15)])) (fun x17 => Option.bind (slices_MinFunc_api_Plan_api_Plan x17 (fun y => plan_Of_1 y.1 y.2)) (fun x18 => some (x18, (0 : Int)))))))))))))
set_option maxRecDepth 100000 in
set_option maxHeartbeats 2000000 in
theorem plan_Of_c (a0 : Config) (a1 : Head) (a2 : Int) {r : Plan × Int} (hm : plan_Of a0 a1 a2 = some r) : Ctr Try.prog 19 [.rep 0 a0, .rep 0 a1, .rep 0 a2] (.tup2 (.flds [(false, 1, (.fl r.1.Kind)), (false, 1, (.rep 0 r.1.Reads))]) (.fl r.2)) [] := by
 refine ctr_of_walk [[36, 38, 41, 42, 43, 44]] 95 Try.func19 rfl rfl rfl rfl (fun w0 om => ?_)
 unfold plan_Of at hm
 refine CWalk.sub (G' := [.fact 0 (.rep [] (a0 : Config)), .fact 1 (.rep [0] (a1 : Head)), .fact 2 (.rep [] (a2 : Int))]) (Sub.cons (Has.fl (Has.s rfl)) (sn (Sub.cons (Has.fl (Has.s rfl)) Sub.nil))) ?_
 refine CWalk.seq ?_
 refine CWalk.region ?_
 refine ws (Step.boxObj (ls := [(false, 1, Fact.rep [] a0.Id), (false, 1, Fact.rep [] a0.Members), (false, 1, Fact.rep [] a0.Chunk), (false, 1, Fact.rep [] a0.Rows), (false, 1, Fact.rep [] a0.Log), (false, 1, Fact.rep [] a0.Heads)]) 10 rfl rfl rfl rfl (HasL.flds (Has.cv (Has.s rfl) (Cv.trans (Cv.opens (chConfig a0)) (Cv.flds (CvL.cons Cv.fl (CvL.cons Cv.fl (CvL.cons Cv.fl (CvL.cons Cv.fl (CvL.cons Cv.fl (CvL.cons Cv.fl CvL.nil))))))))))) ?_
 refine ws (Step.boxObj (ls := [(false, 1, Fact.rep [] a1.Stripe), (false, 1, Fact.rep [0] a1.Blocks), (false, 1, Fact.rep [0] a1.Dirty), (false, 1, Fact.rep [] a1.Phase), (false, 1, Fact.rep [] a1.Deals), (false, 1, Fact.rep [] a1.Seq)]) 17 rfl rfl rfl rfl (HasL.flds (Has.cv (Has.s rfl) (Cv.trans (Cv.opens (chHead a1)) (Cv.flds (CvL.cons Cv.fl (CvL.cons Cv.refl (CvL.cons Cv.refl (CvL.cons Cv.fl (CvL.cons Cv.fl (CvL.cons Cv.fl CvL.nil))))))))))) ?_
 refine ws (Step.allocObj (ls := [(false, 1, Fact.rep [] ((0 : UInt8) : UInt8)), (false, 1, Fact.nilv)]) 24 rfl rfl rfl rfl zl31) ?_
 refine wo (Spec.assign Has.int) ?_
 refine Walk.nil ?_
 refine Leaf.thenN ?_
 refine CWalk.seq ?_
 refine CWalk.seq ?_
 refine CWalk.region ?_
 refine wo (Spec.loadObj (ls := [(false, 1, Fact.rep [] a0.Id), (false, 1, Fact.rep [] a0.Members), (false, 1, Fact.rep [] a0.Chunk), (false, 1, Fact.rep [] a0.Rows), (false, 1, Fact.rep [] a0.Log), (false, 1, Fact.rep [] a0.Heads)]) ty24 rfl rfl (Has.s rfl) rfl (HasGs.cons (HasG.s rfl) (HasGs.cons (HasG.s rfl) (HasGs.cons (HasG.s rfl) (HasGs.cons (HasG.s rfl) (HasGs.cons (HasG.s rfl) (HasGs.cons (HasG.s rfl) HasGs.nil))))))) ?_
 refine wo (Spec.loadObj (ls := [(false, 1, Fact.rep [] a1.Stripe), (false, 1, Fact.rep [0] a1.Blocks), (false, 1, Fact.rep [0] a1.Dirty), (false, 1, Fact.rep [] a1.Phase), (false, 1, Fact.rep [] a1.Deals), (false, 1, Fact.rep [] a1.Seq)]) ty28 rfl rfl (Has.s rfl) rfl (HasGs.cons (HasG.s rfl) (HasGs.cons (HasG.s rfl) (HasGs.cons (HasG.s rfl) (HasGs.cons (HasG.s rfl) (HasGs.cons (HasG.s rfl) (HasGs.cons (HasG.s rfl) HasGs.nil))))))) ?_
 obtain ⟨x1, hx1, hm⟩ := bind_some hm
 refine wo (f := Fact.rep [] (x1 : Int)) (Spec.callE [0] 27 rfl en27 (head_Check_c a0 a1 hx1) (HasAll.cons (Has.fl (Has.cv (Has.s rfl) (Cv.trans (Cv.flds (CvL.cons Cv.fl (CvL.cons Cv.fl (CvL.cons Cv.fl (CvL.cons Cv.fl (CvL.cons Cv.fl (CvL.cons Cv.fl CvL.nil))))))) (Cv.close (T := []) (chConfig a0))))) (HasAll.cons (Has.m (Has.cv (Has.s rfl) (Cv.trans (Cv.flds (CvL.cons Cv.fl (CvL.cons (Cv.m rfl) (CvL.cons (Cv.m rfl) (CvL.cons Cv.fl (CvL.cons Cv.fl (CvL.cons Cv.fl CvL.nil))))))) (Cv.close (T := [0]) (chHead a1)))) rfl) HasAll.nil))) ?_
 refine wo (Spec.assign (Has.s rfl)) ?_
 refine Walk.nil ?_
 refine Leaf.thenN ?_
 refine CWalk.seq ?_
 refine CWalk.region ?_
 refine mv ?_
 refine wo (Spec.neqI (Has.s rfl) Has.int) ?_
 refine Walk.nil ?_
 refine Leaf.thenN ?_
 refine CWalk.cond rfl (fun hb => ?_) (fun hb => ?_)
 ·have hm := cond_t hb hm
  refine CWalk.seq ?_
  refine CWalk.region ?_
  refine wo (Spec.build (us := []) (ls' := [(false, 1, Fact.rep [] ((0 : UInt8) : UInt8)), (false, 1, Fact.nilv)]) bd31 rfl BP.nil) ?_
  refine mv ?_
  refine ws (Step.storeObj (ls := [(false, 1, Fact.rep [] ((0 : UInt8) : UInt8)), (false, 1, Fact.nilv)]) rfl ty31 rfl rfl (Has.s rfl) rfl (HasL.flds (Has.s rfl)) rfl) ?_
  refine wo (Spec.assign (Has.s rfl)) ?_
  refine Walk.nil ?_
  refine Leaf.thenN ?_
  refine CWalk.ret ?_
  refine Leaf.thenR ?_
  obtain rfl := Option.some.inj hm
  exact Leaf.retC2 rfl (HasR.cv (HasR.obj (ls := [(false, 1, Fact.rep [] ((0 : UInt8) : UInt8)), (false, 1, Fact.nilv)]) ty31 rfl rfl (Has.s rfl) rfl (HasGs.cons (HasG.s rfl) (HasGs.cons (HasG.s rfl) HasGs.nil))) (Cv.flds (CvL.cons Cv.fl (CvL.cons (Cv.trans (Cv.nil (T := [])) (Cv.m rfl)) CvL.nil)))) (HasR.cv (HasR.tmp (Has.s rfl)) Cv.fl)
 ·have hm := cond_f hb hm
  refine CWalk.skip ?_
  refine Leaf.thenN ?_
  refine CWalk.seq ?_
  refine CWalk.seq ?_
  refine CWalk.region ?_
  refine mv ?_
  refine wo (Spec.lssI (Has.s rfl) Has.int) ?_
  refine mv ?_
  refine wg rfl rfl (fun hb => Spec.move (Has.s rfl)) ?_
  refine wg rfl rfl (fun hb => Spec.fieldAddrO fd24_1 (Has.cv (Has.s rfl) (Cv.isvP rfl))) ?_
  refine wg rfl rfl (fun hb => Spec.loadF (i := 1) ty3 rfl (Has.u rfl hb) rfl (HasG.s rfl)) ?_
  refine wg rfl rfl (fun hb => Spec.geqI (Has.u rfl hb) (Has.u rfl hb)) ?_
  refine wo (Spec.or (Has.s rfl) (fun h => Has.u rfl h)) ?_
  refine Walk.nil ?_
  refine Leaf.thenN ?_
  refine CWalk.cond rfl (fun hb => ?_) (fun hb => ?_)
  ·have hm := cond_t hb hm
   refine CWalk.seq ?_
   refine CWalk.region ?_
   refine wo (Spec.build (us := []) (ls' := [(false, 1, Fact.rep [] ((0 : UInt8) : UInt8)), (false, 1, Fact.nilv)]) bd31 rfl BP.nil) ?_
   refine ws (Step.storeObj (ls := [(false, 1, Fact.rep [] ((0 : UInt8) : UInt8)), (false, 1, Fact.nilv)]) rfl ty31 rfl rfl (Has.s rfl) rfl (HasL.flds (Has.s rfl)) rfl) ?_
   refine wo (Spec.assign Has.int) ?_
   refine Walk.nil ?_
   refine Leaf.thenN ?_
   refine CWalk.ret ?_
   refine Leaf.thenR ?_
   obtain rfl := Option.some.inj hm
   exact Leaf.retC2 rfl (HasR.cv (HasR.obj (ls := [(false, 1, Fact.rep [] ((0 : UInt8) : UInt8)), (false, 1, Fact.nilv)]) ty31 rfl rfl (Has.s rfl) rfl (HasGs.cons (HasG.s rfl) (HasGs.cons (HasG.s rfl) HasGs.nil))) (Cv.flds (CvL.cons Cv.fl (CvL.cons (Cv.trans (Cv.nil (T := [])) (Cv.m rfl)) CvL.nil)))) (HasR.cv (HasR.tmp (Has.s rfl)) Cv.fl)
  ·have hm := cond_f hb hm
   refine CWalk.skip ?_
   refine Leaf.thenN ?_
   refine CWalk.seq ?_
   refine CWalk.seq ?_
   refine CWalk.region ?_
   refine wo (Spec.fieldAddrO fd28_3 (Has.cv (Has.s rfl) (Cv.isvP rfl))) ?_
   refine wo (Spec.loadF (i := 3) ty5 rfl (Has.s rfl) rfl (HasG.s rfl)) ?_
   refine wo (Spec.neqB (Has.s rfl) (Has.u8 0 rfl)) ?_
   refine mv ?_
   refine wg rfl rfl (fun hb => Spec.fieldAddrO fd28_2 (Has.cv (Has.s rfl) (Cv.isvP rfl))) ?_
   refine wg rfl rfl (fun hb => Spec.loadF (i := 2) ty26 rfl (Has.u rfl hb) rfl (HasG.s rfl)) ?_
   obtain ⟨x2, hx2, hm⟩ := bind_some hm
   refine wg (f := Fact.rep [] (x2 : Bool)) rfl rfl (fun hb => Spec.callE [0] 28 rfl en28 (slices_Contains_bool_bool_c a1.Dirty true (gO_t hx2 (not_t hb))) (HasAll.cons (Has.m (Has.u rfl hb) rfl) (HasAll.cons (Has.fl Has.bool) HasAll.nil))) ?_
   refine wg rfl rfl (fun hb => Spec.not (Has.u rfl hb)) ?_
   refine wo (Spec.or (Has.s rfl) (fun h => Has.u rfl h)) ?_
   refine Walk.nil ?_
   refine Leaf.thenN ?_
   refine CWalk.cond rfl (fun hb => ?_) (fun hb => ?_)
   ·have hm := cond_t hb hm
    refine CWalk.seq ?_
    refine CWalk.region ?_
    refine wo (Spec.build (us := []) (ls' := [(false, 1, Fact.rep [] ((0 : UInt8) : UInt8)), (false, 1, Fact.nilv)]) bd31 rfl BP.nil) ?_
    refine ws (Step.storeObj (ls := [(false, 1, Fact.rep [] ((0 : UInt8) : UInt8)), (false, 1, Fact.nilv)]) rfl ty31 rfl rfl (Has.s rfl) rfl (HasL.flds (Has.s rfl)) rfl) ?_
    refine wo (Spec.assign Has.int) ?_
    refine Walk.nil ?_
    refine Leaf.thenN ?_
    refine CWalk.ret ?_
    refine Leaf.thenR ?_
    obtain rfl := Option.some.inj hm
    exact Leaf.retC2 rfl (HasR.cv (HasR.obj (ls := [(false, 1, Fact.rep [] ((0 : UInt8) : UInt8)), (false, 1, Fact.nilv)]) ty31 rfl rfl (Has.s rfl) rfl (HasGs.cons (HasG.s rfl) (HasGs.cons (HasG.s rfl) HasGs.nil))) (Cv.flds (CvL.cons Cv.fl (CvL.cons (Cv.trans (Cv.nil (T := [])) (Cv.m rfl)) CvL.nil)))) (HasR.cv (HasR.tmp (Has.s rfl)) Cv.fl)
   ·have hm := cond_f hb hm
    refine CWalk.skip ?_
    refine Leaf.thenN ?_
    refine CWalk.seq ?_
    refine CWalk.region ?_
    refine wo (Spec.build (us := [(0, .const (.int .u8 2))]) (ls' := [(false, 1, Fact.rep [] ((2 : UInt8) : UInt8)), (false, 1, Fact.nilv)]) bd31 rfl (BP.cons rfl rfl (Has.u8 2 rfl) (Has.u8 2 rfl) BP.nil)) ?_
    refine wo (Spec.build (us := [(0, .const (.int .u8 3))]) (ls' := [(false, 1, Fact.rep [] ((3 : UInt8) : UInt8)), (false, 1, Fact.nilv)]) bd31 rfl (BP.cons rfl rfl (Has.u8 3 rfl) (Has.u8 3 rfl) BP.nil)) ?_
    refine ws (Step.allocObj (ls := [(false, 1, Fact.rep [] ((0 : UInt8) : UInt8)), (false, 1, Fact.nilv)]) 29 rfl rfl rfl rfl zl31) ?_
    refine ws (Step.allocObj (ls := [(false, 1, Fact.rep [] ((0 : UInt8) : UInt8)), (false, 1, Fact.nilv)]) 32 rfl rfl rfl rfl zl31) ?_
    refine ws (Step.storeObj (ls := [(false, 1, Fact.rep [] ((2 : UInt8) : UInt8)), (false, 1, Fact.nilv)]) rfl ty31 rfl rfl (Has.s rfl) rfl (HasL.flds (Has.s rfl)) rfl) ?_
    refine ws (Step.storeObj (ls := [(false, 1, Fact.rep [] ((3 : UInt8) : UInt8)), (false, 1, Fact.nilv)]) rfl ty31 rfl rfl (Has.s rfl) rfl (HasL.flds (Has.s rfl)) rfl) ?_
    refine Walk.nil ?_
    refine Leaf.thenN ?_
    refine CWalk.seq ?_
    refine CWalk.seq ?_
    refine CWalk.region ?_
    refine wo (Spec.fieldAddrO fd28_2 (Has.cv (Has.s rfl) (Cv.isvP rfl))) ?_
    refine wo (Spec.loadF (i := 2) ty26 rfl (Has.s rfl) rfl (HasG.s rfl)) ?_
    refine wo (Spec.len (Has.s rfl) Try.underlying26) ?_
    refine wo (Spec.move Has.int) ?_
    refine Walk.nil ?_
    refine Leaf.thenN ?_
    refine CWalk.block ?_
    obtain ⟨b14, hb14, hm⟩ := bind_some hm
    refine CWalk.loop (fun s : Int × (List Int) × (List Int) => [.fact 2 (.rep [] (a2 : Int)), .fact 3 (.isv 10), .fact 4 (.isv 17), .fact 6 (.isv 24), .fact 9 (.isv 29), .fact 10 (.isv 32), .fact 43 (.rep [0] a1.Dirty), .fact 44 (.rep [] (((a1.Dirty).length : Int) : Int)), .fact 45 (.rep [] s.1), .fact 100011 (.at 11 (.rep [] a0.Id)), .fact 100012 (.at 12 (.rep [] a0.Members)), .fact 100013 (.at 13 (.rep [] a0.Chunk)), .fact 100014 (.at 14 (.rep [] a0.Rows)), .fact 100015 (.at 15 (.rep [] a0.Log)), .fact 100016 (.at 16 (.rep [] a0.Heads)), .fact 100018 (.at 18 (.rep [] a1.Stripe)), .fact 100019 (.at 19 (.rep [0] a1.Blocks)), .fact 100020 (.at 20 (.rep [0] a1.Dirty)), .fact 100021 (.at 21 (.rep [] a1.Phase)), .fact 100022 (.at 22 (.rep [] a1.Deals)), .fact 100023 (.at 23 (.rep [] a1.Seq)), .fact 100025 (.at 25 (.rep [] ((0 : UInt8) : UInt8))), .fact 100026 (.at 26 (.nilv)), .fact 100030 (.at 30 (.rep [] ((2 : UInt8) : UInt8))), .fact 100031 (.at 31 (.ow [38] [] 3 (s.2.1 : List Int))), .fact 100033 (.at 33 (.rep [] ((3 : UInt8) : UInt8))), .fact 100034 (.at 34 (.ow [36] [] 3 (s.2.2 : List Int))), .fact 100010 (.obj 10 [(false, 1), (false, 1), (false, 1), (false, 1), (false, 1), (false, 1)]), .fact 100017 (.obj 17 [(false, 1), (false, 1), (false, 1), (false, 1), (false, 1), (false, 1)]), .fact 100024 (.obj 24 [(false, 1), (false, 1)]), .fact 100029 (.obj 29 [(false, 1), (false, 1)]), .fact 100032 (.obj 32 [(false, 1), (false, 1)])]) (fun b : (List Int) × (List Int) => (Exit.exit 0, [.fact 2 (.rep [] (a2 : Int)), .fact 3 (.isv 10), .fact 4 (.isv 17), .fact 6 (.isv 24), .fact 9 (.isv 29), .fact 10 (.isv 32), .fact 100011 (.at 11 (.rep [] a0.Id)), .fact 100012 (.at 12 (.rep [] a0.Members)), .fact 100013 (.at 13 (.rep [] a0.Chunk)), .fact 100014 (.at 14 (.rep [] a0.Rows)), .fact 100015 (.at 15 (.rep [] a0.Log)), .fact 100016 (.at 16 (.rep [] a0.Heads)), .fact 100018 (.at 18 (.rep [] a1.Stripe)), .fact 100019 (.at 19 (.rep [0] a1.Blocks)), .fact 100020 (.at 20 (.rep [0] a1.Dirty)), .fact 100021 (.at 21 (.rep [] a1.Phase)), .fact 100022 (.at 22 (.rep [] a1.Deals)), .fact 100023 (.at 23 (.rep [] a1.Seq)), .fact 100025 (.at 25 (.rep [] ((0 : UInt8) : UInt8))), .fact 100026 (.at 26 (.nilv)), .fact 100030 (.at 30 (.rep [] ((2 : UInt8) : UInt8))), .fact 100031 (.at 31 (.ow [38] [] 3 (b.1 : List Int))), .fact 100033 (.at 33 (.rep [] ((3 : UInt8) : UInt8))), .fact 100034 (.at 34 (.ow [36] [] 3 (b.2 : List Int))), .fact 100010 (.obj 10 [(false, 1), (false, 1), (false, 1), (false, 1), (false, 1), (false, 1)]), .fact 100017 (.obj 17 [(false, 1), (false, 1), (false, 1), (false, 1), (false, 1), (false, 1)]), .fact 100024 (.obj 24 [(false, 1), (false, 1)]), .fact 100029 (.obj 29 [(false, 1), (false, 1)]), .fact 100032 (.obj 32 [(false, 1), (false, 1)])])) hb14 (st (sn (sn (sn (sn (sn (su (st (st (sf (sf (sf (sf (sf (sf (sf (sm (sm (sf (sf (sf (sf (sg (sf (Sub.cons (Has.at (HasG.cv (HasG.s rfl) (Cv.trans Cv.nilOw (Cv.owF (T := []) (te := []) rfl)))) (sf (Sub.cons (Has.at (HasG.cv (HasG.s rfl) (Cv.trans Cv.nilOw (Cv.owF (T := []) (te := []) rfl)))) (sn (sn (sn (sn (sn Sub.nil)))))))))))))))))))))))))))))))) ?_ ?_
    ·rintro ⟨s3, s4, s5⟩ c6 hm
     replace hm : plan_Of_L1 a1 s3 s4 s5 = some c6 := hm
     unfold plan_Of_L1 at hm
     show CWalk _ [.fact 2 (.rep [] (a2 : Int)), .fact 3 (.isv 10), .fact 4 (.isv 17), .fact 6 (.isv 24), .fact 9 (.isv 29), .fact 10 (.isv 32), .fact 43 (.rep [0] a1.Dirty), .fact 44 (.rep [] (((a1.Dirty).length : Int) : Int)), .fact 45 (.rep [] (s3 : Int)), .fact 100011 (.at 11 (.rep [] a0.Id)), .fact 100012 (.at 12 (.rep [] a0.Members)), .fact 100013 (.at 13 (.rep [] a0.Chunk)), .fact 100014 (.at 14 (.rep [] a0.Rows)), .fact 100015 (.at 15 (.rep [] a0.Log)), .fact 100016 (.at 16 (.rep [] a0.Heads)), .fact 100018 (.at 18 (.rep [] a1.Stripe)), .fact 100019 (.at 19 (.rep [0] a1.Blocks)), .fact 100020 (.at 20 (.rep [0] a1.Dirty)), .fact 100021 (.at 21 (.rep [] a1.Phase)), .fact 100022 (.at 22 (.rep [] a1.Deals)), .fact 100023 (.at 23 (.rep [] a1.Seq)), .fact 100025 (.at 25 (.rep [] ((0 : UInt8) : UInt8))), .fact 100026 (.at 26 (.nilv)), .fact 100030 (.at 30 (.rep [] ((2 : UInt8) : UInt8))), .fact 100031 (.at 31 (.ow [38] [] 3 (s4 : List Int))), .fact 100033 (.at 33 (.rep [] ((3 : UInt8) : UInt8))), .fact 100034 (.at 34 (.ow [36] [] 3 (s5 : List Int))), .fact 100010 (.obj 10 [(false, 1), (false, 1), (false, 1), (false, 1), (false, 1), (false, 1)]), .fact 100017 (.obj 17 [(false, 1), (false, 1), (false, 1), (false, 1), (false, 1), (false, 1)]), .fact 100024 (.obj 24 [(false, 1), (false, 1)]), .fact 100029 (.obj 29 [(false, 1), (false, 1)]), .fact 100032 (.obj 32 [(false, 1), (false, 1)])] _ _
     refine CWalk.seq ?_
     refine CWalk.region ?_
     refine wo (Spec.lssI (Has.s rfl) (Has.s rfl)) ?_
     refine Walk.nil ?_
     refine Leaf.thenN ?_
     refine CWalk.seq ?_
     refine CWalk.cond rfl (fun hb => ?_) (fun hb => ?_)
     ·have hm := cond_t hb hm
      refine CWalk.skip ?_
      refine Leaf.thenN ?_
      refine CWalk.seqJ (fun p : (List Int) × (List Int) => [.fact 2 (.rep [] (a2 : Int)), .fact 3 (.isv 10), .fact 4 (.isv 17), .fact 6 (.isv 24), .fact 9 (.isv 29), .fact 10 (.isv 32), .fact 43 (.rep [0] a1.Dirty), .fact 44 (.rep [] (((a1.Dirty).length : Int) : Int)), .fact 45 (.rep [] (s3 : Int)), .fact 100011 (.at 11 (.rep [] a0.Id)), .fact 100012 (.at 12 (.rep [] a0.Members)), .fact 100013 (.at 13 (.rep [] a0.Chunk)), .fact 100014 (.at 14 (.rep [] a0.Rows)), .fact 100015 (.at 15 (.rep [] a0.Log)), .fact 100016 (.at 16 (.rep [] a0.Heads)), .fact 100018 (.at 18 (.rep [] a1.Stripe)), .fact 100019 (.at 19 (.rep [0] a1.Blocks)), .fact 100020 (.at 20 (.rep [0] a1.Dirty)), .fact 100021 (.at 21 (.rep [] a1.Phase)), .fact 100022 (.at 22 (.rep [] a1.Deals)), .fact 100023 (.at 23 (.rep [] a1.Seq)), .fact 100025 (.at 25 (.rep [] ((0 : UInt8) : UInt8))), .fact 100026 (.at 26 (.nilv)), .fact 100030 (.at 30 (.rep [] ((2 : UInt8) : UInt8))), .fact 100031 (.at 31 (.ow [38] [] 3 (p.1 : List Int))), .fact 100033 (.at 33 (.rep [] ((3 : UInt8) : UInt8))), .fact 100034 (.at 34 (.ow [36] [] 3 (p.2 : List Int))), .fact 100010 (.obj 10 [(false, 1), (false, 1), (false, 1), (false, 1), (false, 1), (false, 1)]), .fact 100017 (.obj 17 [(false, 1), (false, 1), (false, 1), (false, 1), (false, 1), (false, 1)]), .fact 100024 (.obj 24 [(false, 1), (false, 1)]), .fact 100029 (.obj 29 [(false, 1), (false, 1)]), .fact 100032 (.obj 32 [(false, 1), (false, 1)])]) (fun p : (List Int) × (List Int) => plan_Of_J2 s3 p.1 p.2 = some c6) ?_ ?_
      ·rintro ⟨j7, j8⟩ hm
       replace hm : plan_Of_J2 s3 j7 j8 = some c6 := hm
       unfold plan_Of_J2 at hm
       show CWalk _ [.fact 2 (.rep [] (a2 : Int)), .fact 3 (.isv 10), .fact 4 (.isv 17), .fact 6 (.isv 24), .fact 9 (.isv 29), .fact 10 (.isv 32), .fact 43 (.rep [0] a1.Dirty), .fact 44 (.rep [] (((a1.Dirty).length : Int) : Int)), .fact 45 (.rep [] (s3 : Int)), .fact 100011 (.at 11 (.rep [] a0.Id)), .fact 100012 (.at 12 (.rep [] a0.Members)), .fact 100013 (.at 13 (.rep [] a0.Chunk)), .fact 100014 (.at 14 (.rep [] a0.Rows)), .fact 100015 (.at 15 (.rep [] a0.Log)), .fact 100016 (.at 16 (.rep [] a0.Heads)), .fact 100018 (.at 18 (.rep [] a1.Stripe)), .fact 100019 (.at 19 (.rep [0] a1.Blocks)), .fact 100020 (.at 20 (.rep [0] a1.Dirty)), .fact 100021 (.at 21 (.rep [] a1.Phase)), .fact 100022 (.at 22 (.rep [] a1.Deals)), .fact 100023 (.at 23 (.rep [] a1.Seq)), .fact 100025 (.at 25 (.rep [] ((0 : UInt8) : UInt8))), .fact 100026 (.at 26 (.nilv)), .fact 100030 (.at 30 (.rep [] ((2 : UInt8) : UInt8))), .fact 100031 (.at 31 (.ow [38] [] 3 (j7 : List Int))), .fact 100033 (.at 33 (.rep [] ((3 : UInt8) : UInt8))), .fact 100034 (.at 34 (.ow [36] [] 3 (j8 : List Int))), .fact 100010 (.obj 10 [(false, 1), (false, 1), (false, 1), (false, 1), (false, 1), (false, 1)]), .fact 100017 (.obj 17 [(false, 1), (false, 1), (false, 1), (false, 1), (false, 1), (false, 1)]), .fact 100024 (.obj 24 [(false, 1), (false, 1)]), .fact 100029 (.obj 29 [(false, 1), (false, 1)]), .fact 100032 (.obj 32 [(false, 1), (false, 1)])] _ _
       refine CWalk.region ?_
       refine wo (Spec.addI (Has.s rfl) Has.int) ?_
       refine mv ?_
       refine Walk.nil ?_
       exact Leaf.next hm (st (sn (sn (sn (sn (sn (su (st (st (sf (sf (sf (sf (sf (sf (sf (sm (sm (sf (sf (sf (sf (sg (sf (Sub.cons (Has.at (HasG.cv (HasG.s rfl) (Cv.owF (T := [38]) (te := []) rfl))) (sf (Sub.cons (Has.at (HasG.cv (HasG.s rfl) (Cv.owF (T := [36]) (te := []) rfl))) (sn (sn (sn (sn (sn Sub.nil))))))))))))))))))))))))))))))))
      ·refine CWalk.block ?_
       refine CWalk.seq ?_
       refine CWalk.region ?_
       refine mv ?_
       obtain ⟨x9, hx9, hm⟩ := bind_some hm
       refine wo (Spec.indexAddr hx9 sl26 (Has.s rfl) (Has.s rfl)) ?_
       refine wo ((Spec.load ty4 (Has.s rfl)).flat (T' := [])) ?_
       refine wo (Spec.assign (Has.s rfl)) ?_
       refine wo (Spec.assign (Has.s rfl)) ?_
       refine Walk.nil ?_
       refine Leaf.thenN ?_
       refine CWalk.seqJ (fun p : (List Int) => [.fact 2 (.rep [] (a2 : Int)), .fact 3 (.isv 10), .fact 4 (.isv 17), .fact 6 (.isv 24), .fact 9 (.isv 29), .fact 10 (.isv 32), .fact 11 (.rep [] (s3 : Int)), .fact 43 (.rep [0] a1.Dirty), .fact 44 (.rep [] (((a1.Dirty).length : Int) : Int)), .fact 45 (.rep [] (s3 : Int)), .fact 100011 (.at 11 (.rep [] a0.Id)), .fact 100012 (.at 12 (.rep [] a0.Members)), .fact 100013 (.at 13 (.rep [] a0.Chunk)), .fact 100014 (.at 14 (.rep [] a0.Rows)), .fact 100015 (.at 15 (.rep [] a0.Log)), .fact 100016 (.at 16 (.rep [] a0.Heads)), .fact 100018 (.at 18 (.rep [] a1.Stripe)), .fact 100019 (.at 19 (.rep [0] a1.Blocks)), .fact 100020 (.at 20 (.rep [0] a1.Dirty)), .fact 100021 (.at 21 (.rep [] a1.Phase)), .fact 100022 (.at 22 (.rep [] a1.Deals)), .fact 100023 (.at 23 (.rep [] a1.Seq)), .fact 100025 (.at 25 (.rep [] ((0 : UInt8) : UInt8))), .fact 100026 (.at 26 (.nilv)), .fact 100030 (.at 30 (.rep [] ((2 : UInt8) : UInt8))), .fact 100031 (.at 31 (.ow [38] [] 3 (s4 : List Int))), .fact 100033 (.at 33 (.rep [] ((3 : UInt8) : UInt8))), .fact 100034 (.at 34 (.ow [36] [] 3 (p : List Int))), .fact 100010 (.obj 10 [(false, 1), (false, 1), (false, 1), (false, 1), (false, 1), (false, 1)]), .fact 100017 (.obj 17 [(false, 1), (false, 1), (false, 1), (false, 1), (false, 1), (false, 1)]), .fact 100024 (.obj 24 [(false, 1), (false, 1)]), .fact 100029 (.obj 29 [(false, 1), (false, 1)]), .fact 100032 (.obj 32 [(false, 1), (false, 1)])]) (fun p : (List Int) => plan_Of_J3 a1 s3 s4 p = some c6) ?_ ?_
       ·rintro j10 hm
        replace hm : plan_Of_J3 a1 s3 s4 j10 = some c6 := hm
        unfold plan_Of_J3 at hm
        show CWalk _ [.fact 2 (.rep [] (a2 : Int)), .fact 3 (.isv 10), .fact 4 (.isv 17), .fact 6 (.isv 24), .fact 9 (.isv 29), .fact 10 (.isv 32), .fact 11 (.rep [] (s3 : Int)), .fact 43 (.rep [0] a1.Dirty), .fact 44 (.rep [] (((a1.Dirty).length : Int) : Int)), .fact 45 (.rep [] (s3 : Int)), .fact 100011 (.at 11 (.rep [] a0.Id)), .fact 100012 (.at 12 (.rep [] a0.Members)), .fact 100013 (.at 13 (.rep [] a0.Chunk)), .fact 100014 (.at 14 (.rep [] a0.Rows)), .fact 100015 (.at 15 (.rep [] a0.Log)), .fact 100016 (.at 16 (.rep [] a0.Heads)), .fact 100018 (.at 18 (.rep [] a1.Stripe)), .fact 100019 (.at 19 (.rep [0] a1.Blocks)), .fact 100020 (.at 20 (.rep [0] a1.Dirty)), .fact 100021 (.at 21 (.rep [] a1.Phase)), .fact 100022 (.at 22 (.rep [] a1.Deals)), .fact 100023 (.at 23 (.rep [] a1.Seq)), .fact 100025 (.at 25 (.rep [] ((0 : UInt8) : UInt8))), .fact 100026 (.at 26 (.nilv)), .fact 100030 (.at 30 (.rep [] ((2 : UInt8) : UInt8))), .fact 100031 (.at 31 (.ow [38] [] 3 (s4 : List Int))), .fact 100033 (.at 33 (.rep [] ((3 : UInt8) : UInt8))), .fact 100034 (.at 34 (.ow [36] [] 3 (j10 : List Int))), .fact 100010 (.obj 10 [(false, 1), (false, 1), (false, 1), (false, 1), (false, 1), (false, 1)]), .fact 100017 (.obj 17 [(false, 1), (false, 1), (false, 1), (false, 1), (false, 1), (false, 1)]), .fact 100024 (.obj 24 [(false, 1), (false, 1)]), .fact 100029 (.obj 29 [(false, 1), (false, 1)]), .fact 100032 (.obj 32 [(false, 1), (false, 1)])] _ _
        refine CWalk.seq ?_
        refine CWalk.region ?_
        refine wo (Spec.fieldAddrO fd28_1 (Has.cv (Has.s rfl) (Cv.isvP rfl))) ?_
        refine wo (Spec.loadF (i := 1) ty25 rfl (Has.s rfl) rfl (HasG.s rfl)) ?_
        refine mv ?_
        obtain ⟨x11, hx11, hm⟩ := bind_some hm
        refine wo (Spec.indexAddr hx11 sl25 (Has.s rfl) (Has.s rfl)) ?_
        refine wo (Spec.load ty36 (Has.s rfl)) ?_
        refine wo (Spec.len (Has.s rfl) Try.underlying36) ?_
        refine wo (Spec.eqlI (Has.s rfl) Has.int) ?_
        refine Walk.nil ?_
        refine Leaf.thenN ?_
        refine CWalk.cond rfl (fun hb => ?_) (fun hb => ?_)
        ·have hm := cond_t hb hm
         refine CWalk.region ?_
         refine wo (Spec.fieldAddrO fd31_1 (Has.cv (Has.s rfl) (Cv.isvP rfl))) ?_
         refine wo (Spec.loadF (i := 1) ty29 rfl (Has.s rfl) rfl (HasG.s rfl)) ?_
         refine mv ?_
         refine wo (Spec.lit (xs := [.tmp 66]) (T := []) 37 rfl ow29 rfl rfl rfl rfl (HasEach.cons (Has.fl (Has.s rfl)) HasEach.nil)) ?_
         obtain ⟨x12, hx12, hm⟩ := bind_some hm
         refine ws (Step.appendOw (T := [38]) (te' := []) hx12 rfl rfl rfl ow29 (Has.s rfl) (Has.s rfl) ElKeeps.flat ElKeeps.flat) ?_
         refine wo (Spec.fieldAddrO fd31_1 (Has.cv (Has.s rfl) (Cv.isvP rfl))) ?_
         refine ws (Step.storeF (i := 1) (f := Fact.ow [38] [] 3 (x12 : List Int)) rfl ty29 rfl (Has.s rfl) rfl (Has.cv (Has.s rfl) (Cv.trans Cv.owSl (Cv.slRep (T' := [38]) rfl rfl))) (Has.s rfl) rfl) ?_
         refine Walk.nil ?_
         refine Leaf.blockN ?_
         exact Leaf.join (x12, j10) hm (st (sn (sn (sn (sn (sn (su (st (st (sf (sf (sf (sf (sf (sf (sf (sm (sm (sf (sf (sf (sf (sg (sf (Sub.cons (Has.at (HasG.cv (HasG.s rfl) (Cv.owF (T := [38]) (te := []) rfl))) (sf (Sub.cons (Has.at (HasG.cv (HasG.s rfl) (Cv.owF (T := [36]) (te := []) rfl))) (sn (sn (sn (sn (sn Sub.nil))))))))))))))))))))))))))))))))
        ·have hm := cond_f hb hm
         refine CWalk.skip ?_
         refine Leaf.blockN ?_
         exact Leaf.join (s4, j10) hm (st (sn (sn (sn (sn (sn (su (st (st (sf (sf (sf (sf (sf (sf (sf (sm (sm (sf (sf (sf (sf (sg (sf (Sub.cons (Has.at (HasG.cv (HasG.s rfl) (Cv.owF (T := [38]) (te := []) rfl))) (sf (Sub.cons (Has.at (HasG.cv (HasG.s rfl) (Cv.owF (T := [36]) (te := []) rfl))) (sn (sn (sn (sn (sn Sub.nil))))))))))))))))))))))))))))))))
       ·refine CWalk.seq ?_
        refine CWalk.region ?_
        refine mv ?_
        refine Walk.nil ?_
        refine Leaf.thenN ?_
        refine CWalk.cond rfl (fun hb => ?_) (fun hb => ?_)
        ·have hm := cond_t hb hm
         refine CWalk.region ?_
         refine wo (Spec.fieldAddrO fd31_1 (Has.cv (Has.s rfl) (Cv.isvP rfl))) ?_
         refine wo (Spec.loadF (i := 1) ty29 rfl (Has.s rfl) rfl (HasG.s rfl)) ?_
         refine mv ?_
         refine wo (Spec.lit (xs := [.tmp 53]) (T := []) 35 rfl ow29 rfl rfl rfl rfl (HasEach.cons (Has.fl (Has.s rfl)) HasEach.nil)) ?_
         obtain ⟨x13, hx13, hm⟩ := bind_some hm
         refine ws (Step.appendOw (T := [36]) (te' := []) hx13 rfl rfl rfl ow29 (Has.s rfl) (Has.s rfl) ElKeeps.flat ElKeeps.flat) ?_
         refine wo (Spec.fieldAddrO fd31_1 (Has.cv (Has.s rfl) (Cv.isvP rfl))) ?_
         refine ws (Step.storeF (i := 1) (f := Fact.ow [36] [] 3 (x13 : List Int)) rfl ty29 rfl (Has.s rfl) rfl (Has.cv (Has.s rfl) (Cv.trans Cv.owSl (Cv.slRep (T' := [36]) rfl rfl))) (Has.s rfl) rfl) ?_
         refine Walk.nil ?_
         exact Leaf.join x13 hm (st (sn (sn (sn (sn (sn (st (su (st (st (sf (sf (sf (sf (sf (sf (sf (sm (sm (sf (sf (sf (sf (sg (sf (Sub.cons (Has.at (HasG.cv (HasG.s rfl) (Cv.owF (T := [38]) (te := []) rfl))) (sf (Sub.cons (Has.at (HasG.cv (HasG.s rfl) (Cv.owF (T := [36]) (te := []) rfl))) (sn (sn (sn (sn (sn Sub.nil)))))))))))))))))))))))))))))))))
        ·have hm := cond_f hb hm
         refine CWalk.skip ?_
         exact Leaf.join s5 hm (st (sn (sn (sn (sn (sn (st (su (st (st (sf (sf (sf (sf (sf (sf (sf (sm (sm (sf (sf (sf (sf (sg (sf (Sub.cons (Has.at (HasG.cv (HasG.s rfl) (Cv.owF (T := [38]) (te := []) rfl))) (sf (Sub.cons (Has.at (HasG.cv (HasG.s rfl) (Cv.owF (T := [36]) (te := []) rfl))) (sn (sn (sn (sn (sn Sub.nil)))))))))))))))))))))))))))))))))
     ·have hm := cond_f hb hm
      refine CWalk.exit ?_
      refine Leaf.thenE ?_
      exact Leaf.brk hm (fun h => nomatch h) rfl (st (sn (sn (sn (sn (sn (sf (sf (sf (sf (sf (sf (sf (sm (sm (sf (sf (sf (sf (sg (sf (Sub.cons (Has.at (HasG.cv (HasG.s rfl) (Cv.owF (T := [38]) (te := []) rfl))) (sf (Sub.cons (Has.at (HasG.cv (HasG.s rfl) (Cv.owF (T := [36]) (te := []) rfl))) (sn (sn (sn (sn (sn Sub.nil)))))))))))))))))))))))))))))
    ·intro _
     refine Leaf.blockE ?_
     refine Leaf.thenN ?_
     refine CWalk.seq ?_
     refine CWalk.seq ?_
     refine CWalk.region ?_
     refine wo (Spec.fieldAddrO fd31_1 (Has.cv (Has.s rfl) (Cv.isvP rfl))) ?_
     refine wo (Spec.loadF (i := 1) ty29 rfl (Has.s rfl) rfl (HasG.s rfl)) ?_
     refine wo (Spec.len (Has.cv (Has.s rfl) (Cv.trans Cv.owSl (Cv.slRep (T' := [38]) rfl rfl))) Try.underlying29) ?_
     refine wo (Spec.eqlI (Has.s rfl) Has.int) ?_
     refine Walk.nil ?_
     refine Leaf.thenN ?_
     refine CWalk.cond rfl (fun hb => ?_) (fun hb => ?_)
     ·have hm := cond_t hb hm
      refine CWalk.seq ?_
      refine CWalk.region ?_
      refine wo (Spec.build (us := [(0, .const (.int .u8 1))]) (ls' := [(false, 1, Fact.rep [] ((1 : UInt8) : UInt8)), (false, 1, Fact.nilv)]) bd31 rfl (BP.cons rfl rfl (Has.u8 1 rfl) (Has.u8 1 rfl) BP.nil)) ?_
      refine ws (Step.storeObj (ls := [(false, 1, Fact.rep [] ((1 : UInt8) : UInt8)), (false, 1, Fact.nilv)]) rfl ty31 rfl rfl (Has.s rfl) rfl (HasL.flds (Has.s rfl)) rfl) ?_
      refine wo (Spec.assign Has.int) ?_
      refine Walk.nil ?_
      refine Leaf.thenN ?_
      refine CWalk.ret ?_
      refine Leaf.thenR ?_
      obtain rfl := Option.some.inj hm
      exact Leaf.retC2 rfl (HasR.cv (HasR.obj (ls := [(false, 1, Fact.rep [] ((1 : UInt8) : UInt8)), (false, 1, Fact.nilv)]) ty31 rfl rfl (Has.s rfl) rfl (HasGs.cons (HasG.s rfl) (HasGs.cons (HasG.s rfl) HasGs.nil))) (Cv.flds (CvL.cons Cv.fl (CvL.cons (Cv.trans (Cv.nil (T := [])) (Cv.m rfl)) CvL.nil)))) (HasR.cv (HasR.tmp (Has.s rfl)) Cv.fl)
     ·have hm := cond_f hb hm
      refine CWalk.skip ?_
      refine Leaf.thenN ?_
      refine CWalk.seq ?_
      refine CWalk.region ?_
      refine wo (Spec.fieldAddrO fd31_1 (Has.cv (Has.s rfl) (Cv.isvP rfl))) ?_
      refine wo (Spec.loadF (i := 1) ty29 rfl (Has.s rfl) rfl (HasG.s rfl)) ?_
      refine wo (Spec.fieldAddrO fd24_1 (Has.cv (Has.s rfl) (Cv.isvP rfl))) ?_
      refine wo (Spec.loadF (i := 1) ty3 rfl (Has.s rfl) rfl (HasG.s rfl)) ?_
      refine wo (Spec.subI (Has.s rfl) Has.int) ?_
      refine wo (Spec.lit (xs := [.tmp 80]) (T := []) 39 rfl ow29 rfl rfl rfl rfl (HasEach.cons (Has.fl (Has.s rfl)) HasEach.nil)) ?_
      obtain ⟨x15, hx15, hm⟩ := bind_some hm
      refine ws (Step.appendOw (T := [36]) (te' := []) hx15 rfl rfl rfl ow29 (Has.s rfl) (Has.s rfl) ElKeeps.flat ElKeeps.flat) ?_
      refine wo (Spec.fieldAddrO fd31_1 (Has.cv (Has.s rfl) (Cv.isvP rfl))) ?_
      refine ws (Step.storeF (i := 1) (f := Fact.ow [36] [] 3 (x15 : List Int)) rfl ty29 rfl (Has.s rfl) rfl (Has.cv (Has.s rfl) (Cv.trans Cv.owSl (Cv.slRep (T' := [36]) rfl rfl))) (Has.s rfl) rfl) ?_
      refine Walk.nil ?_
      refine Leaf.thenN ?_
      refine CWalk.seq ?_
      obtain ⟨x16, hx16, hm⟩ := bind_some hm
      obtain ⟨x17, hx17, hm⟩ := bind_some hm
      obtain ⟨x18, hx18, hm⟩ := bind_some hm
      refine CWalk.drawM [[], [], [1], [], [0, 1, 2, 3], [], [], [5, 6], [0, 1, 2, 3, 4, 5, 6, 7], [0, 1, 2, 3, 4, 5, 6, 7, 8], [], [0, 1, 2, 3, 4, 5, 6, 7, 8, 9, 10]] [[.fact 84 (.flds [(false, 1, Fact.rep [] a0.Id), (false, 1, Fact.rep [] a0.Members), (false, 1, Fact.rep [] a0.Chunk), (false, 1, Fact.rep [] a0.Rows), (false, 1, Fact.rep [] a0.Log), (false, 1, Fact.rep [] a0.Heads)])], [.fact 85 (.pto 17 0)], [.fact 86 (.rep [] a1.Stripe)], [.fact 87 (.rep [] (a2 : Int))], [.fact 88 (.rep [] (x16 : Int))], [.fact 89 (.flds [(false, 1, Fact.rep [] ((2 : UInt8) : UInt8)), (false, 1, Fact.ow [38] [] 3 (b14.1 : List Int))])], [.fact 90 (.flds [(false, 1, Fact.rep [] ((3 : UInt8) : UInt8)), (false, 1, Fact.ow [36] [] 3 (x15 : List Int))])], [.fact 91 (.rep [41, 36, 38] ([(Plan.mk (2 : UInt8) b14.1), (Plan.mk (3 : UInt8) x15)] : List Plan))], [.fact 92 (.ow [42] [43, 36, 38, 41] 31 (x17 : List Plan))], [.fact 93 (.flds [(false, 1, Fact.rep [] x18.Kind), (false, 1, Fact.rep [44, 36, 38, 41, 42, 43] x18.Reads)])], [.fact 13 (.isv 45), .fact 100045 (.obj 45 [(false, 1), (false, 1)]), .fact 100046 (.at 46 (.rep [] ((0 : UInt8) : UInt8))), .fact 100047 (.at 47 (.nilv)), .killId 45, .killId 46, .killId 47], [.fact 100045 (.obj 45 [(false, 1), (false, 1)]), .fact 100046 (.at 46 (.rep [] x18.Kind)), .fact 100047 (.at 47 (.rep [44, 36, 38, 41, 42, 43] x18.Reads)), .kill 45, .killId 46, .killId 47]] mixed (by kernel_rfl) (ao (so (Spec.loadObj (ls := [(false, 1, Fact.rep [] a0.Id), (false, 1, Fact.rep [] a0.Members), (false, 1, Fact.rep [] a0.Chunk), (false, 1, Fact.rep [] a0.Rows), (false, 1, Fact.rep [] a0.Log), (false, 1, Fact.rep [] a0.Heads)]) ty24 rfl rfl (Has.s rfl) rfl (HasGs.cons (HasG.s rfl) (HasGs.cons (HasG.s rfl) (HasGs.cons (HasG.s rfl) (HasGs.cons (HasG.s rfl) (HasGs.cons (HasG.s rfl) (HasGs.cons (HasG.s rfl) HasGs.nil)))))))) (ao (so (Spec.fieldAddrO fd28_0 (Has.cv (Has.s rfl) (Cv.isvP rfl)))) (ao (so (Spec.loadF (i := 0) ty3 rfl (Has.s rfl) rfl (HasG.s rfl))) (ao (so (Spec.move (Has.s rfl))) (ao (so (Spec.callE [] 40 rfl en42 (plan_lost_c a0 a1.Stripe a2 hx16) (HasAll.cons (Has.fl (Has.cv (Has.s rfl) (Cv.trans (Cv.flds (CvL.cons Cv.fl (CvL.cons Cv.fl (CvL.cons Cv.fl (CvL.cons Cv.fl (CvL.cons Cv.fl (CvL.cons Cv.fl CvL.nil))))))) (Cv.close (T := []) (chConfig a0))))) (HasAll.cons (Has.fl (Has.s rfl)) (HasAll.cons (Has.fl (Has.s rfl)) HasAll.nil))))) (ao (so (Spec.loadObj (ls := [(false, 1, Fact.rep [] ((2 : UInt8) : UInt8)), (false, 1, Fact.ow [38] [] 3 (b14.1 : List Int))]) ty31 rfl rfl (Has.s rfl) rfl (HasGs.cons (HasG.s rfl) (HasGs.cons (HasG.s rfl) HasGs.nil)))) (ao (so (Spec.loadObj (ls := [(false, 1, Fact.rep [] ((3 : UInt8) : UInt8)), (false, 1, Fact.ow [36] [] 3 (x15 : List Int))]) ty31 rfl rfl (Has.s rfl) rfl (HasGs.cons (HasG.s rfl) (HasGs.cons (HasG.s rfl) HasGs.nil)))) (ao (so (Spec.lit (xs := [.tmp 89, .tmp 90]) (T := [36, 38]) 41 rfl ow77 rfl rfl rfl rfl (HasEach.cons (Has.m (Has.cv (Has.s rfl) (Cv.trans (Cv.flds (CvL.cons Cv.fl (CvL.cons (Cv.trans (Cv.trans Cv.owSl (Cv.slRep (T' := [38]) rfl rfl)) (Cv.m rfl)) CvL.nil))) (Cv.close (T := [38]) (chPlan (Plan.mk (2 : UInt8) b14.1))))) rfl) (HasEach.cons (Has.m (Has.cv (Has.s rfl) (Cv.trans (Cv.flds (CvL.cons Cv.fl (CvL.cons (Cv.trans (Cv.trans Cv.owSl (Cv.slRep (T' := [36]) rfl rfl)) (Cv.m rfl)) CvL.nil))) (Cv.close (T := [36]) (chPlan (Plan.mk (3 : UInt8) x15))))) rfl) HasEach.nil)))) (ao (so (Spec.callE [36, 38, 41] 42 rfl en41 (plan_some_c x16 ([(Plan.mk (2 : UInt8) b14.1), (Plan.mk (3 : UInt8) x15)]) hx17) (HasAll.cons (Has.fl (Has.s rfl)) (HasAll.cons (Has.m (Has.s rfl) rfl) HasAll.nil)))) (ao (so (Spec.callE [36, 38, 41, 42, 43] 44 rfl en40 (slices_MinFunc_api_Plan_api_Plan_c x17 (fun y => plan_Of_1 y.1 y.2) hx18) (HasAll.cons (Has.m (Has.cv (Has.s rfl) (Cv.trans Cv.owSl (Cv.slRep (T' := [36, 38, 41, 42, 43]) rfl rfl))) rfl) (HasAll.cons (Has.cv Has.func (Cv.fn (pu := []) (pc := []) (shc := []) en43 CvF.nil CvF.nil (fun y r h => plan_Of_1_c y.1 y.2 h))) HasAll.nil)))) (ao (StepG.stE (Step.allocObj (ls := [(false, 1, Fact.rep [] ((0 : UInt8) : UInt8)), (false, 1, Fact.nilv)]) 45 rfl rfl rfl rfl zl31)) (ao (StepG.stE (Step.storeObj (ls := [(false, 1, Fact.rep [] x18.Kind), (false, 1, Fact.rep [44, 36, 38, 41, 42, 43] x18.Reads)]) rfl ty31 rfl rfl (Has.s rfl) rfl (HasL.flds (Has.s rfl)) rfl)) AllM.nil)))))))))))) ?_
      refine Leaf.thenN ?_
      refine CWalk.seq ?_
      refine CWalk.region ?_
      refine wo (Spec.loadObj (ls := [(false, 1, Fact.rep [] x18.Kind), (false, 1, Fact.rep [44, 36, 38, 41, 42, 43] x18.Reads)]) ty31 rfl rfl (Has.s rfl) rfl (HasGs.cons (HasG.s rfl) (HasGs.cons (HasG.s rfl) HasGs.nil))) ?_
      refine ws (Step.storeObj (ls := [(false, 1, Fact.rep [] x18.Kind), (false, 1, Fact.rep [44, 36, 38, 41, 42, 43] x18.Reads)]) rfl ty31 rfl rfl (Has.s rfl) rfl (HasL.flds (Has.s rfl)) rfl) ?_
      refine wo (Spec.assign Has.int) ?_
      refine Walk.nil ?_
      refine Leaf.thenN ?_
      refine CWalk.ret ?_
      obtain rfl := Option.some.inj hm
      exact Leaf.retC2 rfl (HasR.cv (HasR.obj (ls := [(false, 1, Fact.rep [] x18.Kind), (false, 1, Fact.rep [44, 36, 38, 41, 42, 43] x18.Reads)]) ty31 rfl rfl (Has.s rfl) rfl (HasGs.cons (HasG.s rfl) (HasGs.cons (HasG.s rfl) HasGs.nil))) (Cv.flds (CvL.cons Cv.fl (CvL.cons (Cv.m rfl) CvL.nil)))) (HasR.cv (HasR.tmp (Has.s rfl)) Cv.fl)

def law18_off_L1 (a0 : List (List UInt8)) (a1 : Plan) (s1 : List (List UInt8)) (s2 : Int) : Option (Ctl ((List (List UInt8)) × Int) ((List (List UInt8)))) :=
  (bif (decide (s2 < ((a1.Reads).length : Int))) then Option.bind (idx a1.Reads s2) (fun x4 => Option.bind (idx a0 x4) (fun x5 => Option.bind (app s1 ([x5])) (fun x6 => some (Ctl.next (x6, (wI (s2 + (1 : Int)))))))) else some (Ctl.brk s1))
/-- freeboard/freeboardlaw18.off -/
def law18_off (a0 : List (List UInt8)) (a1 : Plan) : Option ((List (List UInt8))) :=
  Option.bind (loopM (fun s : (List (List UInt8)) × Int => law18_off_L1 a0 a1 s.1 s.2) FUEL (([] : List (List UInt8)), (0 : Int))) (fun b7 => some b7)
set_option maxRecDepth 100000 in
set_option maxHeartbeats 2000000 in
theorem law18_off_c (a0 : List (List UInt8)) (a1 : Plan) {r : (List (List UInt8))} (hm : law18_off a0 a1 = some r) : Ctr Try.prog 25 [.rep 0 a0, .rep 0 a1] (.own 0 (some 1) 36 r) [1] := by
 refine ctr_of_walk [[14], [0, 13]] 26 Try.func25 rfl rfl rfl rfl (fun w0 om => ?_)
 unfold law18_off at hm
 refine CWalk.sub (G' := [.fact 0 (.rep [0] (a0 : List (List UInt8))), .fact 1 (.rep [0] (a1 : Plan))]) (sn (sn Sub.nil)) ?_
 refine CWalk.seq ?_
 refine CWalk.region ?_
 refine ws (Step.boxObj (ls := [(false, 1, Fact.rep [] a1.Kind), (false, 1, Fact.rep [0] a1.Reads)]) 10 rfl rfl rfl rfl (HasL.flds (Has.cv (Has.s rfl) (Cv.trans (Cv.opens (chPlan a1)) (Cv.flds (CvL.cons Cv.fl (CvL.cons Cv.refl CvL.nil))))))) ?_
 refine wo (Spec.assign Has.nilv) ?_
 refine Walk.nil ?_
 refine Leaf.thenN ?_
 refine CWalk.seq ?_
 refine CWalk.region ?_
 refine wo (Spec.assign Has.nilv) ?_
 refine Walk.nil ?_
 refine Leaf.thenN ?_
 refine CWalk.seq ?_
 refine CWalk.seq ?_
 refine CWalk.region ?_
 refine wo (Spec.assign Has.int) ?_
 refine Walk.nil ?_
 refine Leaf.thenN ?_
 refine CWalk.block ?_
 obtain ⟨b7, hb7, hm⟩ := bind_some hm
 refine CWalk.loop (fun s : (List (List UInt8)) × Int => [.fact 0 (.rep [0] (a0 : List (List UInt8))), .fact 3 (.isv 10), .fact 5 (.ow [14] [0, 13] 36 (s.1 : List (List UInt8))), .fact 6 (.rep [] s.2), .fact 100011 (.at 11 (.rep [] a1.Kind)), .fact 100012 (.at 12 (.rep [0] a1.Reads)), .fact 100010 (.obj 10 [(false, 1), (false, 1)])]) (fun b : (List (List UInt8)) => (Exit.exit 0, [.fact 5 (.ow [14] [0, 13] 36 (b : List (List UInt8)))])) hb7 (su (sn (Sub.cons (Has.cv (Has.s rfl) (Cv.trans Cv.nilOw (Cv.owM (T := []) (te := []) rfl rfl))) (st (sf (sm (sn Sub.nil))))))) ?_ ?_
 ·rintro ⟨s1, s2⟩ c3 hm
  replace hm : law18_off_L1 a0 a1 s1 s2 = some c3 := hm
  unfold law18_off_L1 at hm
  show CWalk _ [.fact 0 (.rep [0] (a0 : List (List UInt8))), .fact 3 (.isv 10), .fact 5 (.ow [14] [0, 13] 36 (s1 : List (List UInt8))), .fact 6 (.rep [] (s2 : Int)), .fact 100011 (.at 11 (.rep [] a1.Kind)), .fact 100012 (.at 12 (.rep [0] a1.Reads)), .fact 100010 (.obj 10 [(false, 1), (false, 1)])] _ _
  refine CWalk.seq ?_
  refine CWalk.seq ?_
  refine CWalk.region ?_
  refine mv ?_
  refine wo (Spec.fieldAddrO fd31_1 (Has.cv (Has.s rfl) (Cv.isvP rfl))) ?_
  refine wo (Spec.loadF (i := 1) ty29 rfl (Has.s rfl) rfl (HasG.s rfl)) ?_
  refine wo (Spec.len (Has.s rfl) Try.underlying29) ?_
  refine wo (Spec.lssI (Has.s rfl) (Has.s rfl)) ?_
  refine Walk.nil ?_
  refine Leaf.thenN ?_
  refine CWalk.cond rfl (fun hb => ?_) (fun hb => ?_)
  ·have hm := cond_t hb hm
   refine CWalk.skip ?_
   refine Leaf.thenN ?_
   refine CWalk.seq ?_
   refine CWalk.block ?_
   refine CWalk.region ?_
   refine mv ?_
   refine mv ?_
   refine wo (Spec.fieldAddrO fd31_1 (Has.cv (Has.s rfl) (Cv.isvP rfl))) ?_
   refine wo (Spec.loadF (i := 1) ty29 rfl (Has.s rfl) rfl (HasG.s rfl)) ?_
   refine mv ?_
   obtain ⟨x4, hx4, hm⟩ := bind_some hm
   refine wo (Spec.indexAddr hx4 sl29 (Has.s rfl) (Has.s rfl)) ?_
   refine wo ((Spec.load ty3 (Has.s rfl)).flat (T' := [])) ?_
   obtain ⟨x5, hx5, hm⟩ := bind_some hm
   refine wo (Spec.indexAddr hx5 sl25 (Has.s rfl) (Has.s rfl)) ?_
   refine wo (Spec.load ty36 (Has.s rfl)) ?_
   refine wo (Spec.lit (xs := [.tmp 22]) (T := [0]) 13 rfl ow25 rfl rfl rfl rfl (HasEach.cons (Has.m (Has.s rfl) rfl) HasEach.nil)) ?_
   obtain ⟨x6, hx6, hm⟩ := bind_some hm
   refine ws (Step.appendOw (T := [14]) (te' := [0, 13]) hx6 rfl rfl rfl ow25 (Has.s rfl) (Has.s rfl) (ElKeeps.tags rfl rfl) (ElKeeps.tags rfl rfl)) ?_
   refine wo (Spec.assign (Has.s rfl)) ?_
   refine Walk.nil ?_
   refine Leaf.blockN ?_
   refine Leaf.thenN ?_
   refine CWalk.region ?_
   refine mv ?_
   refine wo (Spec.addI (Has.s rfl) Has.int) ?_
   refine wo (Spec.assign (Has.s rfl)) ?_
   refine Walk.nil ?_
   exact Leaf.next hm (su (sn (Sub.cons (Has.cv (Has.s rfl) (Cv.owM (T := [14]) (te := [0, 13]) rfl rfl)) (st (sf (sm (sn Sub.nil)))))))
  ·have hm := cond_f hb hm
   refine CWalk.exit ?_
   refine Leaf.thenE ?_
   exact Leaf.brk hm (fun h => nomatch h) rfl (Sub.cons (Has.cv (Has.s rfl) (Cv.owM (T := [14]) (te := [0, 13]) rfl rfl)) Sub.nil)
 ·intro _
  refine Leaf.blockE ?_
  refine Leaf.thenN ?_
  refine CWalk.seq ?_
  refine CWalk.region ?_
  refine mv ?_
  refine wo (Spec.assign (Has.s rfl)) ?_
  refine Walk.nil ?_
  refine Leaf.thenN ?_
  refine CWalk.ret ?_
  obtain rfl := Option.some.inj hm
  exact Leaf.retC1 rfl (HasR.cv (HasR.tmp (Has.s rfl)) (Cv.owM (T := [14]) (te := [0, 13]) rfl rfl))

def law18_EvenOnce_J2 (s9 : Int) (j17 : Int) (j18 : List (List UInt8)) (j19 : Int) (j20 : List (List UInt8)) (j21 : List Bool) (j22 : UInt8) (j23 : Bool) (j24 : UInt32) : Option (Ctl (Int × (List (List UInt8)) × Int × Int × (List (List UInt8)) × (List Bool) × UInt8 × Bool × UInt32) (((List (List UInt8)) × Int × (List (List UInt8)) × (List Bool) × UInt8 × Bool × UInt32) ⊕ (Unit))) :=
  (bif (j17 != (0 : Int)) then some (Ctl.brk (Sum.inr ())) else some (Ctl.next (j17, j18, (wI (s9 + (1 : Int))), j19, j20, j21, j22, j23, j24)))
def law18_EvenOnce_L1 (a0 : Config) (a2 : List (List UInt8)) (a3 : List (List UInt8)) (a4 : List Bool) (s7 : Int) (s8 : List (List UInt8)) (s9 : Int) (s10 : Int) (s11 : List (List UInt8)) (s12 : List Bool) (s13 : UInt8) (s14 : Bool) (s15 : UInt32) : Option (Ctl (Int × (List (List UInt8)) × Int × Int × (List (List UInt8)) × (List Bool) × UInt8 × Bool × UInt32) (((List (List UInt8)) × Int × (List (List UInt8)) × (List Bool) × UInt8 × Bool × UInt32) ⊕ (Unit))) :=
  (bif (decide (s9 < ((a2).length : Int))) then Option.bind (gO ((decide (s9 < ((a3).length : Int)))) (idx a3 s9)) (fun x25 => (bif ((decide (s9 < ((a3).length : Int))) && (((x25).length : Int) == (128 : Int))) then Option.bind (idx a3 s9) (fun x26 => Option.bind (head_Take a0 (Head.mk s10 s11 s12 s13 s14 s15) s9 x26) (fun x27 => Option.bind (idx a3 s9) (fun x28 => Option.bind (bnd (s8).length s9) (fun x29 => (law18_EvenOnce_J2 s9 x27.2 ((s8).set x29 x28) x27.1.Stripe x27.1.Blocks x27.1.Dirty x27.1.Phase x27.1.Deals x27.1.Seq))))) else Option.bind (gO ((decide (s9 < ((a4).length : Int)))) (idx a4 s9)) (fun x30 => (bif ((decide (s9 < ((a4).length : Int))) && x30) then Option.bind (idx a2 s9) (fun x31 => Option.bind (head_Know a0 (Head.mk s10 s11 s12 s13 s14 s15) s9 x31) (fun x32 => (law18_EvenOnce_J2 s9 x32.2 s8 x32.1.Stripe x32.1.Blocks x32.1.Dirty x32.1.Phase x32.1.Deals x32.1.Seq))) else (law18_EvenOnce_J2 s9 s7 s8 s10 s11 s12 s13 s14 s15))))) else some (Ctl.brk (Sum.inl (s8, s10, s11, s12, s13, s14, s15))))
def law18_EvenOnce_L3 (a0 : Config) (x5 : List (List UInt8)) (b34 : (List (List UInt8)) × Int × (List (List UInt8)) × (List Bool) × UInt8 × Bool × UInt32) (x36 : (List UInt8) × Int) (s37 : Int) : Option (Ctl (Int) ((Unit) ⊕ (Unit))) :=
  (bif (decide (s37 < a0.Members)) then Option.bind (plan_Of a0 (Head.mk b34.2.1 b34.2.2.1 b34.2.2.2.1 b34.2.2.2.2.1 b34.2.2.2.2.2.1 b34.2.2.2.2.2.2) s37) (fun x39 => Option.bind (law18_off x5 x39.1) (fun x40 => Option.bind (even_Parity a0 (Head.mk b34.2.1 b34.2.2.1 b34.2.2.2.1 b34.2.2.2.2.1 b34.2.2.2.2.2.1 b34.2.2.2.2.2.2) x39.1 x40) (fun x41 => (bif ((((x39.2 != (0 : Int)) || (x41.2 != (0 : Int))) || (x36.2 != (0 : Int))) || (!((Str.mk x41.1).s == (Str.mk x36.1).s))) then some (Ctl.brk (Sum.inr ())) else some (Ctl.next (wI (s37 + (1 : Int)))))))) else some (Ctl.brk (Sum.inl ())))
/-- freeboard/freeboardlaw18.EvenOnce -/
def law18_EvenOnce (a0 : Config) (a1 : Int) (a2 : List (List UInt8)) (a3 : List (List UInt8)) (a4 : List Bool) : Option (Bool) :=
  Option.bind (law18_alive) (fun x1 => Option.bind (head_New a0 a1) (fun x2 => (bif ((((x2.2 != (0 : Int)) || (((a2).length : Int) != (wI (a0.Members - (1 : Int))))) || (decide (((a3).length : Int) > ((a2).length : Int)))) || (!x1)) then some x1 else Option.bind (fold_Fold a2) (fun x3 => (bif (x3.2 != (0 : Int)) then some true else Option.bind (app ([] : List (List UInt8)) a2) (fun x4 => Option.bind (app x4 ([x3.1])) (fun x5 => Option.bind (app ([] : List (List UInt8)) a2) (fun x6 => Option.bind (loopM (fun s : Int × (List (List UInt8)) × Int × Int × (List (List UInt8)) × (List Bool) × UInt8 × Bool × UInt32 => law18_EvenOnce_L1 a0 a2 a3 a4 s.1 s.2.1 s.2.2.1 s.2.2.2.1 s.2.2.2.2.1 s.2.2.2.2.2.1 s.2.2.2.2.2.2.1 s.2.2.2.2.2.2.2.1 s.2.2.2.2.2.2.2.2) FUEL (x2.2, x6, (0 : Int), x2.1.Stripe, x2.1.Blocks, x2.1.Dirty, x2.1.Phase, x2.1.Deals, x2.1.Seq)) (fun b33 => Sum.elim (fun b34 => Option.bind (ref16_Dirty (Head.mk b34.2.1 b34.2.2.1 b34.2.2.2.1 b34.2.2.2.2.1 b34.2.2.2.2.2.1 b34.2.2.2.2.2.2)) (fun x35 => (bif (!x35) then some true else Option.bind (fold_Fold b34.1) (fun x36 => Option.bind (loopM (fun s : Int => law18_EvenOnce_L3 a0 x5 b34 x36 s) FUEL (-1 : Int)) (fun b42 => Sum.elim (fun b43 => Option.bind (app b34.1 ([x36.1])) (fun x44 => Option.bind (fold_Fold x44) (fun x45 => Option.bind (gO ((x45.2 == (0 : Int))) (law18_full (0 : UInt8))) (fun x46 => some ((x45.2 == (0 : Int)) && ((Str.mk x45.1).s == (Str.mk x46).s)))))) (fun b47 => some false) b42))))) (fun b48 => some false) b33)))))))))
set_option maxRecDepth 100000 in
set_option maxHeartbeats 2000000 in
theorem law18_EvenOnce_c (a0 : Config) (a1 : Int) (a2 : List (List UInt8)) (a3 : List (List UInt8)) (a4 : List Bool) {r : Bool} (hm : law18_EvenOnce a0 a1 a2 a3 a4 = some r) : Ctr Try.prog 6 [.rep 0 a0, .rep 0 a1, .rep 0 a2, .rep 0 a3, .rep 0 a4] (.fl r) [] := by
 refine ctr_of_walk [[]] 195 Try.func6 rfl rfl rfl rfl (fun w0 om => ?_)
 unfold law18_EvenOnce at hm
 refine CWalk.sub (G' := [.fact 0 (.rep [] (a0 : Config)), .fact 1 (.rep [] (a1 : Int)), .fact 2 (.rep [0] (a2 : List (List UInt8))), .fact 3 (.rep [0] (a3 : List (List UInt8))), .fact 4 (.rep [0] (a4 : List Bool))]) (Sub.cons (Has.fl (Has.s rfl)) (Sub.cons (Has.fl (Has.s rfl)) (sn (sn (sn Sub.nil))))) ?_
 refine CWalk.seq ?_
 refine CWalk.region ?_
 refine ws (Step.boxObj (ls := [(false, 1, Fact.rep [] a0.Id), (false, 1, Fact.rep [] a0.Members), (false, 1, Fact.rep [] a0.Chunk), (false, 1, Fact.rep [] a0.Rows), (false, 1, Fact.rep [] a0.Log), (false, 1, Fact.rep [] a0.Heads)]) 10 rfl rfl rfl rfl (HasL.flds (Has.cv (Has.s rfl) (Cv.trans (Cv.opens (chConfig a0)) (Cv.flds (CvL.cons Cv.fl (CvL.cons Cv.fl (CvL.cons Cv.fl (CvL.cons Cv.fl (CvL.cons Cv.fl (CvL.cons Cv.fl CvL.nil))))))))))) ?_
 refine wo (Spec.assign Has.bool) ?_
 refine Walk.nil ?_
 refine Leaf.thenN ?_
 refine CWalk.seq ?_
 refine CWalk.region ?_
 obtain ⟨x1, hx1, hm⟩ := bind_some hm
 refine wo (f := Fact.rep [] (x1 : Bool)) (Spec.callE [] 17 rfl en18 (law18_alive_c  hx1) HasAll.nil) ?_
 refine wo (Spec.assign (Has.s rfl)) ?_
 refine Walk.nil ?_
 refine Leaf.thenN ?_
 refine CWalk.seq ?_
 refine CWalk.region ?_
 refine wo (Spec.loadObj (ls := [(false, 1, Fact.rep [] a0.Id), (false, 1, Fact.rep [] a0.Members), (false, 1, Fact.rep [] a0.Chunk), (false, 1, Fact.rep [] a0.Rows), (false, 1, Fact.rep [] a0.Log), (false, 1, Fact.rep [] a0.Heads)]) ty24 rfl rfl (Has.s rfl) rfl (HasGs.cons (HasG.s rfl) (HasGs.cons (HasG.s rfl) (HasGs.cons (HasG.s rfl) (HasGs.cons (HasG.s rfl) (HasGs.cons (HasG.s rfl) (HasGs.cons (HasG.s rfl) HasGs.nil))))))) ?_
 refine mv ?_
 obtain ⟨x2, hx2, hm⟩ := bind_some hm
 refine wo (f := Fact.tup2 (Fact.flds [(false, 1, Fact.rep [] x2.1.Stripe), (false, 1, Fact.ow [18] [] 36 (x2.1.Blocks : List (List UInt8))), (false, 1, Fact.ow [19] [] 4 (x2.1.Dirty : List Bool)), (false, 1, Fact.rep [] x2.1.Phase), (false, 1, Fact.rep [] x2.1.Deals), (false, 1, Fact.rep [] x2.1.Seq)]) (Fact.rep [] x2.2)) (Spec.callE [] 18 rfl en17 (head_New_c a0 a1 hx2) (HasAll.cons (Has.fl (Has.cv (Has.s rfl) (Cv.trans (Cv.flds (CvL.cons Cv.fl (CvL.cons Cv.fl (CvL.cons Cv.fl (CvL.cons Cv.fl (CvL.cons Cv.fl (CvL.cons Cv.fl CvL.nil))))))) (Cv.close (T := []) (chConfig a0))))) (HasAll.cons (Has.fl (Has.s rfl)) HasAll.nil))) ?_
 refine mv ?_
 refine wo (Spec.ext0 (Has.s rfl)) ?_
 refine wo (Spec.ext1 (Has.s rfl)) ?_
 refine ws (Step.allocObj (ls := [(false, 1, Fact.rep [] ((0 : Int) : Int)), (false, 1, Fact.nilv), (false, 1, Fact.nilv), (false, 1, Fact.rep [] ((0 : UInt8) : UInt8)), (false, 1, Fact.rep [] (false : Bool)), (false, 1, Fact.rep [] ((0 : UInt32) : UInt32))]) 20 rfl rfl rfl rfl zl28) ?_
 refine ws (Step.storeObj (ls := [(false, 1, Fact.rep [] x2.1.Stripe), (false, 1, Fact.ow [18] [] 36 (x2.1.Blocks : List (List UInt8))), (false, 1, Fact.ow [19] [] 4 (x2.1.Dirty : List Bool)), (false, 1, Fact.rep [] x2.1.Phase), (false, 1, Fact.rep [] x2.1.Deals), (false, 1, Fact.rep [] x2.1.Seq)]) rfl ty28 rfl rfl (Has.s rfl) rfl (HasL.flds (Has.s rfl)) rfl) ?_
 refine wo (Spec.assign (Has.s rfl)) ?_
 refine Walk.nil ?_
 refine Leaf.thenN ?_
 refine CWalk.seq ?_
 refine CWalk.seq ?_
 refine CWalk.region ?_
 refine mv ?_
 refine wo (Spec.neqI (Has.s rfl) Has.int) ?_
 refine mv ?_
 refine wg rfl rfl (fun hb => Spec.move (Has.s rfl)) ?_
 refine wg rfl rfl (fun hb => Spec.len (Has.u rfl hb) Try.underlying25) ?_
 refine wg rfl rfl (fun hb => Spec.fieldAddrO fd24_1 (Has.cv (Has.s rfl) (Cv.isvP rfl))) ?_
 refine wg rfl rfl (fun hb => Spec.loadF (i := 1) ty3 rfl (Has.u rfl hb) rfl (HasG.s rfl)) ?_
 refine wg rfl rfl (fun hb => Spec.subI (Has.u rfl hb) Has.int) ?_
 refine wg rfl rfl (fun hb => Spec.neqI (Has.u rfl hb) (Has.u rfl hb)) ?_
 refine wo (Spec.or (Has.s rfl) (fun h => Has.u rfl h)) ?_
 refine mv ?_
 refine wg rfl rfl (fun hb => Spec.move (Has.s rfl)) ?_
 refine wg rfl rfl (fun hb => Spec.len (Has.u rfl hb) Try.underlying25) ?_
 refine wg rfl rfl (fun hb => Spec.move (Has.s rfl)) ?_
 refine wg rfl rfl (fun hb => Spec.len (Has.u rfl hb) Try.underlying25) ?_
 refine wg rfl rfl (fun hb => Spec.gtrI (Has.u rfl hb) (Has.u rfl hb)) ?_
 refine wo (Spec.or (Has.s rfl) (fun h => Has.u rfl h)) ?_
 refine mv ?_
 refine wg rfl rfl (fun hb => Spec.move (Has.s rfl)) ?_
 refine wg rfl rfl (fun hb => Spec.not (Has.u rfl hb)) ?_
 refine wo (Spec.or (Has.s rfl) (fun h => Has.u rfl h)) ?_
 refine Walk.nil ?_
 refine Leaf.thenN ?_
 refine CWalk.cond rfl (fun hb => ?_) (fun hb => ?_)
 ·have hm := cond_t hb hm
  refine CWalk.seq ?_
  refine CWalk.region ?_
  refine mv ?_
  refine wo (Spec.assign (Has.s rfl)) ?_
  refine Walk.nil ?_
  refine Leaf.thenN ?_
  refine CWalk.ret ?_
  refine Leaf.thenR ?_
  obtain rfl := Option.some.inj hm
  exact Leaf.retC1 rfl (HasR.cv (HasR.tmp (Has.s rfl)) Cv.fl)
 ·have hm := cond_f hb hm
  refine CWalk.skip ?_
  refine Leaf.thenN ?_
  refine CWalk.seq ?_
  refine CWalk.region ?_
  refine mv ?_
  obtain ⟨x3, hx3, hm⟩ := bind_some hm
  refine wo (f := Fact.tup2 (Fact.sl [27] [] (x3.1 : List UInt8)) (Fact.rep [] x3.2)) (Spec.callE [0] 27 rfl en21 (fold_Fold_c a2 hx3) (HasAll.cons (Has.m (Has.s rfl) rfl) HasAll.nil)) ?_
  refine mv ?_
  refine wo (Spec.ext0 (Has.s rfl)) ?_
  refine wo (Spec.ext1 (Has.s rfl)) ?_
  refine wo (Spec.assign (Has.s rfl)) ?_
  refine wo (Spec.assign (Has.s rfl)) ?_
  refine Walk.nil ?_
  refine Leaf.thenN ?_
  refine CWalk.seq ?_
  refine CWalk.seq ?_
  refine CWalk.region ?_
  refine mv ?_
  refine wo (Spec.neqI (Has.s rfl) Has.int) ?_
  refine Walk.nil ?_
  refine Leaf.thenN ?_
  refine CWalk.cond rfl (fun hb => ?_) (fun hb => ?_)
  ·have hm := cond_t hb hm
   refine CWalk.seq ?_
   refine CWalk.region ?_
   refine wo (Spec.assign Has.bool) ?_
   refine Walk.nil ?_
   refine Leaf.thenN ?_
   refine CWalk.ret ?_
   refine Leaf.thenR ?_
   obtain rfl := Option.some.inj hm
   exact Leaf.retC1 rfl (HasR.cv (HasR.tmp (Has.s rfl)) Cv.fl)
  ·have hm := cond_f hb hm
   refine CWalk.skip ?_
   refine Leaf.thenN ?_
   refine CWalk.seq ?_
   refine CWalk.region ?_
   refine mv ?_
   obtain ⟨x4, hx4, hm⟩ := bind_some hm
   refine wo (Spec.appNilO (te' := [0]) 28 hx4 rfl ow25 Has.nilv (Has.s rfl) (ElKeep.tags rfl rfl)) ?_
   refine mv ?_
   refine wo (Spec.lit (xs := [.tmp 66]) (T := [27]) 29 rfl ow25 rfl rfl rfl rfl (HasEach.cons (Has.m (Has.cv (Has.s rfl) (Cv.slRep (T' := [27]) rfl rfl)) rfl) HasEach.nil)) ?_
   obtain ⟨x5, hx5, hm⟩ := bind_some hm
   refine ws (Step.appendOw (T := [28]) (te' := [0, 27, 29]) hx5 rfl rfl rfl ow25 (Has.s rfl) (Has.s rfl) (ElKeeps.tags rfl rfl) (ElKeeps.tags rfl rfl)) ?_
   refine wo (Spec.assign (Has.s rfl)) ?_
   refine Walk.nil ?_
   refine Leaf.thenN ?_
   refine CWalk.seq ?_
   refine CWalk.region ?_
   refine mv ?_
   obtain ⟨x6, hx6, hm⟩ := bind_some hm
   refine wo (Spec.appNilO (te' := [0]) 30 hx6 rfl ow25 Has.nilv (Has.s rfl) (ElKeep.tags rfl rfl)) ?_
   refine wo (Spec.assign (Has.s rfl)) ?_
   refine Walk.nil ?_
   refine Leaf.thenN ?_
   refine CWalk.seq ?_
   refine CWalk.seq ?_
   refine CWalk.region ?_
   refine wo (Spec.assign Has.int) ?_
   refine Walk.nil ?_
   refine Leaf.thenN ?_
   refine CWalk.block ?_
   obtain ⟨b33, hb33, hm⟩ := bind_some hm
   refine CWalk.loop (fun s : Int × (List (List UInt8)) × Int × Int × (List (List UInt8)) × (List Bool) × UInt8 × Bool × UInt32 => [.fact 2 (.rep [0] (a2 : List (List UInt8))), .fact 3 (.rep [0] (a3 : List (List UInt8))), .fact 4 (.rep [0] (a4 : List Bool)), .fact 5 (.isv 10), .fact 12 (.isv 20), .fact 13 (.rep [] s.1), .fact 16 (.ow [28] [0, 27, 29] 36 (x5 : List (List UInt8))), .fact 17 (.ow [30, 34] [0] 36 (s.2.1 : List (List UInt8))), .fact 18 (.rep [] s.2.2.1), .fact 100011 (.at 11 (.rep [] a0.Id)), .fact 100012 (.at 12 (.rep [] a0.Members)), .fact 100013 (.at 13 (.rep [] a0.Chunk)), .fact 100014 (.at 14 (.rep [] a0.Rows)), .fact 100015 (.at 15 (.rep [] a0.Log)), .fact 100016 (.at 16 (.rep [] a0.Heads)), .fact 100021 (.at 21 (.rep [] s.2.2.2.1)), .fact 100022 (.at 22 (.ow [18, 31, 35] [32, 36] 36 (s.2.2.2.2.1 : List (List UInt8)))), .fact 100023 (.at 23 (.ow [19, 33, 37] [] 4 (s.2.2.2.2.2.1 : List Bool))), .fact 100024 (.at 24 (.rep [] s.2.2.2.2.2.2.1)), .fact 100025 (.at 25 (.rep [] s.2.2.2.2.2.2.2.1)), .fact 100026 (.at 26 (.rep [] s.2.2.2.2.2.2.2.2)), .fact 100010 (.obj 10 [(false, 1), (false, 1), (false, 1), (false, 1), (false, 1), (false, 1)]), .fact 100020 (.obj 20 [(false, 1), (false, 1), (false, 1), (false, 1), (false, 1), (false, 1)])]) (fun b : ((List (List UInt8)) × Int × (List (List UInt8)) × (List Bool) × UInt8 × Bool × UInt32) ⊕ (Unit) => Sum.elim (fun b => (Exit.exit 0, [.fact 5 (.isv 10), .fact 12 (.isv 20), .fact 16 (.ow [28] [0, 27, 29] 36 (x5 : List (List UInt8))), .fact 17 (.ow [30, 34] [0] 36 (b.1 : List (List UInt8))), .fact 100011 (.at 11 (.rep [] a0.Id)), .fact 100012 (.at 12 (.rep [] a0.Members)), .fact 100013 (.at 13 (.rep [] a0.Chunk)), .fact 100014 (.at 14 (.rep [] a0.Rows)), .fact 100015 (.at 15 (.rep [] a0.Log)), .fact 100016 (.at 16 (.rep [] a0.Heads)), .fact 100021 (.at 21 (.rep [] b.2.1)), .fact 100022 (.at 22 (.ow [18, 31, 35] [32, 36] 36 (b.2.2.1 : List (List UInt8)))), .fact 100023 (.at 23 (.ow [19, 33, 37] [] 4 (b.2.2.2.1 : List Bool))), .fact 100024 (.at 24 (.rep [] b.2.2.2.2.1)), .fact 100025 (.at 25 (.rep [] b.2.2.2.2.2.1)), .fact 100026 (.at 26 (.rep [] b.2.2.2.2.2.2)), .fact 100010 (.obj 10 [(false, 1), (false, 1), (false, 1), (false, 1), (false, 1), (false, 1)]), .fact 100020 (.obj 20 [(false, 1), (false, 1), (false, 1), (false, 1), (false, 1), (false, 1)])])) (fun b => (Exit.ret, [.fact 10 (.rep [] (false : Bool))])) b) hb33 (su (su (su (sn (sn (st (Sub.cons (Has.cv (Has.s rfl) (Cv.owM (T := [28]) (te := [0, 27, 29]) rfl rfl)) (Sub.cons (Has.cv (Has.s rfl) (Cv.owM (T := [30]) (te := [0]) rfl rfl)) (st (sf (sf (sf (sf (sf (sf (sf (Sub.cons (Has.at (HasG.cv (HasG.s rfl) (Cv.owM (T := [18]) (te := []) rfl rfl))) (Sub.cons (Has.at (HasG.cv (HasG.s rfl) (Cv.owF (T := [19]) (te := []) rfl))) (sf (sf (sf (sn (sn Sub.nil))))))))))))))))))))))) ?_ ?_
   ·rintro ⟨s7, s8, s9, s10, s11, s12, s13, s14, s15⟩ c16 hm
    replace hm : law18_EvenOnce_L1 a0 a2 a3 a4 s7 s8 s9 s10 s11 s12 s13 s14 s15 = some c16 := hm
    unfold law18_EvenOnce_L1 at hm
    show CWalk _ [.fact 2 (.rep [0] (a2 : List (List UInt8))), .fact 3 (.rep [0] (a3 : List (List UInt8))), .fact 4 (.rep [0] (a4 : List Bool)), .fact 5 (.isv 10), .fact 12 (.isv 20), .fact 13 (.rep [] (s7 : Int)), .fact 16 (.ow [28] [0, 27, 29] 36 (x5 : List (List UInt8))), .fact 17 (.ow [30, 34] [0] 36 (s8 : List (List UInt8))), .fact 18 (.rep [] (s9 : Int)), .fact 100011 (.at 11 (.rep [] a0.Id)), .fact 100012 (.at 12 (.rep [] a0.Members)), .fact 100013 (.at 13 (.rep [] a0.Chunk)), .fact 100014 (.at 14 (.rep [] a0.Rows)), .fact 100015 (.at 15 (.rep [] a0.Log)), .fact 100016 (.at 16 (.rep [] a0.Heads)), .fact 100021 (.at 21 (.rep [] (s10 : Int))), .fact 100022 (.at 22 (.ow [18, 31, 35] [32, 36] 36 (s11 : List (List UInt8)))), .fact 100023 (.at 23 (.ow [19, 33, 37] [] 4 (s12 : List Bool))), .fact 100024 (.at 24 (.rep [] (s13 : UInt8))), .fact 100025 (.at 25 (.rep [] (s14 : Bool))), .fact 100026 (.at 26 (.rep [] (s15 : UInt32))), .fact 100010 (.obj 10 [(false, 1), (false, 1), (false, 1), (false, 1), (false, 1), (false, 1)]), .fact 100020 (.obj 20 [(false, 1), (false, 1), (false, 1), (false, 1), (false, 1), (false, 1)])] _ _
    refine CWalk.seq ?_
    refine CWalk.seq ?_
    refine CWalk.region ?_
    refine mv ?_
    refine mv ?_
    refine wo (Spec.len (Has.s rfl) Try.underlying25) ?_
    refine wo (Spec.lssI (Has.s rfl) (Has.s rfl)) ?_
    refine Walk.nil ?_
    refine Leaf.thenN ?_
    refine CWalk.cond rfl (fun hb => ?_) (fun hb => ?_)
    ·have hm := cond_t hb hm
     refine CWalk.skip ?_
     refine Leaf.thenN ?_
     refine CWalk.seq ?_
     refine CWalk.block ?_
     refine CWalk.seqJ (fun p : Int × (List (List UInt8)) × Int × (List (List UInt8)) × (List Bool) × UInt8 × Bool × UInt32 => [.fact 2 (.rep [0] (a2 : List (List UInt8))), .fact 3 (.rep [0] (a3 : List (List UInt8))), .fact 4 (.rep [0] (a4 : List Bool)), .fact 5 (.isv 10), .fact 12 (.isv 20), .fact 13 (.rep [] p.1), .fact 16 (.ow [28] [0, 27, 29] 36 (x5 : List (List UInt8))), .fact 17 (.ow [30, 34] [0] 36 (p.2.1 : List (List UInt8))), .fact 18 (.rep [] (s9 : Int)), .fact 100011 (.at 11 (.rep [] a0.Id)), .fact 100012 (.at 12 (.rep [] a0.Members)), .fact 100013 (.at 13 (.rep [] a0.Chunk)), .fact 100014 (.at 14 (.rep [] a0.Rows)), .fact 100015 (.at 15 (.rep [] a0.Log)), .fact 100016 (.at 16 (.rep [] a0.Heads)), .fact 100021 (.at 21 (.rep [] p.2.2.1)), .fact 100022 (.at 22 (.ow [18, 31, 35] [32, 36] 36 (p.2.2.2.1 : List (List UInt8)))), .fact 100023 (.at 23 (.ow [19, 33, 37] [] 4 (p.2.2.2.2.1 : List Bool))), .fact 100024 (.at 24 (.rep [] p.2.2.2.2.2.1)), .fact 100025 (.at 25 (.rep [] p.2.2.2.2.2.2.1)), .fact 100026 (.at 26 (.rep [] p.2.2.2.2.2.2.2)), .fact 100010 (.obj 10 [(false, 1), (false, 1), (false, 1), (false, 1), (false, 1), (false, 1)]), .fact 100020 (.obj 20 [(false, 1), (false, 1), (false, 1), (false, 1), (false, 1), (false, 1)])]) (fun p : Int × (List (List UInt8)) × Int × (List (List UInt8)) × (List Bool) × UInt8 × Bool × UInt32 => law18_EvenOnce_J2 s9 p.1 p.2.1 p.2.2.1 p.2.2.2.1 p.2.2.2.2.1 p.2.2.2.2.2.1 p.2.2.2.2.2.2.1 p.2.2.2.2.2.2.2 = some c16) ?_ ?_
     ·rintro ⟨j17, j18, j19, j20, j21, j22, j23, j24⟩ hm
      replace hm : law18_EvenOnce_J2 s9 j17 j18 j19 j20 j21 j22 j23 j24 = some c16 := hm
      unfold law18_EvenOnce_J2 at hm
      show CWalk _ [.fact 2 (.rep [0] (a2 : List (List UInt8))), .fact 3 (.rep [0] (a3 : List (List UInt8))), .fact 4 (.rep [0] (a4 : List Bool)), .fact 5 (.isv 10), .fact 12 (.isv 20), .fact 13 (.rep [] (j17 : Int)), .fact 16 (.ow [28] [0, 27, 29] 36 (x5 : List (List UInt8))), .fact 17 (.ow [30, 34] [0] 36 (j18 : List (List UInt8))), .fact 18 (.rep [] (s9 : Int)), .fact 100011 (.at 11 (.rep [] a0.Id)), .fact 100012 (.at 12 (.rep [] a0.Members)), .fact 100013 (.at 13 (.rep [] a0.Chunk)), .fact 100014 (.at 14 (.rep [] a0.Rows)), .fact 100015 (.at 15 (.rep [] a0.Log)), .fact 100016 (.at 16 (.rep [] a0.Heads)), .fact 100021 (.at 21 (.rep [] (j19 : Int))), .fact 100022 (.at 22 (.ow [18, 31, 35] [32, 36] 36 (j20 : List (List UInt8)))), .fact 100023 (.at 23 (.ow [19, 33, 37] [] 4 (j21 : List Bool))), .fact 100024 (.at 24 (.rep [] (j22 : UInt8))), .fact 100025 (.at 25 (.rep [] (j23 : Bool))), .fact 100026 (.at 26 (.rep [] (j24 : UInt32))), .fact 100010 (.obj 10 [(false, 1), (false, 1), (false, 1), (false, 1), (false, 1), (false, 1)]), .fact 100020 (.obj 20 [(false, 1), (false, 1), (false, 1), (false, 1), (false, 1), (false, 1)])] _ _
      refine CWalk.seq ?_
      refine CWalk.region ?_
      refine mv ?_
      refine wo (Spec.neqI (Has.s rfl) Has.int) ?_
      refine Walk.nil ?_
      refine Leaf.thenN ?_
      refine CWalk.cond rfl (fun hb => ?_) (fun hb => ?_)
      ·have hm := cond_t hb hm
       refine CWalk.seq ?_
       refine CWalk.region ?_
       refine wo (Spec.assign Has.bool) ?_
       refine Walk.nil ?_
       refine Leaf.thenN ?_
       refine CWalk.ret ?_
       refine Leaf.blockR ?_
       refine Leaf.thenR ?_
       exact Leaf.brk hm (fun h => nomatch h) rfl (st Sub.nil)
      ·have hm := cond_f hb hm
       refine CWalk.skip ?_
       refine Leaf.blockN ?_
       refine Leaf.thenN ?_
       refine CWalk.region ?_
       refine mv ?_
       refine wo (Spec.addI (Has.s rfl) Has.int) ?_
       refine wo (Spec.assign (Has.s rfl)) ?_
       refine Walk.nil ?_
       exact Leaf.next hm (su (su (su (sn (sn (st (Sub.cons (Has.cv (Has.s rfl) (Cv.owM (T := [28]) (te := [0, 27, 29]) rfl rfl)) (Sub.cons (Has.cv (Has.s rfl) (Cv.owM (T := [30, 34]) (te := [0]) rfl rfl)) (st (sf (sf (sf (sf (sf (sf (sf (Sub.cons (Has.at (HasG.cv (HasG.s rfl) (Cv.owM (T := [18, 31, 35]) (te := [32, 36]) rfl rfl))) (Sub.cons (Has.at (HasG.cv (HasG.s rfl) (Cv.owF (T := [19, 33, 37]) (te := []) rfl))) (sf (sf (sf (sn (sn Sub.nil)))))))))))))))))))))))
     ·refine CWalk.seq ?_
      refine CWalk.region ?_
      refine mv ?_
      refine mv ?_
      refine wo (Spec.len (Has.s rfl) Try.underlying25) ?_
      refine wo (Spec.lssI (Has.s rfl) (Has.s rfl)) ?_
      refine mv ?_
      refine wg rfl rfl (fun hb => Spec.move (Has.s rfl)) ?_
      refine wg rfl rfl (fun hb => Spec.move (Has.s rfl)) ?_
      obtain ⟨x25, hx25, hm⟩ := bind_some hm
      refine wg rfl rfl (fun hb => Spec.indexAddr (gO_t hx25 hb) sl25 (Has.u rfl hb) (Has.u rfl hb)) ?_
      refine wg rfl rfl (fun hb => Spec.load ty36 (Has.u rfl hb)) ?_
      refine wg rfl rfl (fun hb => Spec.len (Has.u rfl hb) Try.underlying36) ?_
      refine wg rfl rfl (fun hb => Spec.eqlI (Has.u rfl hb) Has.int) ?_
      refine wo (Spec.and (Has.s rfl) (fun h => Has.u rfl h)) ?_
      refine Walk.nil ?_
      refine Leaf.thenN ?_
      refine CWalk.cond rfl (fun hb => ?_) (fun hb => ?_)
      ·have hm := cond_t hb hm
       refine CWalk.seq ?_
       obtain ⟨x26, hx26, hm⟩ := bind_some hm
       obtain ⟨x27, hx27, hm⟩ := bind_some hm
       refine CWalk.drawM [[], [], [], [], [], [3, 4], [3, 4, 5], [0, 1, 2, 3, 4, 5, 6], [0, 1, 2, 3, 4, 5, 6, 7], [0, 1, 2, 3, 4, 5, 6, 7, 8], [0, 1, 2, 3, 4, 5, 6, 7, 8], [0, 1, 2, 3, 4, 5, 6, 7, 8, 9], [0, 1, 2, 3, 4, 5, 6, 7, 8, 9, 10, 11]] [[.fact 90 (.flds [(false, 1, Fact.rep [] a0.Id), (false, 1, Fact.rep [] a0.Members), (false, 1, Fact.rep [] a0.Chunk), (false, 1, Fact.rep [] a0.Rows), (false, 1, Fact.rep [] a0.Log), (false, 1, Fact.rep [] a0.Heads)])], [.fact 91 (.flds [(false, 1, Fact.rep [] (s10 : Int)), (false, 1, Fact.ow [18, 31, 35] [32, 36] 36 (s11 : List (List UInt8))), (false, 1, Fact.ow [19, 33, 37] [] 4 (s12 : List Bool)), (false, 1, Fact.rep [] (s13 : UInt8)), (false, 1, Fact.rep [] (s14 : Bool)), (false, 1, Fact.rep [] (s15 : UInt32))])], [.fact 92 (.rep [] (s9 : Int))], [.fact 93 (.rep [0] (a3 : List (List UInt8)))], [.fact 94 (.rep [] (s9 : Int))], [.fact 95 (.ptr [0] (x26 : List UInt8))], [.fact 96 (.rep [0] (x26 : List UInt8))], [.fact 97 (.tup2 (Fact.flds [(false, 1, Fact.rep [] x27.1.Stripe), (false, 1, Fact.ow [31] [32] 36 (x27.1.Blocks : List (List UInt8))), (false, 1, Fact.ow [33] [] 4 (x27.1.Dirty : List Bool)), (false, 1, Fact.rep [] x27.1.Phase), (false, 1, Fact.rep [] x27.1.Deals), (false, 1, Fact.rep [] x27.1.Seq)]) (Fact.rep [] x27.2))], [.fact 89 (.tup2 (Fact.flds [(false, 1, Fact.rep [] x27.1.Stripe), (false, 1, Fact.ow [31] [32] 36 (x27.1.Blocks : List (List UInt8))), (false, 1, Fact.ow [33] [] 4 (x27.1.Dirty : List Bool)), (false, 1, Fact.rep [] x27.1.Phase), (false, 1, Fact.rep [] x27.1.Deals), (false, 1, Fact.rep [] x27.1.Seq)]) (Fact.rep [] x27.2))], [.fact 98 (.flds [(false, 1, Fact.rep [] x27.1.Stripe), (false, 1, Fact.ow [31] [32] 36 (x27.1.Blocks : List (List UInt8))), (false, 1, Fact.ow [33] [] 4 (x27.1.Dirty : List Bool)), (false, 1, Fact.rep [] x27.1.Phase), (false, 1, Fact.rep [] x27.1.Deals), (false, 1, Fact.rep [] x27.1.Seq)])], [.fact 99 (.rep [] x27.2)], [.fact 100020 (.obj 20 [(false, 1), (false, 1), (false, 1), (false, 1), (false, 1), (false, 1)]), .fact 100021 (.at 21 (.rep [] x27.1.Stripe)), .fact 100022 (.at 22 (.ow [31] [32] 36 (x27.1.Blocks : List (List UInt8)))), .fact 100023 (.at 23 (.ow [33] [] 4 (x27.1.Dirty : List Bool))), .fact 100024 (.at 24 (.rep [] x27.1.Phase)), .fact 100025 (.at 25 (.rep [] x27.1.Deals)), .fact 100026 (.at 26 (.rep [] x27.1.Seq)), .kill 20, .killId 21, .killId 22, .killId 23, .killId 24, .killId 25, .killId 26], [.fact 13 (.rep [] x27.2)]] mixed (by kernel_rfl) (ao (so (Spec.loadObj (ls := [(false, 1, Fact.rep [] a0.Id), (false, 1, Fact.rep [] a0.Members), (false, 1, Fact.rep [] a0.Chunk), (false, 1, Fact.rep [] a0.Rows), (false, 1, Fact.rep [] a0.Log), (false, 1, Fact.rep [] a0.Heads)]) ty24 rfl rfl (Has.s rfl) rfl (HasGs.cons (HasG.s rfl) (HasGs.cons (HasG.s rfl) (HasGs.cons (HasG.s rfl) (HasGs.cons (HasG.s rfl) (HasGs.cons (HasG.s rfl) (HasGs.cons (HasG.s rfl) HasGs.nil)))))))) (ao (so (Spec.loadObj (ls := [(false, 1, Fact.rep [] (s10 : Int)), (false, 1, Fact.ow [18, 31, 35] [32, 36] 36 (s11 : List (List UInt8))), (false, 1, Fact.ow [19, 33, 37] [] 4 (s12 : List Bool)), (false, 1, Fact.rep [] (s13 : UInt8)), (false, 1, Fact.rep [] (s14 : Bool)), (false, 1, Fact.rep [] (s15 : UInt32))]) ty28 rfl rfl (Has.s rfl) rfl (HasGs.cons (HasG.s rfl) (HasGs.cons (HasG.s rfl) (HasGs.cons (HasG.s rfl) (HasGs.cons (HasG.s rfl) (HasGs.cons (HasG.s rfl) (HasGs.cons (HasG.s rfl) HasGs.nil)))))))) (ao (so (Spec.move (Has.s rfl))) (ao (so (Spec.move (Has.s rfl))) (ao (so (Spec.move (Has.s rfl))) (ao (so (Spec.indexAddr hx26 sl25 (Has.s rfl) (Has.s rfl))) (ao (so (Spec.load ty36 (Has.s rfl))) (ao (so (Spec.callE [0, 18, 19, 31, 32, 33, 35, 36, 37] 31 rfl en22 (head_Take_c a0 (Head.mk s10 s11 s12 s13 s14 s15) s9 x26 hx27) (HasAll.cons (Has.fl (Has.cv (Has.s rfl) (Cv.trans (Cv.flds (CvL.cons Cv.fl (CvL.cons Cv.fl (CvL.cons Cv.fl (CvL.cons Cv.fl (CvL.cons Cv.fl (CvL.cons Cv.fl CvL.nil))))))) (Cv.close (T := []) (chConfig a0))))) (HasAll.cons (Has.m (Has.cv (Has.s rfl) (Cv.trans (Cv.flds (CvL.cons Cv.fl (CvL.cons (Cv.trans (Cv.trans Cv.owSl (Cv.slRep (T' := [18, 31, 32, 35, 36]) rfl rfl)) (Cv.m rfl)) (CvL.cons (Cv.trans (Cv.trans Cv.owSl (Cv.slRep (T' := [19, 33, 37]) rfl rfl)) (Cv.m rfl)) (CvL.cons Cv.fl (CvL.cons Cv.fl (CvL.cons Cv.fl CvL.nil))))))) (Cv.close (T := [18, 19, 31, 32, 33, 35, 36, 37]) (chHead (Head.mk s10 s11 s12 s13 s14 s15))))) rfl) (HasAll.cons (Has.fl (Has.s rfl)) (HasAll.cons (Has.m (Has.s rfl) rfl) HasAll.nil)))))) (ao (so (Spec.move (Has.s rfl))) (ao (so (Spec.ext0 (Has.s rfl))) (ao (so (Spec.ext1 (Has.s rfl))) (ao (StepG.stE (Step.storeObj (ls := [(false, 1, Fact.rep [] x27.1.Stripe), (false, 1, Fact.ow [31] [32] 36 (x27.1.Blocks : List (List UInt8))), (false, 1, Fact.ow [33] [] 4 (x27.1.Dirty : List Bool)), (false, 1, Fact.rep [] x27.1.Phase), (false, 1, Fact.rep [] x27.1.Deals), (false, 1, Fact.rep [] x27.1.Seq)]) rfl ty28 rfl rfl (Has.s rfl) rfl (HasL.flds (Has.s rfl)) rfl)) (ao (so (Spec.assign (Has.s rfl))) AllM.nil))))))))))))) ?_
       refine Leaf.thenN ?_
       refine CWalk.ad (Ad.ow (s := 17) 34 rfl rfl (ElT.tags rfl) rfl (Cv.owM (T := [30, 34]) (te := [0]) (T' := [30, 34]) (te' := [0]) rfl rfl)) ?_
       refine CWalk.region ?_
       refine mv ?_
       refine mv ?_
       refine mv ?_
       refine mv ?_
       obtain ⟨x28, hx28, hm⟩ := bind_some hm
       refine wo (Spec.indexAddr hx28 sl25 (Has.s rfl) (Has.s rfl)) ?_
       refine wo (Spec.load ty36 (Has.s rfl)) ?_
       obtain ⟨x29, hx29, hm⟩ := bind_some hm
       refine wo (Spec.idxOwn hx29 ow25 (Has.s rfl) rfl (Has.s rfl)) ?_
       refine ws (Step.storeOwn (te' := [0]) rfl (bnd_lt hx29 rfl) ty36 (Has.s rfl) rfl (Has.s rfl) (ElKeep.tags rfl rfl) (ElKeep.tags rfl rfl)) ?_
       refine Walk.nil ?_
       exact Leaf.join (x27.2, (s8).set x29 x28, x27.1.Stripe, x27.1.Blocks, x27.1.Dirty, x27.1.Phase, x27.1.Deals, x27.1.Seq) hm (su (su (su (sn (sn (st (Sub.cons (Has.cv (Has.s rfl) (Cv.owM (T := [28]) (te := [0, 27, 29]) rfl rfl)) (Sub.cons (Has.cv (Has.s rfl) (Cv.trans (Cv.isvOw rfl) (Cv.owM (T := [34]) (te := [0]) rfl rfl))) (st (sf (sf (sf (sf (sf (sf (sf (Sub.cons (Has.at (HasG.cv (HasG.s rfl) (Cv.owM (T := [31]) (te := [32]) rfl rfl))) (Sub.cons (Has.at (HasG.cv (HasG.s rfl) (Cv.owF (T := [33]) (te := []) rfl))) (sf (sf (sf (sn (sn Sub.nil)))))))))))))))))))))))
      ·have hm := cond_f hb hm
       refine CWalk.seq ?_
       refine CWalk.region ?_
       refine mv ?_
       refine mv ?_
       refine wo (Spec.len (Has.s rfl) Try.underlying26) ?_
       refine wo (Spec.lssI (Has.s rfl) (Has.s rfl)) ?_
       refine mv ?_
       refine wg rfl rfl (fun hb => Spec.move (Has.s rfl)) ?_
       refine wg rfl rfl (fun hb => Spec.move (Has.s rfl)) ?_
       obtain ⟨x30, hx30, hm⟩ := bind_some hm
       refine wg rfl rfl (fun hb => Spec.indexAddr (gO_t hx30 hb) sl26 (Has.u rfl hb) (Has.u rfl hb)) ?_
       refine wg rfl rfl (fun hb => (Spec.load ty4 (Has.u rfl hb)).flat (T' := [])) ?_
       refine wo (Spec.and (Has.s rfl) (fun h => Has.u rfl h)) ?_
       refine Walk.nil ?_
       refine Leaf.thenN ?_
       refine CWalk.cond rfl (fun hb => ?_) (fun hb => ?_)
       ·have hm := cond_t hb hm
        obtain ⟨x31, hx31, hm⟩ := bind_some hm
        obtain ⟨x32, hx32, hm⟩ := bind_some hm
        refine CWalk.drawM [[], [], [], [], [], [3, 4], [3, 4, 5], [0, 1, 2, 3, 4, 5, 6], [0, 1, 2, 3, 4, 5, 6, 7], [0, 1, 2, 3, 4, 5, 6, 7, 8], [0, 1, 2, 3, 4, 5, 6, 7, 8], [0, 1, 2, 3, 4, 5, 6, 7, 8, 9], [0, 1, 2, 3, 4, 5, 6, 7, 8, 9, 10, 11]] [[.fact 118 (.flds [(false, 1, Fact.rep [] a0.Id), (false, 1, Fact.rep [] a0.Members), (false, 1, Fact.rep [] a0.Chunk), (false, 1, Fact.rep [] a0.Rows), (false, 1, Fact.rep [] a0.Log), (false, 1, Fact.rep [] a0.Heads)])], [.fact 119 (.flds [(false, 1, Fact.rep [] (s10 : Int)), (false, 1, Fact.ow [18, 31, 35] [32, 36] 36 (s11 : List (List UInt8))), (false, 1, Fact.ow [19, 33, 37] [] 4 (s12 : List Bool)), (false, 1, Fact.rep [] (s13 : UInt8)), (false, 1, Fact.rep [] (s14 : Bool)), (false, 1, Fact.rep [] (s15 : UInt32))])], [.fact 120 (.rep [] (s9 : Int))], [.fact 121 (.rep [0] (a2 : List (List UInt8)))], [.fact 122 (.rep [] (s9 : Int))], [.fact 123 (.ptr [0] (x31 : List UInt8))], [.fact 124 (.rep [0] (x31 : List UInt8))], [.fact 125 (.tup2 (Fact.flds [(false, 1, Fact.rep [] x32.1.Stripe), (false, 1, Fact.ow [35] [36] 36 (x32.1.Blocks : List (List UInt8))), (false, 1, Fact.ow [37] [] 4 (x32.1.Dirty : List Bool)), (false, 1, Fact.rep [] x32.1.Phase), (false, 1, Fact.rep [] x32.1.Deals), (false, 1, Fact.rep [] x32.1.Seq)]) (Fact.rep [] x32.2))], [.fact 117 (.tup2 (Fact.flds [(false, 1, Fact.rep [] x32.1.Stripe), (false, 1, Fact.ow [35] [36] 36 (x32.1.Blocks : List (List UInt8))), (false, 1, Fact.ow [37] [] 4 (x32.1.Dirty : List Bool)), (false, 1, Fact.rep [] x32.1.Phase), (false, 1, Fact.rep [] x32.1.Deals), (false, 1, Fact.rep [] x32.1.Seq)]) (Fact.rep [] x32.2))], [.fact 126 (.flds [(false, 1, Fact.rep [] x32.1.Stripe), (false, 1, Fact.ow [35] [36] 36 (x32.1.Blocks : List (List UInt8))), (false, 1, Fact.ow [37] [] 4 (x32.1.Dirty : List Bool)), (false, 1, Fact.rep [] x32.1.Phase), (false, 1, Fact.rep [] x32.1.Deals), (false, 1, Fact.rep [] x32.1.Seq)])], [.fact 127 (.rep [] x32.2)], [.fact 100020 (.obj 20 [(false, 1), (false, 1), (false, 1), (false, 1), (false, 1), (false, 1)]), .fact 100021 (.at 21 (.rep [] x32.1.Stripe)), .fact 100022 (.at 22 (.ow [35] [36] 36 (x32.1.Blocks : List (List UInt8)))), .fact 100023 (.at 23 (.ow [37] [] 4 (x32.1.Dirty : List Bool))), .fact 100024 (.at 24 (.rep [] x32.1.Phase)), .fact 100025 (.at 25 (.rep [] x32.1.Deals)), .fact 100026 (.at 26 (.rep [] x32.1.Seq)), .kill 20, .killId 21, .killId 22, .killId 23, .killId 24, .killId 25, .killId 26], [.fact 13 (.rep [] x32.2)]] mixed (by kernel_rfl) (ao (so (Spec.loadObj (ls := [(false, 1, Fact.rep [] a0.Id), (false, 1, Fact.rep [] a0.Members), (false, 1, Fact.rep [] a0.Chunk), (false, 1, Fact.rep [] a0.Rows), (false, 1, Fact.rep [] a0.Log), (false, 1, Fact.rep [] a0.Heads)]) ty24 rfl rfl (Has.s rfl) rfl (HasGs.cons (HasG.s rfl) (HasGs.cons (HasG.s rfl) (HasGs.cons (HasG.s rfl) (HasGs.cons (HasG.s rfl) (HasGs.cons (HasG.s rfl) (HasGs.cons (HasG.s rfl) HasGs.nil)))))))) (ao (so (Spec.loadObj (ls := [(false, 1, Fact.rep [] (s10 : Int)), (false, 1, Fact.ow [18, 31, 35] [32, 36] 36 (s11 : List (List UInt8))), (false, 1, Fact.ow [19, 33, 37] [] 4 (s12 : List Bool)), (false, 1, Fact.rep [] (s13 : UInt8)), (false, 1, Fact.rep [] (s14 : Bool)), (false, 1, Fact.rep [] (s15 : UInt32))]) ty28 rfl rfl (Has.s rfl) rfl (HasGs.cons (HasG.s rfl) (HasGs.cons (HasG.s rfl) (HasGs.cons (HasG.s rfl) (HasGs.cons (HasG.s rfl) (HasGs.cons (HasG.s rfl) (HasGs.cons (HasG.s rfl) HasGs.nil)))))))) (ao (so (Spec.move (Has.s rfl))) (ao (so (Spec.move (Has.s rfl))) (ao (so (Spec.move (Has.s rfl))) (ao (so (Spec.indexAddr hx31 sl25 (Has.s rfl) (Has.s rfl))) (ao (so (Spec.load ty36 (Has.s rfl))) (ao (so (Spec.callE [0, 18, 19, 31, 32, 33, 35, 36, 37] 35 rfl en23 (head_Know_c a0 (Head.mk s10 s11 s12 s13 s14 s15) s9 x31 hx32) (HasAll.cons (Has.fl (Has.cv (Has.s rfl) (Cv.trans (Cv.flds (CvL.cons Cv.fl (CvL.cons Cv.fl (CvL.cons Cv.fl (CvL.cons Cv.fl (CvL.cons Cv.fl (CvL.cons Cv.fl CvL.nil))))))) (Cv.close (T := []) (chConfig a0))))) (HasAll.cons (Has.m (Has.cv (Has.s rfl) (Cv.trans (Cv.flds (CvL.cons Cv.fl (CvL.cons (Cv.trans (Cv.trans Cv.owSl (Cv.slRep (T' := [18, 31, 32, 35, 36]) rfl rfl)) (Cv.m rfl)) (CvL.cons (Cv.trans (Cv.trans Cv.owSl (Cv.slRep (T' := [19, 33, 37]) rfl rfl)) (Cv.m rfl)) (CvL.cons Cv.fl (CvL.cons Cv.fl (CvL.cons Cv.fl CvL.nil))))))) (Cv.close (T := [18, 19, 31, 32, 33, 35, 36, 37]) (chHead (Head.mk s10 s11 s12 s13 s14 s15))))) rfl) (HasAll.cons (Has.fl (Has.s rfl)) (HasAll.cons (Has.m (Has.s rfl) rfl) HasAll.nil)))))) (ao (so (Spec.move (Has.s rfl))) (ao (so (Spec.ext0 (Has.s rfl))) (ao (so (Spec.ext1 (Has.s rfl))) (ao (StepG.stE (Step.storeObj (ls := [(false, 1, Fact.rep [] x32.1.Stripe), (false, 1, Fact.ow [35] [36] 36 (x32.1.Blocks : List (List UInt8))), (false, 1, Fact.ow [37] [] 4 (x32.1.Dirty : List Bool)), (false, 1, Fact.rep [] x32.1.Phase), (false, 1, Fact.rep [] x32.1.Deals), (false, 1, Fact.rep [] x32.1.Seq)]) rfl ty28 rfl rfl (Has.s rfl) rfl (HasL.flds (Has.s rfl)) rfl)) (ao (so (Spec.assign (Has.s rfl))) AllM.nil))))))))))))) ?_
        exact Leaf.join (x32.2, s8, x32.1.Stripe, x32.1.Blocks, x32.1.Dirty, x32.1.Phase, x32.1.Deals, x32.1.Seq) hm (su (su (su (sn (sn (st (Sub.cons (Has.cv (Has.s rfl) (Cv.owM (T := [28]) (te := [0, 27, 29]) rfl rfl)) (Sub.cons (Has.cv (Has.s rfl) (Cv.owM (T := [30, 34]) (te := [0]) rfl rfl)) (st (sf (sf (sf (sf (sf (sf (sf (Sub.cons (Has.at (HasG.cv (HasG.s rfl) (Cv.owM (T := [35]) (te := [36]) rfl rfl))) (Sub.cons (Has.at (HasG.cv (HasG.s rfl) (Cv.owF (T := [37]) (te := []) rfl))) (sf (sf (sf (sn (sn Sub.nil)))))))))))))))))))))))
       ·have hm := cond_f hb hm
        refine CWalk.skip ?_
        exact Leaf.join (s7, s8, s10, s11, s12, s13, s14, s15) hm (su (su (su (sn (sn (st (Sub.cons (Has.cv (Has.s rfl) (Cv.owM (T := [28]) (te := [0, 27, 29]) rfl rfl)) (Sub.cons (Has.cv (Has.s rfl) (Cv.owM (T := [30, 34]) (te := [0]) rfl rfl)) (st (sf (sf (sf (sf (sf (sf (sf (Sub.cons (Has.at (HasG.cv (HasG.s rfl) (Cv.owM (T := [18, 31, 35]) (te := [32, 36]) rfl rfl))) (Sub.cons (Has.at (HasG.cv (HasG.s rfl) (Cv.owF (T := [19, 33, 37]) (te := []) rfl))) (sf (sf (sf (sn (sn Sub.nil)))))))))))))))))))))))
    ·have hm := cond_f hb hm
     refine CWalk.exit ?_
     refine Leaf.thenE ?_
     exact Leaf.brk hm (fun h => nomatch h) rfl (sn (sn (Sub.cons (Has.cv (Has.s rfl) (Cv.owM (T := [28]) (te := [0, 27, 29]) rfl rfl)) (Sub.cons (Has.cv (Has.s rfl) (Cv.owM (T := [30, 34]) (te := [0]) rfl rfl)) (sf (sf (sf (sf (sf (sf (sf (Sub.cons (Has.at (HasG.cv (HasG.s rfl) (Cv.owM (T := [18, 31, 35]) (te := [32, 36]) rfl rfl))) (Sub.cons (Has.at (HasG.cv (HasG.s rfl) (Cv.owF (T := [19, 33, 37]) (te := []) rfl))) (sf (sf (sf (sn (sn Sub.nil))))))))))))))))))
   ·intro _
    rcases b33 with b34 | b48
    ·have hm := selim_l hm
     refine Leaf.blockE ?_
     refine Leaf.thenN ?_
     refine CWalk.seq ?_
     refine CWalk.seq ?_
     refine CWalk.region ?_
     refine wo (Spec.loadObj (ls := [(false, 1, Fact.rep [] b34.2.1), (false, 1, Fact.ow [18, 31, 35] [32, 36] 36 (b34.2.2.1 : List (List UInt8))), (false, 1, Fact.ow [19, 33, 37] [] 4 (b34.2.2.2.1 : List Bool)), (false, 1, Fact.rep [] b34.2.2.2.2.1), (false, 1, Fact.rep [] b34.2.2.2.2.2.1), (false, 1, Fact.rep [] b34.2.2.2.2.2.2)]) ty28 rfl rfl (Has.s rfl) rfl (HasGs.cons (HasG.s rfl) (HasGs.cons (HasG.s rfl) (HasGs.cons (HasG.s rfl) (HasGs.cons (HasG.s rfl) (HasGs.cons (HasG.s rfl) (HasGs.cons (HasG.s rfl) HasGs.nil))))))) ?_
     obtain ⟨x35, hx35, hm⟩ := bind_some hm
     refine wo (f := Fact.rep [] (x35 : Bool)) (Spec.callE [18, 19, 31, 32, 33, 35, 36, 37] 38 rfl en24 (ref16_Dirty_c (Head.mk b34.2.1 b34.2.2.1 b34.2.2.2.1 b34.2.2.2.2.1 b34.2.2.2.2.2.1 b34.2.2.2.2.2.2) hx35) (HasAll.cons (Has.m (Has.cv (Has.s rfl) (Cv.trans (Cv.flds (CvL.cons Cv.fl (CvL.cons (Cv.trans (Cv.trans Cv.owSl (Cv.slRep (T' := [18, 31, 32, 35, 36]) rfl rfl)) (Cv.m rfl)) (CvL.cons (Cv.trans (Cv.trans Cv.owSl (Cv.slRep (T' := [19, 33, 37]) rfl rfl)) (Cv.m rfl)) (CvL.cons Cv.fl (CvL.cons Cv.fl (CvL.cons Cv.fl CvL.nil))))))) (Cv.close (T := [18, 19, 31, 32, 33, 35, 36, 37]) (chHead (Head.mk b34.2.1 b34.2.2.1 b34.2.2.2.1 b34.2.2.2.2.1 b34.2.2.2.2.2.1 b34.2.2.2.2.2.2))))) rfl) HasAll.nil)) ?_
     refine wo (Spec.not (Has.s rfl)) ?_
     refine Walk.nil ?_
     refine Leaf.thenN ?_
     refine CWalk.cond rfl (fun hb => ?_) (fun hb => ?_)
     ·have hm := cond_t hb hm
      refine CWalk.seq ?_
      refine CWalk.region ?_
      refine wo (Spec.assign Has.bool) ?_
      refine Walk.nil ?_
      refine Leaf.thenN ?_
      refine CWalk.ret ?_
      refine Leaf.thenR ?_
      obtain rfl := Option.some.inj hm
      exact Leaf.retC1 rfl (HasR.cv (HasR.tmp (Has.s rfl)) Cv.fl)
     ·have hm := cond_f hb hm
      refine CWalk.skip ?_
      refine Leaf.thenN ?_
      refine CWalk.seq ?_
      refine CWalk.region ?_
      refine mv ?_
      obtain ⟨x36, hx36, hm⟩ := bind_some hm
      refine wo (f := Fact.tup2 (Fact.sl [39] [] (x36.1 : List UInt8)) (Fact.rep [] x36.2)) (Spec.callE [0, 30, 34] 39 rfl en21 (fold_Fold_c b34.1 hx36) (HasAll.cons (Has.m (Has.cv (Has.s rfl) (Cv.trans Cv.owSl (Cv.slRep (T' := [0, 30, 34]) rfl rfl))) rfl) HasAll.nil)) ?_
      refine mv ?_
      refine wo (Spec.ext0 (Has.s rfl)) ?_
      refine wo (Spec.ext1 (Has.s rfl)) ?_
      refine wo (Spec.assign (Has.s rfl)) ?_
      refine wo (Spec.assign (Has.s rfl)) ?_
      refine Walk.nil ?_
      refine Leaf.thenN ?_
      refine CWalk.seq ?_
      refine CWalk.seq ?_
      refine CWalk.region ?_
      refine wo (Spec.assign Has.int) ?_
      refine Walk.nil ?_
      refine Leaf.thenN ?_
      refine CWalk.block ?_
      obtain ⟨b42, hb42, hm⟩ := bind_some hm
      refine CWalk.loop (fun s : Int => [.fact 5 (.isv 10), .fact 12 (.isv 20), .fact 16 (.ow [28] [0, 27, 29] 36 (x5 : List (List UInt8))), .fact 17 (.ow [30, 34] [0] 36 (b34.1 : List (List UInt8))), .fact 19 (.sl [39] [] (x36.1 : List UInt8)), .fact 20 (.rep [] x36.2), .fact 21 (.rep [] (s : Int)), .fact 100011 (.at 11 (.rep [] a0.Id)), .fact 100012 (.at 12 (.rep [] a0.Members)), .fact 100013 (.at 13 (.rep [] a0.Chunk)), .fact 100014 (.at 14 (.rep [] a0.Rows)), .fact 100015 (.at 15 (.rep [] a0.Log)), .fact 100016 (.at 16 (.rep [] a0.Heads)), .fact 100021 (.at 21 (.rep [] b34.2.1)), .fact 100022 (.at 22 (.ow [18, 31, 35] [32, 36] 36 (b34.2.2.1 : List (List UInt8)))), .fact 100023 (.at 23 (.ow [19, 33, 37] [] 4 (b34.2.2.2.1 : List Bool))), .fact 100024 (.at 24 (.rep [] b34.2.2.2.2.1)), .fact 100025 (.at 25 (.rep [] b34.2.2.2.2.2.1)), .fact 100026 (.at 26 (.rep [] b34.2.2.2.2.2.2)), .fact 100010 (.obj 10 [(false, 1), (false, 1), (false, 1), (false, 1), (false, 1), (false, 1)]), .fact 100020 (.obj 20 [(false, 1), (false, 1), (false, 1), (false, 1), (false, 1), (false, 1)])]) (fun b : (Unit) ⊕ (Unit) => Sum.elim (fun b => (Exit.exit 2, [.fact 17 (.ow [30, 34] [0] 36 (b34.1 : List (List UInt8))), .fact 19 (.sl [39] [] (x36.1 : List UInt8))])) (fun b => (Exit.ret, [.fact 10 (.rep [] (false : Bool))])) b) hb42 (sn (sn (Sub.cons (Has.cv (Has.s rfl) (Cv.owM (T := [28]) (te := [0, 27, 29]) rfl rfl)) (Sub.cons (Has.cv (Has.s rfl) (Cv.owM (T := [30, 34]) (te := [0]) rfl rfl)) (Sub.cons (Has.cv (Has.s rfl) (Cv.slF (T := [39]) (te := []) rfl)) (st (st (sf (sf (sf (sf (sf (sf (sf (Sub.cons (Has.at (HasG.cv (HasG.s rfl) (Cv.owM (T := [18, 31, 35]) (te := [32, 36]) rfl rfl))) (Sub.cons (Has.at (HasG.cv (HasG.s rfl) (Cv.owF (T := [19, 33, 37]) (te := []) rfl))) (sf (sf (sf (sn (sn Sub.nil))))))))))))))))))))) ?_ ?_
      ·rintro s37 c38 hm
       replace hm : law18_EvenOnce_L3 a0 x5 b34 x36 s37 = some c38 := hm
       unfold law18_EvenOnce_L3 at hm
       show CWalk _ [.fact 5 (.isv 10), .fact 12 (.isv 20), .fact 16 (.ow [28] [0, 27, 29] 36 (x5 : List (List UInt8))), .fact 17 (.ow [30, 34] [0] 36 (b34.1 : List (List UInt8))), .fact 19 (.sl [39] [] (x36.1 : List UInt8)), .fact 20 (.rep [] x36.2), .fact 21 (.rep [] (s37 : Int)), .fact 100011 (.at 11 (.rep [] a0.Id)), .fact 100012 (.at 12 (.rep [] a0.Members)), .fact 100013 (.at 13 (.rep [] a0.Chunk)), .fact 100014 (.at 14 (.rep [] a0.Rows)), .fact 100015 (.at 15 (.rep [] a0.Log)), .fact 100016 (.at 16 (.rep [] a0.Heads)), .fact 100021 (.at 21 (.rep [] b34.2.1)), .fact 100022 (.at 22 (.ow [18, 31, 35] [32, 36] 36 (b34.2.2.1 : List (List UInt8)))), .fact 100023 (.at 23 (.ow [19, 33, 37] [] 4 (b34.2.2.2.1 : List Bool))), .fact 100024 (.at 24 (.rep [] b34.2.2.2.2.1)), .fact 100025 (.at 25 (.rep [] b34.2.2.2.2.2.1)), .fact 100026 (.at 26 (.rep [] b34.2.2.2.2.2.2)), .fact 100010 (.obj 10 [(false, 1), (false, 1), (false, 1), (false, 1), (false, 1), (false, 1)]), .fact 100020 (.obj 20 [(false, 1), (false, 1), (false, 1), (false, 1), (false, 1), (false, 1)])] _ _
       refine CWalk.seq ?_
       refine CWalk.seq ?_
       refine CWalk.region ?_
       refine mv ?_
       refine wo (Spec.fieldAddrO fd24_1 (Has.cv (Has.s rfl) (Cv.isvP rfl))) ?_
       refine wo (Spec.loadF (i := 1) ty3 rfl (Has.s rfl) rfl (HasG.s rfl)) ?_
       refine wo (Spec.lssI (Has.s rfl) (Has.s rfl)) ?_
       refine Walk.nil ?_
       refine Leaf.thenN ?_
       refine CWalk.cond rfl (fun hb => ?_) (fun hb => ?_)
       ·have hm := cond_t hb hm
        refine CWalk.skip ?_
        refine Leaf.thenN ?_
        refine CWalk.seq ?_
        refine CWalk.block ?_
        refine CWalk.seq ?_
        refine CWalk.region ?_
        refine wo (Spec.loadObj (ls := [(false, 1, Fact.rep [] a0.Id), (false, 1, Fact.rep [] a0.Members), (false, 1, Fact.rep [] a0.Chunk), (false, 1, Fact.rep [] a0.Rows), (false, 1, Fact.rep [] a0.Log), (false, 1, Fact.rep [] a0.Heads)]) ty24 rfl rfl (Has.s rfl) rfl (HasGs.cons (HasG.s rfl) (HasGs.cons (HasG.s rfl) (HasGs.cons (HasG.s rfl) (HasGs.cons (HasG.s rfl) (HasGs.cons (HasG.s rfl) (HasGs.cons (HasG.s rfl) HasGs.nil))))))) ?_
        refine wo (Spec.loadObj (ls := [(false, 1, Fact.rep [] b34.2.1), (false, 1, Fact.ow [18, 31, 35] [32, 36] 36 (b34.2.2.1 : List (List UInt8))), (false, 1, Fact.ow [19, 33, 37] [] 4 (b34.2.2.2.1 : List Bool)), (false, 1, Fact.rep [] b34.2.2.2.2.1), (false, 1, Fact.rep [] b34.2.2.2.2.2.1), (false, 1, Fact.rep [] b34.2.2.2.2.2.2)]) ty28 rfl rfl (Has.s rfl) rfl (HasGs.cons (HasG.s rfl) (HasGs.cons (HasG.s rfl) (HasGs.cons (HasG.s rfl) (HasGs.cons (HasG.s rfl) (HasGs.cons (HasG.s rfl) (HasGs.cons (HasG.s rfl) HasGs.nil))))))) ?_
        refine mv ?_
        obtain ⟨x39, hx39, hm⟩ := bind_some hm
        refine wo (f := Fact.tup2 (Fact.flds [(false, 1, Fact.rep [] x39.1.Kind), (false, 1, Fact.rep [40] x39.1.Reads)]) (Fact.rep [] x39.2)) (Spec.callE [18, 19, 31, 32, 33, 35, 36, 37] 40 rfl en19 (plan_Of_c a0 (Head.mk b34.2.1 b34.2.2.1 b34.2.2.2.1 b34.2.2.2.2.1 b34.2.2.2.2.2.1 b34.2.2.2.2.2.2) s37 hx39) (HasAll.cons (Has.fl (Has.cv (Has.s rfl) (Cv.trans (Cv.flds (CvL.cons Cv.fl (CvL.cons Cv.fl (CvL.cons Cv.fl (CvL.cons Cv.fl (CvL.cons Cv.fl (CvL.cons Cv.fl CvL.nil))))))) (Cv.close (T := []) (chConfig a0))))) (HasAll.cons (Has.m (Has.cv (Has.s rfl) (Cv.trans (Cv.flds (CvL.cons Cv.fl (CvL.cons (Cv.trans (Cv.trans Cv.owSl (Cv.slRep (T' := [18, 31, 32, 35, 36]) rfl rfl)) (Cv.m rfl)) (CvL.cons (Cv.trans (Cv.trans Cv.owSl (Cv.slRep (T' := [19, 33, 37]) rfl rfl)) (Cv.m rfl)) (CvL.cons Cv.fl (CvL.cons Cv.fl (CvL.cons Cv.fl CvL.nil))))))) (Cv.close (T := [18, 19, 31, 32, 33, 35, 36, 37]) (chHead (Head.mk b34.2.1 b34.2.2.1 b34.2.2.2.1 b34.2.2.2.2.1 b34.2.2.2.2.2.1 b34.2.2.2.2.2.2))))) rfl) (HasAll.cons (Has.fl (Has.s rfl)) HasAll.nil)))) ?_
        refine mv ?_
        refine wo (Spec.ext0 (Has.s rfl)) ?_
        refine wo (Spec.ext1 (Has.s rfl)) ?_
        refine ws (Step.allocObj (ls := [(false, 1, Fact.rep [] ((0 : UInt8) : UInt8)), (false, 1, Fact.nilv)]) 41 rfl rfl rfl rfl zl31) ?_
        refine ws (Step.storeObj (ls := [(false, 1, Fact.rep [] x39.1.Kind), (false, 1, Fact.rep [40] x39.1.Reads)]) rfl ty31 rfl rfl (Has.s rfl) rfl (HasL.flds (Has.s rfl)) rfl) ?_
        refine wo (Spec.assign (Has.s rfl)) ?_
        refine Walk.nil ?_
        refine Leaf.thenN ?_
        refine CWalk.seq ?_
        obtain ⟨x40, hx40, hm⟩ := bind_some hm
        obtain ⟨x41, hx41, hm⟩ := bind_some hm
        refine CWalk.drawM [[], [], [], [], [], [3, 4], [0, 1, 2, 3, 4, 5], [0, 1, 2, 3, 4, 5, 6], [0, 1, 2, 3, 4, 5, 6, 7], [0, 1, 2, 3, 4, 5, 6, 7], [0, 1, 2, 3, 4, 5, 6, 7, 8], [0, 1, 2, 3, 4, 5, 6, 7, 8, 9, 10]] [[.fact 152 (.flds [(false, 1, Fact.rep [] a0.Id), (false, 1, Fact.rep [] a0.Members), (false, 1, Fact.rep [] a0.Chunk), (false, 1, Fact.rep [] a0.Rows), (false, 1, Fact.rep [] a0.Log), (false, 1, Fact.rep [] a0.Heads)])], [.fact 153 (.flds [(false, 1, Fact.rep [] b34.2.1), (false, 1, Fact.ow [18, 31, 35] [32, 36] 36 (b34.2.2.1 : List (List UInt8))), (false, 1, Fact.ow [19, 33, 37] [] 4 (b34.2.2.2.1 : List Bool)), (false, 1, Fact.rep [] b34.2.2.2.2.1), (false, 1, Fact.rep [] b34.2.2.2.2.2.1), (false, 1, Fact.rep [] b34.2.2.2.2.2.2)])], [.fact 154 (.flds [(false, 1, Fact.rep [] x39.1.Kind), (false, 1, Fact.rep [40] x39.1.Reads)])], [.fact 155 (.ow [28] [0, 27, 29] 36 (x5 : List (List UInt8)))], [.fact 156 (.flds [(false, 1, Fact.rep [] x39.1.Kind), (false, 1, Fact.rep [40] x39.1.Reads)])], [.fact 157 (.ow [44] [45, 0, 27, 28, 29, 40] 36 (x40 : List (List UInt8)))], [.fact 158 (.tup2 (Fact.sl [46] [] (x41.1 : List UInt8)) (Fact.rep [] x41.2))], [.fact 151 (.tup2 (Fact.sl [46] [] (x41.1 : List UInt8)) (Fact.rep [] x41.2))], [.fact 159 (.sl [46] [] (x41.1 : List UInt8))], [.fact 160 (.rep [] x41.2)], [.fact 24 (.sl [46] [] (x41.1 : List UInt8))], [.fact 25 (.rep [] x41.2)]] mixed (by kernel_rfl) (ao (so (Spec.loadObj (ls := [(false, 1, Fact.rep [] a0.Id), (false, 1, Fact.rep [] a0.Members), (false, 1, Fact.rep [] a0.Chunk), (false, 1, Fact.rep [] a0.Rows), (false, 1, Fact.rep [] a0.Log), (false, 1, Fact.rep [] a0.Heads)]) ty24 rfl rfl (Has.s rfl) rfl (HasGs.cons (HasG.s rfl) (HasGs.cons (HasG.s rfl) (HasGs.cons (HasG.s rfl) (HasGs.cons (HasG.s rfl) (HasGs.cons (HasG.s rfl) (HasGs.cons (HasG.s rfl) HasGs.nil)))))))) (ao (so (Spec.loadObj (ls := [(false, 1, Fact.rep [] b34.2.1), (false, 1, Fact.ow [18, 31, 35] [32, 36] 36 (b34.2.2.1 : List (List UInt8))), (false, 1, Fact.ow [19, 33, 37] [] 4 (b34.2.2.2.1 : List Bool)), (false, 1, Fact.rep [] b34.2.2.2.2.1), (false, 1, Fact.rep [] b34.2.2.2.2.2.1), (false, 1, Fact.rep [] b34.2.2.2.2.2.2)]) ty28 rfl rfl (Has.s rfl) rfl (HasGs.cons (HasG.s rfl) (HasGs.cons (HasG.s rfl) (HasGs.cons (HasG.s rfl) (HasGs.cons (HasG.s rfl) (HasGs.cons (HasG.s rfl) (HasGs.cons (HasG.s rfl) HasGs.nil)))))))) (ao (so (Spec.loadObj (ls := [(false, 1, Fact.rep [] x39.1.Kind), (false, 1, Fact.rep [40] x39.1.Reads)]) ty31 rfl rfl (Has.s rfl) rfl (HasGs.cons (HasG.s rfl) (HasGs.cons (HasG.s rfl) HasGs.nil)))) (ao (so (Spec.move (Has.s rfl))) (ao (so (Spec.loadObj (ls := [(false, 1, Fact.rep [] x39.1.Kind), (false, 1, Fact.rep [40] x39.1.Reads)]) ty31 rfl rfl (Has.s rfl) rfl (HasGs.cons (HasG.s rfl) (HasGs.cons (HasG.s rfl) HasGs.nil)))) (ao (so (Spec.callE [0, 27, 28, 29, 40] 44 rfl en25 (law18_off_c x5 x39.1 hx40) (HasAll.cons (Has.m (Has.cv (Has.s rfl) (Cv.trans Cv.owSl (Cv.slRep (T' := [0, 27, 28, 29]) rfl rfl))) rfl) (HasAll.cons (Has.m (Has.cv (Has.s rfl) (Cv.trans (Cv.flds (CvL.cons Cv.fl (CvL.cons (Cv.m rfl) CvL.nil))) (Cv.close (T := [40]) (chPlan x39.1)))) rfl) HasAll.nil)))) (ao (so (Spec.callE [0, 18, 19, 27, 28, 29, 31, 32, 33, 35, 36, 37, 40, 44, 45] 46 rfl en11 (even_Parity_c a0 (Head.mk b34.2.1 b34.2.2.1 b34.2.2.2.1 b34.2.2.2.2.1 b34.2.2.2.2.2.1 b34.2.2.2.2.2.2) x39.1 x40 hx41) (HasAll.cons (Has.fl (Has.cv (Has.s rfl) (Cv.trans (Cv.flds (CvL.cons Cv.fl (CvL.cons Cv.fl (CvL.cons Cv.fl (CvL.cons Cv.fl (CvL.cons Cv.fl (CvL.cons Cv.fl CvL.nil))))))) (Cv.close (T := []) (chConfig a0))))) (HasAll.cons (Has.m (Has.cv (Has.s rfl) (Cv.trans (Cv.flds (CvL.cons Cv.fl (CvL.cons (Cv.trans (Cv.trans Cv.owSl (Cv.slRep (T' := [18, 31, 32, 35, 36]) rfl rfl)) (Cv.m rfl)) (CvL.cons (Cv.trans (Cv.trans Cv.owSl (Cv.slRep (T' := [19, 33, 37]) rfl rfl)) (Cv.m rfl)) (CvL.cons Cv.fl (CvL.cons Cv.fl (CvL.cons Cv.fl CvL.nil))))))) (Cv.close (T := [18, 19, 31, 32, 33, 35, 36, 37]) (chHead (Head.mk b34.2.1 b34.2.2.1 b34.2.2.2.1 b34.2.2.2.2.1 b34.2.2.2.2.2.1 b34.2.2.2.2.2.2))))) rfl) (HasAll.cons (Has.m (Has.cv (Has.s rfl) (Cv.trans (Cv.flds (CvL.cons Cv.fl (CvL.cons (Cv.m rfl) CvL.nil))) (Cv.close (T := [40]) (chPlan x39.1)))) rfl) (HasAll.cons (Has.m (Has.cv (Has.s rfl) (Cv.trans Cv.owSl (Cv.slRep (T' := [0, 27, 28, 29, 40, 44, 45]) rfl rfl))) rfl) HasAll.nil)))))) (ao (so (Spec.move (Has.s rfl))) (ao (so (Spec.ext0 (Has.s rfl))) (ao (so (Spec.ext1 (Has.s rfl))) (ao (so (Spec.assign (Has.s rfl))) (ao (so (Spec.assign (Has.s rfl))) AllM.nil)))))))))))) ?_
        refine Leaf.thenN ?_
        refine CWalk.seq ?_
        refine CWalk.region ?_
        refine mv ?_
        refine wo (Spec.neqI (Has.s rfl) Has.int) ?_
        refine mv ?_
        refine wg rfl rfl (fun hb => Spec.move (Has.s rfl)) ?_
        refine wg rfl rfl (fun hb => Spec.neqI (Has.u rfl hb) Has.int) ?_
        refine wo (Spec.or (Has.s rfl) (fun h => Has.u rfl h)) ?_
        refine mv ?_
        refine wg rfl rfl (fun hb => Spec.move (Has.s rfl)) ?_
        refine wg rfl rfl (fun hb => Spec.neqI (Has.u rfl hb) Has.int) ?_
        refine wo (Spec.or (Has.s rfl) (fun h => Has.u rfl h)) ?_
        refine mv ?_
        refine wg rfl rfl (fun hb => Spec.move (Has.s rfl)) ?_
        refine wg rfl rfl (fun hb => Spec.toStr Try.underlying36 Try.underlying5 Try.underlying9 (Has.cv (Has.u rfl hb) (Cv.slRep (T' := [46]) rfl rfl))) ?_
        refine wg rfl rfl (fun hb => Spec.move (Has.s rfl)) ?_
        refine wg rfl rfl (fun hb => Spec.toStr Try.underlying36 Try.underlying5 Try.underlying9 (Has.cv (Has.u rfl hb) (Cv.slRep (T' := [39]) rfl rfl))) ?_
        refine wg rfl rfl (fun hb => Spec.neqS (Has.u rfl hb) (Has.u rfl hb)) ?_
        refine wo (Spec.or (Has.s rfl) (fun h => Has.u rfl h)) ?_
        refine Walk.nil ?_
        refine Leaf.thenN ?_
        refine CWalk.cond rfl (fun hb => ?_) (fun hb => ?_)
        ·have hm := cond_t hb hm
         refine CWalk.seq ?_
         refine CWalk.region ?_
         refine wo (Spec.assign Has.bool) ?_
         refine Walk.nil ?_
         refine Leaf.thenN ?_
         refine CWalk.ret ?_
         refine Leaf.blockR ?_
         refine Leaf.thenR ?_
         exact Leaf.brk hm (fun h => nomatch h) rfl (st Sub.nil)
        ·have hm := cond_f hb hm
         refine CWalk.skip ?_
         refine Leaf.blockN ?_
         refine Leaf.thenN ?_
         refine CWalk.region ?_
         refine mv ?_
         refine wo (Spec.addI (Has.s rfl) Has.int) ?_
         refine wo (Spec.assign (Has.s rfl)) ?_
         refine Walk.nil ?_
         exact Leaf.next hm (sn (sn (Sub.cons (Has.cv (Has.s rfl) (Cv.owM (T := [28]) (te := [0, 27, 29]) rfl rfl)) (Sub.cons (Has.cv (Has.s rfl) (Cv.owM (T := [30, 34]) (te := [0]) rfl rfl)) (Sub.cons (Has.cv (Has.s rfl) (Cv.slF (T := [39]) (te := []) rfl)) (st (st (sf (sf (sf (sf (sf (sf (sf (Sub.cons (Has.at (HasG.cv (HasG.s rfl) (Cv.owM (T := [18, 31, 35]) (te := [32, 36]) rfl rfl))) (Sub.cons (Has.at (HasG.cv (HasG.s rfl) (Cv.owF (T := [19, 33, 37]) (te := []) rfl))) (sf (sf (sf (sn (sn Sub.nil)))))))))))))))))))))
       ·have hm := cond_f hb hm
        refine CWalk.exit ?_
        refine Leaf.thenE ?_
        exact Leaf.brk hm (fun h => nomatch h) rfl (Sub.cons (Has.cv (Has.s rfl) (Cv.owM (T := [30, 34]) (te := [0]) rfl rfl)) (Sub.cons (Has.cv (Has.s rfl) (Cv.slF (T := [39]) (te := []) rfl)) Sub.nil))
      ·intro _
       rcases b42 with b43 | b47
       ·have hm := selim_l hm
        refine Leaf.blockE ?_
        refine Leaf.thenN ?_
        refine CWalk.seq ?_
        refine CWalk.region ?_
        refine mv ?_
        refine mv ?_
        refine wo (Spec.lit (xs := [.tmp 180]) (T := [39]) 47 rfl ow25 rfl rfl rfl rfl (HasEach.cons (Has.m (Has.cv (Has.s rfl) (Cv.slRep (T' := [39]) rfl rfl)) rfl) HasEach.nil)) ?_
        obtain ⟨x44, hx44, hm⟩ := bind_some hm
        refine ws (Step.appendOw (T := [30, 34]) (te' := [0, 39, 47]) hx44 rfl rfl rfl ow25 (Has.s rfl) (Has.s rfl) (ElKeeps.tags rfl rfl) (ElKeeps.tags rfl rfl)) ?_
        obtain ⟨x45, hx45, hm⟩ := bind_some hm
        refine wo (f := Fact.tup2 (Fact.sl [48] [] (x45.1 : List UInt8)) (Fact.rep [] x45.2)) (Spec.callE [0, 30, 34, 39, 47] 48 rfl en21 (fold_Fold_c x44 hx45) (HasAll.cons (Has.m (Has.cv (Has.s rfl) (Cv.trans Cv.owSl (Cv.slRep (T' := [0, 30, 34, 39, 47]) rfl rfl))) rfl) HasAll.nil)) ?_
        refine mv ?_
        refine wo (Spec.ext0 (Has.s rfl)) ?_
        refine wo (Spec.ext1 (Has.s rfl)) ?_
        refine wo (Spec.assign (Has.s rfl)) ?_
        refine wo (Spec.assign (Has.s rfl)) ?_
        refine Walk.nil ?_
        refine Leaf.thenN ?_
        refine CWalk.seq ?_
        obtain ⟨x46, hx46, hm⟩ := bind_some hm
        refine CWalk.drawM [[], [0], [0, 1], [0, 1, 2], [0, 1, 2, 3], [0, 1, 2], [0, 1, 2, 5], [0, 1, 2, 3, 4, 5, 6], [0, 1, 2, 3, 4, 5, 6, 7], [0, 1, 2, 3, 4, 5, 6, 7, 8]] [[.fact 186 (.rep [] x45.2)], [.fact 187 (.rep [] ((x45.2 == (0 : Int)) : Bool))], [.fact 188 (.rep [] ((x45.2 == (0 : Int)) : Bool))], [.fact 189 (.under ((x45.2 == (0 : Int)) = true) (.sl [48] [] (x45.1 : List UInt8)))], [.fact 190 (.under ((x45.2 == (0 : Int)) = true) (.rep [] ((Str.mk x45.1) : Str)))], [.fact 191 (.under ((x45.2 == (0 : Int)) = true) (.ow [49] [] 5 (x46 : List UInt8)))], [.fact 192 (.under ((x45.2 == (0 : Int)) = true) (.rep [] ((Str.mk x46) : Str)))], [.fact 193 (.under ((x45.2 == (0 : Int)) = true) (.rep [] (((Str.mk x45.1).s == (Str.mk x46).s) : Bool)))], [.fact 194 (.rep [] (((x45.2 == (0 : Int)) && ((Str.mk x45.1).s == (Str.mk x46).s)) : Bool))], [.fact 10 (.rep [] (((x45.2 == (0 : Int)) && ((Str.mk x45.1).s == (Str.mk x46).s)) : Bool))]] mixed (by kernel_rfl) (ao (so (Spec.move (Has.s rfl))) (ao (so (Spec.eqlI (Has.s rfl) Has.int)) (ao (so (Spec.move (Has.s rfl))) (ao (StepG.opg rfl rfl rfl (fun hb => Spec.move (Has.s rfl))) (ao (StepG.opg rfl rfl rfl (fun hb => Spec.toStr Try.underlying36 Try.underlying5 Try.underlying9 (Has.cv (Has.u rfl hb) (Cv.slRep (T' := [48]) rfl rfl)))) (ao (StepG.opg rfl rfl rfl (fun hb => Spec.callE [] 49 rfl en26 (law18_full_c (0 : UInt8) (gO_t hx46 hb)) (HasAll.cons (Has.fl (Has.u8 0 rfl)) HasAll.nil))) (ao (StepG.opg rfl rfl rfl (fun hb => Spec.toStr Try.underlying36 Try.underlying5 Try.underlying9 (Has.cv (Has.u rfl hb) (Cv.trans Cv.owSl (Cv.slRep (T' := [49]) rfl rfl))))) (ao (StepG.opg rfl rfl rfl (fun hb => Spec.eqlS (Has.u rfl hb) (Has.u rfl hb))) (ao (so (Spec.and (Has.s rfl) (fun h => Has.u rfl h))) (ao (so (Spec.assign (Has.s rfl))) AllM.nil)))))))))) ?_
        refine Leaf.thenN ?_
        refine CWalk.ret ?_
        obtain rfl := Option.some.inj hm
        exact Leaf.retC1 rfl (HasR.cv (HasR.tmp (Has.s rfl)) Cv.fl)
       ·have hm := selim_r hm
        refine Leaf.blockR ?_
        refine Leaf.thenR ?_
        obtain rfl := Option.some.inj hm
        exact Leaf.retC1 rfl (HasR.cv (HasR.tmp (Has.s rfl)) Cv.fl)
    ·have hm := selim_r hm
     refine Leaf.blockR ?_
     refine Leaf.thenR ?_
     obtain rfl := Option.some.inj hm
     exact Leaf.retC1 rfl (HasR.cv (HasR.tmp (Has.s rfl)) Cv.fl)

end Go.Proofs.Ytbedfodlofannaa
