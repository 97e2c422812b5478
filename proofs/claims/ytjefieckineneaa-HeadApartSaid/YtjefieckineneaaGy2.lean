/- Printed by a program of ours: models of functions, and that calls do what they say. -/
import Derived.Test.YtjefieckineneaaGy1
namespace Go.Proofs.Ytjefieckineneaa
open Go GL
set_option linter.unusedVariables false

def head_Make_J1 (j3 : Int) (j4 : List (List UInt8)) (j5 : List Bool) (j6 : UInt8) (j7 : Bool) (j8 : UInt32) (j9 : Int) : Option (Head × Int) :=
  some ((Head.mk j3 j4 j5 j6 j7 j8), j9)
def head_Make_J2 (j10 : Int) (j11 : List (List UInt8)) (j12 : List Bool) (j13 : UInt8) (j14 : Bool) (j15 : UInt32) (j16 : Int) : Option (Head × Int) :=
  (head_Make_J1 j10 j11 j12 j13 j14 j15 j16)
def head_Make_J3 (j20 : Int) (j21 : Int) (j22 : List (List UInt8)) (j23 : List Bool) (j24 : UInt8) (j25 : Bool) (j26 : UInt32) : Option (Head × Int) :=
  (head_Make_J2 j21 j22 j23 j24 j25 j26 j20)
def head_Make_J4 (x19 : Head) (j27 : Int) (j28 : List (List UInt8)) (j29 : UInt8) : Option (Head × Int) :=
  (bif (j27 == (0 : Int)) then (head_Make_J3 j27 x19.Stripe j28 x19.Dirty j29 x19.Deals x19.Seq) else (head_Make_J3 j27 (0 : Int) ([] : List (List UInt8)) ([] : List Bool) (0 : UInt8) false (0 : UInt32)))
def head_Make_J5 (x19 : Head) (j32 : List (List UInt8)) : Option (Head × Int) :=
  (head_Make_J4 x19 (0 : Int) j32 (1 : UInt8))
/-- freeboard/head.Make -/
def head_Make (a0 : Config) (a1 : Head) (a2 : List UInt8) : Option (Head × Int) :=
  Option.bind (head_Check a0 a1) (fun x1 => (bif (x1 != (0 : Int)) then some ((Head.mk (0 : Int) ([] : List (List UInt8)) ([] : List Bool) (0 : UInt8) false (0 : UInt32)), x1) else Option.bind (head_odd a2) (fun x2 => (bif x2 then some ((Head.mk (0 : Int) ([] : List (List UInt8)) ([] : List Bool) (0 : UInt8) false (0 : UInt32)), (3 : Int)) else Option.bind (head_Check a0 a1) (fun x17 => (bif (x17 != (0 : Int)) then (head_Make_J2 (0 : Int) ([] : List (List UInt8)) ([] : List Bool) (0 : UInt8) false (0 : UInt32) x17) else (bif ((decide ((0 : Int) < (0 : Int))) || (decide ((0 : Int) ≥ (wI (a0.Members - (1 : Int)))))) then (head_Make_J2 (0 : Int) ([] : List (List UInt8)) ([] : List Bool) (0 : UInt8) false (0 : UInt32) (2 : Int)) else Option.bind (head_odd ([] : List UInt8)) (fun x18 => (bif x18 then (head_Make_J2 (0 : Int) ([] : List (List UInt8)) ([] : List Bool) (0 : UInt8) false (0 : UInt32) (3 : Int)) else Option.bind (head_Twin a1) (fun x19 => Option.bind (head_may (0 : Int) x19.Phase) (fun x30 => Option.bind (gO ((!(!x30)) && (((0 : Int) == (0 : Int)))) (slices_Contains_bool_bool x19.Dirty true)) (fun x31 => (bif ((!x30) || (((0 : Int) == (0 : Int)) && (!x31))) then (head_Make_J4 x19 (6 : Int) x19.Blocks x19.Phase) else Option.bind (head_block a2) (fun x33 => Option.bind (bnd (x19.Blocks).length (wI (a0.Members - (1 : Int)))) (fun x34 => (head_Make_J5 x19 ((x19.Blocks).set x34 x33)))))))))))))))))
set_option maxRecDepth 100000 in
set_option maxHeartbeats 2000000 in
theorem head_Make_c (a0 : Config) (a1 : Head) (a2 : List UInt8) {r : Head × Int} (hm : head_Make a0 a1 a2 = some r) : Ctr Try.prog 28 [.rep 0 a0, .rep 0 a1, .rep 0 a2] (.tup2 (.flds [(false, 1, (.fl r.1.Stripe)), (false, 1, (.own 0 (some 1) 31 r.1.Blocks)), (false, 1, (.own 2 none 4 r.1.Dirty)), (false, 1, (.fl r.1.Phase)), (false, 1, (.fl r.1.Deals)), (false, 1, (.fl r.1.Seq))]) (.fl r.2)) [] := by
 refine ctr_of_walk [[83, 95], [84, 96], [85]] 25 Try.func28 rfl rfl rfl rfl (fun w0 om => ?_)
 unfold head_Make at hm
 refine CWalk.sub (G' := [.fact 0 (.rep [] (a0 : Config)), .fact 1 (.rep [0] (a1 : Head)), .fact 2 (.rep [0] (a2 : List UInt8))]) (Sub.cons (Has.fl (Has.s rfl)) (sn (sn Sub.nil))) ?_
 refine CWalk.seq ?_
 refine CWalk.region ?_
 refine ws (Step.boxObj (ls := [(false, 1, Fact.rep [] a0.Id), (false, 1, Fact.rep [] a0.Members), (false, 1, Fact.rep [] a0.Chunk), (false, 1, Fact.rep [] a0.Rows), (false, 1, Fact.rep [] a0.Log), (false, 1, Fact.rep [] a0.Heads)]) 10 rfl rfl rfl rfl (HasL.flds (Has.cv (Has.s rfl) (Cv.trans (Cv.opens (chConfig a0)) (Cv.flds (CvL.cons Cv.fl (CvL.cons Cv.fl (CvL.cons Cv.fl (CvL.cons Cv.fl (CvL.cons Cv.fl (CvL.cons Cv.fl CvL.nil))))))))))) ?_
 refine ws (Step.boxObj (ls := [(false, 1, Fact.rep [] a1.Stripe), (false, 1, Fact.rep [0] a1.Blocks), (false, 1, Fact.rep [0] a1.Dirty), (false, 1, Fact.rep [] a1.Phase), (false, 1, Fact.rep [] a1.Deals), (false, 1, Fact.rep [] a1.Seq)]) 17 rfl rfl rfl rfl (HasL.flds (Has.cv (Has.s rfl) (Cv.trans (Cv.opens (chHead a1)) (Cv.flds (CvL.cons Cv.fl (CvL.cons Cv.refl (CvL.cons Cv.refl (CvL.cons Cv.fl (CvL.cons Cv.fl (CvL.cons Cv.fl CvL.nil))))))))))) ?_
 refine ws (Step.boxObj (ls := [(false, 1, Fact.rep [0] (a2 : List UInt8))]) 24 rfl rfl rfl rfl (HasL.one (Has.s rfl) rfl (Has.s rfl))) ?_
 refine ws (Step.allocObj (ls := [(false, 1, Fact.rep [] ((0 : Int) : Int)), (false, 1, Fact.nilv), (false, 1, Fact.nilv), (false, 1, Fact.rep [] ((0 : UInt8) : UInt8)), (false, 1, Fact.rep [] (false : Bool)), (false, 1, Fact.rep [] ((0 : UInt32) : UInt32))]) 26 rfl rfl rfl rfl zl28) ?_
 refine wo (Spec.assign Has.int) ?_
 refine Walk.nil ?_
 refine Leaf.thenN ?_
 refine CWalk.seq ?_
 refine CWalk.seq ?_
 refine CWalk.region ?_
 refine wo (Spec.loadObj (ls := [(false, 1, Fact.rep [] a0.Id), (false, 1, Fact.rep [] a0.Members), (false, 1, Fact.rep [] a0.Chunk), (false, 1, Fact.rep [] a0.Rows), (false, 1, Fact.rep [] a0.Log), (false, 1, Fact.rep [] a0.Heads)]) ty24 rfl rfl (Has.s rfl) rfl (HasGs.cons (HasG.s rfl) (HasGs.cons (HasG.s rfl) (HasGs.cons (HasG.s rfl) (HasGs.cons (HasG.s rfl) (HasGs.cons (HasG.s rfl) (HasGs.cons (HasG.s rfl) HasGs.nil))))))) ?_
 refine wo (Spec.loadObj (ls := [(false, 1, Fact.rep [] a1.Stripe), (false, 1, Fact.rep [0] a1.Blocks), (false, 1, Fact.rep [0] a1.Dirty), (false, 1, Fact.rep [] a1.Phase), (false, 1, Fact.rep [] a1.Deals), (false, 1, Fact.rep [] a1.Seq)]) ty28 rfl rfl (Has.s rfl) rfl (HasGs.cons (HasG.s rfl) (HasGs.cons (HasG.s rfl) (HasGs.cons (HasG.s rfl) (HasGs.cons (HasG.s rfl) (HasGs.cons (HasG.s rfl) (HasGs.cons (HasG.s rfl) HasGs.nil))))))) ?_
 obtain ⟨x1, hx1, hm⟩ := bind_some hm
 refine wo (f := Fact.rep [] (x1 : Int)) (Spec.callE [0] 33 rfl en24 (head_Check_c a0 a1 hx1) (HasAll.cons (Has.fl (Has.cv (Has.s rfl) (Cv.trans (Cv.flds (CvL.cons Cv.fl (CvL.cons Cv.fl (CvL.cons Cv.fl (CvL.cons Cv.fl (CvL.cons Cv.fl (CvL.cons Cv.fl CvL.nil))))))) (Cv.close (T := []) (chConfig a0))))) (HasAll.cons (Has.m (Has.cv (Has.s rfl) (Cv.trans (Cv.flds (CvL.cons Cv.fl (CvL.cons (Cv.m rfl) (CvL.cons (Cv.m rfl) (CvL.cons Cv.fl (CvL.cons Cv.fl (CvL.cons Cv.fl CvL.nil))))))) (Cv.close (T := [0]) (chHead a1)))) rfl) HasAll.nil))) ?_
 refine wo (Spec.assign (Has.s rfl)) ?_
 refine Walk.nil ?_
 refine Leaf.thenN ?_
 refine CWalk.seq ?_
 refine CWalk.region ?_
 refine mv ?_
 refine wo (Spec.neqI (Has.s rfl) Has.int) ?_
 refine Walk.nil ?_
 refine Leaf.thenN ?_
 refine CWalk.cond rfl (fun hb => ?_) (fun hb => ?_)
 ·have hm := cond_t hb hm
  refine CWalk.seq ?_
  refine CWalk.region ?_
  refine wo (Spec.build (us := []) (ls' := [(false, 1, Fact.rep [] ((0 : Int) : Int)), (false, 1, Fact.nilv), (false, 1, Fact.nilv), (false, 1, Fact.rep [] ((0 : UInt8) : UInt8)), (false, 1, Fact.rep [] (false : Bool)), (false, 1, Fact.rep [] ((0 : UInt32) : UInt32))]) bd28 rfl BP.nil) ?_
  refine mv ?_
  refine ws (Step.storeObj (ls := [(false, 1, Fact.rep [] ((0 : Int) : Int)), (false, 1, Fact.nilv), (false, 1, Fact.nilv), (false, 1, Fact.rep [] ((0 : UInt8) : UInt8)), (false, 1, Fact.rep [] (false : Bool)), (false, 1, Fact.rep [] ((0 : UInt32) : UInt32))]) rfl ty28 rfl rfl (Has.s rfl) rfl (HasL.flds (Has.s rfl)) rfl) ?_
  refine wo (Spec.assign (Has.s rfl)) ?_
  refine Walk.nil ?_
  refine Leaf.thenN ?_
  refine CWalk.ret ?_
  refine Leaf.thenR ?_
  obtain rfl := Option.some.inj hm
  exact Leaf.retC2 rfl (HasR.cv (HasR.obj (ls := [(false, 1, Fact.rep [] ((0 : Int) : Int)), (false, 1, Fact.nilv), (false, 1, Fact.nilv), (false, 1, Fact.rep [] ((0 : UInt8) : UInt8)), (false, 1, Fact.rep [] (false : Bool)), (false, 1, Fact.rep [] ((0 : UInt32) : UInt32))]) ty28 rfl rfl (Has.s rfl) rfl (HasGs.cons (HasG.s rfl) (HasGs.cons (HasG.s rfl) (HasGs.cons (HasG.s rfl) (HasGs.cons (HasG.s rfl) (HasGs.cons (HasG.s rfl) (HasGs.cons (HasG.s rfl) HasGs.nil))))))) (Cv.flds (CvL.cons Cv.fl (CvL.cons (Cv.trans Cv.nilOw (Cv.owM (T := []) (te := []) rfl rfl)) (CvL.cons (Cv.trans Cv.nilOw (Cv.owF (T := []) (te := []) rfl)) (CvL.cons Cv.fl (CvL.cons Cv.fl (CvL.cons Cv.fl CvL.nil)))))))) (HasR.cv (HasR.tmp (Has.s rfl)) Cv.fl)
 ·have hm := cond_f hb hm
  refine CWalk.skip ?_
  refine Leaf.thenN ?_
  refine CWalk.seq ?_
  refine CWalk.seq ?_
  refine CWalk.region ?_
  refine wo (Spec.loadF (i := 0) ty31 rfl (Has.cv (Has.s rfl) (Cv.isvP rfl)) rfl (HasG.s rfl)) ?_
  obtain ⟨x2, hx2, hm⟩ := bind_some hm
  refine wo (f := Fact.rep [] (x2 : Bool)) (Spec.callE [0] 34 rfl en58 (head_odd_c a2 hx2) (HasAll.cons (Has.m (Has.s rfl) rfl) HasAll.nil)) ?_
  refine Walk.nil ?_
  refine Leaf.thenN ?_
  refine CWalk.cond rfl (fun hb => ?_) (fun hb => ?_)
  ·have hm := cond_t hb hm
   refine CWalk.seq ?_
   refine CWalk.region ?_
   refine wo (Spec.build (us := []) (ls' := [(false, 1, Fact.rep [] ((0 : Int) : Int)), (false, 1, Fact.nilv), (false, 1, Fact.nilv), (false, 1, Fact.rep [] ((0 : UInt8) : UInt8)), (false, 1, Fact.rep [] (false : Bool)), (false, 1, Fact.rep [] ((0 : UInt32) : UInt32))]) bd28 rfl BP.nil) ?_
   refine ws (Step.storeObj (ls := [(false, 1, Fact.rep [] ((0 : Int) : Int)), (false, 1, Fact.nilv), (false, 1, Fact.nilv), (false, 1, Fact.rep [] ((0 : UInt8) : UInt8)), (false, 1, Fact.rep [] (false : Bool)), (false, 1, Fact.rep [] ((0 : UInt32) : UInt32))]) rfl ty28 rfl rfl (Has.s rfl) rfl (HasL.flds (Has.s rfl)) rfl) ?_
   refine wo (Spec.assign Has.int) ?_
   refine Walk.nil ?_
   refine Leaf.thenN ?_
   refine CWalk.ret ?_
   refine Leaf.thenR ?_
   obtain rfl := Option.some.inj hm
   exact Leaf.retC2 rfl (HasR.cv (HasR.obj (ls := [(false, 1, Fact.rep [] ((0 : Int) : Int)), (false, 1, Fact.nilv), (false, 1, Fact.nilv), (false, 1, Fact.rep [] ((0 : UInt8) : UInt8)), (false, 1, Fact.rep [] (false : Bool)), (false, 1, Fact.rep [] ((0 : UInt32) : UInt32))]) ty28 rfl rfl (Has.s rfl) rfl (HasGs.cons (HasG.s rfl) (HasGs.cons (HasG.s rfl) (HasGs.cons (HasG.s rfl) (HasGs.cons (HasG.s rfl) (HasGs.cons (HasG.s rfl) (HasGs.cons (HasG.s rfl) HasGs.nil))))))) (Cv.flds (CvL.cons Cv.fl (CvL.cons (Cv.trans Cv.nilOw (Cv.owM (T := []) (te := []) rfl rfl)) (CvL.cons (Cv.trans Cv.nilOw (Cv.owF (T := []) (te := []) rfl)) (CvL.cons Cv.fl (CvL.cons Cv.fl (CvL.cons Cv.fl CvL.nil)))))))) (HasR.cv (HasR.tmp (Has.s rfl)) Cv.fl)
  ·have hm := cond_f hb hm
   refine CWalk.skip ?_
   refine Leaf.thenN ?_
   refine CWalk.seq ?_
   refine CWalk.region ?_
   refine wo (Spec.loadObj (ls := [(false, 1, Fact.rep [] a0.Id), (false, 1, Fact.rep [] a0.Members), (false, 1, Fact.rep [] a0.Chunk), (false, 1, Fact.rep [] a0.Rows), (false, 1, Fact.rep [] a0.Log), (false, 1, Fact.rep [] a0.Heads)]) ty24 rfl rfl (Has.s rfl) rfl (HasGs.cons (HasG.s rfl) (HasGs.cons (HasG.s rfl) (HasGs.cons (HasG.s rfl) (HasGs.cons (HasG.s rfl) (HasGs.cons (HasG.s rfl) (HasGs.cons (HasG.s rfl) HasGs.nil))))))) ?_
   refine wo (Spec.loadObj (ls := [(false, 1, Fact.rep [] a1.Stripe), (false, 1, Fact.rep [0] a1.Blocks), (false, 1, Fact.rep [0] a1.Dirty), (false, 1, Fact.rep [] a1.Phase), (false, 1, Fact.rep [] a1.Deals), (false, 1, Fact.rep [] a1.Seq)]) ty28 rfl rfl (Has.s rfl) rfl (HasGs.cons (HasG.s rfl) (HasGs.cons (HasG.s rfl) (HasGs.cons (HasG.s rfl) (HasGs.cons (HasG.s rfl) (HasGs.cons (HasG.s rfl) (HasGs.cons (HasG.s rfl) HasGs.nil))))))) ?_
   refine wo (Spec.makeFunc (xs := []) (ys := [.tmp 5, .tmp 3]) rfl rfl HasF.nil (HasF.cons (Has.s rfl) (HasF.cons (Has.s rfl) HasF.nil)) (fun _ _ _ => rfl)) ?_
   refine Walk.inline (S := Int × (List (List UInt8)) × (List Bool) × UInt8 × Bool × UInt32 × Int) (fun p : Int × (List (List UInt8)) × (List Bool) × UInt8 × Bool × UInt32 × Int => [.fact 6 (.isv 26), .fact 22 (.tup2 (Fact.flds [(false, 1, Fact.rep [] p.1), (false, 1, Fact.ow [83, 95] [84, 96] 31 (p.2.1 : List (List UInt8))), (false, 1, Fact.ow [85] [] 4 (p.2.2.1 : List Bool)), (false, 1, Fact.rep [] p.2.2.2.1), (false, 1, Fact.rep [] p.2.2.2.2.1), (false, 1, Fact.rep [] p.2.2.2.2.2.1)]) (Fact.rep [] p.2.2.2.2.2.2)), .fact 100027 (.at 27 (.rep [] ((0 : Int) : Int))), .fact 100028 (.at 28 (.nilv)), .fact 100029 (.at 29 (.nilv)), .fact 100030 (.at 30 (.rep [] ((0 : UInt8) : UInt8))), .fact 100031 (.at 31 (.rep [] (false : Bool))), .fact 100032 (.at 32 (.rep [] ((0 : UInt32) : UInt32))), .fact 100026 (.obj 26 [(false, 1), (false, 1), (false, 1), (false, 1), (false, 1), (false, 1)])]) (fun p : Int × (List (List UInt8)) × (List Bool) × UInt8 × Bool × UInt32 × Int => head_Make_J1 p.1 p.2.1 p.2.2.1 p.2.2.2.1 p.2.2.2.2.1 p.2.2.2.2.2.1 p.2.2.2.2.2.2 = some r) (fun u1 => [.fact 100011 (.at 11 (.rep [] a0.Id)), .fact 100012 (.at 12 (.rep [] a0.Members)), .fact 100013 (.at 13 (.rep [] a0.Chunk)), .fact 100014 (.at 14 (.rep [] a0.Rows)), .fact 100015 (.at 15 (.rep [] a0.Log)), .fact 100016 (.at 16 (.rep [] a0.Heads)), .fact 100025 (.at 25 (.rep [0] (a2 : List UInt8))), .fact 100027 (.at 27 (.rep [] ((0 : Int) : Int))), .fact 100028 (.at 28 (.nilv)), .fact 100029 (.at 29 (.nilv)), .fact 100030 (.at 30 (.rep [] ((0 : UInt8) : UInt8))), .fact 100031 (.at 31 (.rep [] (false : Bool))), .fact 100032 (.at 32 (.rep [] ((0 : UInt32) : UInt32))), .fact 902006 (.cst (u1 6) (Fact.isv 26)), .fact 100010 (.obj 10 [(false, 1), (false, 1), (false, 1), (false, 1), (false, 1), (false, 1)]), .fact 100024 (.obj 24 [(false, 1)]), .fact 100026 (.obj 26 [(false, 1), (false, 1), (false, 1), (false, 1), (false, 1), (false, 1)])]) (FA := [Fact.flds [(false, 1, Fact.rep [] a0.Id), (false, 1, Fact.rep [] a0.Members), (false, 1, Fact.rep [] a0.Chunk), (false, 1, Fact.rep [] a0.Rows), (false, 1, Fact.rep [] a0.Log), (false, 1, Fact.rep [] a0.Heads)], Fact.flds [(false, 1, Fact.rep [] a1.Stripe), (false, 1, Fact.rep [0] a1.Blocks), (false, 1, Fact.rep [0] a1.Dirty), (false, 1, Fact.rep [] a1.Phase), (false, 1, Fact.rep [] a1.Deals), (false, 1, Fact.rep [] a1.Seq)], Fact.rep [] ((0 : Int) : Int), Fact.fnv 64 [] [Fact.isv 24, Fact.isv 10]]) rfl Try.func63 rfl rfl rfl (CallOk.fn en63 (HasF.cons (Has.s rfl) (HasF.cons (Has.s rfl) (HasF.cons Has.int (HasF.cons (Has.s rfl) HasF.nil))))) (fun u1 => (ck (ck (ck (ck (ck (ck (ck (ck (ck (ck (ck (ck (ck (cs 902000 6 (ck (ck (ck Carry.nil)))))))))))))))))) (fun u1 => ?_) ?_
   ·refine CWalk.seq ?_
    refine CWalk.region ?_
    refine ws (Step.boxObj (ls := [(false, 1, Fact.rep [] a0.Id), (false, 1, Fact.rep [] a0.Members), (false, 1, Fact.rep [] a0.Chunk), (false, 1, Fact.rep [] a0.Rows), (false, 1, Fact.rep [] a0.Log), (false, 1, Fact.rep [] a0.Heads)]) 35 rfl rfl rfl rfl (HasL.flds (Has.s rfl))) ?_
    refine ws (Step.boxObj (ls := [(false, 1, Fact.rep [] a1.Stripe), (false, 1, Fact.rep [0] a1.Blocks), (false, 1, Fact.rep [0] a1.Dirty), (false, 1, Fact.rep [] a1.Phase), (false, 1, Fact.rep [] a1.Deals), (false, 1, Fact.rep [] a1.Seq)]) 42 rfl rfl rfl rfl (HasL.flds (Has.s rfl))) ?_
    refine ws (Step.boxObj (ls := [(false, 1, Fact.rep [] ((0 : Int) : Int))]) 49 rfl rfl rfl rfl (HasL.one (Has.s rfl) rfl (Has.s rfl))) ?_
    refine ws (Step.boxObj (ls := [(false, 1, Fact.fnv 64 [] [Fact.isv 24, Fact.isv 10])]) 51 rfl rfl rfl rfl (HasL.fnv (Has.s rfl))) ?_
    refine ws (Step.allocObj (ls := [(false, 1, Fact.rep [] ((0 : Int) : Int)), (false, 1, Fact.nilv), (false, 1, Fact.nilv), (false, 1, Fact.rep [] ((0 : UInt8) : UInt8)), (false, 1, Fact.rep [] (false : Bool)), (false, 1, Fact.rep [] ((0 : UInt32) : UInt32))]) 53 rfl rfl rfl rfl zl28) ?_
    refine wo (Spec.assign Has.int) ?_
    refine Walk.nil ?_
    refine Leaf.thenN ?_
    refine CWalk.seq ?_
    refine CWalk.region ?_
    refine wo (Spec.loadObj (ls := [(false, 1, Fact.rep [] a0.Id), (false, 1, Fact.rep [] a0.Members), (false, 1, Fact.rep [] a0.Chunk), (false, 1, Fact.rep [] a0.Rows), (false, 1, Fact.rep [] a0.Log), (false, 1, Fact.rep [] a0.Heads)]) ty24 rfl rfl (Has.s rfl) rfl (HasGs.cons (HasG.s rfl) (HasGs.cons (HasG.s rfl) (HasGs.cons (HasG.s rfl) (HasGs.cons (HasG.s rfl) (HasGs.cons (HasG.s rfl) (HasGs.cons (HasG.s rfl) HasGs.nil))))))) ?_
    refine wo (Spec.loadObj (ls := [(false, 1, Fact.rep [] a1.Stripe), (false, 1, Fact.rep [0] a1.Blocks), (false, 1, Fact.rep [0] a1.Dirty), (false, 1, Fact.rep [] a1.Phase), (false, 1, Fact.rep [] a1.Deals), (false, 1, Fact.rep [] a1.Seq)]) ty28 rfl rfl (Has.s rfl) rfl (HasGs.cons (HasG.s rfl) (HasGs.cons (HasG.s rfl) (HasGs.cons (HasG.s rfl) (HasGs.cons (HasG.s rfl) (HasGs.cons (HasG.s rfl) (HasGs.cons (HasG.s rfl) HasGs.nil))))))) ?_
    refine wo (Spec.makeFunc (xs := []) (ys := [.tmp 6, .tmp 7]) rfl rfl HasF.nil (HasF.cons (Has.s rfl) (HasF.cons (Has.s rfl) HasF.nil)) (fun _ _ _ => rfl)) ?_
    refine Walk.inline (S := Int × (List (List UInt8)) × (List Bool) × UInt8 × Bool × UInt32 × Int) (fun p : Int × (List (List UInt8)) × (List Bool) × UInt8 × Bool × UInt32 × Int => [.fact 8 (.isv 53), .fact 13 (.tup2 (Fact.flds [(false, 1, Fact.rep [] p.1), (false, 1, Fact.ow [83, 95] [84, 96] 31 (p.2.1 : List (List UInt8))), (false, 1, Fact.ow [85] [] 4 (p.2.2.1 : List Bool)), (false, 1, Fact.rep [] p.2.2.2.1), (false, 1, Fact.rep [] p.2.2.2.2.1), (false, 1, Fact.rep [] p.2.2.2.2.2.1)]) (Fact.rep [] p.2.2.2.2.2.2)), .fact 902006 (.cst (u1 6) (Fact.isv 26)), .fact 100054 (.at 54 (.rep [] ((0 : Int) : Int))), .fact 100055 (.at 55 (.nilv)), .fact 100056 (.at 56 (.nilv)), .fact 100057 (.at 57 (.rep [] ((0 : UInt8) : UInt8))), .fact 100058 (.at 58 (.rep [] (false : Bool))), .fact 100059 (.at 59 (.rep [] ((0 : UInt32) : UInt32))), .fact 100027 (.at 27 (.rep [] ((0 : Int) : Int))), .fact 100028 (.at 28 (.nilv)), .fact 100029 (.at 29 (.nilv)), .fact 100030 (.at 30 (.rep [] ((0 : UInt8) : UInt8))), .fact 100031 (.at 31 (.rep [] (false : Bool))), .fact 100032 (.at 32 (.rep [] ((0 : UInt32) : UInt32))), .fact 100053 (.obj 53 [(false, 1), (false, 1), (false, 1), (false, 1), (false, 1), (false, 1)]), .fact 100026 (.obj 26 [(false, 1), (false, 1), (false, 1), (false, 1), (false, 1), (false, 1)])]) (fun p : Int × (List (List UInt8)) × (List Bool) × UInt8 × Bool × UInt32 × Int => head_Make_J2 p.1 p.2.1 p.2.2.1 p.2.2.2.1 p.2.2.2.2.1 p.2.2.2.2.2.1 p.2.2.2.2.2.2 = some r) (fun u2 => [.fact 100011 (.at 11 (.rep [] a0.Id)), .fact 100012 (.at 12 (.rep [] a0.Members)), .fact 100013 (.at 13 (.rep [] a0.Chunk)), .fact 100014 (.at 14 (.rep [] a0.Rows)), .fact 100015 (.at 15 (.rep [] a0.Log)), .fact 100016 (.at 16 (.rep [] a0.Heads)), .fact 100025 (.at 25 (.rep [0] (a2 : List UInt8))), .fact 100027 (.at 27 (.rep [] ((0 : Int) : Int))), .fact 100028 (.at 28 (.nilv)), .fact 100029 (.at 29 (.nilv)), .fact 100030 (.at 30 (.rep [] ((0 : UInt8) : UInt8))), .fact 100031 (.at 31 (.rep [] (false : Bool))), .fact 100032 (.at 32 (.rep [] ((0 : UInt32) : UInt32))), .fact 100050 (.at 50 (.rep [] ((0 : Int) : Int))), .fact 100052 (.at 52 (.fnv 64 [] [Fact.isv 24, Fact.isv 10])), .fact 100054 (.at 54 (.rep [] ((0 : Int) : Int))), .fact 100055 (.at 55 (.nilv)), .fact 100056 (.at 56 (.nilv)), .fact 100057 (.at 57 (.rep [] ((0 : UInt8) : UInt8))), .fact 100058 (.at 58 (.rep [] (false : Bool))), .fact 100059 (.at 59 (.rep [] ((0 : UInt32) : UInt32))), .fact 902006 (.cst (u1 6) (Fact.isv 26)), .fact 904008 (.cst (u2 8) (Fact.isv 53)), .fact 100010 (.obj 10 [(false, 1), (false, 1), (false, 1), (false, 1), (false, 1), (false, 1)]), .fact 100024 (.obj 24 [(false, 1)]), .fact 100026 (.obj 26 [(false, 1), (false, 1), (false, 1), (false, 1), (false, 1), (false, 1)]), .fact 100049 (.obj 49 [(false, 1)]), .fact 100051 (.obj 51 [(false, 1)]), .fact 100053 (.obj 53 [(false, 1), (false, 1), (false, 1), (false, 1), (false, 1), (false, 1)])]) (FA := [Fact.flds [(false, 1, Fact.rep [] a0.Id), (false, 1, Fact.rep [] a0.Members), (false, 1, Fact.rep [] a0.Chunk), (false, 1, Fact.rep [] a0.Rows), (false, 1, Fact.rep [] a0.Log), (false, 1, Fact.rep [] a0.Heads)], Fact.flds [(false, 1, Fact.rep [] a1.Stripe), (false, 1, Fact.rep [0] a1.Blocks), (false, 1, Fact.rep [0] a1.Dirty), (false, 1, Fact.rep [] a1.Phase), (false, 1, Fact.rep [] a1.Deals), (false, 1, Fact.rep [] a1.Seq)], Fact.rep [] ((0 : Int) : Int), Fact.nilv, Fact.fnv 77 [] [Fact.isv 49, Fact.isv 51]]) rfl Try.func48 rfl rfl rfl (CallOk.fn en48 (HasF.cons (Has.s rfl) (HasF.cons (Has.s rfl) (HasF.cons Has.int (HasF.cons Has.nilv (HasF.cons (Has.s rfl) HasF.nil)))))) (fun u2 => (ck (ck (ck (ck (ck (ck (ck (ck (ck (ck (ck (ck (ck (ck (ck (ck (ck (ck (ck (ck (ck (ck (cs 904000 8 (ck (ck (ck (ck (ck (ck Carry.nil)))))))))))))))))))))))))))))) (fun u2 => ?_) ?_
    ·refine CWalk.seq ?_
     refine CWalk.region ?_
     refine ws (Step.boxObj (ls := [(false, 1, Fact.rep [] a0.Id), (false, 1, Fact.rep [] a0.Members), (false, 1, Fact.rep [] a0.Chunk), (false, 1, Fact.rep [] a0.Rows), (false, 1, Fact.rep [] a0.Log), (false, 1, Fact.rep [] a0.Heads)]) 60 rfl rfl rfl rfl (HasL.flds (Has.s rfl))) ?_
     refine ws (Step.boxObj (ls := [(false, 1, Fact.rep [] a1.Stripe), (false, 1, Fact.rep [0] a1.Blocks), (false, 1, Fact.rep [0] a1.Dirty), (false, 1, Fact.rep [] a1.Phase), (false, 1, Fact.rep [] a1.Deals), (false, 1, Fact.rep [] a1.Seq)]) 67 rfl rfl rfl rfl (HasL.flds (Has.s rfl))) ?_
     refine ws (Step.allocObj (ls := [(false, 1, Fact.rep [] ((0 : Int) : Int)), (false, 1, Fact.nilv), (false, 1, Fact.nilv), (false, 1, Fact.rep [] ((0 : UInt8) : UInt8)), (false, 1, Fact.rep [] (false : Bool)), (false, 1, Fact.rep [] ((0 : UInt32) : UInt32))]) 74 rfl rfl rfl rfl zl28) ?_
     refine wo (Spec.assign Has.int) ?_
     refine Walk.nil ?_
     refine Leaf.thenN ?_
     refine CWalk.seq ?_
     refine CWalk.seq ?_
     refine CWalk.region ?_
     refine wo (Spec.loadObj (ls := [(false, 1, Fact.rep [] a0.Id), (false, 1, Fact.rep [] a0.Members), (false, 1, Fact.rep [] a0.Chunk), (false, 1, Fact.rep [] a0.Rows), (false, 1, Fact.rep [] a0.Log), (false, 1, Fact.rep [] a0.Heads)]) ty24 rfl rfl (Has.s rfl) rfl (HasGs.cons (HasG.s rfl) (HasGs.cons (HasG.s rfl) (HasGs.cons (HasG.s rfl) (HasGs.cons (HasG.s rfl) (HasGs.cons (HasG.s rfl) (HasGs.cons (HasG.s rfl) HasGs.nil))))))) ?_
     refine wo (Spec.loadObj (ls := [(false, 1, Fact.rep [] a1.Stripe), (false, 1, Fact.rep [0] a1.Blocks), (false, 1, Fact.rep [0] a1.Dirty), (false, 1, Fact.rep [] a1.Phase), (false, 1, Fact.rep [] a1.Deals), (false, 1, Fact.rep [] a1.Seq)]) ty28 rfl rfl (Has.s rfl) rfl (HasGs.cons (HasG.s rfl) (HasGs.cons (HasG.s rfl) (HasGs.cons (HasG.s rfl) (HasGs.cons (HasG.s rfl) (HasGs.cons (HasG.s rfl) (HasGs.cons (HasG.s rfl) HasGs.nil))))))) ?_
     obtain ⟨x17, hx17, hm⟩ := bind_some hm
     refine wo (f := Fact.rep [] (x17 : Int)) (Spec.callE [0] 81 rfl en24 (head_Check_c a0 a1 hx17) (HasAll.cons (Has.fl (Has.cv (Has.s rfl) (Cv.trans (Cv.flds (CvL.cons Cv.fl (CvL.cons Cv.fl (CvL.cons Cv.fl (CvL.cons Cv.fl (CvL.cons Cv.fl (CvL.cons Cv.fl CvL.nil))))))) (Cv.close (T := []) (chConfig a0))))) (HasAll.cons (Has.m (Has.cv (Has.s rfl) (Cv.trans (Cv.flds (CvL.cons Cv.fl (CvL.cons (Cv.m rfl) (CvL.cons (Cv.m rfl) (CvL.cons Cv.fl (CvL.cons Cv.fl (CvL.cons Cv.fl CvL.nil))))))) (Cv.close (T := [0]) (chHead a1)))) rfl) HasAll.nil))) ?_
     refine wo (Spec.assign (Has.s rfl)) ?_
     refine Walk.nil ?_
     refine Leaf.thenN ?_
     refine CWalk.seq ?_
     refine CWalk.region ?_
     refine mv ?_
     refine wo (Spec.neqI (Has.s rfl) Has.int) ?_
     refine Walk.nil ?_
     refine Leaf.thenN ?_
     refine CWalk.cond rfl (fun hb => ?_) (fun hb => ?_)
     ·have hm := cond_t hb hm
      refine CWalk.ret ?_
      refine Leaf.thenR ?_
      exact Leaf.in2 ((0 : Int), ([] : List (List UInt8)), ([] : List Bool), (0 : UInt8), false, (0 : UInt32), x17) hm rfl rfl (HasR.cv (HasR.obj (ls := [(false, 1, Fact.rep [] ((0 : Int) : Int)), (false, 1, Fact.nilv), (false, 1, Fact.nilv), (false, 1, Fact.rep [] ((0 : UInt8) : UInt8)), (false, 1, Fact.rep [] (false : Bool)), (false, 1, Fact.rep [] ((0 : UInt32) : UInt32))]) ty28 rfl rfl (Has.s rfl) rfl (HasGs.cons (HasG.s rfl) (HasGs.cons (HasG.s rfl) (HasGs.cons (HasG.s rfl) (HasGs.cons (HasG.s rfl) (HasGs.cons (HasG.s rfl) (HasGs.cons (HasG.s rfl) HasGs.nil))))))) (Cv.flds (CvL.cons Cv.fl (CvL.cons (Cv.trans Cv.nilOw (Cv.owM (T := []) (te := []) rfl rfl)) (CvL.cons (Cv.trans Cv.nilOw (Cv.owF (T := []) (te := []) rfl)) (CvL.cons Cv.fl (CvL.cons Cv.fl (CvL.cons Cv.fl CvL.nil)))))))) (HasR.cv (HasR.tmp (Has.s rfl)) Cv.fl) (ls 904008 (Low.res (lc (lf (lg (lg (lf (lf (lf (lf (lg (lg (lf (lf (lf (lo (lo Low.nil)))))))))))))))))
     ·have hm := cond_f hb hm
      refine CWalk.skip ?_
      refine Leaf.thenN ?_
      refine CWalk.seq ?_
      refine CWalk.seq ?_
      refine CWalk.region ?_
      refine mv ?_
      refine wo (Spec.lssI (Has.s rfl) Has.int) ?_
      refine mv ?_
      refine wg rfl rfl (fun hb => Spec.move (Has.s rfl)) ?_
      refine wg rfl rfl (fun hb => Spec.fieldAddrO fd24_1 (Has.cv (Has.s rfl) (Cv.isvP rfl))) ?_
      refine wg rfl rfl (fun hb => Spec.loadF (i := 1) ty3 rfl (Has.u rfl hb) rfl (HasG.s rfl)) ?_
      refine wg rfl rfl (fun hb => Spec.subI (Has.u rfl hb) Has.int) ?_
      refine wg rfl rfl (fun hb => Spec.geqI (Has.u rfl hb) (Has.u rfl hb)) ?_
      refine wo (Spec.or (Has.s rfl) (fun h => Has.u rfl h)) ?_
      refine Walk.nil ?_
      refine Leaf.thenN ?_
      refine CWalk.cond rfl (fun hb => ?_) (fun hb => ?_)
      ·have hm := cond_t hb hm
       refine CWalk.seq ?_
       refine CWalk.region ?_
       refine wo (Spec.loadObj (ls := [(false, 1, Fact.rep [] ((0 : Int) : Int)), (false, 1, Fact.nilv), (false, 1, Fact.nilv), (false, 1, Fact.rep [] ((0 : UInt8) : UInt8)), (false, 1, Fact.rep [] (false : Bool)), (false, 1, Fact.rep [] ((0 : UInt32) : UInt32))]) ty28 rfl rfl (Has.s rfl) rfl (HasGs.cons (HasG.s rfl) (HasGs.cons (HasG.s rfl) (HasGs.cons (HasG.s rfl) (HasGs.cons (HasG.s rfl) (HasGs.cons (HasG.s rfl) (HasGs.cons (HasG.s rfl) HasGs.nil))))))) ?_
       refine ws (Step.storeObj (ls := [(false, 1, Fact.rep [] ((0 : Int) : Int)), (false, 1, Fact.nilv), (false, 1, Fact.nilv), (false, 1, Fact.rep [] ((0 : UInt8) : UInt8)), (false, 1, Fact.rep [] (false : Bool)), (false, 1, Fact.rep [] ((0 : UInt32) : UInt32))]) rfl ty28 rfl rfl (Has.s rfl) rfl (HasL.flds (Has.s rfl)) rfl) ?_
       refine wo (Spec.assign Has.int) ?_
       refine Walk.nil ?_
       refine Leaf.thenN ?_
       refine CWalk.ret ?_
       refine Leaf.thenR ?_
       exact Leaf.in2 ((0 : Int), ([] : List (List UInt8)), ([] : List Bool), (0 : UInt8), false, (0 : UInt32), (2 : Int)) hm rfl rfl (HasR.cv (HasR.obj (ls := [(false, 1, Fact.rep [] ((0 : Int) : Int)), (false, 1, Fact.nilv), (false, 1, Fact.nilv), (false, 1, Fact.rep [] ((0 : UInt8) : UInt8)), (false, 1, Fact.rep [] (false : Bool)), (false, 1, Fact.rep [] ((0 : UInt32) : UInt32))]) ty28 rfl rfl (Has.s rfl) rfl (HasGs.cons (HasG.s rfl) (HasGs.cons (HasG.s rfl) (HasGs.cons (HasG.s rfl) (HasGs.cons (HasG.s rfl) (HasGs.cons (HasG.s rfl) (HasGs.cons (HasG.s rfl) HasGs.nil))))))) (Cv.flds (CvL.cons Cv.fl (CvL.cons (Cv.trans Cv.nilOw (Cv.owM (T := []) (te := []) rfl rfl)) (CvL.cons (Cv.trans Cv.nilOw (Cv.owF (T := []) (te := []) rfl)) (CvL.cons Cv.fl (CvL.cons Cv.fl (CvL.cons Cv.fl CvL.nil)))))))) (HasR.cv (HasR.tmp (Has.s rfl)) Cv.fl) (ls 904008 (Low.res (lc (lf (lg (lg (lf (lf (lf (lf (lg (lg (lf (lf (lf (lo (lo Low.nil)))))))))))))))))
      ·have hm := cond_f hb hm
       refine CWalk.skip ?_
       refine Leaf.thenN ?_
       refine CWalk.seq ?_
       refine CWalk.seq ?_
       refine CWalk.region ?_
       refine mv ?_
       obtain ⟨x18, hx18, hm⟩ := bind_some hm
       refine wo (f := Fact.rep [] (x18 : Bool)) (Spec.callE [] 82 rfl en58 (head_odd_c ([] : List UInt8) hx18) (HasAll.cons (Has.m (Has.cv (Has.s rfl) (Cv.nil (T := []))) rfl) HasAll.nil)) ?_
       refine Walk.nil ?_
       refine Leaf.thenN ?_
       refine CWalk.cond rfl (fun hb => ?_) (fun hb => ?_)
       ·have hm := cond_t hb hm
        refine CWalk.seq ?_
        refine CWalk.region ?_
        refine wo (Spec.loadObj (ls := [(false, 1, Fact.rep [] ((0 : Int) : Int)), (false, 1, Fact.nilv), (false, 1, Fact.nilv), (false, 1, Fact.rep [] ((0 : UInt8) : UInt8)), (false, 1, Fact.rep [] (false : Bool)), (false, 1, Fact.rep [] ((0 : UInt32) : UInt32))]) ty28 rfl rfl (Has.s rfl) rfl (HasGs.cons (HasG.s rfl) (HasGs.cons (HasG.s rfl) (HasGs.cons (HasG.s rfl) (HasGs.cons (HasG.s rfl) (HasGs.cons (HasG.s rfl) (HasGs.cons (HasG.s rfl) HasGs.nil))))))) ?_
        refine ws (Step.storeObj (ls := [(false, 1, Fact.rep [] ((0 : Int) : Int)), (false, 1, Fact.nilv), (false, 1, Fact.nilv), (false, 1, Fact.rep [] ((0 : UInt8) : UInt8)), (false, 1, Fact.rep [] (false : Bool)), (false, 1, Fact.rep [] ((0 : UInt32) : UInt32))]) rfl ty28 rfl rfl (Has.s rfl) rfl (HasL.flds (Has.s rfl)) rfl) ?_
        refine wo (Spec.assign Has.int) ?_
        refine Walk.nil ?_
        refine Leaf.thenN ?_
        refine CWalk.ret ?_
        refine Leaf.thenR ?_
        exact Leaf.in2 ((0 : Int), ([] : List (List UInt8)), ([] : List Bool), (0 : UInt8), false, (0 : UInt32), (3 : Int)) hm rfl rfl (HasR.cv (HasR.obj (ls := [(false, 1, Fact.rep [] ((0 : Int) : Int)), (false, 1, Fact.nilv), (false, 1, Fact.nilv), (false, 1, Fact.rep [] ((0 : UInt8) : UInt8)), (false, 1, Fact.rep [] (false : Bool)), (false, 1, Fact.rep [] ((0 : UInt32) : UInt32))]) ty28 rfl rfl (Has.s rfl) rfl (HasGs.cons (HasG.s rfl) (HasGs.cons (HasG.s rfl) (HasGs.cons (HasG.s rfl) (HasGs.cons (HasG.s rfl) (HasGs.cons (HasG.s rfl) (HasGs.cons (HasG.s rfl) HasGs.nil))))))) (Cv.flds (CvL.cons Cv.fl (CvL.cons (Cv.trans Cv.nilOw (Cv.owM (T := []) (te := []) rfl rfl)) (CvL.cons (Cv.trans Cv.nilOw (Cv.owF (T := []) (te := []) rfl)) (CvL.cons Cv.fl (CvL.cons Cv.fl (CvL.cons Cv.fl CvL.nil)))))))) (HasR.cv (HasR.tmp (Has.s rfl)) Cv.fl) (ls 904008 (Low.res (lc (lf (lg (lg (lf (lf (lf (lf (lg (lg (lf (lf (lf (lo (lo Low.nil)))))))))))))))))
       ·have hm := cond_f hb hm
        refine CWalk.skip ?_
        refine Leaf.thenN ?_
        refine CWalk.seq ?_
        refine CWalk.region ?_
        refine wo (Spec.loadObj (ls := [(false, 1, Fact.rep [] a1.Stripe), (false, 1, Fact.rep [0] a1.Blocks), (false, 1, Fact.rep [0] a1.Dirty), (false, 1, Fact.rep [] a1.Phase), (false, 1, Fact.rep [] a1.Deals), (false, 1, Fact.rep [] a1.Seq)]) ty28 rfl rfl (Has.s rfl) rfl (HasGs.cons (HasG.s rfl) (HasGs.cons (HasG.s rfl) (HasGs.cons (HasG.s rfl) (HasGs.cons (HasG.s rfl) (HasGs.cons (HasG.s rfl) (HasGs.cons (HasG.s rfl) HasGs.nil))))))) ?_
        obtain ⟨x19, hx19, hm⟩ := bind_some hm
        refine wo (f := Fact.flds [(false, 1, Fact.rep [] x19.Stripe), (false, 1, Fact.ow [83] [84] 31 (x19.Blocks : List (List UInt8))), (false, 1, Fact.ow [85] [] 4 (x19.Dirty : List Bool)), (false, 1, Fact.rep [] x19.Phase), (false, 1, Fact.rep [] x19.Deals), (false, 1, Fact.rep [] x19.Seq)]) (Spec.callE [0] 83 rfl en23 (head_Twin_c a1 hx19) (HasAll.cons (Has.m (Has.cv (Has.s rfl) (Cv.trans (Cv.flds (CvL.cons Cv.fl (CvL.cons (Cv.m rfl) (CvL.cons (Cv.m rfl) (CvL.cons Cv.fl (CvL.cons Cv.fl (CvL.cons Cv.fl CvL.nil))))))) (Cv.close (T := [0]) (chHead a1)))) rfl) HasAll.nil)) ?_
        refine ws (Step.allocObj (ls := [(false, 1, Fact.rep [] ((0 : Int) : Int)), (false, 1, Fact.nilv), (false, 1, Fact.nilv), (false, 1, Fact.rep [] ((0 : UInt8) : UInt8)), (false, 1, Fact.rep [] (false : Bool)), (false, 1, Fact.rep [] ((0 : UInt32) : UInt32))]) 86 rfl rfl rfl rfl zl28) ?_
        refine ws (Step.storeObj (ls := [(false, 1, Fact.rep [] x19.Stripe), (false, 1, Fact.ow [83] [84] 31 (x19.Blocks : List (List UInt8))), (false, 1, Fact.ow [85] [] 4 (x19.Dirty : List Bool)), (false, 1, Fact.rep [] x19.Phase), (false, 1, Fact.rep [] x19.Deals), (false, 1, Fact.rep [] x19.Seq)]) rfl ty28 rfl rfl (Has.s rfl) rfl (HasL.flds (Has.s rfl)) rfl) ?_
        refine Walk.nil ?_
        refine Leaf.thenN ?_
        refine CWalk.seqJ (fun p : Int × Int × (List (List UInt8)) × (List Bool) × UInt8 × Bool × UInt32 => [.fact 10 (.isv 74), .fact 11 (.rep [] p.1), .fact 902006 (.cst (u1 6) (Fact.isv 26)), .fact 904008 (.cst (u2 8) (Fact.isv 53)), .fact 100075 (.at 75 (.rep [] p.2.1)), .fact 100076 (.at 76 (.ow [83, 95] [84, 96] 31 (p.2.2.1 : List (List UInt8)))), .fact 100077 (.at 77 (.ow [85] [] 4 (p.2.2.2.1 : List Bool))), .fact 100078 (.at 78 (.rep [] p.2.2.2.2.1)), .fact 100079 (.at 79 (.rep [] p.2.2.2.2.2.1)), .fact 100080 (.at 80 (.rep [] p.2.2.2.2.2.2)), .fact 100027 (.at 27 (.rep [] ((0 : Int) : Int))), .fact 100028 (.at 28 (.nilv)), .fact 100029 (.at 29 (.nilv)), .fact 100030 (.at 30 (.rep [] ((0 : UInt8) : UInt8))), .fact 100031 (.at 31 (.rep [] (false : Bool))), .fact 100032 (.at 32 (.rep [] ((0 : UInt32) : UInt32))), .fact 100054 (.at 54 (.rep [] ((0 : Int) : Int))), .fact 100055 (.at 55 (.nilv)), .fact 100056 (.at 56 (.nilv)), .fact 100057 (.at 57 (.rep [] ((0 : UInt8) : UInt8))), .fact 100058 (.at 58 (.rep [] (false : Bool))), .fact 100059 (.at 59 (.rep [] ((0 : UInt32) : UInt32))), .fact 100074 (.obj 74 [(false, 1), (false, 1), (false, 1), (false, 1), (false, 1), (false, 1)]), .fact 100026 (.obj 26 [(false, 1), (false, 1), (false, 1), (false, 1), (false, 1), (false, 1)]), .fact 100053 (.obj 53 [(false, 1), (false, 1), (false, 1), (false, 1), (false, 1), (false, 1)])]) (fun p : Int × Int × (List (List UInt8)) × (List Bool) × UInt8 × Bool × UInt32 => head_Make_J3 p.1 p.2.1 p.2.2.1 p.2.2.2.1 p.2.2.2.2.1 p.2.2.2.2.2.1 p.2.2.2.2.2.2 = some r) ?_ ?_
        ·rintro ⟨j20, j21, j22, j23, j24, j25, j26⟩ hm
         replace hm : head_Make_J3 j20 j21 j22 j23 j24 j25 j26 = some r := hm
         unfold head_Make_J3 at hm
         show CWalk _ [.fact 10 (.isv 74), .fact 11 (.rep [] (j20 : Int)), .fact 902006 (.cst (u1 6) (Fact.isv 26)), .fact 904008 (.cst (u2 8) (Fact.isv 53)), .fact 100075 (.at 75 (.rep [] (j21 : Int))), .fact 100076 (.at 76 (.ow [83, 95] [84, 96] 31 (j22 : List (List UInt8)))), .fact 100077 (.at 77 (.ow [85] [] 4 (j23 : List Bool))), .fact 100078 (.at 78 (.rep [] (j24 : UInt8))), .fact 100079 (.at 79 (.rep [] (j25 : Bool))), .fact 100080 (.at 80 (.rep [] (j26 : UInt32))), .fact 100027 (.at 27 (.rep [] ((0 : Int) : Int))), .fact 100028 (.at 28 (.nilv)), .fact 100029 (.at 29 (.nilv)), .fact 100030 (.at 30 (.rep [] ((0 : UInt8) : UInt8))), .fact 100031 (.at 31 (.rep [] (false : Bool))), .fact 100032 (.at 32 (.rep [] ((0 : UInt32) : UInt32))), .fact 100054 (.at 54 (.rep [] ((0 : Int) : Int))), .fact 100055 (.at 55 (.nilv)), .fact 100056 (.at 56 (.nilv)), .fact 100057 (.at 57 (.rep [] ((0 : UInt8) : UInt8))), .fact 100058 (.at 58 (.rep [] (false : Bool))), .fact 100059 (.at 59 (.rep [] ((0 : UInt32) : UInt32))), .fact 100074 (.obj 74 [(false, 1), (false, 1), (false, 1), (false, 1), (false, 1), (false, 1)]), .fact 100026 (.obj 26 [(false, 1), (false, 1), (false, 1), (false, 1), (false, 1), (false, 1)]), .fact 100053 (.obj 53 [(false, 1), (false, 1), (false, 1), (false, 1), (false, 1), (false, 1)])] _ _
         refine CWalk.ret ?_
         exact Leaf.in2 (j21, j22, j23, j24, j25, j26, j20) hm rfl rfl (HasR.cv (HasR.obj (ls := [(false, 1, Fact.rep [] (j21 : Int)), (false, 1, Fact.ow [83, 95] [84, 96] 31 (j22 : List (List UInt8))), (false, 1, Fact.ow [85] [] 4 (j23 : List Bool)), (false, 1, Fact.rep [] (j24 : UInt8)), (false, 1, Fact.rep [] (j25 : Bool)), (false, 1, Fact.rep [] (j26 : UInt32))]) ty28 rfl rfl (Has.s rfl) rfl (HasGs.cons (HasG.s rfl) (HasGs.cons (HasG.s rfl) (HasGs.cons (HasG.s rfl) (HasGs.cons (HasG.s rfl) (HasGs.cons (HasG.s rfl) (HasGs.cons (HasG.s rfl) HasGs.nil))))))) (Cv.flds (CvL.cons Cv.fl (CvL.cons (Cv.owM (T := [83, 95]) (te := [84, 96]) rfl rfl) (CvL.cons (Cv.owF (T := [85]) (te := []) rfl) (CvL.cons Cv.fl (CvL.cons Cv.fl (CvL.cons Cv.fl CvL.nil)))))))) (HasR.cv (HasR.tmp (Has.s rfl)) Cv.fl) (ls 904008 (Low.res (lc (lf (lg (lg (lf (lf (lf (lf (lg (lg (lf (lf (lf (lo (lo Low.nil)))))))))))))))))
        ·refine CWalk.seq ?_
         refine CWalk.region ?_
         refine mv ?_
         refine Walk.inline (S := Int × (List (List UInt8)) × UInt8) (fun p : Int × (List (List UInt8)) × UInt8 => [.fact 10 (.isv 74), .fact 12 (.isv 86), .fact 34 (.rep [] p.1), .fact 902006 (.cst (u1 6) (Fact.isv 26)), .fact 904008 (.cst (u2 8) (Fact.isv 53)), .fact 100075 (.at 75 (.rep [] ((0 : Int) : Int))), .fact 100076 (.at 76 (.nilv)), .fact 100077 (.at 77 (.nilv)), .fact 100078 (.at 78 (.rep [] ((0 : UInt8) : UInt8))), .fact 100079 (.at 79 (.rep [] (false : Bool))), .fact 100080 (.at 80 (.rep [] ((0 : UInt32) : UInt32))), .fact 100087 (.at 87 (.rep [] x19.Stripe)), .fact 100088 (.at 88 (.ow [83, 95] [84, 96] 31 (p.2.1 : List (List UInt8)))), .fact 100089 (.at 89 (.ow [85] [] 4 (x19.Dirty : List Bool))), .fact 100090 (.at 90 (.rep [] p.2.2)), .fact 100091 (.at 91 (.rep [] x19.Deals)), .fact 100092 (.at 92 (.rep [] x19.Seq)), .fact 100027 (.at 27 (.rep [] ((0 : Int) : Int))), .fact 100028 (.at 28 (.nilv)), .fact 100029 (.at 29 (.nilv)), .fact 100030 (.at 30 (.rep [] ((0 : UInt8) : UInt8))), .fact 100031 (.at 31 (.rep [] (false : Bool))), .fact 100032 (.at 32 (.rep [] ((0 : UInt32) : UInt32))), .fact 100054 (.at 54 (.rep [] ((0 : Int) : Int))), .fact 100055 (.at 55 (.nilv)), .fact 100056 (.at 56 (.nilv)), .fact 100057 (.at 57 (.rep [] ((0 : UInt8) : UInt8))), .fact 100058 (.at 58 (.rep [] (false : Bool))), .fact 100059 (.at 59 (.rep [] ((0 : UInt32) : UInt32))), .fact 100074 (.obj 74 [(false, 1), (false, 1), (false, 1), (false, 1), (false, 1), (false, 1)]), .fact 100086 (.obj 86 [(false, 1), (false, 1), (false, 1), (false, 1), (false, 1), (false, 1)]), .fact 100026 (.obj 26 [(false, 1), (false, 1), (false, 1), (false, 1), (false, 1), (false, 1)]), .fact 100053 (.obj 53 [(false, 1), (false, 1), (false, 1), (false, 1), (false, 1), (false, 1)])]) (fun p : Int × (List (List UInt8)) × UInt8 => head_Make_J4 x19 p.1 p.2.1 p.2.2 = some r) (fun u3 => [.fact 100011 (.at 11 (.rep [] a0.Id)), .fact 100012 (.at 12 (.rep [] a0.Members)), .fact 100013 (.at 13 (.rep [] a0.Chunk)), .fact 100014 (.at 14 (.rep [] a0.Rows)), .fact 100015 (.at 15 (.rep [] a0.Log)), .fact 100016 (.at 16 (.rep [] a0.Heads)), .fact 100025 (.at 25 (.rep [0] (a2 : List UInt8))), .fact 100027 (.at 27 (.rep [] ((0 : Int) : Int))), .fact 100028 (.at 28 (.nilv)), .fact 100029 (.at 29 (.nilv)), .fact 100030 (.at 30 (.rep [] ((0 : UInt8) : UInt8))), .fact 100031 (.at 31 (.rep [] (false : Bool))), .fact 100032 (.at 32 (.rep [] ((0 : UInt32) : UInt32))), .fact 100050 (.at 50 (.rep [] ((0 : Int) : Int))), .fact 100052 (.at 52 (.fnv 64 [] [Fact.isv 24, Fact.isv 10])), .fact 100054 (.at 54 (.rep [] ((0 : Int) : Int))), .fact 100055 (.at 55 (.nilv)), .fact 100056 (.at 56 (.nilv)), .fact 100057 (.at 57 (.rep [] ((0 : UInt8) : UInt8))), .fact 100058 (.at 58 (.rep [] (false : Bool))), .fact 100059 (.at 59 (.rep [] ((0 : UInt32) : UInt32))), .fact 100075 (.at 75 (.rep [] ((0 : Int) : Int))), .fact 100076 (.at 76 (.nilv)), .fact 100077 (.at 77 (.nilv)), .fact 100078 (.at 78 (.rep [] ((0 : UInt8) : UInt8))), .fact 100079 (.at 79 (.rep [] (false : Bool))), .fact 100080 (.at 80 (.rep [] ((0 : UInt32) : UInt32))), .fact 100087 (.at 87 (.rep [] x19.Stripe)), .fact 100088 (.at 88 (.ow [83] [84] 31 (x19.Blocks : List (List UInt8)))), .fact 100089 (.at 89 (.ow [85] [] 4 (x19.Dirty : List Bool))), .fact 100090 (.at 90 (.rep [] x19.Phase)), .fact 100091 (.at 91 (.rep [] x19.Deals)), .fact 100092 (.at 92 (.rep [] x19.Seq)), .fact 902006 (.cst (u1 6) (Fact.isv 26)), .fact 904008 (.cst (u2 8) (Fact.isv 53)), .fact 906010 (.cst (u3 10) (Fact.isv 74)), .fact 906012 (.cst (u3 12) (Fact.isv 86)), .fact 100010 (.obj 10 [(false, 1), (false, 1), (false, 1), (false, 1), (false, 1), (false, 1)]), .fact 100024 (.obj 24 [(false, 1)]), .fact 100026 (.obj 26 [(false, 1), (false, 1), (false, 1), (false, 1), (false, 1), (false, 1)]), .fact 100049 (.obj 49 [(false, 1)]), .fact 100051 (.obj 51 [(false, 1)]), .fact 100053 (.obj 53 [(false, 1), (false, 1), (false, 1), (false, 1), (false, 1), (false, 1)]), .fact 100074 (.obj 74 [(false, 1), (false, 1), (false, 1), (false, 1), (false, 1), (false, 1)]), .fact 100086 (.obj 86 [(false, 1), (false, 1), (false, 1), (false, 1), (false, 1), (false, 1)])]) (FA := [Fact.isv 86, Fact.isv 49, Fact.isv 51]) rfl Try.func77 rfl rfl rfl (CallOk.valE en77 (Has.s rfl) (HasF.cons (Has.s rfl) HasF.nil)) (fun u3 => (ck (ck (ck (ck (ck (ck (ck (ck (ck (ck (ck (ck (ck (ck (ck (ck (ck (ck (ck (ck (ck (ck (ck (ck (ck (ck (ck (ck (ck (ck (ck (ck (ck (ck (ck (cs 906000 10 (cs 906000 12 (ck (ck (ck (ck (ck (ck (ck (ck Carry.nil)))))))))))))))))))))))))))))))))))))))))))))) (fun u3 => ?_) ?_
         ·refine CWalk.seq ?_
          refine CWalk.region ?_
          refine wo (Spec.assign Has.int) ?_
          refine Walk.nil ?_
          refine Leaf.thenN ?_
          refine CWalk.seq ?_
          refine CWalk.seq ?_
          obtain ⟨x30, hx30, hm⟩ := bind_some hm
          obtain ⟨x31, hx31, hm⟩ := bind_some hm
          refine CWalk.drawM [[], [], [1], [1, 2], [1, 2, 3], [0, 1, 2, 3, 4], [0, 1, 2, 3, 4, 5], [0, 1, 2, 3, 4, 5, 6], [0, 1, 2, 3, 4, 5, 6, 7], [0, 1, 2, 3, 4, 5, 6, 7, 8], [0, 1, 2, 3, 4, 5, 6, 7, 8, 9], [0, 1, 2, 3, 4, 5, 6, 7, 8, 9, 10], [0, 1, 2, 3, 4, 5, 6, 7, 8, 9, 10, 11], [0, 1, 2, 3, 4, 5, 6, 7, 8, 9, 10, 11, 12], [0, 1, 2, 3, 4, 5, 6, 7, 8, 9, 10, 11, 12, 13], [0, 1, 2, 3, 4, 5, 6, 7, 8, 9, 10, 11, 12, 13, 14], [0, 1, 2, 3, 4, 5, 6, 7, 8, 9, 10, 11, 12, 13, 14, 15], [0, 1, 2, 3, 4, 5, 6, 7, 8, 9, 10, 11, 12, 13, 14, 15, 16], [0, 1, 2, 3, 4, 5, 6, 7, 8, 9, 10, 11, 12, 13, 14, 15, 16, 17]] [[.fact 5 (.rep [] ((0 : Int) : Int))], [.fact 6 (.isv 86)], [.fact 7 (.isv 86)], [.fact 8 (.pto 86 3)], [.fact 9 (.rep [] x19.Phase)], [.fact 10 (.rep [] (x30 : Bool))], [.fact 11 (.rep [] ((!x30) : Bool))], [.fact 12 (.rep [] ((!x30) : Bool))], [.fact 13 (.under ((!x30) = false) (.rep [] ((0 : Int) : Int)))], [.fact 14 (.under ((!x30) = false) (.rep [] (((0 : Int) == (0 : Int)) : Bool)))], [.fact 15 (.under ((!x30) = false) (.rep [] (((0 : Int) == (0 : Int)) : Bool)))], [.fact 16 (.under (((!x30) = false) ∧ (((0 : Int) == (0 : Int)) = true)) (.isv 86))], [.fact 17 (.under (((!x30) = false) ∧ (((0 : Int) == (0 : Int)) = true)) (.isv 86))], [.fact 18 (.under (((!x30) = false) ∧ (((0 : Int) == (0 : Int)) = true)) (.pto 86 2))], [.fact 19 (.under (((!x30) = false) ∧ (((0 : Int) == (0 : Int)) = true)) (.ow [85] [] 4 (x19.Dirty : List Bool)))], [.fact 20 (.under (((!x30) = false) ∧ (((0 : Int) == (0 : Int)) = true)) (.rep [] (x31 : Bool)))], [.fact 21 (.under (((!x30) = false) ∧ (((0 : Int) == (0 : Int)) = true)) (.rep [] ((!x31) : Bool)))], [.fact 22 (.under ((!x30) = false) (.rep [] ((((0 : Int) == (0 : Int)) && (!x31)) : Bool)))], [.fact 23 (.rep [] (((!x30) || (((0 : Int) == (0 : Int)) && (!x31))) : Bool))]] mixed (by kernel_rfl) (ao (so (Spec.loadF (i := 0) ty3 rfl (Has.cv (Has.s rfl) (Cv.isvP rfl)) rfl (HasG.s rfl))) (ao (so (Spec.move (Has.s rfl))) (ao (so (Spec.nilCheckI (Has.s rfl) rfl)) (ao (so (Spec.fieldAddrO fd28_3 (Has.cv (Has.s rfl) (Cv.isvP rfl)))) (ao (so (Spec.loadF (i := 3) ty5 rfl (Has.s rfl) rfl (HasG.s rfl))) (ao (so (Spec.callE [] 93 rfl en78 (head_may_c (0 : Int) x19.Phase hx30) (HasAll.cons (Has.fl (Has.s rfl)) (HasAll.cons (Has.fl (Has.s rfl)) HasAll.nil)))) (ao (so (Spec.not (Has.s rfl))) (ao (so (Spec.move (Has.s rfl))) (ao (StepG.opg rfl rfl rfl (fun hb => Spec.loadF (i := 0) ty3 rfl (Has.cv (Has.s rfl) (Cv.isvP rfl)) rfl (HasG.s rfl))) (ao (StepG.opg rfl rfl rfl (fun hb => Spec.eqlI (Has.u rfl hb) Has.int)) (ao (StepG.opg rfl rfl rfl (fun hb => Spec.move (Has.u rfl hb))) (ao (StepG.opgu rfl rfl rfl (fun hb => Spec.move (Has.s rfl))) (ao (StepG.opgu rfl rfl rfl (fun hb => Spec.nilCheckI (Has.u rfl hb) rfl)) (ao (StepG.opgu rfl rfl rfl (fun hb => Spec.fieldAddrO fd28_2 (Has.cv (Has.u rfl hb) (Cv.isvP rfl)))) (ao (StepG.opgu rfl rfl rfl (fun hb => Spec.loadF (i := 2) ty26 rfl (Has.u rfl hb) rfl (HasG.s rfl))) (ao (StepG.opgu rfl rfl rfl (fun hb => Spec.callE [85] 94 rfl en79 (slices_Contains_bool_bool_c x19.Dirty true (gO_t hx31 (and_t (not_t hb.1) hb.2))) (HasAll.cons (Has.m (Has.cv (Has.u rfl hb) (Cv.trans Cv.owSl (Cv.slRep (T' := [85]) rfl rfl))) rfl) (HasAll.cons (Has.fl Has.bool) HasAll.nil)))) (ao (StepG.opgu rfl rfl rfl (fun hb => Spec.not (Has.u rfl hb))) (ao (StepG.opg rfl rfl rfl (fun hb => Spec.and (Has.u rfl hb) (fun h => Has.u rfl ⟨hb, h⟩))) (ao (so (Spec.or (Has.s rfl) (fun h => Has.u rfl h))) AllM.nil))))))))))))))))))) ?_
          refine Leaf.thenN ?_
          refine CWalk.cond rfl (fun hb => ?_) (fun hb => ?_)
          ·have hm := cond_t hb hm
           refine CWalk.seq ?_
           refine CWalk.region ?_
           refine wo (Spec.assign Has.int) ?_
           refine Walk.nil ?_
           refine Leaf.thenN ?_
           refine CWalk.ret ?_
           refine Leaf.thenR ?_
           exact Leaf.in1 ((6 : Int), x19.Blocks, x19.Phase) hm rfl rfl (HasR.cv (HasR.tmp (Has.s rfl)) Cv.fl) (ls 906010 (ls 906012 (Low.res (lc (lc (lf (lg (lg (lf (lf (lf (lf (Low.keepG (HasG.cv (HasG.s rfl) (Cv.owM (T := [83]) (te := [84]) rfl rfl)) (Low.keepG (HasG.cv (HasG.s rfl) (Cv.owF (T := [85]) (te := []) rfl)) (lf (lf (lf (lf (lg (lg (lf (lf (lf (lf (lg (lg (lf (lf (lf (lo (lo (lo (lo Low.nil)))))))))))))))))))))))))))))))))
          ·have hm := cond_f hb hm
           refine CWalk.skip ?_
           refine Leaf.thenN ?_
           refine CWalk.seq ?_
           refine CWalk.region ?_
           refine wo (Spec.loadF (α := Int) (i := 0) ty96 rfl (Has.cv (Has.s rfl) (Cv.isvP rfl)) rfl (HasG.s rfl)) ?_
           refine mv ?_
           refine Walk.inline (S := (List (List UInt8))) (fun p : (List (List UInt8)) => [.fact 26 (.top), .fact 902006 (.cst (u1 6) (Fact.isv 26)), .fact 904008 (.cst (u2 8) (Fact.isv 53)), .fact 906010 (.cst (u3 10) (Fact.isv 74)), .fact 906012 (.cst (u3 12) (Fact.isv 86)), .fact 100027 (.at 27 (.rep [] ((0 : Int) : Int))), .fact 100028 (.at 28 (.nilv)), .fact 100029 (.at 29 (.nilv)), .fact 100030 (.at 30 (.rep [] ((0 : UInt8) : UInt8))), .fact 100031 (.at 31 (.rep [] (false : Bool))), .fact 100032 (.at 32 (.rep [] ((0 : UInt32) : UInt32))), .fact 100054 (.at 54 (.rep [] ((0 : Int) : Int))), .fact 100055 (.at 55 (.nilv)), .fact 100056 (.at 56 (.nilv)), .fact 100057 (.at 57 (.rep [] ((0 : UInt8) : UInt8))), .fact 100058 (.at 58 (.rep [] (false : Bool))), .fact 100059 (.at 59 (.rep [] ((0 : UInt32) : UInt32))), .fact 100075 (.at 75 (.rep [] ((0 : Int) : Int))), .fact 100076 (.at 76 (.nilv)), .fact 100077 (.at 77 (.nilv)), .fact 100078 (.at 78 (.rep [] ((0 : UInt8) : UInt8))), .fact 100079 (.at 79 (.rep [] (false : Bool))), .fact 100080 (.at 80 (.rep [] ((0 : UInt32) : UInt32))), .fact 100087 (.at 87 (.rep [] x19.Stripe)), .fact 100088 (.at 88 (.isv 95)), .fact 100089 (.at 89 (.ow [85] [] 4 (x19.Dirty : List Bool))), .fact 100090 (.at 90 (.rep [] ((1 : UInt8) : UInt8))), .fact 100091 (.at 91 (.rep [] x19.Deals)), .fact 100092 (.at 92 (.rep [] x19.Seq)), .fact 100026 (.obj 26 [(false, 1), (false, 1), (false, 1), (false, 1), (false, 1), (false, 1)]), .fact 100053 (.obj 53 [(false, 1), (false, 1), (false, 1), (false, 1), (false, 1), (false, 1)]), .fact 100074 (.obj 74 [(false, 1), (false, 1), (false, 1), (false, 1), (false, 1), (false, 1)]), .fact 100086 (.obj 86 [(false, 1), (false, 1), (false, 1), (false, 1), (false, 1), (false, 1)]), .fact 100095 (.own 95 [84, 96] 31 (p : List (List UInt8)))]) (fun p : (List (List UInt8)) => head_Make_J5 x19 p = some r) (fun u4 => [.fact 100011 (.at 11 (.rep [] a0.Id)), .fact 100012 (.at 12 (.rep [] a0.Members)), .fact 100013 (.at 13 (.rep [] a0.Chunk)), .fact 100014 (.at 14 (.rep [] a0.Rows)), .fact 100015 (.at 15 (.rep [] a0.Log)), .fact 100016 (.at 16 (.rep [] a0.Heads)), .fact 100025 (.at 25 (.rep [0] (a2 : List UInt8))), .fact 100027 (.at 27 (.rep [] ((0 : Int) : Int))), .fact 100028 (.at 28 (.nilv)), .fact 100029 (.at 29 (.nilv)), .fact 100030 (.at 30 (.rep [] ((0 : UInt8) : UInt8))), .fact 100031 (.at 31 (.rep [] (false : Bool))), .fact 100032 (.at 32 (.rep [] ((0 : UInt32) : UInt32))), .fact 100054 (.at 54 (.rep [] ((0 : Int) : Int))), .fact 100055 (.at 55 (.nilv)), .fact 100056 (.at 56 (.nilv)), .fact 100057 (.at 57 (.rep [] ((0 : UInt8) : UInt8))), .fact 100058 (.at 58 (.rep [] (false : Bool))), .fact 100059 (.at 59 (.rep [] ((0 : UInt32) : UInt32))), .fact 100075 (.at 75 (.rep [] ((0 : Int) : Int))), .fact 100076 (.at 76 (.nilv)), .fact 100077 (.at 77 (.nilv)), .fact 100078 (.at 78 (.rep [] ((0 : UInt8) : UInt8))), .fact 100079 (.at 79 (.rep [] (false : Bool))), .fact 100080 (.at 80 (.rep [] ((0 : UInt32) : UInt32))), .fact 100087 (.at 87 (.rep [] x19.Stripe)), .fact 100088 (.at 88 (.ow [83] [84] 31 (x19.Blocks : List (List UInt8)))), .fact 100089 (.at 89 (.ow [85] [] 4 (x19.Dirty : List Bool))), .fact 100090 (.at 90 (.rep [] x19.Phase)), .fact 100091 (.at 91 (.rep [] x19.Deals)), .fact 100092 (.at 92 (.rep [] x19.Seq)), .fact 902006 (.cst (u1 6) (Fact.isv 26)), .fact 904008 (.cst (u2 8) (Fact.isv 53)), .fact 906010 (.cst (u3 10) (Fact.isv 74)), .fact 906012 (.cst (u3 12) (Fact.isv 86)), .fact 100010 (.obj 10 [(false, 1), (false, 1), (false, 1), (false, 1), (false, 1), (false, 1)]), .fact 100024 (.obj 24 [(false, 1)]), .fact 100026 (.obj 26 [(false, 1), (false, 1), (false, 1), (false, 1), (false, 1), (false, 1)]), .fact 100053 (.obj 53 [(false, 1), (false, 1), (false, 1), (false, 1), (false, 1), (false, 1)]), .fact 100074 (.obj 74 [(false, 1), (false, 1), (false, 1), (false, 1), (false, 1), (false, 1)]), .fact 100086 (.obj 86 [(false, 1), (false, 1), (false, 1), (false, 1), (false, 1), (false, 1)])]) (FA := [Fact.isv 86, Fact.isv 24, Fact.isv 10]) rfl Try.func64 rfl rfl rfl (CallOk.valE en64 (Has.s rfl) (HasF.cons (Has.s rfl) HasF.nil)) (fun u4 => (ck (ck (ck (ck (ck (ck (ck (ck (ck (ck (ck (ck (ck (ck (ck (ck (ck (ck (ck (ck (ck (ck (ck (ck (ck (ck (ck (ck (ck (ck (ck (ck (ck (ck (ck (ck (ck (ck (ck (ck (ck Carry.nil)))))))))))))))))))))))))))))))))))))))))) (fun u4 => ?_) ?_
           ·refine CWalk.seq ?_
            refine CWalk.region ?_
            refine mv ?_
            refine wo (Spec.nilCheckI (Has.s rfl) rfl) ?_
            refine wo (Spec.fieldAddrO fd28_3 (Has.cv (Has.s rfl) (Cv.isvP rfl))) ?_
            refine ws (Step.storeF (i := 3) (f := Fact.rep [] ((1 : UInt8) : UInt8)) rfl ty5 rfl (Has.s rfl) rfl (Has.u8 1 rfl) (Has.u8 1 rfl) rfl) ?_
            refine Walk.nil ?_
            refine Leaf.thenN ?_
            refine CWalk.ad (Ad.owF (i := 88) 95 rfl rfl rfl (ElT.tags rfl) rfl (Cv.owM (T := [83]) (te := [84]) (T' := [83]) (te' := [84]) rfl rfl)) ?_
            obtain ⟨x33, hx33, hm⟩ := bind_some hm
            obtain ⟨x34, hx34, hm⟩ := bind_some hm
            refine CWalk.drawM [[], [0], [0, 1], [0, 1, 2], [], [4], [4, 5], [], [7], [0, 1, 2, 3, 4, 5, 6, 7, 8], [0, 1, 2, 3, 4, 5, 6, 7, 8, 9]] [[.fact 7 (.isv 86)], [.fact 8 (.isv 86)], [.fact 9 (.pto 86 1)], [.fact 10 (.isv 95)], [.fact 11 (.pto 10 1)], [.fact 12 (.rep [] a0.Members)], [.fact 13 (.rep [] ((wI (a0.Members - (1 : Int))) : Int))], [.fact 14 (.rep [0] (a2 : List UInt8))], [.fact 15 (.ow [96] [] 5 (x33 : List UInt8))], [.fact 16 (.pto 95 (x34 * Rp.n (List UInt8)))], [.fact 100095 (.own 95 [84, 96] 31 ((x19.Blocks).set x34 x33 : List (List UInt8))), .kill 95]] mixed (by kernel_rfl) (ao (so (Spec.move (Has.s rfl))) (ao (so (Spec.nilCheckI (Has.s rfl) rfl)) (ao (so (Spec.fieldAddrO fd28_1 (Has.cv (Has.s rfl) (Cv.isvP rfl)))) (ao (so (Spec.loadF (i := 1) ty25 rfl (Has.s rfl) rfl (HasG.s rfl))) (ao (so (Spec.fieldAddrO fd24_1 (Has.cv (Has.s rfl) (Cv.isvP rfl)))) (ao (so (Spec.loadF (i := 1) ty3 rfl (Has.s rfl) rfl (HasG.s rfl))) (ao (so (Spec.subI (Has.s rfl) Has.int)) (ao (so (Spec.loadF (i := 0) ty31 rfl (Has.cv (Has.s rfl) (Cv.isvP rfl)) rfl (HasG.s rfl))) (ao (so (Spec.callE [0] 96 rfl en50 (head_block_c a2 hx33) (HasAll.cons (Has.m (Has.s rfl) rfl) HasAll.nil))) (ao (so (Spec.idxOwn hx34 ow25 (Has.s rfl) rfl (Has.s rfl))) (ao (StepG.stE (Step.storeOwn (te' := [84, 96]) rfl (bnd_lt hx34 rfl) ty31 (Has.s rfl) rfl (Has.cv (Has.s rfl) (Cv.trans Cv.owSl (Cv.slRep (T' := [96]) rfl rfl))) (ElKeep.tags rfl rfl) (ElKeep.tags rfl rfl))) AllM.nil))))))))))) ?_
            exact Leaf.inN (Leaf.in0 (f0 := Fact.top) ((x19.Blocks).set x34 x33) hm rfl rfl (fun _ _ => trivial) (Low.res (lc (lc (lc (lc (lf (lg (lg (lf (lf (lf (lf (lg (lg (lf (lf (lf (lf (lg (lg (lf (lf (lf (lf (lg (Low.keepG (HasG.cv (HasG.s rfl) (Cv.owF (T := [85]) (te := []) rfl)) (lf (lf (lf (lo (lo (lo (lo (Low.keepR (fun _ _ _ _ h => h) (Has.ownM (Has.s rfl) rfl) Low.nil)))))))))))))))))))))))))))))))))))
           ·rintro j32 hm
            replace hm : head_Make_J5 x19 j32 = some r := hm
            unfold head_Make_J5 at hm
            show Walk _ _ _ [.fact 26 (.top), .fact 902006 (.cst (u1 6) (Fact.isv 26)), .fact 904008 (.cst (u2 8) (Fact.isv 53)), .fact 906010 (.cst (u3 10) (Fact.isv 74)), .fact 906012 (.cst (u3 12) (Fact.isv 86)), .fact 100027 (.at 27 (.rep [] ((0 : Int) : Int))), .fact 100028 (.at 28 (.nilv)), .fact 100029 (.at 29 (.nilv)), .fact 100030 (.at 30 (.rep [] ((0 : UInt8) : UInt8))), .fact 100031 (.at 31 (.rep [] (false : Bool))), .fact 100032 (.at 32 (.rep [] ((0 : UInt32) : UInt32))), .fact 100054 (.at 54 (.rep [] ((0 : Int) : Int))), .fact 100055 (.at 55 (.nilv)), .fact 100056 (.at 56 (.nilv)), .fact 100057 (.at 57 (.rep [] ((0 : UInt8) : UInt8))), .fact 100058 (.at 58 (.rep [] (false : Bool))), .fact 100059 (.at 59 (.rep [] ((0 : UInt32) : UInt32))), .fact 100075 (.at 75 (.rep [] ((0 : Int) : Int))), .fact 100076 (.at 76 (.nilv)), .fact 100077 (.at 77 (.nilv)), .fact 100078 (.at 78 (.rep [] ((0 : UInt8) : UInt8))), .fact 100079 (.at 79 (.rep [] (false : Bool))), .fact 100080 (.at 80 (.rep [] ((0 : UInt32) : UInt32))), .fact 100087 (.at 87 (.rep [] x19.Stripe)), .fact 100088 (.at 88 (.isv 95)), .fact 100089 (.at 89 (.ow [85] [] 4 (x19.Dirty : List Bool))), .fact 100090 (.at 90 (.rep [] ((1 : UInt8) : UInt8))), .fact 100091 (.at 91 (.rep [] x19.Deals)), .fact 100092 (.at 92 (.rep [] x19.Seq)), .fact 100026 (.obj 26 [(false, 1), (false, 1), (false, 1), (false, 1), (false, 1), (false, 1)]), .fact 100053 (.obj 53 [(false, 1), (false, 1), (false, 1), (false, 1), (false, 1), (false, 1)]), .fact 100074 (.obj 74 [(false, 1), (false, 1), (false, 1), (false, 1), (false, 1), (false, 1)]), .fact 100086 (.obj 86 [(false, 1), (false, 1), (false, 1), (false, 1), (false, 1), (false, 1)]), .fact 100095 (.own 95 [84, 96] 31 (j32 : List (List UInt8)))] _
            refine Walk.nil ?_
            refine Leaf.thenN ?_
            refine CWalk.seq ?_
            refine CWalk.region ?_
            refine wo (Spec.assign Has.int) ?_
            refine Walk.nil ?_
            refine Leaf.thenN ?_
            refine CWalk.ret ?_
            exact Leaf.in1 ((0 : Int), j32, (1 : UInt8)) hm rfl rfl (HasR.cv (HasR.tmp (Has.s rfl)) Cv.fl) (ls 906010 (ls 906012 (Low.res (lc (lc (lf (lg (lg (lf (lf (lf (lf (Low.keepG (HasG.cv (HasG.s rfl) (Cv.trans (Cv.isvOw rfl) (Cv.owM (T := [95]) (te := [84, 96]) rfl rfl))) (Low.keepG (HasG.cv (HasG.s rfl) (Cv.owF (T := [85]) (te := []) rfl)) (lf (lf (lf (lf (lg (lg (lf (lf (lf (lf (lg (lg (lf (lf (lf (lo (lo (lo (lo Low.nil)))))))))))))))))))))))))))))))))
         ·rintro ⟨j27, j28, j29⟩ hm
          replace hm : head_Make_J4 x19 j27 j28 j29 = some r := hm
          unfold head_Make_J4 at hm
          show Walk _ _ _ [.fact 10 (.isv 74), .fact 12 (.isv 86), .fact 34 (.rep [] (j27 : Int)), .fact 902006 (.cst (u1 6) (Fact.isv 26)), .fact 904008 (.cst (u2 8) (Fact.isv 53)), .fact 100075 (.at 75 (.rep [] ((0 : Int) : Int))), .fact 100076 (.at 76 (.nilv)), .fact 100077 (.at 77 (.nilv)), .fact 100078 (.at 78 (.rep [] ((0 : UInt8) : UInt8))), .fact 100079 (.at 79 (.rep [] (false : Bool))), .fact 100080 (.at 80 (.rep [] ((0 : UInt32) : UInt32))), .fact 100087 (.at 87 (.rep [] x19.Stripe)), .fact 100088 (.at 88 (.ow [83, 95] [84, 96] 31 (j28 : List (List UInt8)))), .fact 100089 (.at 89 (.ow [85] [] 4 (x19.Dirty : List Bool))), .fact 100090 (.at 90 (.rep [] (j29 : UInt8))), .fact 100091 (.at 91 (.rep [] x19.Deals)), .fact 100092 (.at 92 (.rep [] x19.Seq)), .fact 100027 (.at 27 (.rep [] ((0 : Int) : Int))), .fact 100028 (.at 28 (.nilv)), .fact 100029 (.at 29 (.nilv)), .fact 100030 (.at 30 (.rep [] ((0 : UInt8) : UInt8))), .fact 100031 (.at 31 (.rep [] (false : Bool))), .fact 100032 (.at 32 (.rep [] ((0 : UInt32) : UInt32))), .fact 100054 (.at 54 (.rep [] ((0 : Int) : Int))), .fact 100055 (.at 55 (.nilv)), .fact 100056 (.at 56 (.nilv)), .fact 100057 (.at 57 (.rep [] ((0 : UInt8) : UInt8))), .fact 100058 (.at 58 (.rep [] (false : Bool))), .fact 100059 (.at 59 (.rep [] ((0 : UInt32) : UInt32))), .fact 100074 (.obj 74 [(false, 1), (false, 1), (false, 1), (false, 1), (false, 1), (false, 1)]), .fact 100086 (.obj 86 [(false, 1), (false, 1), (false, 1), (false, 1), (false, 1), (false, 1)]), .fact 100026 (.obj 26 [(false, 1), (false, 1), (false, 1), (false, 1), (false, 1), (false, 1)]), .fact 100053 (.obj 53 [(false, 1), (false, 1), (false, 1), (false, 1), (false, 1), (false, 1)])] _
          refine wo (Spec.assign (Has.s rfl)) ?_
          refine Walk.nil ?_
          refine Leaf.thenN ?_
          refine CWalk.seq ?_
          refine CWalk.region ?_
          refine mv ?_
          refine wo (Spec.eqlI (Has.s rfl) Has.int) ?_
          refine Walk.nil ?_
          refine Leaf.thenN ?_
          refine CWalk.cond rfl (fun hb => ?_) (fun hb => ?_)
          ·have hm := cond_t hb hm
           refine CWalk.region ?_
           refine wo (Spec.loadObj (ls := [(false, 1, Fact.rep [] x19.Stripe), (false, 1, Fact.ow [83, 95] [84, 96] 31 (j28 : List (List UInt8))), (false, 1, Fact.ow [85] [] 4 (x19.Dirty : List Bool)), (false, 1, Fact.rep [] (j29 : UInt8)), (false, 1, Fact.rep [] x19.Deals), (false, 1, Fact.rep [] x19.Seq)]) ty28 rfl rfl (Has.s rfl) rfl (HasGs.cons (HasG.s rfl) (HasGs.cons (HasG.s rfl) (HasGs.cons (HasG.s rfl) (HasGs.cons (HasG.s rfl) (HasGs.cons (HasG.s rfl) (HasGs.cons (HasG.s rfl) HasGs.nil))))))) ?_
           refine ws (Step.storeObj (ls := [(false, 1, Fact.rep [] x19.Stripe), (false, 1, Fact.ow [83, 95] [84, 96] 31 (j28 : List (List UInt8))), (false, 1, Fact.ow [85] [] 4 (x19.Dirty : List Bool)), (false, 1, Fact.rep [] (j29 : UInt8)), (false, 1, Fact.rep [] x19.Deals), (false, 1, Fact.rep [] x19.Seq)]) rfl ty28 rfl rfl (Has.s rfl) rfl (HasL.flds (Has.s rfl)) rfl) ?_
           refine Walk.nil ?_
           exact Leaf.join (j27, x19.Stripe, j28, x19.Dirty, j29, x19.Deals, x19.Seq) hm (sn (st (sc (sc (sf (Sub.cons (Has.at (HasG.cv (HasG.s rfl) (Cv.owM (T := [83, 95]) (te := [84, 96]) rfl rfl))) (Sub.cons (Has.at (HasG.cv (HasG.s rfl) (Cv.owF (T := [85]) (te := []) rfl))) (sf (sf (sf (sf (sg (sg (sf (sf (sf (sf (sg (sg (sf (sf (sf (sn (sn (sn Sub.nil)))))))))))))))))))))))))
          ·have hm := cond_f hb hm
           refine CWalk.skip ?_
           exact Leaf.join (j27, (0 : Int), ([] : List (List UInt8)), ([] : List Bool), (0 : UInt8), false, (0 : UInt32)) hm (sn (st (sc (sc (sf (Sub.cons (Has.at (HasG.cv (HasG.s rfl) (Cv.trans Cv.nilOw (Cv.owM (T := []) (te := []) rfl rfl)))) (Sub.cons (Has.at (HasG.cv (HasG.s rfl) (Cv.trans Cv.nilOw (Cv.owF (T := []) (te := []) rfl)))) (sf (sf (sf (sf (sg (sg (sf (sf (sf (sf (sg (sg (sf (sf (sf (sn (sn (sn Sub.nil)))))))))))))))))))))))))
    ·rintro ⟨j10, j11, j12, j13, j14, j15, j16⟩ hm
     replace hm : head_Make_J2 j10 j11 j12 j13 j14 j15 j16 = some r := hm
     unfold head_Make_J2 at hm
     show Walk _ _ _ [.fact 8 (.isv 53), .fact 13 (.tup2 (Fact.flds [(false, 1, Fact.rep [] (j10 : Int)), (false, 1, Fact.ow [83, 95] [84, 96] 31 (j11 : List (List UInt8))), (false, 1, Fact.ow [85] [] 4 (j12 : List Bool)), (false, 1, Fact.rep [] (j13 : UInt8)), (false, 1, Fact.rep [] (j14 : Bool)), (false, 1, Fact.rep [] (j15 : UInt32))]) (Fact.rep [] (j16 : Int))), .fact 902006 (.cst (u1 6) (Fact.isv 26)), .fact 100054 (.at 54 (.rep [] ((0 : Int) : Int))), .fact 100055 (.at 55 (.nilv)), .fact 100056 (.at 56 (.nilv)), .fact 100057 (.at 57 (.rep [] ((0 : UInt8) : UInt8))), .fact 100058 (.at 58 (.rep [] (false : Bool))), .fact 100059 (.at 59 (.rep [] ((0 : UInt32) : UInt32))), .fact 100027 (.at 27 (.rep [] ((0 : Int) : Int))), .fact 100028 (.at 28 (.nilv)), .fact 100029 (.at 29 (.nilv)), .fact 100030 (.at 30 (.rep [] ((0 : UInt8) : UInt8))), .fact 100031 (.at 31 (.rep [] (false : Bool))), .fact 100032 (.at 32 (.rep [] ((0 : UInt32) : UInt32))), .fact 100053 (.obj 53 [(false, 1), (false, 1), (false, 1), (false, 1), (false, 1), (false, 1)]), .fact 100026 (.obj 26 [(false, 1), (false, 1), (false, 1), (false, 1), (false, 1), (false, 1)])] _
     refine wo (Spec.ext0 (Has.s rfl)) ?_
     refine wo (Spec.ext1 (Has.s rfl)) ?_
     refine ws (Step.storeObj (ls := [(false, 1, Fact.rep [] (j10 : Int)), (false, 1, Fact.ow [83, 95] [84, 96] 31 (j11 : List (List UInt8))), (false, 1, Fact.ow [85] [] 4 (j12 : List Bool)), (false, 1, Fact.rep [] (j13 : UInt8)), (false, 1, Fact.rep [] (j14 : Bool)), (false, 1, Fact.rep [] (j15 : UInt32))]) rfl ty28 rfl rfl (Has.s rfl) rfl (HasL.flds (Has.s rfl)) rfl) ?_
     refine wo (Spec.assign (Has.s rfl)) ?_
     refine Walk.nil ?_
     refine Leaf.thenN ?_
     refine CWalk.ret ?_
     exact Leaf.in2 (j10, j11, j12, j13, j14, j15, j16) hm rfl rfl (HasR.cv (HasR.obj (ls := [(false, 1, Fact.rep [] (j10 : Int)), (false, 1, Fact.ow [83, 95] [84, 96] 31 (j11 : List (List UInt8))), (false, 1, Fact.ow [85] [] 4 (j12 : List Bool)), (false, 1, Fact.rep [] (j13 : UInt8)), (false, 1, Fact.rep [] (j14 : Bool)), (false, 1, Fact.rep [] (j15 : UInt32))]) ty28 rfl rfl (Has.s rfl) rfl (HasGs.cons (HasG.s rfl) (HasGs.cons (HasG.s rfl) (HasGs.cons (HasG.s rfl) (HasGs.cons (HasG.s rfl) (HasGs.cons (HasG.s rfl) (HasGs.cons (HasG.s rfl) HasGs.nil))))))) (Cv.flds (CvL.cons Cv.fl (CvL.cons (Cv.owM (T := [83, 95]) (te := [84, 96]) rfl rfl) (CvL.cons (Cv.owF (T := [85]) (te := []) rfl) (CvL.cons Cv.fl (CvL.cons Cv.fl (CvL.cons Cv.fl CvL.nil)))))))) (HasR.cv (HasR.tmp (Has.s rfl)) Cv.fl) (ls 902006 (Low.res (lf (lg (lg (lf (lf (lf (lo Low.nil)))))))))
   ·rintro ⟨j3, j4, j5, j6, j7, j8, j9⟩ hm
    replace hm : head_Make_J1 j3 j4 j5 j6 j7 j8 j9 = some r := hm
    unfold head_Make_J1 at hm
    show Walk _ _ _ [.fact 6 (.isv 26), .fact 22 (.tup2 (Fact.flds [(false, 1, Fact.rep [] (j3 : Int)), (false, 1, Fact.ow [83, 95] [84, 96] 31 (j4 : List (List UInt8))), (false, 1, Fact.ow [85] [] 4 (j5 : List Bool)), (false, 1, Fact.rep [] (j6 : UInt8)), (false, 1, Fact.rep [] (j7 : Bool)), (false, 1, Fact.rep [] (j8 : UInt32))]) (Fact.rep [] (j9 : Int))), .fact 100027 (.at 27 (.rep [] ((0 : Int) : Int))), .fact 100028 (.at 28 (.nilv)), .fact 100029 (.at 29 (.nilv)), .fact 100030 (.at 30 (.rep [] ((0 : UInt8) : UInt8))), .fact 100031 (.at 31 (.rep [] (false : Bool))), .fact 100032 (.at 32 (.rep [] ((0 : UInt32) : UInt32))), .fact 100026 (.obj 26 [(false, 1), (false, 1), (false, 1), (false, 1), (false, 1), (false, 1)])] _
    refine wo (Spec.ext0 (Has.s rfl)) ?_
    refine wo (Spec.ext1 (Has.s rfl)) ?_
    refine ws (Step.storeObj (ls := [(false, 1, Fact.rep [] (j3 : Int)), (false, 1, Fact.ow [83, 95] [84, 96] 31 (j4 : List (List UInt8))), (false, 1, Fact.ow [85] [] 4 (j5 : List Bool)), (false, 1, Fact.rep [] (j6 : UInt8)), (false, 1, Fact.rep [] (j7 : Bool)), (false, 1, Fact.rep [] (j8 : UInt32))]) rfl ty28 rfl rfl (Has.s rfl) rfl (HasL.flds (Has.s rfl)) rfl) ?_
    refine wo (Spec.assign (Has.s rfl)) ?_
    refine Walk.nil ?_
    refine Leaf.thenN ?_
    refine CWalk.ret ?_
    obtain rfl := Option.some.inj hm
    exact Leaf.retC2 rfl (HasR.cv (HasR.obj (ls := [(false, 1, Fact.rep [] (j3 : Int)), (false, 1, Fact.ow [83, 95] [84, 96] 31 (j4 : List (List UInt8))), (false, 1, Fact.ow [85] [] 4 (j5 : List Bool)), (false, 1, Fact.rep [] (j6 : UInt8)), (false, 1, Fact.rep [] (j7 : Bool)), (false, 1, Fact.rep [] (j8 : UInt32))]) ty28 rfl rfl (Has.s rfl) rfl (HasGs.cons (HasG.s rfl) (HasGs.cons (HasG.s rfl) (HasGs.cons (HasG.s rfl) (HasGs.cons (HasG.s rfl) (HasGs.cons (HasG.s rfl) (HasGs.cons (HasG.s rfl) HasGs.nil))))))) (Cv.flds (CvL.cons Cv.fl (CvL.cons (Cv.owM (T := [83, 95]) (te := [84, 96]) rfl rfl) (CvL.cons (Cv.owF (T := [85]) (te := []) rfl) (CvL.cons Cv.fl (CvL.cons Cv.fl (CvL.cons Cv.fl CvL.nil)))))))) (HasR.cv (HasR.tmp (Has.s rfl)) Cv.fl)

def head_Log_J1 (j1 : Int) (j2 : List (List UInt8)) (j3 : List Bool) (j4 : UInt8) (j5 : Bool) (j6 : UInt32) (j7 : Int) : Option (Head × Int) :=
  some ((Head.mk j1 j2 j3 j4 j5 j6), j7)
def head_Log_J2 (j8 : Int) (j9 : List (List UInt8)) (j10 : List Bool) (j11 : UInt8) (j12 : Bool) (j13 : UInt32) (j14 : Int) : Option (Head × Int) :=
  (head_Log_J1 j8 j9 j10 j11 j12 j13 j14)
def head_Log_J3 (j18 : Int) (j19 : Int) (j20 : List (List UInt8)) (j21 : List Bool) (j22 : UInt8) (j23 : Bool) (j24 : UInt32) : Option (Head × Int) :=
  (head_Log_J2 j19 j20 j21 j22 j23 j24 j18)
def head_Log_J4 (x17 : Head) (j25 : Int) (j26 : UInt8) (j27 : Bool) (j28 : UInt32) : Option (Head × Int) :=
  (bif (j25 == (0 : Int)) then (head_Log_J3 j25 x17.Stripe x17.Blocks x17.Dirty j26 j27 j28) else (head_Log_J3 j25 (0 : Int) ([] : List (List UInt8)) ([] : List Bool) (0 : UInt8) false (0 : UInt32)))
def head_Log_J5 (a2 : UInt32) (x17 : Head) : Option (Head × Int) :=
  (head_Log_J4 x17 (0 : Int) (2 : UInt8) false a2)
/-- freeboard/head.Log -/
def head_Log (a0 : Config) (a1 : Head) (a2 : UInt32) : Option (Head × Int) :=
  Option.bind (head_Check a0 a1) (fun x15 => (bif (x15 != (0 : Int)) then (head_Log_J2 (0 : Int) ([] : List (List UInt8)) ([] : List Bool) (0 : UInt8) false (0 : UInt32) x15) else (bif ((decide ((0 : Int) < (0 : Int))) || (decide ((0 : Int) ≥ (wI (a0.Members - (1 : Int)))))) then (head_Log_J2 (0 : Int) ([] : List (List UInt8)) ([] : List Bool) (0 : UInt8) false (0 : UInt32) (2 : Int)) else Option.bind (head_odd ([] : List UInt8)) (fun x16 => (bif x16 then (head_Log_J2 (0 : Int) ([] : List (List UInt8)) ([] : List Bool) (0 : UInt8) false (0 : UInt32) (3 : Int)) else Option.bind (head_Twin a1) (fun x17 => Option.bind (head_may (1 : Int) x17.Phase) (fun x29 => Option.bind (gO ((!(!x29)) && (((1 : Int) == (0 : Int)))) (slices_Contains_bool_bool x17.Dirty true)) (fun x30 => (bif ((!x29) || (((1 : Int) == (0 : Int)) && (!x30))) then (head_Log_J4 x17 (6 : Int) x17.Phase x17.Deals x17.Seq) else (head_Log_J5 a2 x17))))))))))
set_option maxRecDepth 100000 in
set_option maxHeartbeats 2000000 in
theorem head_Log_c (a0 : Config) (a1 : Head) (a2 : UInt32) {r : Head × Int} (hm : head_Log a0 a1 a2 = some r) : Ctr Try.prog 30 [.rep 0 a0, .rep 0 a1, .rep 0 a2] (.tup2 (.flds [(false, 1, (.fl r.1.Stripe)), (false, 1, (.own 0 (some 1) 31 r.1.Blocks)), (false, 1, (.own 2 none 4 r.1.Dirty)), (false, 1, (.fl r.1.Phase)), (false, 1, (.fl r.1.Deals)), (false, 1, (.fl r.1.Seq))]) (.fl r.2)) [] := by
 refine ctr_of_walk [[81], [82], [83]] 14 Try.func30 rfl rfl rfl rfl (fun w0 om => ?_)
 unfold head_Log at hm
 refine CWalk.sub (G' := [.fact 0 (.rep [] (a0 : Config)), .fact 1 (.rep [0] (a1 : Head)), .fact 2 (.rep [] (a2 : UInt32))]) (Sub.cons (Has.fl (Has.s rfl)) (sn (Sub.cons (Has.fl (Has.s rfl)) Sub.nil))) ?_
 refine CWalk.seq ?_
 refine CWalk.region ?_
 refine ws (Step.boxObj (ls := [(false, 1, Fact.rep [] a0.Id), (false, 1, Fact.rep [] a0.Members), (false, 1, Fact.rep [] a0.Chunk), (false, 1, Fact.rep [] a0.Rows), (false, 1, Fact.rep [] a0.Log), (false, 1, Fact.rep [] a0.Heads)]) 10 rfl rfl rfl rfl (HasL.flds (Has.cv (Has.s rfl) (Cv.trans (Cv.opens (chConfig a0)) (Cv.flds (CvL.cons Cv.fl (CvL.cons Cv.fl (CvL.cons Cv.fl (CvL.cons Cv.fl (CvL.cons Cv.fl (CvL.cons Cv.fl CvL.nil))))))))))) ?_
 refine ws (Step.boxObj (ls := [(false, 1, Fact.rep [] a1.Stripe), (false, 1, Fact.rep [0] a1.Blocks), (false, 1, Fact.rep [0] a1.Dirty), (false, 1, Fact.rep [] a1.Phase), (false, 1, Fact.rep [] a1.Deals), (false, 1, Fact.rep [] a1.Seq)]) 17 rfl rfl rfl rfl (HasL.flds (Has.cv (Has.s rfl) (Cv.trans (Cv.opens (chHead a1)) (Cv.flds (CvL.cons Cv.fl (CvL.cons Cv.refl (CvL.cons Cv.refl (CvL.cons Cv.fl (CvL.cons Cv.fl (CvL.cons Cv.fl CvL.nil))))))))))) ?_
 refine ws (Step.boxObj (ls := [(false, 1, Fact.rep [] (a2 : UInt32))]) 24 rfl rfl rfl rfl (HasL.one (Has.s rfl) rfl (Has.s rfl))) ?_
 refine ws (Step.allocObj (ls := [(false, 1, Fact.rep [] ((0 : Int) : Int)), (false, 1, Fact.nilv), (false, 1, Fact.nilv), (false, 1, Fact.rep [] ((0 : UInt8) : UInt8)), (false, 1, Fact.rep [] (false : Bool)), (false, 1, Fact.rep [] ((0 : UInt32) : UInt32))]) 26 rfl rfl rfl rfl zl28) ?_
 refine wo (Spec.assign Has.int) ?_
 refine Walk.nil ?_
 refine Leaf.thenN ?_
 refine CWalk.seq ?_
 refine CWalk.region ?_
 refine wo (Spec.loadObj (ls := [(false, 1, Fact.rep [] a0.Id), (false, 1, Fact.rep [] a0.Members), (false, 1, Fact.rep [] a0.Chunk), (false, 1, Fact.rep [] a0.Rows), (false, 1, Fact.rep [] a0.Log), (false, 1, Fact.rep [] a0.Heads)]) ty24 rfl rfl (Has.s rfl) rfl (HasGs.cons (HasG.s rfl) (HasGs.cons (HasG.s rfl) (HasGs.cons (HasG.s rfl) (HasGs.cons (HasG.s rfl) (HasGs.cons (HasG.s rfl) (HasGs.cons (HasG.s rfl) HasGs.nil))))))) ?_
 refine wo (Spec.loadObj (ls := [(false, 1, Fact.rep [] a1.Stripe), (false, 1, Fact.rep [0] a1.Blocks), (false, 1, Fact.rep [0] a1.Dirty), (false, 1, Fact.rep [] a1.Phase), (false, 1, Fact.rep [] a1.Deals), (false, 1, Fact.rep [] a1.Seq)]) ty28 rfl rfl (Has.s rfl) rfl (HasGs.cons (HasG.s rfl) (HasGs.cons (HasG.s rfl) (HasGs.cons (HasG.s rfl) (HasGs.cons (HasG.s rfl) (HasGs.cons (HasG.s rfl) (HasGs.cons (HasG.s rfl) HasGs.nil))))))) ?_
 refine wo (Spec.makeFunc (xs := []) (ys := [.tmp 5]) rfl rfl HasF.nil (HasF.cons (Has.s rfl) HasF.nil) (fun _ _ _ => rfl)) ?_
 refine Walk.inline (S := Int × (List (List UInt8)) × (List Bool) × UInt8 × Bool × UInt32 × Int) (fun p : Int × (List (List UInt8)) × (List Bool) × UInt8 × Bool × UInt32 × Int => [.fact 6 (.isv 26), .fact 11 (.tup2 (Fact.flds [(false, 1, Fact.rep [] p.1), (false, 1, Fact.ow [81] [82] 31 (p.2.1 : List (List UInt8))), (false, 1, Fact.ow [83] [] 4 (p.2.2.1 : List Bool)), (false, 1, Fact.rep [] p.2.2.2.1), (false, 1, Fact.rep [] p.2.2.2.2.1), (false, 1, Fact.rep [] p.2.2.2.2.2.1)]) (Fact.rep [] p.2.2.2.2.2.2)), .fact 100027 (.at 27 (.rep [] ((0 : Int) : Int))), .fact 100028 (.at 28 (.nilv)), .fact 100029 (.at 29 (.nilv)), .fact 100030 (.at 30 (.rep [] ((0 : UInt8) : UInt8))), .fact 100031 (.at 31 (.rep [] (false : Bool))), .fact 100032 (.at 32 (.rep [] ((0 : UInt32) : UInt32))), .fact 100026 (.obj 26 [(false, 1), (false, 1), (false, 1), (false, 1), (false, 1), (false, 1)])]) (fun p : Int × (List (List UInt8)) × (List Bool) × UInt8 × Bool × UInt32 × Int => head_Log_J1 p.1 p.2.1 p.2.2.1 p.2.2.2.1 p.2.2.2.2.1 p.2.2.2.2.2.1 p.2.2.2.2.2.2 = some r) (fun u1 => [.fact 100025 (.at 25 (.rep [] (a2 : UInt32))), .fact 100027 (.at 27 (.rep [] ((0 : Int) : Int))), .fact 100028 (.at 28 (.nilv)), .fact 100029 (.at 29 (.nilv)), .fact 100030 (.at 30 (.rep [] ((0 : UInt8) : UInt8))), .fact 100031 (.at 31 (.rep [] (false : Bool))), .fact 100032 (.at 32 (.rep [] ((0 : UInt32) : UInt32))), .fact 902006 (.cst (u1 6) (Fact.isv 26)), .fact 100024 (.obj 24 [(false, 1)]), .fact 100026 (.obj 26 [(false, 1), (false, 1), (false, 1), (false, 1), (false, 1), (false, 1)])]) (FA := [Fact.flds [(false, 1, Fact.rep [] a0.Id), (false, 1, Fact.rep [] a0.Members), (false, 1, Fact.rep [] a0.Chunk), (false, 1, Fact.rep [] a0.Rows), (false, 1, Fact.rep [] a0.Log), (false, 1, Fact.rep [] a0.Heads)], Fact.flds [(false, 1, Fact.rep [] a1.Stripe), (false, 1, Fact.rep [0] a1.Blocks), (false, 1, Fact.rep [0] a1.Dirty), (false, 1, Fact.rep [] a1.Phase), (false, 1, Fact.rep [] a1.Deals), (false, 1, Fact.rep [] a1.Seq)], Fact.rep [] ((1 : Int) : Int), Fact.fnv 68 [] [Fact.isv 24]]) rfl Try.func63 rfl rfl rfl (CallOk.fn en63 (HasF.cons (Has.s rfl) (HasF.cons (Has.s rfl) (HasF.cons Has.int (HasF.cons (Has.s rfl) HasF.nil))))) (fun u1 => (ck (ck (ck (ck (ck (ck (ck (cs 902000 6 (ck (ck Carry.nil))))))))))) (fun u1 => ?_) ?_
 ·refine CWalk.seq ?_
  refine CWalk.region ?_
  refine ws (Step.boxObj (ls := [(false, 1, Fact.rep [] a0.Id), (false, 1, Fact.rep [] a0.Members), (false, 1, Fact.rep [] a0.Chunk), (false, 1, Fact.rep [] a0.Rows), (false, 1, Fact.rep [] a0.Log), (false, 1, Fact.rep [] a0.Heads)]) 33 rfl rfl rfl rfl (HasL.flds (Has.s rfl))) ?_
  refine ws (Step.boxObj (ls := [(false, 1, Fact.rep [] a1.Stripe), (false, 1, Fact.rep [0] a1.Blocks), (false, 1, Fact.rep [0] a1.Dirty), (false, 1, Fact.rep [] a1.Phase), (false, 1, Fact.rep [] a1.Deals), (false, 1, Fact.rep [] a1.Seq)]) 40 rfl rfl rfl rfl (HasL.flds (Has.s rfl))) ?_
  refine ws (Step.boxObj (ls := [(false, 1, Fact.rep [] ((1 : Int) : Int))]) 47 rfl rfl rfl rfl (HasL.one (Has.s rfl) rfl (Has.s rfl))) ?_
  refine ws (Step.boxObj (ls := [(false, 1, Fact.fnv 68 [] [Fact.isv 24])]) 49 rfl rfl rfl rfl (HasL.fnv (Has.s rfl))) ?_
  refine ws (Step.allocObj (ls := [(false, 1, Fact.rep [] ((0 : Int) : Int)), (false, 1, Fact.nilv), (false, 1, Fact.nilv), (false, 1, Fact.rep [] ((0 : UInt8) : UInt8)), (false, 1, Fact.rep [] (false : Bool)), (false, 1, Fact.rep [] ((0 : UInt32) : UInt32))]) 51 rfl rfl rfl rfl zl28) ?_
  refine wo (Spec.assign Has.int) ?_
  refine Walk.nil ?_
  refine Leaf.thenN ?_
  refine CWalk.seq ?_
  refine CWalk.region ?_
  refine wo (Spec.loadObj (ls := [(false, 1, Fact.rep [] a0.Id), (false, 1, Fact.rep [] a0.Members), (false, 1, Fact.rep [] a0.Chunk), (false, 1, Fact.rep [] a0.Rows), (false, 1, Fact.rep [] a0.Log), (false, 1, Fact.rep [] a0.Heads)]) ty24 rfl rfl (Has.s rfl) rfl (HasGs.cons (HasG.s rfl) (HasGs.cons (HasG.s rfl) (HasGs.cons (HasG.s rfl) (HasGs.cons (HasG.s rfl) (HasGs.cons (HasG.s rfl) (HasGs.cons (HasG.s rfl) HasGs.nil))))))) ?_
  refine wo (Spec.loadObj (ls := [(false, 1, Fact.rep [] a1.Stripe), (false, 1, Fact.rep [0] a1.Blocks), (false, 1, Fact.rep [0] a1.Dirty), (false, 1, Fact.rep [] a1.Phase), (false, 1, Fact.rep [] a1.Deals), (false, 1, Fact.rep [] a1.Seq)]) ty28 rfl rfl (Has.s rfl) rfl (HasGs.cons (HasG.s rfl) (HasGs.cons (HasG.s rfl) (HasGs.cons (HasG.s rfl) (HasGs.cons (HasG.s rfl) (HasGs.cons (HasG.s rfl) (HasGs.cons (HasG.s rfl) HasGs.nil))))))) ?_
  refine wo (Spec.makeFunc (xs := []) (ys := [.tmp 6, .tmp 7]) rfl rfl HasF.nil (HasF.cons (Has.s rfl) (HasF.cons (Has.s rfl) HasF.nil)) (fun _ _ _ => rfl)) ?_
  refine Walk.inline (S := Int × (List (List UInt8)) × (List Bool) × UInt8 × Bool × UInt32 × Int) (fun p : Int × (List (List UInt8)) × (List Bool) × UInt8 × Bool × UInt32 × Int => [.fact 8 (.isv 51), .fact 13 (.tup2 (Fact.flds [(false, 1, Fact.rep [] p.1), (false, 1, Fact.ow [81] [82] 31 (p.2.1 : List (List UInt8))), (false, 1, Fact.ow [83] [] 4 (p.2.2.1 : List Bool)), (false, 1, Fact.rep [] p.2.2.2.1), (false, 1, Fact.rep [] p.2.2.2.2.1), (false, 1, Fact.rep [] p.2.2.2.2.2.1)]) (Fact.rep [] p.2.2.2.2.2.2)), .fact 902006 (.cst (u1 6) (Fact.isv 26)), .fact 100052 (.at 52 (.rep [] ((0 : Int) : Int))), .fact 100053 (.at 53 (.nilv)), .fact 100054 (.at 54 (.nilv)), .fact 100055 (.at 55 (.rep [] ((0 : UInt8) : UInt8))), .fact 100056 (.at 56 (.rep [] (false : Bool))), .fact 100057 (.at 57 (.rep [] ((0 : UInt32) : UInt32))), .fact 100027 (.at 27 (.rep [] ((0 : Int) : Int))), .fact 100028 (.at 28 (.nilv)), .fact 100029 (.at 29 (.nilv)), .fact 100030 (.at 30 (.rep [] ((0 : UInt8) : UInt8))), .fact 100031 (.at 31 (.rep [] (false : Bool))), .fact 100032 (.at 32 (.rep [] ((0 : UInt32) : UInt32))), .fact 100051 (.obj 51 [(false, 1), (false, 1), (false, 1), (false, 1), (false, 1), (false, 1)]), .fact 100026 (.obj 26 [(false, 1), (false, 1), (false, 1), (false, 1), (false, 1), (false, 1)])]) (fun p : Int × (List (List UInt8)) × (List Bool) × UInt8 × Bool × UInt32 × Int => head_Log_J2 p.1 p.2.1 p.2.2.1 p.2.2.2.1 p.2.2.2.2.1 p.2.2.2.2.2.1 p.2.2.2.2.2.2 = some r) (fun u2 => [.fact 100025 (.at 25 (.rep [] (a2 : UInt32))), .fact 100027 (.at 27 (.rep [] ((0 : Int) : Int))), .fact 100028 (.at 28 (.nilv)), .fact 100029 (.at 29 (.nilv)), .fact 100030 (.at 30 (.rep [] ((0 : UInt8) : UInt8))), .fact 100031 (.at 31 (.rep [] (false : Bool))), .fact 100032 (.at 32 (.rep [] ((0 : UInt32) : UInt32))), .fact 100048 (.at 48 (.rep [] ((1 : Int) : Int))), .fact 100050 (.at 50 (.fnv 68 [] [Fact.isv 24])), .fact 100052 (.at 52 (.rep [] ((0 : Int) : Int))), .fact 100053 (.at 53 (.nilv)), .fact 100054 (.at 54 (.nilv)), .fact 100055 (.at 55 (.rep [] ((0 : UInt8) : UInt8))), .fact 100056 (.at 56 (.rep [] (false : Bool))), .fact 100057 (.at 57 (.rep [] ((0 : UInt32) : UInt32))), .fact 902006 (.cst (u1 6) (Fact.isv 26)), .fact 904008 (.cst (u2 8) (Fact.isv 51)), .fact 100024 (.obj 24 [(false, 1)]), .fact 100026 (.obj 26 [(false, 1), (false, 1), (false, 1), (false, 1), (false, 1), (false, 1)]), .fact 100047 (.obj 47 [(false, 1)]), .fact 100049 (.obj 49 [(false, 1)]), .fact 100051 (.obj 51 [(false, 1), (false, 1), (false, 1), (false, 1), (false, 1), (false, 1)])]) (FA := [Fact.flds [(false, 1, Fact.rep [] a0.Id), (false, 1, Fact.rep [] a0.Members), (false, 1, Fact.rep [] a0.Chunk), (false, 1, Fact.rep [] a0.Rows), (false, 1, Fact.rep [] a0.Log), (false, 1, Fact.rep [] a0.Heads)], Fact.flds [(false, 1, Fact.rep [] a1.Stripe), (false, 1, Fact.rep [0] a1.Blocks), (false, 1, Fact.rep [0] a1.Dirty), (false, 1, Fact.rep [] a1.Phase), (false, 1, Fact.rep [] a1.Deals), (false, 1, Fact.rep [] a1.Seq)], Fact.rep [] ((0 : Int) : Int), Fact.nilv, Fact.fnv 77 [] [Fact.isv 47, Fact.isv 49]]) rfl Try.func48 rfl rfl rfl (CallOk.fn en48 (HasF.cons (Has.s rfl) (HasF.cons (Has.s rfl) (HasF.cons Has.int (HasF.cons Has.nilv (HasF.cons (Has.s rfl) HasF.nil)))))) (fun u2 => (ck (ck (ck (ck (ck (ck (ck (ck (ck (ck (ck (ck (ck (ck (ck (ck (cs 904000 8 (ck (ck (ck (ck (ck Carry.nil))))))))))))))))))))))) (fun u2 => ?_) ?_
  ·refine CWalk.seq ?_
   refine CWalk.region ?_
   refine ws (Step.boxObj (ls := [(false, 1, Fact.rep [] a0.Id), (false, 1, Fact.rep [] a0.Members), (false, 1, Fact.rep [] a0.Chunk), (false, 1, Fact.rep [] a0.Rows), (false, 1, Fact.rep [] a0.Log), (false, 1, Fact.rep [] a0.Heads)]) 58 rfl rfl rfl rfl (HasL.flds (Has.s rfl))) ?_
   refine ws (Step.boxObj (ls := [(false, 1, Fact.rep [] a1.Stripe), (false, 1, Fact.rep [0] a1.Blocks), (false, 1, Fact.rep [0] a1.Dirty), (false, 1, Fact.rep [] a1.Phase), (false, 1, Fact.rep [] a1.Deals), (false, 1, Fact.rep [] a1.Seq)]) 65 rfl rfl rfl rfl (HasL.flds (Has.s rfl))) ?_
   refine ws (Step.allocObj (ls := [(false, 1, Fact.rep [] ((0 : Int) : Int)), (false, 1, Fact.nilv), (false, 1, Fact.nilv), (false, 1, Fact.rep [] ((0 : UInt8) : UInt8)), (false, 1, Fact.rep [] (false : Bool)), (false, 1, Fact.rep [] ((0 : UInt32) : UInt32))]) 72 rfl rfl rfl rfl zl28) ?_
   refine wo (Spec.assign Has.int) ?_
   refine Walk.nil ?_
   refine Leaf.thenN ?_
   refine CWalk.seq ?_
   refine CWalk.seq ?_
   refine CWalk.region ?_
   refine wo (Spec.loadObj (ls := [(false, 1, Fact.rep [] a0.Id), (false, 1, Fact.rep [] a0.Members), (false, 1, Fact.rep [] a0.Chunk), (false, 1, Fact.rep [] a0.Rows), (false, 1, Fact.rep [] a0.Log), (false, 1, Fact.rep [] a0.Heads)]) ty24 rfl rfl (Has.s rfl) rfl (HasGs.cons (HasG.s rfl) (HasGs.cons (HasG.s rfl) (HasGs.cons (HasG.s rfl) (HasGs.cons (HasG.s rfl) (HasGs.cons (HasG.s rfl) (HasGs.cons (HasG.s rfl) HasGs.nil))))))) ?_
   refine wo (Spec.loadObj (ls := [(false, 1, Fact.rep [] a1.Stripe), (false, 1, Fact.rep [0] a1.Blocks), (false, 1, Fact.rep [0] a1.Dirty), (false, 1, Fact.rep [] a1.Phase), (false, 1, Fact.rep [] a1.Deals), (false, 1, Fact.rep [] a1.Seq)]) ty28 rfl rfl (Has.s rfl) rfl (HasGs.cons (HasG.s rfl) (HasGs.cons (HasG.s rfl) (HasGs.cons (HasG.s rfl) (HasGs.cons (HasG.s rfl) (HasGs.cons (HasG.s rfl) (HasGs.cons (HasG.s rfl) HasGs.nil))))))) ?_
   obtain ⟨x15, hx15, hm⟩ := bind_some hm
   refine wo (f := Fact.rep [] (x15 : Int)) (Spec.callE [0] 79 rfl en24 (head_Check_c a0 a1 hx15) (HasAll.cons (Has.fl (Has.cv (Has.s rfl) (Cv.trans (Cv.flds (CvL.cons Cv.fl (CvL.cons Cv.fl (CvL.cons Cv.fl (CvL.cons Cv.fl (CvL.cons Cv.fl (CvL.cons Cv.fl CvL.nil))))))) (Cv.close (T := []) (chConfig a0))))) (HasAll.cons (Has.m (Has.cv (Has.s rfl) (Cv.trans (Cv.flds (CvL.cons Cv.fl (CvL.cons (Cv.m rfl) (CvL.cons (Cv.m rfl) (CvL.cons Cv.fl (CvL.cons Cv.fl (CvL.cons Cv.fl CvL.nil))))))) (Cv.close (T := [0]) (chHead a1)))) rfl) HasAll.nil))) ?_
   refine wo (Spec.assign (Has.s rfl)) ?_
   refine Walk.nil ?_
   refine Leaf.thenN ?_
   refine CWalk.seq ?_
   refine CWalk.region ?_
   refine mv ?_
   refine wo (Spec.neqI (Has.s rfl) Has.int) ?_
   refine Walk.nil ?_
   refine Leaf.thenN ?_
   refine CWalk.cond rfl (fun hb => ?_) (fun hb => ?_)
   ·have hm := cond_t hb hm
    refine CWalk.ret ?_
    refine Leaf.thenR ?_
    exact Leaf.in2 ((0 : Int), ([] : List (List UInt8)), ([] : List Bool), (0 : UInt8), false, (0 : UInt32), x15) hm rfl rfl (HasR.cv (HasR.obj (ls := [(false, 1, Fact.rep [] ((0 : Int) : Int)), (false, 1, Fact.nilv), (false, 1, Fact.nilv), (false, 1, Fact.rep [] ((0 : UInt8) : UInt8)), (false, 1, Fact.rep [] (false : Bool)), (false, 1, Fact.rep [] ((0 : UInt32) : UInt32))]) ty28 rfl rfl (Has.s rfl) rfl (HasGs.cons (HasG.s rfl) (HasGs.cons (HasG.s rfl) (HasGs.cons (HasG.s rfl) (HasGs.cons (HasG.s rfl) (HasGs.cons (HasG.s rfl) (HasGs.cons (HasG.s rfl) HasGs.nil))))))) (Cv.flds (CvL.cons Cv.fl (CvL.cons (Cv.trans Cv.nilOw (Cv.owM (T := []) (te := []) rfl rfl)) (CvL.cons (Cv.trans Cv.nilOw (Cv.owF (T := []) (te := []) rfl)) (CvL.cons Cv.fl (CvL.cons Cv.fl (CvL.cons Cv.fl CvL.nil)))))))) (HasR.cv (HasR.tmp (Has.s rfl)) Cv.fl) (ls 904008 (Low.res (lc (lf (lg (lg (lf (lf (lf (lf (lg (lg (lf (lf (lf (lo (lo Low.nil)))))))))))))))))
   ·have hm := cond_f hb hm
    refine CWalk.skip ?_
    refine Leaf.thenN ?_
    refine CWalk.seq ?_
    refine CWalk.seq ?_
    refine CWalk.region ?_
    refine mv ?_
    refine wo (Spec.lssI (Has.s rfl) Has.int) ?_
    refine mv ?_
    refine wg rfl rfl (fun hb => Spec.move (Has.s rfl)) ?_
    refine wg rfl rfl (fun hb => Spec.fieldAddrO fd24_1 (Has.cv (Has.s rfl) (Cv.isvP rfl))) ?_
    refine wg rfl rfl (fun hb => Spec.loadF (i := 1) ty3 rfl (Has.u rfl hb) rfl (HasG.s rfl)) ?_
    refine wg rfl rfl (fun hb => Spec.subI (Has.u rfl hb) Has.int) ?_
    refine wg rfl rfl (fun hb => Spec.geqI (Has.u rfl hb) (Has.u rfl hb)) ?_
    refine wo (Spec.or (Has.s rfl) (fun h => Has.u rfl h)) ?_
    refine Walk.nil ?_
    refine Leaf.thenN ?_
    refine CWalk.cond rfl (fun hb => ?_) (fun hb => ?_)
    ·have hm := cond_t hb hm
     refine CWalk.seq ?_
     refine CWalk.region ?_
     refine wo (Spec.loadObj (ls := [(false, 1, Fact.rep [] ((0 : Int) : Int)), (false, 1, Fact.nilv), (false, 1, Fact.nilv), (false, 1, Fact.rep [] ((0 : UInt8) : UInt8)), (false, 1, Fact.rep [] (false : Bool)), (false, 1, Fact.rep [] ((0 : UInt32) : UInt32))]) ty28 rfl rfl (Has.s rfl) rfl (HasGs.cons (HasG.s rfl) (HasGs.cons (HasG.s rfl) (HasGs.cons (HasG.s rfl) (HasGs.cons (HasG.s rfl) (HasGs.cons (HasG.s rfl) (HasGs.cons (HasG.s rfl) HasGs.nil))))))) ?_
     refine ws (Step.storeObj (ls := [(false, 1, Fact.rep [] ((0 : Int) : Int)), (false, 1, Fact.nilv), (false, 1, Fact.nilv), (false, 1, Fact.rep [] ((0 : UInt8) : UInt8)), (false, 1, Fact.rep [] (false : Bool)), (false, 1, Fact.rep [] ((0 : UInt32) : UInt32))]) rfl ty28 rfl rfl (Has.s rfl) rfl (HasL.flds (Has.s rfl)) rfl) ?_
     refine wo (Spec.assign Has.int) ?_
     refine Walk.nil ?_
     refine Leaf.thenN ?_
     refine CWalk.ret ?_
     refine Leaf.thenR ?_
     exact Leaf.in2 ((0 : Int), ([] : List (List UInt8)), ([] : List Bool), (0 : UInt8), false, (0 : UInt32), (2 : Int)) hm rfl rfl (HasR.cv (HasR.obj (ls := [(false, 1, Fact.rep [] ((0 : Int) : Int)), (false, 1, Fact.nilv), (false, 1, Fact.nilv), (false, 1, Fact.rep [] ((0 : UInt8) : UInt8)), (false, 1, Fact.rep [] (false : Bool)), (false, 1, Fact.rep [] ((0 : UInt32) : UInt32))]) ty28 rfl rfl (Has.s rfl) rfl (HasGs.cons (HasG.s rfl) (HasGs.cons (HasG.s rfl) (HasGs.cons (HasG.s rfl) (HasGs.cons (HasG.s rfl) (HasGs.cons (HasG.s rfl) (HasGs.cons (HasG.s rfl) HasGs.nil))))))) (Cv.flds (CvL.cons Cv.fl (CvL.cons (Cv.trans Cv.nilOw (Cv.owM (T := []) (te := []) rfl rfl)) (CvL.cons (Cv.trans Cv.nilOw (Cv.owF (T := []) (te := []) rfl)) (CvL.cons Cv.fl (CvL.cons Cv.fl (CvL.cons Cv.fl CvL.nil)))))))) (HasR.cv (HasR.tmp (Has.s rfl)) Cv.fl) (ls 904008 (Low.res (lc (lf (lg (lg (lf (lf (lf (lf (lg (lg (lf (lf (lf (lo (lo Low.nil)))))))))))))))))
    ·have hm := cond_f hb hm
     refine CWalk.skip ?_
     refine Leaf.thenN ?_
     refine CWalk.seq ?_
     refine CWalk.seq ?_
     refine CWalk.region ?_
     refine mv ?_
     obtain ⟨x16, hx16, hm⟩ := bind_some hm
     refine wo (f := Fact.rep [] (x16 : Bool)) (Spec.callE [] 80 rfl en58 (head_odd_c ([] : List UInt8) hx16) (HasAll.cons (Has.m (Has.cv (Has.s rfl) (Cv.nil (T := []))) rfl) HasAll.nil)) ?_
     refine Walk.nil ?_
     refine Leaf.thenN ?_
     refine CWalk.cond rfl (fun hb => ?_) (fun hb => ?_)
     ·have hm := cond_t hb hm
      refine CWalk.seq ?_
      refine CWalk.region ?_
      refine wo (Spec.loadObj (ls := [(false, 1, Fact.rep [] ((0 : Int) : Int)), (false, 1, Fact.nilv), (false, 1, Fact.nilv), (false, 1, Fact.rep [] ((0 : UInt8) : UInt8)), (false, 1, Fact.rep [] (false : Bool)), (false, 1, Fact.rep [] ((0 : UInt32) : UInt32))]) ty28 rfl rfl (Has.s rfl) rfl (HasGs.cons (HasG.s rfl) (HasGs.cons (HasG.s rfl) (HasGs.cons (HasG.s rfl) (HasGs.cons (HasG.s rfl) (HasGs.cons (HasG.s rfl) (HasGs.cons (HasG.s rfl) HasGs.nil))))))) ?_
      refine ws (Step.storeObj (ls := [(false, 1, Fact.rep [] ((0 : Int) : Int)), (false, 1, Fact.nilv), (false, 1, Fact.nilv), (false, 1, Fact.rep [] ((0 : UInt8) : UInt8)), (false, 1, Fact.rep [] (false : Bool)), (false, 1, Fact.rep [] ((0 : UInt32) : UInt32))]) rfl ty28 rfl rfl (Has.s rfl) rfl (HasL.flds (Has.s rfl)) rfl) ?_
      refine wo (Spec.assign Has.int) ?_
      refine Walk.nil ?_
      refine Leaf.thenN ?_
      refine CWalk.ret ?_
      refine Leaf.thenR ?_
      exact Leaf.in2 ((0 : Int), ([] : List (List UInt8)), ([] : List Bool), (0 : UInt8), false, (0 : UInt32), (3 : Int)) hm rfl rfl (HasR.cv (HasR.obj (ls := [(false, 1, Fact.rep [] ((0 : Int) : Int)), (false, 1, Fact.nilv), (false, 1, Fact.nilv), (false, 1, Fact.rep [] ((0 : UInt8) : UInt8)), (false, 1, Fact.rep [] (false : Bool)), (false, 1, Fact.rep [] ((0 : UInt32) : UInt32))]) ty28 rfl rfl (Has.s rfl) rfl (HasGs.cons (HasG.s rfl) (HasGs.cons (HasG.s rfl) (HasGs.cons (HasG.s rfl) (HasGs.cons (HasG.s rfl) (HasGs.cons (HasG.s rfl) (HasGs.cons (HasG.s rfl) HasGs.nil))))))) (Cv.flds (CvL.cons Cv.fl (CvL.cons (Cv.trans Cv.nilOw (Cv.owM (T := []) (te := []) rfl rfl)) (CvL.cons (Cv.trans Cv.nilOw (Cv.owF (T := []) (te := []) rfl)) (CvL.cons Cv.fl (CvL.cons Cv.fl (CvL.cons Cv.fl CvL.nil)))))))) (HasR.cv (HasR.tmp (Has.s rfl)) Cv.fl) (ls 904008 (Low.res (lc (lf (lg (lg (lf (lf (lf (lf (lg (lg (lf (lf (lf (lo (lo Low.nil)))))))))))))))))
     ·have hm := cond_f hb hm
      refine CWalk.skip ?_
      refine Leaf.thenN ?_
      refine CWalk.seq ?_
      refine CWalk.region ?_
      refine wo (Spec.loadObj (ls := [(false, 1, Fact.rep [] a1.Stripe), (false, 1, Fact.rep [0] a1.Blocks), (false, 1, Fact.rep [0] a1.Dirty), (false, 1, Fact.rep [] a1.Phase), (false, 1, Fact.rep [] a1.Deals), (false, 1, Fact.rep [] a1.Seq)]) ty28 rfl rfl (Has.s rfl) rfl (HasGs.cons (HasG.s rfl) (HasGs.cons (HasG.s rfl) (HasGs.cons (HasG.s rfl) (HasGs.cons (HasG.s rfl) (HasGs.cons (HasG.s rfl) (HasGs.cons (HasG.s rfl) HasGs.nil))))))) ?_
      obtain ⟨x17, hx17, hm⟩ := bind_some hm
      refine wo (f := Fact.flds [(false, 1, Fact.rep [] x17.Stripe), (false, 1, Fact.ow [81] [82] 31 (x17.Blocks : List (List UInt8))), (false, 1, Fact.ow [83] [] 4 (x17.Dirty : List Bool)), (false, 1, Fact.rep [] x17.Phase), (false, 1, Fact.rep [] x17.Deals), (false, 1, Fact.rep [] x17.Seq)]) (Spec.callE [0] 81 rfl en23 (head_Twin_c a1 hx17) (HasAll.cons (Has.m (Has.cv (Has.s rfl) (Cv.trans (Cv.flds (CvL.cons Cv.fl (CvL.cons (Cv.m rfl) (CvL.cons (Cv.m rfl) (CvL.cons Cv.fl (CvL.cons Cv.fl (CvL.cons Cv.fl CvL.nil))))))) (Cv.close (T := [0]) (chHead a1)))) rfl) HasAll.nil)) ?_
      refine ws (Step.allocObj (ls := [(false, 1, Fact.rep [] ((0 : Int) : Int)), (false, 1, Fact.nilv), (false, 1, Fact.nilv), (false, 1, Fact.rep [] ((0 : UInt8) : UInt8)), (false, 1, Fact.rep [] (false : Bool)), (false, 1, Fact.rep [] ((0 : UInt32) : UInt32))]) 84 rfl rfl rfl rfl zl28) ?_
      refine ws (Step.storeObj (ls := [(false, 1, Fact.rep [] x17.Stripe), (false, 1, Fact.ow [81] [82] 31 (x17.Blocks : List (List UInt8))), (false, 1, Fact.ow [83] [] 4 (x17.Dirty : List Bool)), (false, 1, Fact.rep [] x17.Phase), (false, 1, Fact.rep [] x17.Deals), (false, 1, Fact.rep [] x17.Seq)]) rfl ty28 rfl rfl (Has.s rfl) rfl (HasL.flds (Has.s rfl)) rfl) ?_
      refine Walk.nil ?_
      refine Leaf.thenN ?_
      refine CWalk.seqJ (fun p : Int × Int × (List (List UInt8)) × (List Bool) × UInt8 × Bool × UInt32 => [.fact 10 (.isv 72), .fact 11 (.rep [] p.1), .fact 902006 (.cst (u1 6) (Fact.isv 26)), .fact 904008 (.cst (u2 8) (Fact.isv 51)), .fact 100073 (.at 73 (.rep [] p.2.1)), .fact 100074 (.at 74 (.ow [81] [82] 31 (p.2.2.1 : List (List UInt8)))), .fact 100075 (.at 75 (.ow [83] [] 4 (p.2.2.2.1 : List Bool))), .fact 100076 (.at 76 (.rep [] p.2.2.2.2.1)), .fact 100077 (.at 77 (.rep [] p.2.2.2.2.2.1)), .fact 100078 (.at 78 (.rep [] p.2.2.2.2.2.2)), .fact 100027 (.at 27 (.rep [] ((0 : Int) : Int))), .fact 100028 (.at 28 (.nilv)), .fact 100029 (.at 29 (.nilv)), .fact 100030 (.at 30 (.rep [] ((0 : UInt8) : UInt8))), .fact 100031 (.at 31 (.rep [] (false : Bool))), .fact 100032 (.at 32 (.rep [] ((0 : UInt32) : UInt32))), .fact 100052 (.at 52 (.rep [] ((0 : Int) : Int))), .fact 100053 (.at 53 (.nilv)), .fact 100054 (.at 54 (.nilv)), .fact 100055 (.at 55 (.rep [] ((0 : UInt8) : UInt8))), .fact 100056 (.at 56 (.rep [] (false : Bool))), .fact 100057 (.at 57 (.rep [] ((0 : UInt32) : UInt32))), .fact 100072 (.obj 72 [(false, 1), (false, 1), (false, 1), (false, 1), (false, 1), (false, 1)]), .fact 100026 (.obj 26 [(false, 1), (false, 1), (false, 1), (false, 1), (false, 1), (false, 1)]), .fact 100051 (.obj 51 [(false, 1), (false, 1), (false, 1), (false, 1), (false, 1), (false, 1)])]) (fun p : Int × Int × (List (List UInt8)) × (List Bool) × UInt8 × Bool × UInt32 => head_Log_J3 p.1 p.2.1 p.2.2.1 p.2.2.2.1 p.2.2.2.2.1 p.2.2.2.2.2.1 p.2.2.2.2.2.2 = some r) ?_ ?_
      ·rintro ⟨j18, j19, j20, j21, j22, j23, j24⟩ hm
       replace hm : head_Log_J3 j18 j19 j20 j21 j22 j23 j24 = some r := hm
       unfold head_Log_J3 at hm
       show CWalk _ [.fact 10 (.isv 72), .fact 11 (.rep [] (j18 : Int)), .fact 902006 (.cst (u1 6) (Fact.isv 26)), .fact 904008 (.cst (u2 8) (Fact.isv 51)), .fact 100073 (.at 73 (.rep [] (j19 : Int))), .fact 100074 (.at 74 (.ow [81] [82] 31 (j20 : List (List UInt8)))), .fact 100075 (.at 75 (.ow [83] [] 4 (j21 : List Bool))), .fact 100076 (.at 76 (.rep [] (j22 : UInt8))), .fact 100077 (.at 77 (.rep [] (j23 : Bool))), .fact 100078 (.at 78 (.rep [] (j24 : UInt32))), .fact 100027 (.at 27 (.rep [] ((0 : Int) : Int))), .fact 100028 (.at 28 (.nilv)), .fact 100029 (.at 29 (.nilv)), .fact 100030 (.at 30 (.rep [] ((0 : UInt8) : UInt8))), .fact 100031 (.at 31 (.rep [] (false : Bool))), .fact 100032 (.at 32 (.rep [] ((0 : UInt32) : UInt32))), .fact 100052 (.at 52 (.rep [] ((0 : Int) : Int))), .fact 100053 (.at 53 (.nilv)), .fact 100054 (.at 54 (.nilv)), .fact 100055 (.at 55 (.rep [] ((0 : UInt8) : UInt8))), .fact 100056 (.at 56 (.rep [] (false : Bool))), .fact 100057 (.at 57 (.rep [] ((0 : UInt32) : UInt32))), .fact 100072 (.obj 72 [(false, 1), (false, 1), (false, 1), (false, 1), (false, 1), (false, 1)]), .fact 100026 (.obj 26 [(false, 1), (false, 1), (false, 1), (false, 1), (false, 1), (false, 1)]), .fact 100051 (.obj 51 [(false, 1), (false, 1), (false, 1), (false, 1), (false, 1), (false, 1)])] _ _
       refine CWalk.ret ?_
       exact Leaf.in2 (j19, j20, j21, j22, j23, j24, j18) hm rfl rfl (HasR.cv (HasR.obj (ls := [(false, 1, Fact.rep [] (j19 : Int)), (false, 1, Fact.ow [81] [82] 31 (j20 : List (List UInt8))), (false, 1, Fact.ow [83] [] 4 (j21 : List Bool)), (false, 1, Fact.rep [] (j22 : UInt8)), (false, 1, Fact.rep [] (j23 : Bool)), (false, 1, Fact.rep [] (j24 : UInt32))]) ty28 rfl rfl (Has.s rfl) rfl (HasGs.cons (HasG.s rfl) (HasGs.cons (HasG.s rfl) (HasGs.cons (HasG.s rfl) (HasGs.cons (HasG.s rfl) (HasGs.cons (HasG.s rfl) (HasGs.cons (HasG.s rfl) HasGs.nil))))))) (Cv.flds (CvL.cons Cv.fl (CvL.cons (Cv.owM (T := [81]) (te := [82]) rfl rfl) (CvL.cons (Cv.owF (T := [83]) (te := []) rfl) (CvL.cons Cv.fl (CvL.cons Cv.fl (CvL.cons Cv.fl CvL.nil)))))))) (HasR.cv (HasR.tmp (Has.s rfl)) Cv.fl) (ls 904008 (Low.res (lc (lf (lg (lg (lf (lf (lf (lf (lg (lg (lf (lf (lf (lo (lo Low.nil)))))))))))))))))
      ·refine CWalk.seq ?_
       refine CWalk.region ?_
       refine mv ?_
       refine Walk.inline (S := Int × UInt8 × Bool × UInt32) (fun p : Int × UInt8 × Bool × UInt32 => [.fact 10 (.isv 72), .fact 12 (.isv 84), .fact 34 (.rep [] p.1), .fact 902006 (.cst (u1 6) (Fact.isv 26)), .fact 904008 (.cst (u2 8) (Fact.isv 51)), .fact 100073 (.at 73 (.rep [] ((0 : Int) : Int))), .fact 100074 (.at 74 (.nilv)), .fact 100075 (.at 75 (.nilv)), .fact 100076 (.at 76 (.rep [] ((0 : UInt8) : UInt8))), .fact 100077 (.at 77 (.rep [] (false : Bool))), .fact 100078 (.at 78 (.rep [] ((0 : UInt32) : UInt32))), .fact 100085 (.at 85 (.rep [] x17.Stripe)), .fact 100086 (.at 86 (.ow [81] [82] 31 (x17.Blocks : List (List UInt8)))), .fact 100087 (.at 87 (.ow [83] [] 4 (x17.Dirty : List Bool))), .fact 100088 (.at 88 (.rep [] p.2.1)), .fact 100089 (.at 89 (.rep [] p.2.2.1)), .fact 100090 (.at 90 (.rep [] p.2.2.2)), .fact 100027 (.at 27 (.rep [] ((0 : Int) : Int))), .fact 100028 (.at 28 (.nilv)), .fact 100029 (.at 29 (.nilv)), .fact 100030 (.at 30 (.rep [] ((0 : UInt8) : UInt8))), .fact 100031 (.at 31 (.rep [] (false : Bool))), .fact 100032 (.at 32 (.rep [] ((0 : UInt32) : UInt32))), .fact 100052 (.at 52 (.rep [] ((0 : Int) : Int))), .fact 100053 (.at 53 (.nilv)), .fact 100054 (.at 54 (.nilv)), .fact 100055 (.at 55 (.rep [] ((0 : UInt8) : UInt8))), .fact 100056 (.at 56 (.rep [] (false : Bool))), .fact 100057 (.at 57 (.rep [] ((0 : UInt32) : UInt32))), .fact 100072 (.obj 72 [(false, 1), (false, 1), (false, 1), (false, 1), (false, 1), (false, 1)]), .fact 100084 (.obj 84 [(false, 1), (false, 1), (false, 1), (false, 1), (false, 1), (false, 1)]), .fact 100026 (.obj 26 [(false, 1), (false, 1), (false, 1), (false, 1), (false, 1), (false, 1)]), .fact 100051 (.obj 51 [(false, 1), (false, 1), (false, 1), (false, 1), (false, 1), (false, 1)])]) (fun p : Int × UInt8 × Bool × UInt32 => head_Log_J4 x17 p.1 p.2.1 p.2.2.1 p.2.2.2 = some r) (fun u3 => [.fact 100025 (.at 25 (.rep [] (a2 : UInt32))), .fact 100027 (.at 27 (.rep [] ((0 : Int) : Int))), .fact 100028 (.at 28 (.nilv)), .fact 100029 (.at 29 (.nilv)), .fact 100030 (.at 30 (.rep [] ((0 : UInt8) : UInt8))), .fact 100031 (.at 31 (.rep [] (false : Bool))), .fact 100032 (.at 32 (.rep [] ((0 : UInt32) : UInt32))), .fact 100048 (.at 48 (.rep [] ((1 : Int) : Int))), .fact 100050 (.at 50 (.fnv 68 [] [Fact.isv 24])), .fact 100052 (.at 52 (.rep [] ((0 : Int) : Int))), .fact 100053 (.at 53 (.nilv)), .fact 100054 (.at 54 (.nilv)), .fact 100055 (.at 55 (.rep [] ((0 : UInt8) : UInt8))), .fact 100056 (.at 56 (.rep [] (false : Bool))), .fact 100057 (.at 57 (.rep [] ((0 : UInt32) : UInt32))), .fact 100073 (.at 73 (.rep [] ((0 : Int) : Int))), .fact 100074 (.at 74 (.nilv)), .fact 100075 (.at 75 (.nilv)), .fact 100076 (.at 76 (.rep [] ((0 : UInt8) : UInt8))), .fact 100077 (.at 77 (.rep [] (false : Bool))), .fact 100078 (.at 78 (.rep [] ((0 : UInt32) : UInt32))), .fact 100085 (.at 85 (.rep [] x17.Stripe)), .fact 100086 (.at 86 (.ow [81] [82] 31 (x17.Blocks : List (List UInt8)))), .fact 100087 (.at 87 (.ow [83] [] 4 (x17.Dirty : List Bool))), .fact 100088 (.at 88 (.rep [] x17.Phase)), .fact 100089 (.at 89 (.rep [] x17.Deals)), .fact 100090 (.at 90 (.rep [] x17.Seq)), .fact 902006 (.cst (u1 6) (Fact.isv 26)), .fact 904008 (.cst (u2 8) (Fact.isv 51)), .fact 906010 (.cst (u3 10) (Fact.isv 72)), .fact 906012 (.cst (u3 12) (Fact.isv 84)), .fact 100024 (.obj 24 [(false, 1)]), .fact 100026 (.obj 26 [(false, 1), (false, 1), (false, 1), (false, 1), (false, 1), (false, 1)]), .fact 100047 (.obj 47 [(false, 1)]), .fact 100049 (.obj 49 [(false, 1)]), .fact 100051 (.obj 51 [(false, 1), (false, 1), (false, 1), (false, 1), (false, 1), (false, 1)]), .fact 100072 (.obj 72 [(false, 1), (false, 1), (false, 1), (false, 1), (false, 1), (false, 1)]), .fact 100084 (.obj 84 [(false, 1), (false, 1), (false, 1), (false, 1), (false, 1), (false, 1)])]) (FA := [Fact.isv 84, Fact.isv 47, Fact.isv 49]) rfl Try.func77 rfl rfl rfl (CallOk.valE en77 (Has.s rfl) (HasF.cons (Has.s rfl) HasF.nil)) (fun u3 => (ck (ck (ck (ck (ck (ck (ck (ck (ck (ck (ck (ck (ck (ck (ck (ck (ck (ck (ck (ck (ck (ck (ck (ck (ck (ck (ck (ck (ck (cs 906000 10 (cs 906000 12 (ck (ck (ck (ck (ck (ck (ck Carry.nil))))))))))))))))))))))))))))))))))))))) (fun u3 => ?_) ?_
       ·refine CWalk.seq ?_
        refine CWalk.region ?_
        refine wo (Spec.assign Has.int) ?_
        refine Walk.nil ?_
        refine Leaf.thenN ?_
        refine CWalk.seq ?_
        refine CWalk.seq ?_
        obtain ⟨x29, hx29, hm⟩ := bind_some hm
        obtain ⟨x30, hx30, hm⟩ := bind_some hm
        refine CWalk.drawM [[], [], [1], [1, 2], [1, 2, 3], [0, 1, 2, 3, 4], [0, 1, 2, 3, 4, 5], [0, 1, 2, 3, 4, 5, 6], [0, 1, 2, 3, 4, 5, 6, 7], [0, 1, 2, 3, 4, 5, 6, 7, 8], [0, 1, 2, 3, 4, 5, 6, 7, 8, 9], [0, 1, 2, 3, 4, 5, 6, 7, 8, 9, 10], [0, 1, 2, 3, 4, 5, 6, 7, 8, 9, 10, 11], [0, 1, 2, 3, 4, 5, 6, 7, 8, 9, 10, 11, 12], [0, 1, 2, 3, 4, 5, 6, 7, 8, 9, 10, 11, 12, 13], [0, 1, 2, 3, 4, 5, 6, 7, 8, 9, 10, 11, 12, 13, 14], [0, 1, 2, 3, 4, 5, 6, 7, 8, 9, 10, 11, 12, 13, 14, 15], [0, 1, 2, 3, 4, 5, 6, 7, 8, 9, 10, 11, 12, 13, 14, 15, 16], [0, 1, 2, 3, 4, 5, 6, 7, 8, 9, 10, 11, 12, 13, 14, 15, 16, 17]] [[.fact 5 (.rep [] ((1 : Int) : Int))], [.fact 6 (.isv 84)], [.fact 7 (.isv 84)], [.fact 8 (.pto 84 3)], [.fact 9 (.rep [] x17.Phase)], [.fact 10 (.rep [] (x29 : Bool))], [.fact 11 (.rep [] ((!x29) : Bool))], [.fact 12 (.rep [] ((!x29) : Bool))], [.fact 13 (.under ((!x29) = false) (.rep [] ((1 : Int) : Int)))], [.fact 14 (.under ((!x29) = false) (.rep [] (((1 : Int) == (0 : Int)) : Bool)))], [.fact 15 (.under ((!x29) = false) (.rep [] (((1 : Int) == (0 : Int)) : Bool)))], [.fact 16 (.under (((!x29) = false) ∧ (((1 : Int) == (0 : Int)) = true)) (.isv 84))], [.fact 17 (.under (((!x29) = false) ∧ (((1 : Int) == (0 : Int)) = true)) (.isv 84))], [.fact 18 (.under (((!x29) = false) ∧ (((1 : Int) == (0 : Int)) = true)) (.pto 84 2))], [.fact 19 (.under (((!x29) = false) ∧ (((1 : Int) == (0 : Int)) = true)) (.ow [83] [] 4 (x17.Dirty : List Bool)))], [.fact 20 (.under (((!x29) = false) ∧ (((1 : Int) == (0 : Int)) = true)) (.rep [] (x30 : Bool)))], [.fact 21 (.under (((!x29) = false) ∧ (((1 : Int) == (0 : Int)) = true)) (.rep [] ((!x30) : Bool)))], [.fact 22 (.under ((!x29) = false) (.rep [] ((((1 : Int) == (0 : Int)) && (!x30)) : Bool)))], [.fact 23 (.rep [] (((!x29) || (((1 : Int) == (0 : Int)) && (!x30))) : Bool))]] mixed (by kernel_rfl) (ao (so (Spec.loadF (i := 0) ty3 rfl (Has.cv (Has.s rfl) (Cv.isvP rfl)) rfl (HasG.s rfl))) (ao (so (Spec.move (Has.s rfl))) (ao (so (Spec.nilCheckI (Has.s rfl) rfl)) (ao (so (Spec.fieldAddrO fd28_3 (Has.cv (Has.s rfl) (Cv.isvP rfl)))) (ao (so (Spec.loadF (i := 3) ty5 rfl (Has.s rfl) rfl (HasG.s rfl))) (ao (so (Spec.callE [] 91 rfl en78 (head_may_c (1 : Int) x17.Phase hx29) (HasAll.cons (Has.fl (Has.s rfl)) (HasAll.cons (Has.fl (Has.s rfl)) HasAll.nil)))) (ao (so (Spec.not (Has.s rfl))) (ao (so (Spec.move (Has.s rfl))) (ao (StepG.opg rfl rfl rfl (fun hb => Spec.loadF (i := 0) ty3 rfl (Has.cv (Has.s rfl) (Cv.isvP rfl)) rfl (HasG.s rfl))) (ao (StepG.opg rfl rfl rfl (fun hb => Spec.eqlI (Has.u rfl hb) Has.int)) (ao (StepG.opg rfl rfl rfl (fun hb => Spec.move (Has.u rfl hb))) (ao (StepG.opgu rfl rfl rfl (fun hb => Spec.move (Has.s rfl))) (ao (StepG.opgu rfl rfl rfl (fun hb => Spec.nilCheckI (Has.u rfl hb) rfl)) (ao (StepG.opgu rfl rfl rfl (fun hb => Spec.fieldAddrO fd28_2 (Has.cv (Has.u rfl hb) (Cv.isvP rfl)))) (ao (StepG.opgu rfl rfl rfl (fun hb => Spec.loadF (i := 2) ty26 rfl (Has.u rfl hb) rfl (HasG.s rfl))) (ao (StepG.opgu rfl rfl rfl (fun hb => Spec.callE [83] 92 rfl en79 (slices_Contains_bool_bool_c x17.Dirty true (gO_t hx30 (and_t (not_t hb.1) hb.2))) (HasAll.cons (Has.m (Has.cv (Has.u rfl hb) (Cv.trans Cv.owSl (Cv.slRep (T' := [83]) rfl rfl))) rfl) (HasAll.cons (Has.fl Has.bool) HasAll.nil)))) (ao (StepG.opgu rfl rfl rfl (fun hb => Spec.not (Has.u rfl hb))) (ao (StepG.opg rfl rfl rfl (fun hb => Spec.and (Has.u rfl hb) (fun h => Has.u rfl ⟨hb, h⟩))) (ao (so (Spec.or (Has.s rfl) (fun h => Has.u rfl h))) AllM.nil))))))))))))))))))) ?_
        refine Leaf.thenN ?_
        refine CWalk.cond rfl (fun hb => ?_) (fun hb => ?_)
        ·have hm := cond_t hb hm
         refine CWalk.seq ?_
         refine CWalk.region ?_
         refine wo (Spec.assign Has.int) ?_
         refine Walk.nil ?_
         refine Leaf.thenN ?_
         refine CWalk.ret ?_
         refine Leaf.thenR ?_
         exact Leaf.in1 ((6 : Int), x17.Phase, x17.Deals, x17.Seq) hm rfl rfl (HasR.cv (HasR.tmp (Has.s rfl)) Cv.fl) (ls 906010 (ls 906012 (Low.res (lc (lc (lf (lg (lg (lf (lf (lf (lf (Low.keepG (HasG.cv (HasG.s rfl) (Cv.owM (T := [81]) (te := [82]) rfl rfl)) (Low.keepG (HasG.cv (HasG.s rfl) (Cv.owF (T := [83]) (te := []) rfl)) (lf (lf (lf (lf (lg (lg (lf (lf (lf (lf (lg (lg (lf (lf (lf (lo (lo (lo (lo Low.nil)))))))))))))))))))))))))))))))))
        ·have hm := cond_f hb hm
         refine CWalk.skip ?_
         refine Leaf.thenN ?_
         refine CWalk.seq ?_
         refine CWalk.region ?_
         refine wo (Spec.loadF (α := Int) (i := 0) ty96 rfl (Has.cv (Has.s rfl) (Cv.isvP rfl)) rfl (HasG.s rfl)) ?_
         refine mv ?_
         refine Walk.inline (S := Unit) (fun p : Unit => [.fact 26 (.top), .fact 902006 (.cst (u1 6) (Fact.isv 26)), .fact 904008 (.cst (u2 8) (Fact.isv 51)), .fact 906010 (.cst (u3 10) (Fact.isv 72)), .fact 906012 (.cst (u3 12) (Fact.isv 84)), .fact 100027 (.at 27 (.rep [] ((0 : Int) : Int))), .fact 100028 (.at 28 (.nilv)), .fact 100029 (.at 29 (.nilv)), .fact 100030 (.at 30 (.rep [] ((0 : UInt8) : UInt8))), .fact 100031 (.at 31 (.rep [] (false : Bool))), .fact 100032 (.at 32 (.rep [] ((0 : UInt32) : UInt32))), .fact 100052 (.at 52 (.rep [] ((0 : Int) : Int))), .fact 100053 (.at 53 (.nilv)), .fact 100054 (.at 54 (.nilv)), .fact 100055 (.at 55 (.rep [] ((0 : UInt8) : UInt8))), .fact 100056 (.at 56 (.rep [] (false : Bool))), .fact 100057 (.at 57 (.rep [] ((0 : UInt32) : UInt32))), .fact 100073 (.at 73 (.rep [] ((0 : Int) : Int))), .fact 100074 (.at 74 (.nilv)), .fact 100075 (.at 75 (.nilv)), .fact 100076 (.at 76 (.rep [] ((0 : UInt8) : UInt8))), .fact 100077 (.at 77 (.rep [] (false : Bool))), .fact 100078 (.at 78 (.rep [] ((0 : UInt32) : UInt32))), .fact 100085 (.at 85 (.rep [] x17.Stripe)), .fact 100086 (.at 86 (.ow [81] [82] 31 (x17.Blocks : List (List UInt8)))), .fact 100087 (.at 87 (.ow [83] [] 4 (x17.Dirty : List Bool))), .fact 100088 (.at 88 (.rep [] ((2 : UInt8) : UInt8))), .fact 100089 (.at 89 (.rep [] (false : Bool))), .fact 100090 (.at 90 (.rep [] (a2 : UInt32))), .fact 100026 (.obj 26 [(false, 1), (false, 1), (false, 1), (false, 1), (false, 1), (false, 1)]), .fact 100051 (.obj 51 [(false, 1), (false, 1), (false, 1), (false, 1), (false, 1), (false, 1)]), .fact 100072 (.obj 72 [(false, 1), (false, 1), (false, 1), (false, 1), (false, 1), (false, 1)]), .fact 100084 (.obj 84 [(false, 1), (false, 1), (false, 1), (false, 1), (false, 1), (false, 1)])]) (fun p : Unit => head_Log_J5 a2 x17 = some r) (fun u4 => [.fact 100025 (.at 25 (.rep [] (a2 : UInt32))), .fact 100027 (.at 27 (.rep [] ((0 : Int) : Int))), .fact 100028 (.at 28 (.nilv)), .fact 100029 (.at 29 (.nilv)), .fact 100030 (.at 30 (.rep [] ((0 : UInt8) : UInt8))), .fact 100031 (.at 31 (.rep [] (false : Bool))), .fact 100032 (.at 32 (.rep [] ((0 : UInt32) : UInt32))), .fact 100052 (.at 52 (.rep [] ((0 : Int) : Int))), .fact 100053 (.at 53 (.nilv)), .fact 100054 (.at 54 (.nilv)), .fact 100055 (.at 55 (.rep [] ((0 : UInt8) : UInt8))), .fact 100056 (.at 56 (.rep [] (false : Bool))), .fact 100057 (.at 57 (.rep [] ((0 : UInt32) : UInt32))), .fact 100073 (.at 73 (.rep [] ((0 : Int) : Int))), .fact 100074 (.at 74 (.nilv)), .fact 100075 (.at 75 (.nilv)), .fact 100076 (.at 76 (.rep [] ((0 : UInt8) : UInt8))), .fact 100077 (.at 77 (.rep [] (false : Bool))), .fact 100078 (.at 78 (.rep [] ((0 : UInt32) : UInt32))), .fact 100085 (.at 85 (.rep [] x17.Stripe)), .fact 100086 (.at 86 (.ow [81] [82] 31 (x17.Blocks : List (List UInt8)))), .fact 100087 (.at 87 (.ow [83] [] 4 (x17.Dirty : List Bool))), .fact 100088 (.at 88 (.rep [] x17.Phase)), .fact 100089 (.at 89 (.rep [] x17.Deals)), .fact 100090 (.at 90 (.rep [] x17.Seq)), .fact 902006 (.cst (u1 6) (Fact.isv 26)), .fact 904008 (.cst (u2 8) (Fact.isv 51)), .fact 906010 (.cst (u3 10) (Fact.isv 72)), .fact 906012 (.cst (u3 12) (Fact.isv 84)), .fact 100024 (.obj 24 [(false, 1)]), .fact 100026 (.obj 26 [(false, 1), (false, 1), (false, 1), (false, 1), (false, 1), (false, 1)]), .fact 100051 (.obj 51 [(false, 1), (false, 1), (false, 1), (false, 1), (false, 1), (false, 1)]), .fact 100072 (.obj 72 [(false, 1), (false, 1), (false, 1), (false, 1), (false, 1), (false, 1)]), .fact 100084 (.obj 84 [(false, 1), (false, 1), (false, 1), (false, 1), (false, 1), (false, 1)])]) (FA := [Fact.isv 84, Fact.isv 24]) rfl Try.func68 rfl rfl rfl (CallOk.valE en68 (Has.s rfl) (HasF.cons (Has.s rfl) HasF.nil)) (fun u4 => (ck (ck (ck (ck (ck (ck (ck (ck (ck (ck (ck (ck (ck (ck (ck (ck (ck (ck (ck (ck (ck (ck (ck (ck (ck (ck (ck (ck (ck (ck (ck (ck (ck (ck Carry.nil))))))))))))))))))))))))))))))))))) (fun u4 => ?_) ?_
         ·refine CWalk.drawM [[], [], [], [], [0], [0, 4], [0, 4, 5], [0, 1, 3, 4, 5, 6], [0, 1, 3, 4, 5, 6, 7], [0, 1, 3, 4, 5, 6, 7, 8], [0, 1, 2, 3, 4, 5, 6, 7, 8, 9], [0, 1, 2, 3, 4, 5, 6, 7, 8, 9, 10], [0, 1, 2, 3, 4, 5, 6, 7, 8, 9, 10, 11]] [[.fact 3 (.isv 84)], [.fact 4 (.isv 84)], [.fact 5 (.isv 84)], [.fact 6 (.rep [] (a2 : UInt32))], [.fact 7 (.isv 84)], [.fact 8 (.pto 84 3)], [.fact 100088 (.at 88 (.rep [] ((2 : UInt8) : UInt8))), .fact 100084 (.obj 84 [(false, 1), (false, 1), (false, 1), (false, 1), (false, 1), (false, 1)]), .kill 84, .killId 88], [.fact 9 (.isv 84)], [.fact 10 (.pto 84 5)], [.fact 100090 (.at 90 (.rep [] (a2 : UInt32))), .fact 100084 (.obj 84 [(false, 1), (false, 1), (false, 1), (false, 1), (false, 1), (false, 1)]), .kill 84, .killId 90], [.fact 11 (.isv 84)], [.fact 12 (.pto 84 4)], [.fact 100089 (.at 89 (.rep [] (false : Bool))), .fact 100084 (.obj 84 [(false, 1), (false, 1), (false, 1), (false, 1), (false, 1), (false, 1)]), .kill 84, .killId 89]] mixed (by kernel_rfl) (ao (so (Spec.move (Has.s rfl))) (ao (so (Spec.move (Has.s rfl))) (ao (so (Spec.move (Has.s rfl))) (ao (so (Spec.loadF (i := 0) ty22 rfl (Has.cv (Has.s rfl) (Cv.isvP rfl)) rfl (HasG.s rfl))) (ao (so (Spec.nilCheckI (Has.s rfl) rfl)) (ao (so (Spec.fieldAddrO fd28_3 (Has.cv (Has.s rfl) (Cv.isvP rfl)))) (ao (StepG.stE (Step.storeF (i := 3) (f := Fact.rep [] ((2 : UInt8) : UInt8)) rfl ty5 rfl (Has.s rfl) rfl (Has.u8 2 rfl) (Has.u8 2 rfl) rfl)) (ao (so (Spec.nilCheckI (Has.s rfl) rfl)) (ao (so (Spec.fieldAddrO fd28_5 (Has.cv (Has.s rfl) (Cv.isvP rfl)))) (ao (StepG.stE (Step.storeF (i := 5) (f := Fact.rep [] (a2 : UInt32)) rfl ty22 rfl (Has.s rfl) rfl (Has.s rfl) (Has.s rfl) rfl)) (ao (so (Spec.nilCheckI (Has.s rfl) rfl)) (ao (so (Spec.fieldAddrO fd28_4 (Has.cv (Has.s rfl) (Cv.isvP rfl)))) (ao (StepG.stE (Step.storeF (i := 4) (f := Fact.rep [] (false : Bool)) rfl ty4 rfl (Has.s rfl) rfl Has.bool Has.bool rfl)) AllM.nil))))))))))))) ?_
          exact Leaf.inN (Leaf.in0 (f0 := Fact.top) () hm rfl rfl (fun _ _ => trivial) (Low.res (lc (lc (lc (lc (lf (lg (lg (lf (lf (lf (lf (lg (lg (lf (lf (lf (lf (lg (lg (lf (lf (lf (lf (Low.keepG (HasG.cv (HasG.s rfl) (Cv.owM (T := [81]) (te := [82]) rfl rfl)) (Low.keepG (HasG.cv (HasG.s rfl) (Cv.owF (T := [83]) (te := []) rfl)) (lf (lf (lf (lo (lo (lo (lo Low.nil))))))))))))))))))))))))))))))))))
         ·rintro _ hm
          replace hm : head_Log_J5 a2 x17 = some r := hm
          unfold head_Log_J5 at hm
          show Walk _ _ _ [.fact 26 (.top), .fact 902006 (.cst (u1 6) (Fact.isv 26)), .fact 904008 (.cst (u2 8) (Fact.isv 51)), .fact 906010 (.cst (u3 10) (Fact.isv 72)), .fact 906012 (.cst (u3 12) (Fact.isv 84)), .fact 100027 (.at 27 (.rep [] ((0 : Int) : Int))), .fact 100028 (.at 28 (.nilv)), .fact 100029 (.at 29 (.nilv)), .fact 100030 (.at 30 (.rep [] ((0 : UInt8) : UInt8))), .fact 100031 (.at 31 (.rep [] (false : Bool))), .fact 100032 (.at 32 (.rep [] ((0 : UInt32) : UInt32))), .fact 100052 (.at 52 (.rep [] ((0 : Int) : Int))), .fact 100053 (.at 53 (.nilv)), .fact 100054 (.at 54 (.nilv)), .fact 100055 (.at 55 (.rep [] ((0 : UInt8) : UInt8))), .fact 100056 (.at 56 (.rep [] (false : Bool))), .fact 100057 (.at 57 (.rep [] ((0 : UInt32) : UInt32))), .fact 100073 (.at 73 (.rep [] ((0 : Int) : Int))), .fact 100074 (.at 74 (.nilv)), .fact 100075 (.at 75 (.nilv)), .fact 100076 (.at 76 (.rep [] ((0 : UInt8) : UInt8))), .fact 100077 (.at 77 (.rep [] (false : Bool))), .fact 100078 (.at 78 (.rep [] ((0 : UInt32) : UInt32))), .fact 100085 (.at 85 (.rep [] x17.Stripe)), .fact 100086 (.at 86 (.ow [81] [82] 31 (x17.Blocks : List (List UInt8)))), .fact 100087 (.at 87 (.ow [83] [] 4 (x17.Dirty : List Bool))), .fact 100088 (.at 88 (.rep [] ((2 : UInt8) : UInt8))), .fact 100089 (.at 89 (.rep [] (false : Bool))), .fact 100090 (.at 90 (.rep [] (a2 : UInt32))), .fact 100026 (.obj 26 [(false, 1), (false, 1), (false, 1), (false, 1), (false, 1), (false, 1)]), .fact 100051 (.obj 51 [(false, 1), (false, 1), (false, 1), (false, 1), (false, 1), (false, 1)]), .fact 100072 (.obj 72 [(false, 1), (false, 1), (false, 1), (false, 1), (false, 1), (false, 1)]), .fact 100084 (.obj 84 [(false, 1), (false, 1), (false, 1), (false, 1), (false, 1), (false, 1)])] _
          refine Walk.nil ?_
          refine Leaf.thenN ?_
          refine CWalk.seq ?_
          refine CWalk.region ?_
          refine wo (Spec.assign Has.int) ?_
          refine Walk.nil ?_
          refine Leaf.thenN ?_
          refine CWalk.ret ?_
          exact Leaf.in1 ((0 : Int), (2 : UInt8), false, a2) hm rfl rfl (HasR.cv (HasR.tmp (Has.s rfl)) Cv.fl) (ls 906010 (ls 906012 (Low.res (lc (lc (lf (lg (lg (lf (lf (lf (lf (Low.keepG (HasG.cv (HasG.s rfl) (Cv.owM (T := [81]) (te := [82]) rfl rfl)) (Low.keepG (HasG.cv (HasG.s rfl) (Cv.owF (T := [83]) (te := []) rfl)) (lf (lf (lf (lf (lg (lg (lf (lf (lf (lf (lg (lg (lf (lf (lf (lo (lo (lo (lo Low.nil)))))))))))))))))))))))))))))))))
       ·rintro ⟨j25, j26, j27, j28⟩ hm
        replace hm : head_Log_J4 x17 j25 j26 j27 j28 = some r := hm
        unfold head_Log_J4 at hm
        show Walk _ _ _ [.fact 10 (.isv 72), .fact 12 (.isv 84), .fact 34 (.rep [] (j25 : Int)), .fact 902006 (.cst (u1 6) (Fact.isv 26)), .fact 904008 (.cst (u2 8) (Fact.isv 51)), .fact 100073 (.at 73 (.rep [] ((0 : Int) : Int))), .fact 100074 (.at 74 (.nilv)), .fact 100075 (.at 75 (.nilv)), .fact 100076 (.at 76 (.rep [] ((0 : UInt8) : UInt8))), .fact 100077 (.at 77 (.rep [] (false : Bool))), .fact 100078 (.at 78 (.rep [] ((0 : UInt32) : UInt32))), .fact 100085 (.at 85 (.rep [] x17.Stripe)), .fact 100086 (.at 86 (.ow [81] [82] 31 (x17.Blocks : List (List UInt8)))), .fact 100087 (.at 87 (.ow [83] [] 4 (x17.Dirty : List Bool))), .fact 100088 (.at 88 (.rep [] (j26 : UInt8))), .fact 100089 (.at 89 (.rep [] (j27 : Bool))), .fact 100090 (.at 90 (.rep [] (j28 : UInt32))), .fact 100027 (.at 27 (.rep [] ((0 : Int) : Int))), .fact 100028 (.at 28 (.nilv)), .fact 100029 (.at 29 (.nilv)), .fact 100030 (.at 30 (.rep [] ((0 : UInt8) : UInt8))), .fact 100031 (.at 31 (.rep [] (false : Bool))), .fact 100032 (.at 32 (.rep [] ((0 : UInt32) : UInt32))), .fact 100052 (.at 52 (.rep [] ((0 : Int) : Int))), .fact 100053 (.at 53 (.nilv)), .fact 100054 (.at 54 (.nilv)), .fact 100055 (.at 55 (.rep [] ((0 : UInt8) : UInt8))), .fact 100056 (.at 56 (.rep [] (false : Bool))), .fact 100057 (.at 57 (.rep [] ((0 : UInt32) : UInt32))), .fact 100072 (.obj 72 [(false, 1), (false, 1), (false, 1), (false, 1), (false, 1), (false, 1)]), .fact 100084 (.obj 84 [(false, 1), (false, 1), (false, 1), (false, 1), (false, 1), (false, 1)]), .fact 100026 (.obj 26 [(false, 1), (false, 1), (false, 1), (false, 1), (false, 1), (false, 1)]), .fact 100051 (.obj 51 [(false, 1), (false, 1), (false, 1), (false, 1), (false, 1), (false, 1)])] _
        refine wo (Spec.assign (Has.s rfl)) ?_
        refine Walk.nil ?_
        refine Leaf.thenN ?_
        refine CWalk.seq ?_
        refine CWalk.region ?_
        refine mv ?_
        refine wo (Spec.eqlI (Has.s rfl) Has.int) ?_
        refine Walk.nil ?_
        refine Leaf.thenN ?_
        refine CWalk.cond rfl (fun hb => ?_) (fun hb => ?_)
        ·have hm := cond_t hb hm
         refine CWalk.region ?_
         refine wo (Spec.loadObj (ls := [(false, 1, Fact.rep [] x17.Stripe), (false, 1, Fact.ow [81] [82] 31 (x17.Blocks : List (List UInt8))), (false, 1, Fact.ow [83] [] 4 (x17.Dirty : List Bool)), (false, 1, Fact.rep [] (j26 : UInt8)), (false, 1, Fact.rep [] (j27 : Bool)), (false, 1, Fact.rep [] (j28 : UInt32))]) ty28 rfl rfl (Has.s rfl) rfl (HasGs.cons (HasG.s rfl) (HasGs.cons (HasG.s rfl) (HasGs.cons (HasG.s rfl) (HasGs.cons (HasG.s rfl) (HasGs.cons (HasG.s rfl) (HasGs.cons (HasG.s rfl) HasGs.nil))))))) ?_
         refine ws (Step.storeObj (ls := [(false, 1, Fact.rep [] x17.Stripe), (false, 1, Fact.ow [81] [82] 31 (x17.Blocks : List (List UInt8))), (false, 1, Fact.ow [83] [] 4 (x17.Dirty : List Bool)), (false, 1, Fact.rep [] (j26 : UInt8)), (false, 1, Fact.rep [] (j27 : Bool)), (false, 1, Fact.rep [] (j28 : UInt32))]) rfl ty28 rfl rfl (Has.s rfl) rfl (HasL.flds (Has.s rfl)) rfl) ?_
         refine Walk.nil ?_
         exact Leaf.join (j25, x17.Stripe, x17.Blocks, x17.Dirty, j26, j27, j28) hm (sn (st (sc (sc (sf (Sub.cons (Has.at (HasG.cv (HasG.s rfl) (Cv.owM (T := [81]) (te := [82]) rfl rfl))) (Sub.cons (Has.at (HasG.cv (HasG.s rfl) (Cv.owF (T := [83]) (te := []) rfl))) (sf (sf (sf (sf (sg (sg (sf (sf (sf (sf (sg (sg (sf (sf (sf (sn (sn (sn Sub.nil)))))))))))))))))))))))))
        ·have hm := cond_f hb hm
         refine CWalk.skip ?_
         exact Leaf.join (j25, (0 : Int), ([] : List (List UInt8)), ([] : List Bool), (0 : UInt8), false, (0 : UInt32)) hm (sn (st (sc (sc (sf (Sub.cons (Has.at (HasG.cv (HasG.s rfl) (Cv.trans Cv.nilOw (Cv.owM (T := []) (te := []) rfl rfl)))) (Sub.cons (Has.at (HasG.cv (HasG.s rfl) (Cv.trans Cv.nilOw (Cv.owF (T := []) (te := []) rfl)))) (sf (sf (sf (sf (sg (sg (sf (sf (sf (sf (sg (sg (sf (sf (sf (sn (sn (sn Sub.nil)))))))))))))))))))))))))
  ·rintro ⟨j8, j9, j10, j11, j12, j13, j14⟩ hm
   replace hm : head_Log_J2 j8 j9 j10 j11 j12 j13 j14 = some r := hm
   unfold head_Log_J2 at hm
   show Walk _ _ _ [.fact 8 (.isv 51), .fact 13 (.tup2 (Fact.flds [(false, 1, Fact.rep [] (j8 : Int)), (false, 1, Fact.ow [81] [82] 31 (j9 : List (List UInt8))), (false, 1, Fact.ow [83] [] 4 (j10 : List Bool)), (false, 1, Fact.rep [] (j11 : UInt8)), (false, 1, Fact.rep [] (j12 : Bool)), (false, 1, Fact.rep [] (j13 : UInt32))]) (Fact.rep [] (j14 : Int))), .fact 902006 (.cst (u1 6) (Fact.isv 26)), .fact 100052 (.at 52 (.rep [] ((0 : Int) : Int))), .fact 100053 (.at 53 (.nilv)), .fact 100054 (.at 54 (.nilv)), .fact 100055 (.at 55 (.rep [] ((0 : UInt8) : UInt8))), .fact 100056 (.at 56 (.rep [] (false : Bool))), .fact 100057 (.at 57 (.rep [] ((0 : UInt32) : UInt32))), .fact 100027 (.at 27 (.rep [] ((0 : Int) : Int))), .fact 100028 (.at 28 (.nilv)), .fact 100029 (.at 29 (.nilv)), .fact 100030 (.at 30 (.rep [] ((0 : UInt8) : UInt8))), .fact 100031 (.at 31 (.rep [] (false : Bool))), .fact 100032 (.at 32 (.rep [] ((0 : UInt32) : UInt32))), .fact 100051 (.obj 51 [(false, 1), (false, 1), (false, 1), (false, 1), (false, 1), (false, 1)]), .fact 100026 (.obj 26 [(false, 1), (false, 1), (false, 1), (false, 1), (false, 1), (false, 1)])] _
   refine wo (Spec.ext0 (Has.s rfl)) ?_
   refine wo (Spec.ext1 (Has.s rfl)) ?_
   refine ws (Step.storeObj (ls := [(false, 1, Fact.rep [] (j8 : Int)), (false, 1, Fact.ow [81] [82] 31 (j9 : List (List UInt8))), (false, 1, Fact.ow [83] [] 4 (j10 : List Bool)), (false, 1, Fact.rep [] (j11 : UInt8)), (false, 1, Fact.rep [] (j12 : Bool)), (false, 1, Fact.rep [] (j13 : UInt32))]) rfl ty28 rfl rfl (Has.s rfl) rfl (HasL.flds (Has.s rfl)) rfl) ?_
   refine wo (Spec.assign (Has.s rfl)) ?_
   refine Walk.nil ?_
   refine Leaf.thenN ?_
   refine CWalk.ret ?_
   exact Leaf.in2 (j8, j9, j10, j11, j12, j13, j14) hm rfl rfl (HasR.cv (HasR.obj (ls := [(false, 1, Fact.rep [] (j8 : Int)), (false, 1, Fact.ow [81] [82] 31 (j9 : List (List UInt8))), (false, 1, Fact.ow [83] [] 4 (j10 : List Bool)), (false, 1, Fact.rep [] (j11 : UInt8)), (false, 1, Fact.rep [] (j12 : Bool)), (false, 1, Fact.rep [] (j13 : UInt32))]) ty28 rfl rfl (Has.s rfl) rfl (HasGs.cons (HasG.s rfl) (HasGs.cons (HasG.s rfl) (HasGs.cons (HasG.s rfl) (HasGs.cons (HasG.s rfl) (HasGs.cons (HasG.s rfl) (HasGs.cons (HasG.s rfl) HasGs.nil))))))) (Cv.flds (CvL.cons Cv.fl (CvL.cons (Cv.owM (T := [81]) (te := [82]) rfl rfl) (CvL.cons (Cv.owF (T := [83]) (te := []) rfl) (CvL.cons Cv.fl (CvL.cons Cv.fl (CvL.cons Cv.fl CvL.nil)))))))) (HasR.cv (HasR.tmp (Has.s rfl)) Cv.fl) (ls 902006 (Low.res (lf (lg (lg (lf (lf (lf (lo Low.nil)))))))))
 ·rintro ⟨j1, j2, j3, j4, j5, j6, j7⟩ hm
  replace hm : head_Log_J1 j1 j2 j3 j4 j5 j6 j7 = some r := hm
  unfold head_Log_J1 at hm
  show Walk _ _ _ [.fact 6 (.isv 26), .fact 11 (.tup2 (Fact.flds [(false, 1, Fact.rep [] (j1 : Int)), (false, 1, Fact.ow [81] [82] 31 (j2 : List (List UInt8))), (false, 1, Fact.ow [83] [] 4 (j3 : List Bool)), (false, 1, Fact.rep [] (j4 : UInt8)), (false, 1, Fact.rep [] (j5 : Bool)), (false, 1, Fact.rep [] (j6 : UInt32))]) (Fact.rep [] (j7 : Int))), .fact 100027 (.at 27 (.rep [] ((0 : Int) : Int))), .fact 100028 (.at 28 (.nilv)), .fact 100029 (.at 29 (.nilv)), .fact 100030 (.at 30 (.rep [] ((0 : UInt8) : UInt8))), .fact 100031 (.at 31 (.rep [] (false : Bool))), .fact 100032 (.at 32 (.rep [] ((0 : UInt32) : UInt32))), .fact 100026 (.obj 26 [(false, 1), (false, 1), (false, 1), (false, 1), (false, 1), (false, 1)])] _
  refine wo (Spec.ext0 (Has.s rfl)) ?_
  refine wo (Spec.ext1 (Has.s rfl)) ?_
  refine ws (Step.storeObj (ls := [(false, 1, Fact.rep [] (j1 : Int)), (false, 1, Fact.ow [81] [82] 31 (j2 : List (List UInt8))), (false, 1, Fact.ow [83] [] 4 (j3 : List Bool)), (false, 1, Fact.rep [] (j4 : UInt8)), (false, 1, Fact.rep [] (j5 : Bool)), (false, 1, Fact.rep [] (j6 : UInt32))]) rfl ty28 rfl rfl (Has.s rfl) rfl (HasL.flds (Has.s rfl)) rfl) ?_
  refine wo (Spec.assign (Has.s rfl)) ?_
  refine Walk.nil ?_
  refine Leaf.thenN ?_
  refine CWalk.ret ?_
  obtain rfl := Option.some.inj hm
  exact Leaf.retC2 rfl (HasR.cv (HasR.obj (ls := [(false, 1, Fact.rep [] (j1 : Int)), (false, 1, Fact.ow [81] [82] 31 (j2 : List (List UInt8))), (false, 1, Fact.ow [83] [] 4 (j3 : List Bool)), (false, 1, Fact.rep [] (j4 : UInt8)), (false, 1, Fact.rep [] (j5 : Bool)), (false, 1, Fact.rep [] (j6 : UInt32))]) ty28 rfl rfl (Has.s rfl) rfl (HasGs.cons (HasG.s rfl) (HasGs.cons (HasG.s rfl) (HasGs.cons (HasG.s rfl) (HasGs.cons (HasG.s rfl) (HasGs.cons (HasG.s rfl) (HasGs.cons (HasG.s rfl) HasGs.nil))))))) (Cv.flds (CvL.cons Cv.fl (CvL.cons (Cv.owM (T := [81]) (te := [82]) rfl rfl) (CvL.cons (Cv.owF (T := [83]) (te := []) rfl) (CvL.cons Cv.fl (CvL.cons Cv.fl (CvL.cons Cv.fl CvL.nil)))))))) (HasR.cv (HasR.tmp (Has.s rfl)) Cv.fl)

def head_Lay_J1 (j1 : Int) (j2 : List (List UInt8)) (j3 : List Bool) (j4 : UInt8) (j5 : Bool) (j6 : UInt32) (j7 : Int) : Option (Head × Int) :=
  some ((Head.mk j1 j2 j3 j4 j5 j6), j7)
def head_Lay_J2 (j8 : Int) (j9 : List (List UInt8)) (j10 : List Bool) (j11 : UInt8) (j12 : Bool) (j13 : UInt32) (j14 : Int) : Option (Head × Int) :=
  (head_Lay_J1 j8 j9 j10 j11 j12 j13 j14)
def head_Lay_J3 (j18 : Int) (j19 : Int) (j20 : List (List UInt8)) (j21 : List Bool) (j22 : UInt8) (j23 : Bool) (j24 : UInt32) : Option (Head × Int) :=
  (head_Lay_J2 j19 j20 j21 j22 j23 j24 j18)
def head_Lay_J4 (x17 : Head) (j25 : Int) (j26 : UInt8) (j27 : Bool) : Option (Head × Int) :=
  (bif (j25 == (0 : Int)) then (head_Lay_J3 j25 x17.Stripe x17.Blocks x17.Dirty j26 j27 x17.Seq) else (head_Lay_J3 j25 (0 : Int) ([] : List (List UInt8)) ([] : List Bool) (0 : UInt8) false (0 : UInt32)))
def head_Lay_J5 (x17 : Head) : Option (Head × Int) :=
  (head_Lay_J4 x17 (0 : Int) (4 : UInt8) false)
/-- freeboard/head.Lay -/
def head_Lay (a0 : Config) (a1 : Head) : Option (Head × Int) :=
  Option.bind (head_Check a0 a1) (fun x15 => (bif (x15 != (0 : Int)) then (head_Lay_J2 (0 : Int) ([] : List (List UInt8)) ([] : List Bool) (0 : UInt8) false (0 : UInt32) x15) else (bif ((decide ((0 : Int) < (0 : Int))) || (decide ((0 : Int) ≥ (wI (a0.Members - (1 : Int)))))) then (head_Lay_J2 (0 : Int) ([] : List (List UInt8)) ([] : List Bool) (0 : UInt8) false (0 : UInt32) (2 : Int)) else Option.bind (head_odd ([] : List UInt8)) (fun x16 => (bif x16 then (head_Lay_J2 (0 : Int) ([] : List (List UInt8)) ([] : List Bool) (0 : UInt8) false (0 : UInt32) (3 : Int)) else Option.bind (head_Twin a1) (fun x17 => Option.bind (head_may (3 : Int) x17.Phase) (fun x28 => Option.bind (gO ((!(!x28)) && (((3 : Int) == (0 : Int)))) (slices_Contains_bool_bool x17.Dirty true)) (fun x29 => (bif ((!x28) || (((3 : Int) == (0 : Int)) && (!x29))) then (head_Lay_J4 x17 (6 : Int) x17.Phase x17.Deals) else (head_Lay_J5 x17))))))))))
set_option maxRecDepth 100000 in
set_option maxHeartbeats 2000000 in
theorem head_Lay_c (a0 : Config) (a1 : Head) {r : Head × Int} (hm : head_Lay a0 a1 = some r) : Ctr Try.prog 34 [.rep 0 a0, .rep 0 a1] (.tup2 (.flds [(false, 1, (.fl r.1.Stripe)), (false, 1, (.own 0 (some 1) 31 r.1.Blocks)), (false, 1, (.own 2 none 4 r.1.Dirty)), (false, 1, (.fl r.1.Phase)), (false, 1, (.fl r.1.Deals)), (false, 1, (.fl r.1.Seq))]) (.fl r.2)) [] := by
 refine ctr_of_walk [[79], [80], [81]] 11 Try.func34 rfl rfl rfl rfl (fun w0 om => ?_)
 unfold head_Lay at hm
 refine CWalk.sub (G' := [.fact 0 (.rep [] (a0 : Config)), .fact 1 (.rep [0] (a1 : Head))]) (Sub.cons (Has.fl (Has.s rfl)) (sn Sub.nil)) ?_
 refine CWalk.seq ?_
 refine CWalk.region ?_
 refine ws (Step.boxObj (ls := [(false, 1, Fact.rep [] a0.Id), (false, 1, Fact.rep [] a0.Members), (false, 1, Fact.rep [] a0.Chunk), (false, 1, Fact.rep [] a0.Rows), (false, 1, Fact.rep [] a0.Log), (false, 1, Fact.rep [] a0.Heads)]) 10 rfl rfl rfl rfl (HasL.flds (Has.cv (Has.s rfl) (Cv.trans (Cv.opens (chConfig a0)) (Cv.flds (CvL.cons Cv.fl (CvL.cons Cv.fl (CvL.cons Cv.fl (CvL.cons Cv.fl (CvL.cons Cv.fl (CvL.cons Cv.fl CvL.nil))))))))))) ?_
 refine ws (Step.boxObj (ls := [(false, 1, Fact.rep [] a1.Stripe), (false, 1, Fact.rep [0] a1.Blocks), (false, 1, Fact.rep [0] a1.Dirty), (false, 1, Fact.rep [] a1.Phase), (false, 1, Fact.rep [] a1.Deals), (false, 1, Fact.rep [] a1.Seq)]) 17 rfl rfl rfl rfl (HasL.flds (Has.cv (Has.s rfl) (Cv.trans (Cv.opens (chHead a1)) (Cv.flds (CvL.cons Cv.fl (CvL.cons Cv.refl (CvL.cons Cv.refl (CvL.cons Cv.fl (CvL.cons Cv.fl (CvL.cons Cv.fl CvL.nil))))))))))) ?_
 refine ws (Step.allocObj (ls := [(false, 1, Fact.rep [] ((0 : Int) : Int)), (false, 1, Fact.nilv), (false, 1, Fact.nilv), (false, 1, Fact.rep [] ((0 : UInt8) : UInt8)), (false, 1, Fact.rep [] (false : Bool)), (false, 1, Fact.rep [] ((0 : UInt32) : UInt32))]) 24 rfl rfl rfl rfl zl28) ?_
 refine wo (Spec.assign Has.int) ?_
 refine Walk.nil ?_
 refine Leaf.thenN ?_
 refine CWalk.seq ?_
 refine CWalk.region ?_
 refine wo (Spec.loadObj (ls := [(false, 1, Fact.rep [] a0.Id), (false, 1, Fact.rep [] a0.Members), (false, 1, Fact.rep [] a0.Chunk), (false, 1, Fact.rep [] a0.Rows), (false, 1, Fact.rep [] a0.Log), (false, 1, Fact.rep [] a0.Heads)]) ty24 rfl rfl (Has.s rfl) rfl (HasGs.cons (HasG.s rfl) (HasGs.cons (HasG.s rfl) (HasGs.cons (HasG.s rfl) (HasGs.cons (HasG.s rfl) (HasGs.cons (HasG.s rfl) (HasGs.cons (HasG.s rfl) HasGs.nil))))))) ?_
 refine wo (Spec.loadObj (ls := [(false, 1, Fact.rep [] a1.Stripe), (false, 1, Fact.rep [0] a1.Blocks), (false, 1, Fact.rep [0] a1.Dirty), (false, 1, Fact.rep [] a1.Phase), (false, 1, Fact.rep [] a1.Deals), (false, 1, Fact.rep [] a1.Seq)]) ty28 rfl rfl (Has.s rfl) rfl (HasGs.cons (HasG.s rfl) (HasGs.cons (HasG.s rfl) (HasGs.cons (HasG.s rfl) (HasGs.cons (HasG.s rfl) (HasGs.cons (HasG.s rfl) (HasGs.cons (HasG.s rfl) HasGs.nil))))))) ?_
 refine Walk.inline (S := Int × (List (List UInt8)) × (List Bool) × UInt8 × Bool × UInt32 × Int) (fun p : Int × (List (List UInt8)) × (List Bool) × UInt8 × Bool × UInt32 × Int => [.fact 4 (.isv 24), .fact 8 (.tup2 (Fact.flds [(false, 1, Fact.rep [] p.1), (false, 1, Fact.ow [79] [80] 31 (p.2.1 : List (List UInt8))), (false, 1, Fact.ow [81] [] 4 (p.2.2.1 : List Bool)), (false, 1, Fact.rep [] p.2.2.2.1), (false, 1, Fact.rep [] p.2.2.2.2.1), (false, 1, Fact.rep [] p.2.2.2.2.2.1)]) (Fact.rep [] p.2.2.2.2.2.2)), .fact 100025 (.at 25 (.rep [] ((0 : Int) : Int))), .fact 100026 (.at 26 (.nilv)), .fact 100027 (.at 27 (.nilv)), .fact 100028 (.at 28 (.rep [] ((0 : UInt8) : UInt8))), .fact 100029 (.at 29 (.rep [] (false : Bool))), .fact 100030 (.at 30 (.rep [] ((0 : UInt32) : UInt32))), .fact 100024 (.obj 24 [(false, 1), (false, 1), (false, 1), (false, 1), (false, 1), (false, 1)])]) (fun p : Int × (List (List UInt8)) × (List Bool) × UInt8 × Bool × UInt32 × Int => head_Lay_J1 p.1 p.2.1 p.2.2.1 p.2.2.2.1 p.2.2.2.2.1 p.2.2.2.2.2.1 p.2.2.2.2.2.2 = some r) (fun u1 => [.fact 100025 (.at 25 (.rep [] ((0 : Int) : Int))), .fact 100026 (.at 26 (.nilv)), .fact 100027 (.at 27 (.nilv)), .fact 100028 (.at 28 (.rep [] ((0 : UInt8) : UInt8))), .fact 100029 (.at 29 (.rep [] (false : Bool))), .fact 100030 (.at 30 (.rep [] ((0 : UInt32) : UInt32))), .fact 902004 (.cst (u1 4) (Fact.isv 24)), .fact 100024 (.obj 24 [(false, 1), (false, 1), (false, 1), (false, 1), (false, 1), (false, 1)])]) (FA := [Fact.flds [(false, 1, Fact.rep [] a0.Id), (false, 1, Fact.rep [] a0.Members), (false, 1, Fact.rep [] a0.Chunk), (false, 1, Fact.rep [] a0.Rows), (false, 1, Fact.rep [] a0.Log), (false, 1, Fact.rep [] a0.Heads)], Fact.flds [(false, 1, Fact.rep [] a1.Stripe), (false, 1, Fact.rep [0] a1.Blocks), (false, 1, Fact.rep [0] a1.Dirty), (false, 1, Fact.rep [] a1.Phase), (false, 1, Fact.rep [] a1.Deals), (false, 1, Fact.rep [] a1.Seq)], Fact.rep [] ((3 : Int) : Int), Fact.fnv 70 [] []]) rfl Try.func63 rfl rfl rfl (CallOk.fn en63 (HasF.cons (Has.s rfl) (HasF.cons (Has.s rfl) (HasF.cons Has.int (HasF.cons Has.func HasF.nil))))) (fun u1 => (ck (ck (ck (ck (ck (ck (cs 902000 4 (ck Carry.nil))))))))) (fun u1 => ?_) ?_
 ·refine CWalk.seq ?_
  refine CWalk.region ?_
  refine ws (Step.boxObj (ls := [(false, 1, Fact.rep [] a0.Id), (false, 1, Fact.rep [] a0.Members), (false, 1, Fact.rep [] a0.Chunk), (false, 1, Fact.rep [] a0.Rows), (false, 1, Fact.rep [] a0.Log), (false, 1, Fact.rep [] a0.Heads)]) 31 rfl rfl rfl rfl (HasL.flds (Has.s rfl))) ?_
  refine ws (Step.boxObj (ls := [(false, 1, Fact.rep [] a1.Stripe), (false, 1, Fact.rep [0] a1.Blocks), (false, 1, Fact.rep [0] a1.Dirty), (false, 1, Fact.rep [] a1.Phase), (false, 1, Fact.rep [] a1.Deals), (false, 1, Fact.rep [] a1.Seq)]) 38 rfl rfl rfl rfl (HasL.flds (Has.s rfl))) ?_
  refine ws (Step.boxObj (ls := [(false, 1, Fact.rep [] ((3 : Int) : Int))]) 45 rfl rfl rfl rfl (HasL.one (Has.s rfl) rfl (Has.s rfl))) ?_
  refine ws (Step.boxObj (ls := [(false, 1, Fact.fnv 70 [] [])]) 47 rfl rfl rfl rfl (HasL.fnv (Has.s rfl))) ?_
  refine ws (Step.allocObj (ls := [(false, 1, Fact.rep [] ((0 : Int) : Int)), (false, 1, Fact.nilv), (false, 1, Fact.nilv), (false, 1, Fact.rep [] ((0 : UInt8) : UInt8)), (false, 1, Fact.rep [] (false : Bool)), (false, 1, Fact.rep [] ((0 : UInt32) : UInt32))]) 49 rfl rfl rfl rfl zl28) ?_
  refine wo (Spec.assign Has.int) ?_
  refine Walk.nil ?_
  refine Leaf.thenN ?_
  refine CWalk.seq ?_
  refine CWalk.region ?_
  refine wo (Spec.loadObj (ls := [(false, 1, Fact.rep [] a0.Id), (false, 1, Fact.rep [] a0.Members), (false, 1, Fact.rep [] a0.Chunk), (false, 1, Fact.rep [] a0.Rows), (false, 1, Fact.rep [] a0.Log), (false, 1, Fact.rep [] a0.Heads)]) ty24 rfl rfl (Has.s rfl) rfl (HasGs.cons (HasG.s rfl) (HasGs.cons (HasG.s rfl) (HasGs.cons (HasG.s rfl) (HasGs.cons (HasG.s rfl) (HasGs.cons (HasG.s rfl) (HasGs.cons (HasG.s rfl) HasGs.nil))))))) ?_
  refine wo (Spec.loadObj (ls := [(false, 1, Fact.rep [] a1.Stripe), (false, 1, Fact.rep [0] a1.Blocks), (false, 1, Fact.rep [0] a1.Dirty), (false, 1, Fact.rep [] a1.Phase), (false, 1, Fact.rep [] a1.Deals), (false, 1, Fact.rep [] a1.Seq)]) ty28 rfl rfl (Has.s rfl) rfl (HasGs.cons (HasG.s rfl) (HasGs.cons (HasG.s rfl) (HasGs.cons (HasG.s rfl) (HasGs.cons (HasG.s rfl) (HasGs.cons (HasG.s rfl) (HasGs.cons (HasG.s rfl) HasGs.nil))))))) ?_
  refine wo (Spec.makeFunc (xs := []) (ys := [.tmp 6, .tmp 7]) rfl rfl HasF.nil (HasF.cons (Has.s rfl) (HasF.cons (Has.s rfl) HasF.nil)) (fun _ _ _ => rfl)) ?_
  refine Walk.inline (S := Int × (List (List UInt8)) × (List Bool) × UInt8 × Bool × UInt32 × Int) (fun p : Int × (List (List UInt8)) × (List Bool) × UInt8 × Bool × UInt32 × Int => [.fact 8 (.isv 49), .fact 13 (.tup2 (Fact.flds [(false, 1, Fact.rep [] p.1), (false, 1, Fact.ow [79] [80] 31 (p.2.1 : List (List UInt8))), (false, 1, Fact.ow [81] [] 4 (p.2.2.1 : List Bool)), (false, 1, Fact.rep [] p.2.2.2.1), (false, 1, Fact.rep [] p.2.2.2.2.1), (false, 1, Fact.rep [] p.2.2.2.2.2.1)]) (Fact.rep [] p.2.2.2.2.2.2)), .fact 902004 (.cst (u1 4) (Fact.isv 24)), .fact 100050 (.at 50 (.rep [] ((0 : Int) : Int))), .fact 100051 (.at 51 (.nilv)), .fact 100052 (.at 52 (.nilv)), .fact 100053 (.at 53 (.rep [] ((0 : UInt8) : UInt8))), .fact 100054 (.at 54 (.rep [] (false : Bool))), .fact 100055 (.at 55 (.rep [] ((0 : UInt32) : UInt32))), .fact 100025 (.at 25 (.rep [] ((0 : Int) : Int))), .fact 100026 (.at 26 (.nilv)), .fact 100027 (.at 27 (.nilv)), .fact 100028 (.at 28 (.rep [] ((0 : UInt8) : UInt8))), .fact 100029 (.at 29 (.rep [] (false : Bool))), .fact 100030 (.at 30 (.rep [] ((0 : UInt32) : UInt32))), .fact 100049 (.obj 49 [(false, 1), (false, 1), (false, 1), (false, 1), (false, 1), (false, 1)]), .fact 100024 (.obj 24 [(false, 1), (false, 1), (false, 1), (false, 1), (false, 1), (false, 1)])]) (fun p : Int × (List (List UInt8)) × (List Bool) × UInt8 × Bool × UInt32 × Int => head_Lay_J2 p.1 p.2.1 p.2.2.1 p.2.2.2.1 p.2.2.2.2.1 p.2.2.2.2.2.1 p.2.2.2.2.2.2 = some r) (fun u2 => [.fact 100025 (.at 25 (.rep [] ((0 : Int) : Int))), .fact 100026 (.at 26 (.nilv)), .fact 100027 (.at 27 (.nilv)), .fact 100028 (.at 28 (.rep [] ((0 : UInt8) : UInt8))), .fact 100029 (.at 29 (.rep [] (false : Bool))), .fact 100030 (.at 30 (.rep [] ((0 : UInt32) : UInt32))), .fact 100046 (.at 46 (.rep [] ((3 : Int) : Int))), .fact 100048 (.at 48 (.fnv 70 [] [])), .fact 100050 (.at 50 (.rep [] ((0 : Int) : Int))), .fact 100051 (.at 51 (.nilv)), .fact 100052 (.at 52 (.nilv)), .fact 100053 (.at 53 (.rep [] ((0 : UInt8) : UInt8))), .fact 100054 (.at 54 (.rep [] (false : Bool))), .fact 100055 (.at 55 (.rep [] ((0 : UInt32) : UInt32))), .fact 902004 (.cst (u1 4) (Fact.isv 24)), .fact 904008 (.cst (u2 8) (Fact.isv 49)), .fact 100024 (.obj 24 [(false, 1), (false, 1), (false, 1), (false, 1), (false, 1), (false, 1)]), .fact 100045 (.obj 45 [(false, 1)]), .fact 100047 (.obj 47 [(false, 1)]), .fact 100049 (.obj 49 [(false, 1), (false, 1), (false, 1), (false, 1), (false, 1), (false, 1)])]) (FA := [Fact.flds [(false, 1, Fact.rep [] a0.Id), (false, 1, Fact.rep [] a0.Members), (false, 1, Fact.rep [] a0.Chunk), (false, 1, Fact.rep [] a0.Rows), (false, 1, Fact.rep [] a0.Log), (false, 1, Fact.rep [] a0.Heads)], Fact.flds [(false, 1, Fact.rep [] a1.Stripe), (false, 1, Fact.rep [0] a1.Blocks), (false, 1, Fact.rep [0] a1.Dirty), (false, 1, Fact.rep [] a1.Phase), (false, 1, Fact.rep [] a1.Deals), (false, 1, Fact.rep [] a1.Seq)], Fact.rep [] ((0 : Int) : Int), Fact.nilv, Fact.fnv 77 [] [Fact.isv 45, Fact.isv 47]]) rfl Try.func48 rfl rfl rfl (CallOk.fn en48 (HasF.cons (Has.s rfl) (HasF.cons (Has.s rfl) (HasF.cons Has.int (HasF.cons Has.nilv (HasF.cons (Has.s rfl) HasF.nil)))))) (fun u2 => (ck (ck (ck (ck (ck (ck (ck (ck (ck (ck (ck (ck (ck (ck (ck (cs 904000 8 (ck (ck (ck (ck Carry.nil))))))))))))))))))))) (fun u2 => ?_) ?_
  ·refine CWalk.seq ?_
   refine CWalk.region ?_
   refine ws (Step.boxObj (ls := [(false, 1, Fact.rep [] a0.Id), (false, 1, Fact.rep [] a0.Members), (false, 1, Fact.rep [] a0.Chunk), (false, 1, Fact.rep [] a0.Rows), (false, 1, Fact.rep [] a0.Log), (false, 1, Fact.rep [] a0.Heads)]) 56 rfl rfl rfl rfl (HasL.flds (Has.s rfl))) ?_
   refine ws (Step.boxObj (ls := [(false, 1, Fact.rep [] a1.Stripe), (false, 1, Fact.rep [0] a1.Blocks), (false, 1, Fact.rep [0] a1.Dirty), (false, 1, Fact.rep [] a1.Phase), (false, 1, Fact.rep [] a1.Deals), (false, 1, Fact.rep [] a1.Seq)]) 63 rfl rfl rfl rfl (HasL.flds (Has.s rfl))) ?_
   refine ws (Step.allocObj (ls := [(false, 1, Fact.rep [] ((0 : Int) : Int)), (false, 1, Fact.nilv), (false, 1, Fact.nilv), (false, 1, Fact.rep [] ((0 : UInt8) : UInt8)), (false, 1, Fact.rep [] (false : Bool)), (false, 1, Fact.rep [] ((0 : UInt32) : UInt32))]) 70 rfl rfl rfl rfl zl28) ?_
   refine wo (Spec.assign Has.int) ?_
   refine Walk.nil ?_
   refine Leaf.thenN ?_
   refine CWalk.seq ?_
   refine CWalk.seq ?_
   refine CWalk.region ?_
   refine wo (Spec.loadObj (ls := [(false, 1, Fact.rep [] a0.Id), (false, 1, Fact.rep [] a0.Members), (false, 1, Fact.rep [] a0.Chunk), (false, 1, Fact.rep [] a0.Rows), (false, 1, Fact.rep [] a0.Log), (false, 1, Fact.rep [] a0.Heads)]) ty24 rfl rfl (Has.s rfl) rfl (HasGs.cons (HasG.s rfl) (HasGs.cons (HasG.s rfl) (HasGs.cons (HasG.s rfl) (HasGs.cons (HasG.s rfl) (HasGs.cons (HasG.s rfl) (HasGs.cons (HasG.s rfl) HasGs.nil))))))) ?_
   refine wo (Spec.loadObj (ls := [(false, 1, Fact.rep [] a1.Stripe), (false, 1, Fact.rep [0] a1.Blocks), (false, 1, Fact.rep [0] a1.Dirty), (false, 1, Fact.rep [] a1.Phase), (false, 1, Fact.rep [] a1.Deals), (false, 1, Fact.rep [] a1.Seq)]) ty28 rfl rfl (Has.s rfl) rfl (HasGs.cons (HasG.s rfl) (HasGs.cons (HasG.s rfl) (HasGs.cons (HasG.s rfl) (HasGs.cons (HasG.s rfl) (HasGs.cons (HasG.s rfl) (HasGs.cons (HasG.s rfl) HasGs.nil))))))) ?_
   obtain ⟨x15, hx15, hm⟩ := bind_some hm
   refine wo (f := Fact.rep [] (x15 : Int)) (Spec.callE [0] 77 rfl en24 (head_Check_c a0 a1 hx15) (HasAll.cons (Has.fl (Has.cv (Has.s rfl) (Cv.trans (Cv.flds (CvL.cons Cv.fl (CvL.cons Cv.fl (CvL.cons Cv.fl (CvL.cons Cv.fl (CvL.cons Cv.fl (CvL.cons Cv.fl CvL.nil))))))) (Cv.close (T := []) (chConfig a0))))) (HasAll.cons (Has.m (Has.cv (Has.s rfl) (Cv.trans (Cv.flds (CvL.cons Cv.fl (CvL.cons (Cv.m rfl) (CvL.cons (Cv.m rfl) (CvL.cons Cv.fl (CvL.cons Cv.fl (CvL.cons Cv.fl CvL.nil))))))) (Cv.close (T := [0]) (chHead a1)))) rfl) HasAll.nil))) ?_
   refine wo (Spec.assign (Has.s rfl)) ?_
   refine Walk.nil ?_
   refine Leaf.thenN ?_
   refine CWalk.seq ?_
   refine CWalk.region ?_
   refine mv ?_
   refine wo (Spec.neqI (Has.s rfl) Has.int) ?_
   refine Walk.nil ?_
   refine Leaf.thenN ?_
   refine CWalk.cond rfl (fun hb => ?_) (fun hb => ?_)
   ·have hm := cond_t hb hm
    refine CWalk.ret ?_
    refine Leaf.thenR ?_
    exact Leaf.in2 ((0 : Int), ([] : List (List UInt8)), ([] : List Bool), (0 : UInt8), false, (0 : UInt32), x15) hm rfl rfl (HasR.cv (HasR.obj (ls := [(false, 1, Fact.rep [] ((0 : Int) : Int)), (false, 1, Fact.nilv), (false, 1, Fact.nilv), (false, 1, Fact.rep [] ((0 : UInt8) : UInt8)), (false, 1, Fact.rep [] (false : Bool)), (false, 1, Fact.rep [] ((0 : UInt32) : UInt32))]) ty28 rfl rfl (Has.s rfl) rfl (HasGs.cons (HasG.s rfl) (HasGs.cons (HasG.s rfl) (HasGs.cons (HasG.s rfl) (HasGs.cons (HasG.s rfl) (HasGs.cons (HasG.s rfl) (HasGs.cons (HasG.s rfl) HasGs.nil))))))) (Cv.flds (CvL.cons Cv.fl (CvL.cons (Cv.trans Cv.nilOw (Cv.owM (T := []) (te := []) rfl rfl)) (CvL.cons (Cv.trans Cv.nilOw (Cv.owF (T := []) (te := []) rfl)) (CvL.cons Cv.fl (CvL.cons Cv.fl (CvL.cons Cv.fl CvL.nil)))))))) (HasR.cv (HasR.tmp (Has.s rfl)) Cv.fl) (ls 904008 (Low.res (lc (lf (lg (lg (lf (lf (lf (lf (lg (lg (lf (lf (lf (lo (lo Low.nil)))))))))))))))))
   ·have hm := cond_f hb hm
    refine CWalk.skip ?_
    refine Leaf.thenN ?_
    refine CWalk.seq ?_
    refine CWalk.seq ?_
    refine CWalk.region ?_
    refine mv ?_
    refine wo (Spec.lssI (Has.s rfl) Has.int) ?_
    refine mv ?_
    refine wg rfl rfl (fun hb => Spec.move (Has.s rfl)) ?_
    refine wg rfl rfl (fun hb => Spec.fieldAddrO fd24_1 (Has.cv (Has.s rfl) (Cv.isvP rfl))) ?_
    refine wg rfl rfl (fun hb => Spec.loadF (i := 1) ty3 rfl (Has.u rfl hb) rfl (HasG.s rfl)) ?_
    refine wg rfl rfl (fun hb => Spec.subI (Has.u rfl hb) Has.int) ?_
    refine wg rfl rfl (fun hb => Spec.geqI (Has.u rfl hb) (Has.u rfl hb)) ?_
    refine wo (Spec.or (Has.s rfl) (fun h => Has.u rfl h)) ?_
    refine Walk.nil ?_
    refine Leaf.thenN ?_
    refine CWalk.cond rfl (fun hb => ?_) (fun hb => ?_)
    ·have hm := cond_t hb hm
     refine CWalk.seq ?_
     refine CWalk.region ?_
     refine wo (Spec.loadObj (ls := [(false, 1, Fact.rep [] ((0 : Int) : Int)), (false, 1, Fact.nilv), (false, 1, Fact.nilv), (false, 1, Fact.rep [] ((0 : UInt8) : UInt8)), (false, 1, Fact.rep [] (false : Bool)), (false, 1, Fact.rep [] ((0 : UInt32) : UInt32))]) ty28 rfl rfl (Has.s rfl) rfl (HasGs.cons (HasG.s rfl) (HasGs.cons (HasG.s rfl) (HasGs.cons (HasG.s rfl) (HasGs.cons (HasG.s rfl) (HasGs.cons (HasG.s rfl) (HasGs.cons (HasG.s rfl) HasGs.nil))))))) ?_
     refine ws (Step.storeObj (ls := [(false, 1, Fact.rep [] ((0 : Int) : Int)), (false, 1, Fact.nilv), (false, 1, Fact.nilv), (false, 1, Fact.rep [] ((0 : UInt8) : UInt8)), (false, 1, Fact.rep [] (false : Bool)), (false, 1, Fact.rep [] ((0 : UInt32) : UInt32))]) rfl ty28 rfl rfl (Has.s rfl) rfl (HasL.flds (Has.s rfl)) rfl) ?_
     refine wo (Spec.assign Has.int) ?_
     refine Walk.nil ?_
     refine Leaf.thenN ?_
     refine CWalk.ret ?_
     refine Leaf.thenR ?_
     exact Leaf.in2 ((0 : Int), ([] : List (List UInt8)), ([] : List Bool), (0 : UInt8), false, (0 : UInt32), (2 : Int)) hm rfl rfl (HasR.cv (HasR.obj (ls := [(false, 1, Fact.rep [] ((0 : Int) : Int)), (false, 1, Fact.nilv), (false, 1, Fact.nilv), (false, 1, Fact.rep [] ((0 : UInt8) : UInt8)), (false, 1, Fact.rep [] (false : Bool)), (false, 1, Fact.rep [] ((0 : UInt32) : UInt32))]) ty28 rfl rfl (Has.s rfl) rfl (HasGs.cons (HasG.s rfl) (HasGs.cons (HasG.s rfl) (HasGs.cons (HasG.s rfl) (HasGs.cons (HasG.s rfl) (HasGs.cons (HasG.s rfl) (HasGs.cons (HasG.s rfl) HasGs.nil))))))) (Cv.flds (CvL.cons Cv.fl (CvL.cons (Cv.trans Cv.nilOw (Cv.owM (T := []) (te := []) rfl rfl)) (CvL.cons (Cv.trans Cv.nilOw (Cv.owF (T := []) (te := []) rfl)) (CvL.cons Cv.fl (CvL.cons Cv.fl (CvL.cons Cv.fl CvL.nil)))))))) (HasR.cv (HasR.tmp (Has.s rfl)) Cv.fl) (ls 904008 (Low.res (lc (lf (lg (lg (lf (lf (lf (lf (lg (lg (lf (lf (lf (lo (lo Low.nil)))))))))))))))))
    ·have hm := cond_f hb hm
     refine CWalk.skip ?_
     refine Leaf.thenN ?_
     refine CWalk.seq ?_
     refine CWalk.seq ?_
     refine CWalk.region ?_
     refine mv ?_
     obtain ⟨x16, hx16, hm⟩ := bind_some hm
     refine wo (f := Fact.rep [] (x16 : Bool)) (Spec.callE [] 78 rfl en58 (head_odd_c ([] : List UInt8) hx16) (HasAll.cons (Has.m (Has.cv (Has.s rfl) (Cv.nil (T := []))) rfl) HasAll.nil)) ?_
     refine Walk.nil ?_
     refine Leaf.thenN ?_
     refine CWalk.cond rfl (fun hb => ?_) (fun hb => ?_)
     ·have hm := cond_t hb hm
      refine CWalk.seq ?_
      refine CWalk.region ?_
      refine wo (Spec.loadObj (ls := [(false, 1, Fact.rep [] ((0 : Int) : Int)), (false, 1, Fact.nilv), (false, 1, Fact.nilv), (false, 1, Fact.rep [] ((0 : UInt8) : UInt8)), (false, 1, Fact.rep [] (false : Bool)), (false, 1, Fact.rep [] ((0 : UInt32) : UInt32))]) ty28 rfl rfl (Has.s rfl) rfl (HasGs.cons (HasG.s rfl) (HasGs.cons (HasG.s rfl) (HasGs.cons (HasG.s rfl) (HasGs.cons (HasG.s rfl) (HasGs.cons (HasG.s rfl) (HasGs.cons (HasG.s rfl) HasGs.nil))))))) ?_
      refine ws (Step.storeObj (ls := [(false, 1, Fact.rep [] ((0 : Int) : Int)), (false, 1, Fact.nilv), (false, 1, Fact.nilv), (false, 1, Fact.rep [] ((0 : UInt8) : UInt8)), (false, 1, Fact.rep [] (false : Bool)), (false, 1, Fact.rep [] ((0 : UInt32) : UInt32))]) rfl ty28 rfl rfl (Has.s rfl) rfl (HasL.flds (Has.s rfl)) rfl) ?_
      refine wo (Spec.assign Has.int) ?_
      refine Walk.nil ?_
      refine Leaf.thenN ?_
      refine CWalk.ret ?_
      refine Leaf.thenR ?_
      exact Leaf.in2 ((0 : Int), ([] : List (List UInt8)), ([] : List Bool), (0 : UInt8), false, (0 : UInt32), (3 : Int)) hm rfl rfl (HasR.cv (HasR.obj (ls := [(false, 1, Fact.rep [] ((0 : Int) : Int)), (false, 1, Fact.nilv), (false, 1, Fact.nilv), (false, 1, Fact.rep [] ((0 : UInt8) : UInt8)), (false, 1, Fact.rep [] (false : Bool)), (false, 1, Fact.rep [] ((0 : UInt32) : UInt32))]) ty28 rfl rfl (Has.s rfl) rfl (HasGs.cons (HasG.s rfl) (HasGs.cons (HasG.s rfl) (HasGs.cons (HasG.s rfl) (HasGs.cons (HasG.s rfl) (HasGs.cons (HasG.s rfl) (HasGs.cons (HasG.s rfl) HasGs.nil))))))) (Cv.flds (CvL.cons Cv.fl (CvL.cons (Cv.trans Cv.nilOw (Cv.owM (T := []) (te := []) rfl rfl)) (CvL.cons (Cv.trans Cv.nilOw (Cv.owF (T := []) (te := []) rfl)) (CvL.cons Cv.fl (CvL.cons Cv.fl (CvL.cons Cv.fl CvL.nil)))))))) (HasR.cv (HasR.tmp (Has.s rfl)) Cv.fl) (ls 904008 (Low.res (lc (lf (lg (lg (lf (lf (lf (lf (lg (lg (lf (lf (lf (lo (lo Low.nil)))))))))))))))))
     ·have hm := cond_f hb hm
      refine CWalk.skip ?_
      refine Leaf.thenN ?_
      refine CWalk.seq ?_
      refine CWalk.region ?_
      refine wo (Spec.loadObj (ls := [(false, 1, Fact.rep [] a1.Stripe), (false, 1, Fact.rep [0] a1.Blocks), (false, 1, Fact.rep [0] a1.Dirty), (false, 1, Fact.rep [] a1.Phase), (false, 1, Fact.rep [] a1.Deals), (false, 1, Fact.rep [] a1.Seq)]) ty28 rfl rfl (Has.s rfl) rfl (HasGs.cons (HasG.s rfl) (HasGs.cons (HasG.s rfl) (HasGs.cons (HasG.s rfl) (HasGs.cons (HasG.s rfl) (HasGs.cons (HasG.s rfl) (HasGs.cons (HasG.s rfl) HasGs.nil))))))) ?_
      obtain ⟨x17, hx17, hm⟩ := bind_some hm
      refine wo (f := Fact.flds [(false, 1, Fact.rep [] x17.Stripe), (false, 1, Fact.ow [79] [80] 31 (x17.Blocks : List (List UInt8))), (false, 1, Fact.ow [81] [] 4 (x17.Dirty : List Bool)), (false, 1, Fact.rep [] x17.Phase), (false, 1, Fact.rep [] x17.Deals), (false, 1, Fact.rep [] x17.Seq)]) (Spec.callE [0] 79 rfl en23 (head_Twin_c a1 hx17) (HasAll.cons (Has.m (Has.cv (Has.s rfl) (Cv.trans (Cv.flds (CvL.cons Cv.fl (CvL.cons (Cv.m rfl) (CvL.cons (Cv.m rfl) (CvL.cons Cv.fl (CvL.cons Cv.fl (CvL.cons Cv.fl CvL.nil))))))) (Cv.close (T := [0]) (chHead a1)))) rfl) HasAll.nil)) ?_
      refine ws (Step.allocObj (ls := [(false, 1, Fact.rep [] ((0 : Int) : Int)), (false, 1, Fact.nilv), (false, 1, Fact.nilv), (false, 1, Fact.rep [] ((0 : UInt8) : UInt8)), (false, 1, Fact.rep [] (false : Bool)), (false, 1, Fact.rep [] ((0 : UInt32) : UInt32))]) 82 rfl rfl rfl rfl zl28) ?_
      refine ws (Step.storeObj (ls := [(false, 1, Fact.rep [] x17.Stripe), (false, 1, Fact.ow [79] [80] 31 (x17.Blocks : List (List UInt8))), (false, 1, Fact.ow [81] [] 4 (x17.Dirty : List Bool)), (false, 1, Fact.rep [] x17.Phase), (false, 1, Fact.rep [] x17.Deals), (false, 1, Fact.rep [] x17.Seq)]) rfl ty28 rfl rfl (Has.s rfl) rfl (HasL.flds (Has.s rfl)) rfl) ?_
      refine Walk.nil ?_
      refine Leaf.thenN ?_
      refine CWalk.seqJ (fun p : Int × Int × (List (List UInt8)) × (List Bool) × UInt8 × Bool × UInt32 => [.fact 10 (.isv 70), .fact 11 (.rep [] p.1), .fact 902004 (.cst (u1 4) (Fact.isv 24)), .fact 904008 (.cst (u2 8) (Fact.isv 49)), .fact 100071 (.at 71 (.rep [] p.2.1)), .fact 100072 (.at 72 (.ow [79] [80] 31 (p.2.2.1 : List (List UInt8)))), .fact 100073 (.at 73 (.ow [81] [] 4 (p.2.2.2.1 : List Bool))), .fact 100074 (.at 74 (.rep [] p.2.2.2.2.1)), .fact 100075 (.at 75 (.rep [] p.2.2.2.2.2.1)), .fact 100076 (.at 76 (.rep [] p.2.2.2.2.2.2)), .fact 100025 (.at 25 (.rep [] ((0 : Int) : Int))), .fact 100026 (.at 26 (.nilv)), .fact 100027 (.at 27 (.nilv)), .fact 100028 (.at 28 (.rep [] ((0 : UInt8) : UInt8))), .fact 100029 (.at 29 (.rep [] (false : Bool))), .fact 100030 (.at 30 (.rep [] ((0 : UInt32) : UInt32))), .fact 100050 (.at 50 (.rep [] ((0 : Int) : Int))), .fact 100051 (.at 51 (.nilv)), .fact 100052 (.at 52 (.nilv)), .fact 100053 (.at 53 (.rep [] ((0 : UInt8) : UInt8))), .fact 100054 (.at 54 (.rep [] (false : Bool))), .fact 100055 (.at 55 (.rep [] ((0 : UInt32) : UInt32))), .fact 100070 (.obj 70 [(false, 1), (false, 1), (false, 1), (false, 1), (false, 1), (false, 1)]), .fact 100024 (.obj 24 [(false, 1), (false, 1), (false, 1), (false, 1), (false, 1), (false, 1)]), .fact 100049 (.obj 49 [(false, 1), (false, 1), (false, 1), (false, 1), (false, 1), (false, 1)])]) (fun p : Int × Int × (List (List UInt8)) × (List Bool) × UInt8 × Bool × UInt32 => head_Lay_J3 p.1 p.2.1 p.2.2.1 p.2.2.2.1 p.2.2.2.2.1 p.2.2.2.2.2.1 p.2.2.2.2.2.2 = some r) ?_ ?_
      ·rintro ⟨j18, j19, j20, j21, j22, j23, j24⟩ hm
       replace hm : head_Lay_J3 j18 j19 j20 j21 j22 j23 j24 = some r := hm
       unfold head_Lay_J3 at hm
       show CWalk _ [.fact 10 (.isv 70), .fact 11 (.rep [] (j18 : Int)), .fact 902004 (.cst (u1 4) (Fact.isv 24)), .fact 904008 (.cst (u2 8) (Fact.isv 49)), .fact 100071 (.at 71 (.rep [] (j19 : Int))), .fact 100072 (.at 72 (.ow [79] [80] 31 (j20 : List (List UInt8)))), .fact 100073 (.at 73 (.ow [81] [] 4 (j21 : List Bool))), .fact 100074 (.at 74 (.rep [] (j22 : UInt8))), .fact 100075 (.at 75 (.rep [] (j23 : Bool))), .fact 100076 (.at 76 (.rep [] (j24 : UInt32))), .fact 100025 (.at 25 (.rep [] ((0 : Int) : Int))), .fact 100026 (.at 26 (.nilv)), .fact 100027 (.at 27 (.nilv)), .fact 100028 (.at 28 (.rep [] ((0 : UInt8) : UInt8))), .fact 100029 (.at 29 (.rep [] (false : Bool))), .fact 100030 (.at 30 (.rep [] ((0 : UInt32) : UInt32))), .fact 100050 (.at 50 (.rep [] ((0 : Int) : Int))), .fact 100051 (.at 51 (.nilv)), .fact 100052 (.at 52 (.nilv)), .fact 100053 (.at 53 (.rep [] ((0 : UInt8) : UInt8))), .fact 100054 (.at 54 (.rep [] (false : Bool))), .fact 100055 (.at 55 (.rep [] ((0 : UInt32) : UInt32))), .fact 100070 (.obj 70 [(false, 1), (false, 1), (false, 1), (false, 1), (false, 1), (false, 1)]), .fact 100024 (.obj 24 [(false, 1), (false, 1), (false, 1), (false, 1), (false, 1), (false, 1)]), .fact 100049 (.obj 49 [(false, 1), (false, 1), (false, 1), (false, 1), (false, 1), (false, 1)])] _ _
       refine CWalk.ret ?_
       exact Leaf.in2 (j19, j20, j21, j22, j23, j24, j18) hm rfl rfl (HasR.cv (HasR.obj (ls := [(false, 1, Fact.rep [] (j19 : Int)), (false, 1, Fact.ow [79] [80] 31 (j20 : List (List UInt8))), (false, 1, Fact.ow [81] [] 4 (j21 : List Bool)), (false, 1, Fact.rep [] (j22 : UInt8)), (false, 1, Fact.rep [] (j23 : Bool)), (false, 1, Fact.rep [] (j24 : UInt32))]) ty28 rfl rfl (Has.s rfl) rfl (HasGs.cons (HasG.s rfl) (HasGs.cons (HasG.s rfl) (HasGs.cons (HasG.s rfl) (HasGs.cons (HasG.s rfl) (HasGs.cons (HasG.s rfl) (HasGs.cons (HasG.s rfl) HasGs.nil))))))) (Cv.flds (CvL.cons Cv.fl (CvL.cons (Cv.owM (T := [79]) (te := [80]) rfl rfl) (CvL.cons (Cv.owF (T := [81]) (te := []) rfl) (CvL.cons Cv.fl (CvL.cons Cv.fl (CvL.cons Cv.fl CvL.nil)))))))) (HasR.cv (HasR.tmp (Has.s rfl)) Cv.fl) (ls 904008 (Low.res (lc (lf (lg (lg (lf (lf (lf (lf (lg (lg (lf (lf (lf (lo (lo Low.nil)))))))))))))))))
      ·refine CWalk.seq ?_
       refine CWalk.region ?_
       refine mv ?_
       refine Walk.inline (S := Int × UInt8 × Bool) (fun p : Int × UInt8 × Bool => [.fact 10 (.isv 70), .fact 12 (.isv 82), .fact 34 (.rep [] p.1), .fact 902004 (.cst (u1 4) (Fact.isv 24)), .fact 904008 (.cst (u2 8) (Fact.isv 49)), .fact 100071 (.at 71 (.rep [] ((0 : Int) : Int))), .fact 100072 (.at 72 (.nilv)), .fact 100073 (.at 73 (.nilv)), .fact 100074 (.at 74 (.rep [] ((0 : UInt8) : UInt8))), .fact 100075 (.at 75 (.rep [] (false : Bool))), .fact 100076 (.at 76 (.rep [] ((0 : UInt32) : UInt32))), .fact 100083 (.at 83 (.rep [] x17.Stripe)), .fact 100084 (.at 84 (.ow [79] [80] 31 (x17.Blocks : List (List UInt8)))), .fact 100085 (.at 85 (.ow [81] [] 4 (x17.Dirty : List Bool))), .fact 100086 (.at 86 (.rep [] p.2.1)), .fact 100087 (.at 87 (.rep [] p.2.2)), .fact 100088 (.at 88 (.rep [] x17.Seq)), .fact 100025 (.at 25 (.rep [] ((0 : Int) : Int))), .fact 100026 (.at 26 (.nilv)), .fact 100027 (.at 27 (.nilv)), .fact 100028 (.at 28 (.rep [] ((0 : UInt8) : UInt8))), .fact 100029 (.at 29 (.rep [] (false : Bool))), .fact 100030 (.at 30 (.rep [] ((0 : UInt32) : UInt32))), .fact 100050 (.at 50 (.rep [] ((0 : Int) : Int))), .fact 100051 (.at 51 (.nilv)), .fact 100052 (.at 52 (.nilv)), .fact 100053 (.at 53 (.rep [] ((0 : UInt8) : UInt8))), .fact 100054 (.at 54 (.rep [] (false : Bool))), .fact 100055 (.at 55 (.rep [] ((0 : UInt32) : UInt32))), .fact 100070 (.obj 70 [(false, 1), (false, 1), (false, 1), (false, 1), (false, 1), (false, 1)]), .fact 100082 (.obj 82 [(false, 1), (false, 1), (false, 1), (false, 1), (false, 1), (false, 1)]), .fact 100024 (.obj 24 [(false, 1), (false, 1), (false, 1), (false, 1), (false, 1), (false, 1)]), .fact 100049 (.obj 49 [(false, 1), (false, 1), (false, 1), (false, 1), (false, 1), (false, 1)])]) (fun p : Int × UInt8 × Bool => head_Lay_J4 x17 p.1 p.2.1 p.2.2 = some r) (fun u3 => [.fact 100025 (.at 25 (.rep [] ((0 : Int) : Int))), .fact 100026 (.at 26 (.nilv)), .fact 100027 (.at 27 (.nilv)), .fact 100028 (.at 28 (.rep [] ((0 : UInt8) : UInt8))), .fact 100029 (.at 29 (.rep [] (false : Bool))), .fact 100030 (.at 30 (.rep [] ((0 : UInt32) : UInt32))), .fact 100046 (.at 46 (.rep [] ((3 : Int) : Int))), .fact 100048 (.at 48 (.fnv 70 [] [])), .fact 100050 (.at 50 (.rep [] ((0 : Int) : Int))), .fact 100051 (.at 51 (.nilv)), .fact 100052 (.at 52 (.nilv)), .fact 100053 (.at 53 (.rep [] ((0 : UInt8) : UInt8))), .fact 100054 (.at 54 (.rep [] (false : Bool))), .fact 100055 (.at 55 (.rep [] ((0 : UInt32) : UInt32))), .fact 100071 (.at 71 (.rep [] ((0 : Int) : Int))), .fact 100072 (.at 72 (.nilv)), .fact 100073 (.at 73 (.nilv)), .fact 100074 (.at 74 (.rep [] ((0 : UInt8) : UInt8))), .fact 100075 (.at 75 (.rep [] (false : Bool))), .fact 100076 (.at 76 (.rep [] ((0 : UInt32) : UInt32))), .fact 100083 (.at 83 (.rep [] x17.Stripe)), .fact 100084 (.at 84 (.ow [79] [80] 31 (x17.Blocks : List (List UInt8)))), .fact 100085 (.at 85 (.ow [81] [] 4 (x17.Dirty : List Bool))), .fact 100086 (.at 86 (.rep [] x17.Phase)), .fact 100087 (.at 87 (.rep [] x17.Deals)), .fact 100088 (.at 88 (.rep [] x17.Seq)), .fact 902004 (.cst (u1 4) (Fact.isv 24)), .fact 904008 (.cst (u2 8) (Fact.isv 49)), .fact 906010 (.cst (u3 10) (Fact.isv 70)), .fact 906012 (.cst (u3 12) (Fact.isv 82)), .fact 100024 (.obj 24 [(false, 1), (false, 1), (false, 1), (false, 1), (false, 1), (false, 1)]), .fact 100045 (.obj 45 [(false, 1)]), .fact 100047 (.obj 47 [(false, 1)]), .fact 100049 (.obj 49 [(false, 1), (false, 1), (false, 1), (false, 1), (false, 1), (false, 1)]), .fact 100070 (.obj 70 [(false, 1), (false, 1), (false, 1), (false, 1), (false, 1), (false, 1)]), .fact 100082 (.obj 82 [(false, 1), (false, 1), (false, 1), (false, 1), (false, 1), (false, 1)])]) (FA := [Fact.isv 82, Fact.isv 45, Fact.isv 47]) rfl Try.func77 rfl rfl rfl (CallOk.valE en77 (Has.s rfl) (HasF.cons (Has.s rfl) HasF.nil)) (fun u3 => (ck (ck (ck (ck (ck (ck (ck (ck (ck (ck (ck (ck (ck (ck (ck (ck (ck (ck (ck (ck (ck (ck (ck (ck (ck (ck (ck (ck (cs 906000 10 (cs 906000 12 (ck (ck (ck (ck (ck (ck Carry.nil))))))))))))))))))))))))))))))))))))) (fun u3 => ?_) ?_
       ·refine CWalk.seq ?_
        refine CWalk.region ?_
        refine wo (Spec.assign Has.int) ?_
        refine Walk.nil ?_
        refine Leaf.thenN ?_
        refine CWalk.seq ?_
        refine CWalk.seq ?_
        obtain ⟨x28, hx28, hm⟩ := bind_some hm
        obtain ⟨x29, hx29, hm⟩ := bind_some hm
        refine CWalk.drawM [[], [], [1], [1, 2], [1, 2, 3], [0, 1, 2, 3, 4], [0, 1, 2, 3, 4, 5], [0, 1, 2, 3, 4, 5, 6], [0, 1, 2, 3, 4, 5, 6, 7], [0, 1, 2, 3, 4, 5, 6, 7, 8], [0, 1, 2, 3, 4, 5, 6, 7, 8, 9], [0, 1, 2, 3, 4, 5, 6, 7, 8, 9, 10], [0, 1, 2, 3, 4, 5, 6, 7, 8, 9, 10, 11], [0, 1, 2, 3, 4, 5, 6, 7, 8, 9, 10, 11, 12], [0, 1, 2, 3, 4, 5, 6, 7, 8, 9, 10, 11, 12, 13], [0, 1, 2, 3, 4, 5, 6, 7, 8, 9, 10, 11, 12, 13, 14], [0, 1, 2, 3, 4, 5, 6, 7, 8, 9, 10, 11, 12, 13, 14, 15], [0, 1, 2, 3, 4, 5, 6, 7, 8, 9, 10, 11, 12, 13, 14, 15, 16], [0, 1, 2, 3, 4, 5, 6, 7, 8, 9, 10, 11, 12, 13, 14, 15, 16, 17]] [[.fact 5 (.rep [] ((3 : Int) : Int))], [.fact 6 (.isv 82)], [.fact 7 (.isv 82)], [.fact 8 (.pto 82 3)], [.fact 9 (.rep [] x17.Phase)], [.fact 10 (.rep [] (x28 : Bool))], [.fact 11 (.rep [] ((!x28) : Bool))], [.fact 12 (.rep [] ((!x28) : Bool))], [.fact 13 (.under ((!x28) = false) (.rep [] ((3 : Int) : Int)))], [.fact 14 (.under ((!x28) = false) (.rep [] (((3 : Int) == (0 : Int)) : Bool)))], [.fact 15 (.under ((!x28) = false) (.rep [] (((3 : Int) == (0 : Int)) : Bool)))], [.fact 16 (.under (((!x28) = false) ∧ (((3 : Int) == (0 : Int)) = true)) (.isv 82))], [.fact 17 (.under (((!x28) = false) ∧ (((3 : Int) == (0 : Int)) = true)) (.isv 82))], [.fact 18 (.under (((!x28) = false) ∧ (((3 : Int) == (0 : Int)) = true)) (.pto 82 2))], [.fact 19 (.under (((!x28) = false) ∧ (((3 : Int) == (0 : Int)) = true)) (.ow [81] [] 4 (x17.Dirty : List Bool)))], [.fact 20 (.under (((!x28) = false) ∧ (((3 : Int) == (0 : Int)) = true)) (.rep [] (x29 : Bool)))], [.fact 21 (.under (((!x28) = false) ∧ (((3 : Int) == (0 : Int)) = true)) (.rep [] ((!x29) : Bool)))], [.fact 22 (.under ((!x28) = false) (.rep [] ((((3 : Int) == (0 : Int)) && (!x29)) : Bool)))], [.fact 23 (.rep [] (((!x28) || (((3 : Int) == (0 : Int)) && (!x29))) : Bool))]] mixed (by kernel_rfl) (ao (so (Spec.loadF (i := 0) ty3 rfl (Has.cv (Has.s rfl) (Cv.isvP rfl)) rfl (HasG.s rfl))) (ao (so (Spec.move (Has.s rfl))) (ao (so (Spec.nilCheckI (Has.s rfl) rfl)) (ao (so (Spec.fieldAddrO fd28_3 (Has.cv (Has.s rfl) (Cv.isvP rfl)))) (ao (so (Spec.loadF (i := 3) ty5 rfl (Has.s rfl) rfl (HasG.s rfl))) (ao (so (Spec.callE [] 89 rfl en78 (head_may_c (3 : Int) x17.Phase hx28) (HasAll.cons (Has.fl (Has.s rfl)) (HasAll.cons (Has.fl (Has.s rfl)) HasAll.nil)))) (ao (so (Spec.not (Has.s rfl))) (ao (so (Spec.move (Has.s rfl))) (ao (StepG.opg rfl rfl rfl (fun hb => Spec.loadF (i := 0) ty3 rfl (Has.cv (Has.s rfl) (Cv.isvP rfl)) rfl (HasG.s rfl))) (ao (StepG.opg rfl rfl rfl (fun hb => Spec.eqlI (Has.u rfl hb) Has.int)) (ao (StepG.opg rfl rfl rfl (fun hb => Spec.move (Has.u rfl hb))) (ao (StepG.opgu rfl rfl rfl (fun hb => Spec.move (Has.s rfl))) (ao (StepG.opgu rfl rfl rfl (fun hb => Spec.nilCheckI (Has.u rfl hb) rfl)) (ao (StepG.opgu rfl rfl rfl (fun hb => Spec.fieldAddrO fd28_2 (Has.cv (Has.u rfl hb) (Cv.isvP rfl)))) (ao (StepG.opgu rfl rfl rfl (fun hb => Spec.loadF (i := 2) ty26 rfl (Has.u rfl hb) rfl (HasG.s rfl))) (ao (StepG.opgu rfl rfl rfl (fun hb => Spec.callE [81] 90 rfl en79 (slices_Contains_bool_bool_c x17.Dirty true (gO_t hx29 (and_t (not_t hb.1) hb.2))) (HasAll.cons (Has.m (Has.cv (Has.u rfl hb) (Cv.trans Cv.owSl (Cv.slRep (T' := [81]) rfl rfl))) rfl) (HasAll.cons (Has.fl Has.bool) HasAll.nil)))) (ao (StepG.opgu rfl rfl rfl (fun hb => Spec.not (Has.u rfl hb))) (ao (StepG.opg rfl rfl rfl (fun hb => Spec.and (Has.u rfl hb) (fun h => Has.u rfl ⟨hb, h⟩))) (ao (so (Spec.or (Has.s rfl) (fun h => Has.u rfl h))) AllM.nil))))))))))))))))))) ?_
        refine Leaf.thenN ?_
        refine CWalk.cond rfl (fun hb => ?_) (fun hb => ?_)
        ·have hm := cond_t hb hm
         refine CWalk.seq ?_
         refine CWalk.region ?_
         refine wo (Spec.assign Has.int) ?_
         refine Walk.nil ?_
         refine Leaf.thenN ?_
         refine CWalk.ret ?_
         refine Leaf.thenR ?_
         exact Leaf.in1 ((6 : Int), x17.Phase, x17.Deals) hm rfl rfl (HasR.cv (HasR.tmp (Has.s rfl)) Cv.fl) (ls 906010 (ls 906012 (Low.res (lc (lc (lf (lg (lg (lf (lf (lf (lf (Low.keepG (HasG.cv (HasG.s rfl) (Cv.owM (T := [79]) (te := [80]) rfl rfl)) (Low.keepG (HasG.cv (HasG.s rfl) (Cv.owF (T := [81]) (te := []) rfl)) (lf (lf (lf (lf (lg (lg (lf (lf (lf (lf (lg (lg (lf (lf (lf (lo (lo (lo (lo Low.nil)))))))))))))))))))))))))))))))))
        ·have hm := cond_f hb hm
         refine CWalk.skip ?_
         refine Leaf.thenN ?_
         refine CWalk.seq ?_
         refine CWalk.region ?_
         refine wo (Spec.loadF (α := Int) (i := 0) ty96 rfl (Has.cv (Has.s rfl) (Cv.isvP rfl)) rfl (HasG.s rfl)) ?_
         refine mv ?_
         refine Walk.inline (S := Unit) (fun p : Unit => [.fact 26 (.top), .fact 902004 (.cst (u1 4) (Fact.isv 24)), .fact 904008 (.cst (u2 8) (Fact.isv 49)), .fact 906010 (.cst (u3 10) (Fact.isv 70)), .fact 906012 (.cst (u3 12) (Fact.isv 82)), .fact 100025 (.at 25 (.rep [] ((0 : Int) : Int))), .fact 100026 (.at 26 (.nilv)), .fact 100027 (.at 27 (.nilv)), .fact 100028 (.at 28 (.rep [] ((0 : UInt8) : UInt8))), .fact 100029 (.at 29 (.rep [] (false : Bool))), .fact 100030 (.at 30 (.rep [] ((0 : UInt32) : UInt32))), .fact 100050 (.at 50 (.rep [] ((0 : Int) : Int))), .fact 100051 (.at 51 (.nilv)), .fact 100052 (.at 52 (.nilv)), .fact 100053 (.at 53 (.rep [] ((0 : UInt8) : UInt8))), .fact 100054 (.at 54 (.rep [] (false : Bool))), .fact 100055 (.at 55 (.rep [] ((0 : UInt32) : UInt32))), .fact 100071 (.at 71 (.rep [] ((0 : Int) : Int))), .fact 100072 (.at 72 (.nilv)), .fact 100073 (.at 73 (.nilv)), .fact 100074 (.at 74 (.rep [] ((0 : UInt8) : UInt8))), .fact 100075 (.at 75 (.rep [] (false : Bool))), .fact 100076 (.at 76 (.rep [] ((0 : UInt32) : UInt32))), .fact 100083 (.at 83 (.rep [] x17.Stripe)), .fact 100084 (.at 84 (.ow [79] [80] 31 (x17.Blocks : List (List UInt8)))), .fact 100085 (.at 85 (.ow [81] [] 4 (x17.Dirty : List Bool))), .fact 100086 (.at 86 (.rep [] ((4 : UInt8) : UInt8))), .fact 100087 (.at 87 (.rep [] (false : Bool))), .fact 100088 (.at 88 (.rep [] x17.Seq)), .fact 100024 (.obj 24 [(false, 1), (false, 1), (false, 1), (false, 1), (false, 1), (false, 1)]), .fact 100049 (.obj 49 [(false, 1), (false, 1), (false, 1), (false, 1), (false, 1), (false, 1)]), .fact 100070 (.obj 70 [(false, 1), (false, 1), (false, 1), (false, 1), (false, 1), (false, 1)]), .fact 100082 (.obj 82 [(false, 1), (false, 1), (false, 1), (false, 1), (false, 1), (false, 1)])]) (fun p : Unit => head_Lay_J5 x17 = some r) (fun u4 => [.fact 100025 (.at 25 (.rep [] ((0 : Int) : Int))), .fact 100026 (.at 26 (.nilv)), .fact 100027 (.at 27 (.nilv)), .fact 100028 (.at 28 (.rep [] ((0 : UInt8) : UInt8))), .fact 100029 (.at 29 (.rep [] (false : Bool))), .fact 100030 (.at 30 (.rep [] ((0 : UInt32) : UInt32))), .fact 100050 (.at 50 (.rep [] ((0 : Int) : Int))), .fact 100051 (.at 51 (.nilv)), .fact 100052 (.at 52 (.nilv)), .fact 100053 (.at 53 (.rep [] ((0 : UInt8) : UInt8))), .fact 100054 (.at 54 (.rep [] (false : Bool))), .fact 100055 (.at 55 (.rep [] ((0 : UInt32) : UInt32))), .fact 100071 (.at 71 (.rep [] ((0 : Int) : Int))), .fact 100072 (.at 72 (.nilv)), .fact 100073 (.at 73 (.nilv)), .fact 100074 (.at 74 (.rep [] ((0 : UInt8) : UInt8))), .fact 100075 (.at 75 (.rep [] (false : Bool))), .fact 100076 (.at 76 (.rep [] ((0 : UInt32) : UInt32))), .fact 100083 (.at 83 (.rep [] x17.Stripe)), .fact 100084 (.at 84 (.ow [79] [80] 31 (x17.Blocks : List (List UInt8)))), .fact 100085 (.at 85 (.ow [81] [] 4 (x17.Dirty : List Bool))), .fact 100086 (.at 86 (.rep [] x17.Phase)), .fact 100087 (.at 87 (.rep [] x17.Deals)), .fact 100088 (.at 88 (.rep [] x17.Seq)), .fact 902004 (.cst (u1 4) (Fact.isv 24)), .fact 904008 (.cst (u2 8) (Fact.isv 49)), .fact 906010 (.cst (u3 10) (Fact.isv 70)), .fact 906012 (.cst (u3 12) (Fact.isv 82)), .fact 100024 (.obj 24 [(false, 1), (false, 1), (false, 1), (false, 1), (false, 1), (false, 1)]), .fact 100049 (.obj 49 [(false, 1), (false, 1), (false, 1), (false, 1), (false, 1), (false, 1)]), .fact 100070 (.obj 70 [(false, 1), (false, 1), (false, 1), (false, 1), (false, 1), (false, 1)]), .fact 100082 (.obj 82 [(false, 1), (false, 1), (false, 1), (false, 1), (false, 1), (false, 1)])]) (FA := [Fact.isv 82]) rfl Try.func70 rfl rfl rfl (CallOk.valE en70 (Has.s rfl) (HasF.cons (Has.s rfl) HasF.nil)) (fun u4 => (ck (ck (ck (ck (ck (ck (ck (ck (ck (ck (ck (ck (ck (ck (ck (ck (ck (ck (ck (ck (ck (ck (ck (ck (ck (ck (ck (ck (ck (ck (ck (ck Carry.nil))))))))))))))))))))))))))))))))) (fun u4 => ?_) ?_
         ·refine CWalk.region ?_
          refine mv ?_
          refine mv ?_
          refine wo (Spec.nilCheckI (Has.s rfl) rfl) ?_
          refine wo (Spec.fieldAddrO fd28_3 (Has.cv (Has.s rfl) (Cv.isvP rfl))) ?_
          refine ws (Step.storeF (i := 3) (f := Fact.rep [] ((4 : UInt8) : UInt8)) rfl ty5 rfl (Has.s rfl) rfl (Has.u8 4 rfl) (Has.u8 4 rfl) rfl) ?_
          refine wo (Spec.nilCheckI (Has.s rfl) rfl) ?_
          refine wo (Spec.fieldAddrO fd28_4 (Has.cv (Has.s rfl) (Cv.isvP rfl))) ?_
          refine ws (Step.storeF (i := 4) (f := Fact.rep [] (false : Bool)) rfl ty4 rfl (Has.s rfl) rfl Has.bool Has.bool rfl) ?_
          refine Walk.nil ?_
          exact Leaf.inN (Leaf.in0 (f0 := Fact.top) () hm rfl rfl (fun _ _ => trivial) (Low.res (lc (lc (lc (lc (lf (lg (lg (lf (lf (lf (lf (lg (lg (lf (lf (lf (lf (lg (lg (lf (lf (lf (lf (Low.keepG (HasG.cv (HasG.s rfl) (Cv.owM (T := [79]) (te := [80]) rfl rfl)) (Low.keepG (HasG.cv (HasG.s rfl) (Cv.owF (T := [81]) (te := []) rfl)) (lf (lf (lf (lo (lo (lo (lo Low.nil))))))))))))))))))))))))))))))))))
         ·rintro _ hm
          replace hm : head_Lay_J5 x17 = some r := hm
          unfold head_Lay_J5 at hm
          show Walk _ _ _ [.fact 26 (.top), .fact 902004 (.cst (u1 4) (Fact.isv 24)), .fact 904008 (.cst (u2 8) (Fact.isv 49)), .fact 906010 (.cst (u3 10) (Fact.isv 70)), .fact 906012 (.cst (u3 12) (Fact.isv 82)), .fact 100025 (.at 25 (.rep [] ((0 : Int) : Int))), .fact 100026 (.at 26 (.nilv)), .fact 100027 (.at 27 (.nilv)), .fact 100028 (.at 28 (.rep [] ((0 : UInt8) : UInt8))), .fact 100029 (.at 29 (.rep [] (false : Bool))), .fact 100030 (.at 30 (.rep [] ((0 : UInt32) : UInt32))), .fact 100050 (.at 50 (.rep [] ((0 : Int) : Int))), .fact 100051 (.at 51 (.nilv)), .fact 100052 (.at 52 (.nilv)), .fact 100053 (.at 53 (.rep [] ((0 : UInt8) : UInt8))), .fact 100054 (.at 54 (.rep [] (false : Bool))), .fact 100055 (.at 55 (.rep [] ((0 : UInt32) : UInt32))), .fact 100071 (.at 71 (.rep [] ((0 : Int) : Int))), .fact 100072 (.at 72 (.nilv)), .fact 100073 (.at 73 (.nilv)), .fact 100074 (.at 74 (.rep [] ((0 : UInt8) : UInt8))), .fact 100075 (.at 75 (.rep [] (false : Bool))), .fact 100076 (.at 76 (.rep [] ((0 : UInt32) : UInt32))), .fact 100083 (.at 83 (.rep [] x17.Stripe)), .fact 100084 (.at 84 (.ow [79] [80] 31 (x17.Blocks : List (List UInt8)))), .fact 100085 (.at 85 (.ow [81] [] 4 (x17.Dirty : List Bool))), .fact 100086 (.at 86 (.rep [] ((4 : UInt8) : UInt8))), .fact 100087 (.at 87 (.rep [] (false : Bool))), .fact 100088 (.at 88 (.rep [] x17.Seq)), .fact 100024 (.obj 24 [(false, 1), (false, 1), (false, 1), (false, 1), (false, 1), (false, 1)]), .fact 100049 (.obj 49 [(false, 1), (false, 1), (false, 1), (false, 1), (false, 1), (false, 1)]), .fact 100070 (.obj 70 [(false, 1), (false, 1), (false, 1), (false, 1), (false, 1), (false, 1)]), .fact 100082 (.obj 82 [(false, 1), (false, 1), (false, 1), (false, 1), (false, 1), (false, 1)])] _
          refine Walk.nil ?_
          refine Leaf.thenN ?_
          refine CWalk.seq ?_
          refine CWalk.region ?_
          refine wo (Spec.assign Has.int) ?_
          refine Walk.nil ?_
          refine Leaf.thenN ?_
          refine CWalk.ret ?_
          exact Leaf.in1 ((0 : Int), (4 : UInt8), false) hm rfl rfl (HasR.cv (HasR.tmp (Has.s rfl)) Cv.fl) (ls 906010 (ls 906012 (Low.res (lc (lc (lf (lg (lg (lf (lf (lf (lf (Low.keepG (HasG.cv (HasG.s rfl) (Cv.owM (T := [79]) (te := [80]) rfl rfl)) (Low.keepG (HasG.cv (HasG.s rfl) (Cv.owF (T := [81]) (te := []) rfl)) (lf (lf (lf (lf (lg (lg (lf (lf (lf (lf (lg (lg (lf (lf (lf (lo (lo (lo (lo Low.nil)))))))))))))))))))))))))))))))))
       ·rintro ⟨j25, j26, j27⟩ hm
        replace hm : head_Lay_J4 x17 j25 j26 j27 = some r := hm
        unfold head_Lay_J4 at hm
        show Walk _ _ _ [.fact 10 (.isv 70), .fact 12 (.isv 82), .fact 34 (.rep [] (j25 : Int)), .fact 902004 (.cst (u1 4) (Fact.isv 24)), .fact 904008 (.cst (u2 8) (Fact.isv 49)), .fact 100071 (.at 71 (.rep [] ((0 : Int) : Int))), .fact 100072 (.at 72 (.nilv)), .fact 100073 (.at 73 (.nilv)), .fact 100074 (.at 74 (.rep [] ((0 : UInt8) : UInt8))), .fact 100075 (.at 75 (.rep [] (false : Bool))), .fact 100076 (.at 76 (.rep [] ((0 : UInt32) : UInt32))), .fact 100083 (.at 83 (.rep [] x17.Stripe)), .fact 100084 (.at 84 (.ow [79] [80] 31 (x17.Blocks : List (List UInt8)))), .fact 100085 (.at 85 (.ow [81] [] 4 (x17.Dirty : List Bool))), .fact 100086 (.at 86 (.rep [] (j26 : UInt8))), .fact 100087 (.at 87 (.rep [] (j27 : Bool))), .fact 100088 (.at 88 (.rep [] x17.Seq)), .fact 100025 (.at 25 (.rep [] ((0 : Int) : Int))), .fact 100026 (.at 26 (.nilv)), .fact 100027 (.at 27 (.nilv)), .fact 100028 (.at 28 (.rep [] ((0 : UInt8) : UInt8))), .fact 100029 (.at 29 (.rep [] (false : Bool))), .fact 100030 (.at 30 (.rep [] ((0 : UInt32) : UInt32))), .fact 100050 (.at 50 (.rep [] ((0 : Int) : Int))), .fact 100051 (.at 51 (.nilv)), .fact 100052 (.at 52 (.nilv)), .fact 100053 (.at 53 (.rep [] ((0 : UInt8) : UInt8))), .fact 100054 (.at 54 (.rep [] (false : Bool))), .fact 100055 (.at 55 (.rep [] ((0 : UInt32) : UInt32))), .fact 100070 (.obj 70 [(false, 1), (false, 1), (false, 1), (false, 1), (false, 1), (false, 1)]), .fact 100082 (.obj 82 [(false, 1), (false, 1), (false, 1), (false, 1), (false, 1), (false, 1)]), .fact 100024 (.obj 24 [(false, 1), (false, 1), (false, 1), (false, 1), (false, 1), (false, 1)]), .fact 100049 (.obj 49 [(false, 1), (false, 1), (false, 1), (false, 1), (false, 1), (false, 1)])] _
        refine wo (Spec.assign (Has.s rfl)) ?_
        refine Walk.nil ?_
        refine Leaf.thenN ?_
        refine CWalk.seq ?_
        refine CWalk.region ?_
        refine mv ?_
        refine wo (Spec.eqlI (Has.s rfl) Has.int) ?_
        refine Walk.nil ?_
        refine Leaf.thenN ?_
        refine CWalk.cond rfl (fun hb => ?_) (fun hb => ?_)
        ·have hm := cond_t hb hm
         refine CWalk.region ?_
         refine wo (Spec.loadObj (ls := [(false, 1, Fact.rep [] x17.Stripe), (false, 1, Fact.ow [79] [80] 31 (x17.Blocks : List (List UInt8))), (false, 1, Fact.ow [81] [] 4 (x17.Dirty : List Bool)), (false, 1, Fact.rep [] (j26 : UInt8)), (false, 1, Fact.rep [] (j27 : Bool)), (false, 1, Fact.rep [] x17.Seq)]) ty28 rfl rfl (Has.s rfl) rfl (HasGs.cons (HasG.s rfl) (HasGs.cons (HasG.s rfl) (HasGs.cons (HasG.s rfl) (HasGs.cons (HasG.s rfl) (HasGs.cons (HasG.s rfl) (HasGs.cons (HasG.s rfl) HasGs.nil))))))) ?_
         refine ws (Step.storeObj (ls := [(false, 1, Fact.rep [] x17.Stripe), (false, 1, Fact.ow [79] [80] 31 (x17.Blocks : List (List UInt8))), (false, 1, Fact.ow [81] [] 4 (x17.Dirty : List Bool)), (false, 1, Fact.rep [] (j26 : UInt8)), (false, 1, Fact.rep [] (j27 : Bool)), (false, 1, Fact.rep [] x17.Seq)]) rfl ty28 rfl rfl (Has.s rfl) rfl (HasL.flds (Has.s rfl)) rfl) ?_
         refine Walk.nil ?_
         exact Leaf.join (j25, x17.Stripe, x17.Blocks, x17.Dirty, j26, j27, x17.Seq) hm (sn (st (sc (sc (sf (Sub.cons (Has.at (HasG.cv (HasG.s rfl) (Cv.owM (T := [79]) (te := [80]) rfl rfl))) (Sub.cons (Has.at (HasG.cv (HasG.s rfl) (Cv.owF (T := [81]) (te := []) rfl))) (sf (sf (sf (sf (sg (sg (sf (sf (sf (sf (sg (sg (sf (sf (sf (sn (sn (sn Sub.nil)))))))))))))))))))))))))
        ·have hm := cond_f hb hm
         refine CWalk.skip ?_
         exact Leaf.join (j25, (0 : Int), ([] : List (List UInt8)), ([] : List Bool), (0 : UInt8), false, (0 : UInt32)) hm (sn (st (sc (sc (sf (Sub.cons (Has.at (HasG.cv (HasG.s rfl) (Cv.trans Cv.nilOw (Cv.owM (T := []) (te := []) rfl rfl)))) (Sub.cons (Has.at (HasG.cv (HasG.s rfl) (Cv.trans Cv.nilOw (Cv.owF (T := []) (te := []) rfl)))) (sf (sf (sf (sf (sg (sg (sf (sf (sf (sf (sg (sg (sf (sf (sf (sn (sn (sn Sub.nil)))))))))))))))))))))))))
  ·rintro ⟨j8, j9, j10, j11, j12, j13, j14⟩ hm
   replace hm : head_Lay_J2 j8 j9 j10 j11 j12 j13 j14 = some r := hm
   unfold head_Lay_J2 at hm
   show Walk _ _ _ [.fact 8 (.isv 49), .fact 13 (.tup2 (Fact.flds [(false, 1, Fact.rep [] (j8 : Int)), (false, 1, Fact.ow [79] [80] 31 (j9 : List (List UInt8))), (false, 1, Fact.ow [81] [] 4 (j10 : List Bool)), (false, 1, Fact.rep [] (j11 : UInt8)), (false, 1, Fact.rep [] (j12 : Bool)), (false, 1, Fact.rep [] (j13 : UInt32))]) (Fact.rep [] (j14 : Int))), .fact 902004 (.cst (u1 4) (Fact.isv 24)), .fact 100050 (.at 50 (.rep [] ((0 : Int) : Int))), .fact 100051 (.at 51 (.nilv)), .fact 100052 (.at 52 (.nilv)), .fact 100053 (.at 53 (.rep [] ((0 : UInt8) : UInt8))), .fact 100054 (.at 54 (.rep [] (false : Bool))), .fact 100055 (.at 55 (.rep [] ((0 : UInt32) : UInt32))), .fact 100025 (.at 25 (.rep [] ((0 : Int) : Int))), .fact 100026 (.at 26 (.nilv)), .fact 100027 (.at 27 (.nilv)), .fact 100028 (.at 28 (.rep [] ((0 : UInt8) : UInt8))), .fact 100029 (.at 29 (.rep [] (false : Bool))), .fact 100030 (.at 30 (.rep [] ((0 : UInt32) : UInt32))), .fact 100049 (.obj 49 [(false, 1), (false, 1), (false, 1), (false, 1), (false, 1), (false, 1)]), .fact 100024 (.obj 24 [(false, 1), (false, 1), (false, 1), (false, 1), (false, 1), (false, 1)])] _
   refine wo (Spec.ext0 (Has.s rfl)) ?_
   refine wo (Spec.ext1 (Has.s rfl)) ?_
   refine ws (Step.storeObj (ls := [(false, 1, Fact.rep [] (j8 : Int)), (false, 1, Fact.ow [79] [80] 31 (j9 : List (List UInt8))), (false, 1, Fact.ow [81] [] 4 (j10 : List Bool)), (false, 1, Fact.rep [] (j11 : UInt8)), (false, 1, Fact.rep [] (j12 : Bool)), (false, 1, Fact.rep [] (j13 : UInt32))]) rfl ty28 rfl rfl (Has.s rfl) rfl (HasL.flds (Has.s rfl)) rfl) ?_
   refine wo (Spec.assign (Has.s rfl)) ?_
   refine Walk.nil ?_
   refine Leaf.thenN ?_
   refine CWalk.ret ?_
   exact Leaf.in2 (j8, j9, j10, j11, j12, j13, j14) hm rfl rfl (HasR.cv (HasR.obj (ls := [(false, 1, Fact.rep [] (j8 : Int)), (false, 1, Fact.ow [79] [80] 31 (j9 : List (List UInt8))), (false, 1, Fact.ow [81] [] 4 (j10 : List Bool)), (false, 1, Fact.rep [] (j11 : UInt8)), (false, 1, Fact.rep [] (j12 : Bool)), (false, 1, Fact.rep [] (j13 : UInt32))]) ty28 rfl rfl (Has.s rfl) rfl (HasGs.cons (HasG.s rfl) (HasGs.cons (HasG.s rfl) (HasGs.cons (HasG.s rfl) (HasGs.cons (HasG.s rfl) (HasGs.cons (HasG.s rfl) (HasGs.cons (HasG.s rfl) HasGs.nil))))))) (Cv.flds (CvL.cons Cv.fl (CvL.cons (Cv.owM (T := [79]) (te := [80]) rfl rfl) (CvL.cons (Cv.owF (T := [81]) (te := []) rfl) (CvL.cons Cv.fl (CvL.cons Cv.fl (CvL.cons Cv.fl CvL.nil)))))))) (HasR.cv (HasR.tmp (Has.s rfl)) Cv.fl) (ls 902004 (Low.res (lf (lg (lg (lf (lf (lf (lo Low.nil)))))))))
 ·rintro ⟨j1, j2, j3, j4, j5, j6, j7⟩ hm
  replace hm : head_Lay_J1 j1 j2 j3 j4 j5 j6 j7 = some r := hm
  unfold head_Lay_J1 at hm
  show Walk _ _ _ [.fact 4 (.isv 24), .fact 8 (.tup2 (Fact.flds [(false, 1, Fact.rep [] (j1 : Int)), (false, 1, Fact.ow [79] [80] 31 (j2 : List (List UInt8))), (false, 1, Fact.ow [81] [] 4 (j3 : List Bool)), (false, 1, Fact.rep [] (j4 : UInt8)), (false, 1, Fact.rep [] (j5 : Bool)), (false, 1, Fact.rep [] (j6 : UInt32))]) (Fact.rep [] (j7 : Int))), .fact 100025 (.at 25 (.rep [] ((0 : Int) : Int))), .fact 100026 (.at 26 (.nilv)), .fact 100027 (.at 27 (.nilv)), .fact 100028 (.at 28 (.rep [] ((0 : UInt8) : UInt8))), .fact 100029 (.at 29 (.rep [] (false : Bool))), .fact 100030 (.at 30 (.rep [] ((0 : UInt32) : UInt32))), .fact 100024 (.obj 24 [(false, 1), (false, 1), (false, 1), (false, 1), (false, 1), (false, 1)])] _
  refine wo (Spec.ext0 (Has.s rfl)) ?_
  refine wo (Spec.ext1 (Has.s rfl)) ?_
  refine ws (Step.storeObj (ls := [(false, 1, Fact.rep [] (j1 : Int)), (false, 1, Fact.ow [79] [80] 31 (j2 : List (List UInt8))), (false, 1, Fact.ow [81] [] 4 (j3 : List Bool)), (false, 1, Fact.rep [] (j4 : UInt8)), (false, 1, Fact.rep [] (j5 : Bool)), (false, 1, Fact.rep [] (j6 : UInt32))]) rfl ty28 rfl rfl (Has.s rfl) rfl (HasL.flds (Has.s rfl)) rfl) ?_
  refine wo (Spec.assign (Has.s rfl)) ?_
  refine Walk.nil ?_
  refine Leaf.thenN ?_
  refine CWalk.ret ?_
  obtain rfl := Option.some.inj hm
  exact Leaf.retC2 rfl (HasR.cv (HasR.obj (ls := [(false, 1, Fact.rep [] (j1 : Int)), (false, 1, Fact.ow [79] [80] 31 (j2 : List (List UInt8))), (false, 1, Fact.ow [81] [] 4 (j3 : List Bool)), (false, 1, Fact.rep [] (j4 : UInt8)), (false, 1, Fact.rep [] (j5 : Bool)), (false, 1, Fact.rep [] (j6 : UInt32))]) ty28 rfl rfl (Has.s rfl) rfl (HasGs.cons (HasG.s rfl) (HasGs.cons (HasG.s rfl) (HasGs.cons (HasG.s rfl) (HasGs.cons (HasG.s rfl) (HasGs.cons (HasG.s rfl) (HasGs.cons (HasG.s rfl) HasGs.nil))))))) (Cv.flds (CvL.cons Cv.fl (CvL.cons (Cv.owM (T := [79]) (te := [80]) rfl rfl) (CvL.cons (Cv.owF (T := [81]) (te := []) rfl) (CvL.cons Cv.fl (CvL.cons Cv.fl (CvL.cons Cv.fl CvL.nil)))))))) (HasR.cv (HasR.tmp (Has.s rfl)) Cv.fl)

def head_Home_J1 (j1 : Int) (j2 : List (List UInt8)) (j3 : List Bool) (j4 : UInt8) (j5 : Bool) (j6 : UInt32) (j7 : Int) : Option (Head × Int) :=
  some ((Head.mk j1 j2 j3 j4 j5 j6), j7)
def head_Home_J2 (j8 : Int) (j9 : List (List UInt8)) (j10 : List Bool) (j11 : UInt8) (j12 : Bool) (j13 : UInt32) (j14 : Int) : Option (Head × Int) :=
  (head_Home_J1 j8 j9 j10 j11 j12 j13 j14)
def head_Home_J3 (j18 : Int) (j19 : Int) (j20 : List (List UInt8)) (j21 : List Bool) (j22 : UInt8) (j23 : Bool) (j24 : UInt32) : Option (Head × Int) :=
  (head_Home_J2 j19 j20 j21 j22 j23 j24 j18)
def head_Home_J4 (x17 : Head) (j25 : Int) (j26 : List (List UInt8)) (j27 : List Bool) (j28 : UInt8) (j29 : UInt32) : Option (Head × Int) :=
  (bif (j25 == (0 : Int)) then (head_Home_J3 j25 x17.Stripe j26 j27 j28 x17.Deals j29) else (head_Home_J3 j25 (0 : Int) ([] : List (List UInt8)) ([] : List Bool) (0 : UInt8) false (0 : UInt32)))
def head_Home_J5 (x17 : Head) (j32 : List (List UInt8)) : Option (Head × Int) :=
  (head_Home_J4 x17 (0 : Int) j32 (List.replicate (x17.Dirty).length false) (0 : UInt8) (0 : UInt32))
/-- freeboard/head.Home -/
def head_Home (a0 : Config) (a1 : Head) : Option (Head × Int) :=
  Option.bind (head_Check a0 a1) (fun x15 => (bif (x15 != (0 : Int)) then (head_Home_J2 (0 : Int) ([] : List (List UInt8)) ([] : List Bool) (0 : UInt8) false (0 : UInt32) x15) else (bif ((decide ((0 : Int) < (0 : Int))) || (decide ((0 : Int) ≥ (wI (a0.Members - (1 : Int)))))) then (head_Home_J2 (0 : Int) ([] : List (List UInt8)) ([] : List Bool) (0 : UInt8) false (0 : UInt32) (2 : Int)) else Option.bind (head_odd ([] : List UInt8)) (fun x16 => (bif x16 then (head_Home_J2 (0 : Int) ([] : List (List UInt8)) ([] : List Bool) (0 : UInt8) false (0 : UInt32) (3 : Int)) else Option.bind (head_Twin a1) (fun x17 => Option.bind (head_may (4 : Int) x17.Phase) (fun x30 => Option.bind (gO ((!(!x30)) && (((4 : Int) == (0 : Int)))) (slices_Contains_bool_bool x17.Dirty true)) (fun x31 => (bif ((!x30) || (((4 : Int) == (0 : Int)) && (!x31))) then (head_Home_J4 x17 (6 : Int) x17.Blocks x17.Dirty x17.Phase x17.Seq) else Option.bind (bnd (x17.Blocks).length (wI (a0.Members - (1 : Int)))) (fun x33 => (head_Home_J5 x17 ((x17.Blocks).set x33 ([] : List UInt8)))))))))))))
set_option maxRecDepth 100000 in
set_option maxHeartbeats 2000000 in
theorem head_Home_c (a0 : Config) (a1 : Head) {r : Head × Int} (hm : head_Home a0 a1 = some r) : Ctr Try.prog 36 [.rep 0 a0, .rep 0 a1] (.tup2 (.flds [(false, 1, (.fl r.1.Stripe)), (false, 1, (.own 0 (some 1) 31 r.1.Blocks)), (false, 1, (.own 2 none 4 r.1.Dirty)), (false, 1, (.fl r.1.Phase)), (false, 1, (.fl r.1.Deals)), (false, 1, (.fl r.1.Seq))]) (.fl r.2)) [] := by
 refine ctr_of_walk [[79, 91], [80], [81, 92]] 12 Try.func36 rfl rfl rfl rfl (fun w0 om => ?_)
 unfold head_Home at hm
 refine CWalk.sub (G' := [.fact 0 (.rep [] (a0 : Config)), .fact 1 (.rep [0] (a1 : Head))]) (Sub.cons (Has.fl (Has.s rfl)) (sn Sub.nil)) ?_
 refine CWalk.seq ?_
 refine CWalk.region ?_
 refine ws (Step.boxObj (ls := [(false, 1, Fact.rep [] a0.Id), (false, 1, Fact.rep [] a0.Members), (false, 1, Fact.rep [] a0.Chunk), (false, 1, Fact.rep [] a0.Rows), (false, 1, Fact.rep [] a0.Log), (false, 1, Fact.rep [] a0.Heads)]) 10 rfl rfl rfl rfl (HasL.flds (Has.cv (Has.s rfl) (Cv.trans (Cv.opens (chConfig a0)) (Cv.flds (CvL.cons Cv.fl (CvL.cons Cv.fl (CvL.cons Cv.fl (CvL.cons Cv.fl (CvL.cons Cv.fl (CvL.cons Cv.fl CvL.nil))))))))))) ?_
 refine ws (Step.boxObj (ls := [(false, 1, Fact.rep [] a1.Stripe), (false, 1, Fact.rep [0] a1.Blocks), (false, 1, Fact.rep [0] a1.Dirty), (false, 1, Fact.rep [] a1.Phase), (false, 1, Fact.rep [] a1.Deals), (false, 1, Fact.rep [] a1.Seq)]) 17 rfl rfl rfl rfl (HasL.flds (Has.cv (Has.s rfl) (Cv.trans (Cv.opens (chHead a1)) (Cv.flds (CvL.cons Cv.fl (CvL.cons Cv.refl (CvL.cons Cv.refl (CvL.cons Cv.fl (CvL.cons Cv.fl (CvL.cons Cv.fl CvL.nil))))))))))) ?_
 refine ws (Step.allocObj (ls := [(false, 1, Fact.rep [] ((0 : Int) : Int)), (false, 1, Fact.nilv), (false, 1, Fact.nilv), (false, 1, Fact.rep [] ((0 : UInt8) : UInt8)), (false, 1, Fact.rep [] (false : Bool)), (false, 1, Fact.rep [] ((0 : UInt32) : UInt32))]) 24 rfl rfl rfl rfl zl28) ?_
 refine wo (Spec.assign Has.int) ?_
 refine Walk.nil ?_
 refine Leaf.thenN ?_
 refine CWalk.seq ?_
 refine CWalk.region ?_
 refine wo (Spec.loadObj (ls := [(false, 1, Fact.rep [] a0.Id), (false, 1, Fact.rep [] a0.Members), (false, 1, Fact.rep [] a0.Chunk), (false, 1, Fact.rep [] a0.Rows), (false, 1, Fact.rep [] a0.Log), (false, 1, Fact.rep [] a0.Heads)]) ty24 rfl rfl (Has.s rfl) rfl (HasGs.cons (HasG.s rfl) (HasGs.cons (HasG.s rfl) (HasGs.cons (HasG.s rfl) (HasGs.cons (HasG.s rfl) (HasGs.cons (HasG.s rfl) (HasGs.cons (HasG.s rfl) HasGs.nil))))))) ?_
 refine wo (Spec.loadObj (ls := [(false, 1, Fact.rep [] a1.Stripe), (false, 1, Fact.rep [0] a1.Blocks), (false, 1, Fact.rep [0] a1.Dirty), (false, 1, Fact.rep [] a1.Phase), (false, 1, Fact.rep [] a1.Deals), (false, 1, Fact.rep [] a1.Seq)]) ty28 rfl rfl (Has.s rfl) rfl (HasGs.cons (HasG.s rfl) (HasGs.cons (HasG.s rfl) (HasGs.cons (HasG.s rfl) (HasGs.cons (HasG.s rfl) (HasGs.cons (HasG.s rfl) (HasGs.cons (HasG.s rfl) HasGs.nil))))))) ?_
 refine wo (Spec.makeFunc (xs := []) (ys := [.tmp 2]) rfl rfl HasF.nil (HasF.cons (Has.s rfl) HasF.nil) (fun _ _ _ => rfl)) ?_
 refine Walk.inline (S := Int × (List (List UInt8)) × (List Bool) × UInt8 × Bool × UInt32 × Int) (fun p : Int × (List (List UInt8)) × (List Bool) × UInt8 × Bool × UInt32 × Int => [.fact 4 (.isv 24), .fact 9 (.tup2 (Fact.flds [(false, 1, Fact.rep [] p.1), (false, 1, Fact.ow [79, 91] [80] 31 (p.2.1 : List (List UInt8))), (false, 1, Fact.ow [81, 92] [] 4 (p.2.2.1 : List Bool)), (false, 1, Fact.rep [] p.2.2.2.1), (false, 1, Fact.rep [] p.2.2.2.2.1), (false, 1, Fact.rep [] p.2.2.2.2.2.1)]) (Fact.rep [] p.2.2.2.2.2.2)), .fact 100025 (.at 25 (.rep [] ((0 : Int) : Int))), .fact 100026 (.at 26 (.nilv)), .fact 100027 (.at 27 (.nilv)), .fact 100028 (.at 28 (.rep [] ((0 : UInt8) : UInt8))), .fact 100029 (.at 29 (.rep [] (false : Bool))), .fact 100030 (.at 30 (.rep [] ((0 : UInt32) : UInt32))), .fact 100024 (.obj 24 [(false, 1), (false, 1), (false, 1), (false, 1), (false, 1), (false, 1)])]) (fun p : Int × (List (List UInt8)) × (List Bool) × UInt8 × Bool × UInt32 × Int => head_Home_J1 p.1 p.2.1 p.2.2.1 p.2.2.2.1 p.2.2.2.2.1 p.2.2.2.2.2.1 p.2.2.2.2.2.2 = some r) (fun u1 => [.fact 100011 (.at 11 (.rep [] a0.Id)), .fact 100012 (.at 12 (.rep [] a0.Members)), .fact 100013 (.at 13 (.rep [] a0.Chunk)), .fact 100014 (.at 14 (.rep [] a0.Rows)), .fact 100015 (.at 15 (.rep [] a0.Log)), .fact 100016 (.at 16 (.rep [] a0.Heads)), .fact 100025 (.at 25 (.rep [] ((0 : Int) : Int))), .fact 100026 (.at 26 (.nilv)), .fact 100027 (.at 27 (.nilv)), .fact 100028 (.at 28 (.rep [] ((0 : UInt8) : UInt8))), .fact 100029 (.at 29 (.rep [] (false : Bool))), .fact 100030 (.at 30 (.rep [] ((0 : UInt32) : UInt32))), .fact 902004 (.cst (u1 4) (Fact.isv 24)), .fact 100010 (.obj 10 [(false, 1), (false, 1), (false, 1), (false, 1), (false, 1), (false, 1)]), .fact 100024 (.obj 24 [(false, 1), (false, 1), (false, 1), (false, 1), (false, 1), (false, 1)])]) (FA := [Fact.flds [(false, 1, Fact.rep [] a0.Id), (false, 1, Fact.rep [] a0.Members), (false, 1, Fact.rep [] a0.Chunk), (false, 1, Fact.rep [] a0.Rows), (false, 1, Fact.rep [] a0.Log), (false, 1, Fact.rep [] a0.Heads)], Fact.flds [(false, 1, Fact.rep [] a1.Stripe), (false, 1, Fact.rep [0] a1.Blocks), (false, 1, Fact.rep [0] a1.Dirty), (false, 1, Fact.rep [] a1.Phase), (false, 1, Fact.rep [] a1.Deals), (false, 1, Fact.rep [] a1.Seq)], Fact.rep [] ((4 : Int) : Int), Fact.fnv 71 [] [Fact.isv 10]]) rfl Try.func63 rfl rfl rfl (CallOk.fn en63 (HasF.cons (Has.s rfl) (HasF.cons (Has.s rfl) (HasF.cons Has.int (HasF.cons (Has.s rfl) HasF.nil))))) (fun u1 => (ck (ck (ck (ck (ck (ck (ck (ck (ck (ck (ck (ck (cs 902000 4 (ck (ck Carry.nil)))))))))))))))) (fun u1 => ?_) ?_
 ·refine CWalk.seq ?_
  refine CWalk.region ?_
  refine ws (Step.boxObj (ls := [(false, 1, Fact.rep [] a0.Id), (false, 1, Fact.rep [] a0.Members), (false, 1, Fact.rep [] a0.Chunk), (false, 1, Fact.rep [] a0.Rows), (false, 1, Fact.rep [] a0.Log), (false, 1, Fact.rep [] a0.Heads)]) 31 rfl rfl rfl rfl (HasL.flds (Has.s rfl))) ?_
  refine ws (Step.boxObj (ls := [(false, 1, Fact.rep [] a1.Stripe), (false, 1, Fact.rep [0] a1.Blocks), (false, 1, Fact.rep [0] a1.Dirty), (false, 1, Fact.rep [] a1.Phase), (false, 1, Fact.rep [] a1.Deals), (false, 1, Fact.rep [] a1.Seq)]) 38 rfl rfl rfl rfl (HasL.flds (Has.s rfl))) ?_
  refine ws (Step.boxObj (ls := [(false, 1, Fact.rep [] ((4 : Int) : Int))]) 45 rfl rfl rfl rfl (HasL.one (Has.s rfl) rfl (Has.s rfl))) ?_
  refine ws (Step.boxObj (ls := [(false, 1, Fact.fnv 71 [] [Fact.isv 10])]) 47 rfl rfl rfl rfl (HasL.fnv (Has.s rfl))) ?_
  refine ws (Step.allocObj (ls := [(false, 1, Fact.rep [] ((0 : Int) : Int)), (false, 1, Fact.nilv), (false, 1, Fact.nilv), (false, 1, Fact.rep [] ((0 : UInt8) : UInt8)), (false, 1, Fact.rep [] (false : Bool)), (false, 1, Fact.rep [] ((0 : UInt32) : UInt32))]) 49 rfl rfl rfl rfl zl28) ?_
  refine wo (Spec.assign Has.int) ?_
  refine Walk.nil ?_
  refine Leaf.thenN ?_
  refine CWalk.seq ?_
  refine CWalk.region ?_
  refine wo (Spec.loadObj (ls := [(false, 1, Fact.rep [] a0.Id), (false, 1, Fact.rep [] a0.Members), (false, 1, Fact.rep [] a0.Chunk), (false, 1, Fact.rep [] a0.Rows), (false, 1, Fact.rep [] a0.Log), (false, 1, Fact.rep [] a0.Heads)]) ty24 rfl rfl (Has.s rfl) rfl (HasGs.cons (HasG.s rfl) (HasGs.cons (HasG.s rfl) (HasGs.cons (HasG.s rfl) (HasGs.cons (HasG.s rfl) (HasGs.cons (HasG.s rfl) (HasGs.cons (HasG.s rfl) HasGs.nil))))))) ?_
  refine wo (Spec.loadObj (ls := [(false, 1, Fact.rep [] a1.Stripe), (false, 1, Fact.rep [0] a1.Blocks), (false, 1, Fact.rep [0] a1.Dirty), (false, 1, Fact.rep [] a1.Phase), (false, 1, Fact.rep [] a1.Deals), (false, 1, Fact.rep [] a1.Seq)]) ty28 rfl rfl (Has.s rfl) rfl (HasGs.cons (HasG.s rfl) (HasGs.cons (HasG.s rfl) (HasGs.cons (HasG.s rfl) (HasGs.cons (HasG.s rfl) (HasGs.cons (HasG.s rfl) (HasGs.cons (HasG.s rfl) HasGs.nil))))))) ?_
  refine wo (Spec.makeFunc (xs := []) (ys := [.tmp 6, .tmp 7]) rfl rfl HasF.nil (HasF.cons (Has.s rfl) (HasF.cons (Has.s rfl) HasF.nil)) (fun _ _ _ => rfl)) ?_
  refine Walk.inline (S := Int × (List (List UInt8)) × (List Bool) × UInt8 × Bool × UInt32 × Int) (fun p : Int × (List (List UInt8)) × (List Bool) × UInt8 × Bool × UInt32 × Int => [.fact 8 (.isv 49), .fact 13 (.tup2 (Fact.flds [(false, 1, Fact.rep [] p.1), (false, 1, Fact.ow [79, 91] [80] 31 (p.2.1 : List (List UInt8))), (false, 1, Fact.ow [81, 92] [] 4 (p.2.2.1 : List Bool)), (false, 1, Fact.rep [] p.2.2.2.1), (false, 1, Fact.rep [] p.2.2.2.2.1), (false, 1, Fact.rep [] p.2.2.2.2.2.1)]) (Fact.rep [] p.2.2.2.2.2.2)), .fact 902004 (.cst (u1 4) (Fact.isv 24)), .fact 100050 (.at 50 (.rep [] ((0 : Int) : Int))), .fact 100051 (.at 51 (.nilv)), .fact 100052 (.at 52 (.nilv)), .fact 100053 (.at 53 (.rep [] ((0 : UInt8) : UInt8))), .fact 100054 (.at 54 (.rep [] (false : Bool))), .fact 100055 (.at 55 (.rep [] ((0 : UInt32) : UInt32))), .fact 100025 (.at 25 (.rep [] ((0 : Int) : Int))), .fact 100026 (.at 26 (.nilv)), .fact 100027 (.at 27 (.nilv)), .fact 100028 (.at 28 (.rep [] ((0 : UInt8) : UInt8))), .fact 100029 (.at 29 (.rep [] (false : Bool))), .fact 100030 (.at 30 (.rep [] ((0 : UInt32) : UInt32))), .fact 100049 (.obj 49 [(false, 1), (false, 1), (false, 1), (false, 1), (false, 1), (false, 1)]), .fact 100024 (.obj 24 [(false, 1), (false, 1), (false, 1), (false, 1), (false, 1), (false, 1)])]) (fun p : Int × (List (List UInt8)) × (List Bool) × UInt8 × Bool × UInt32 × Int => head_Home_J2 p.1 p.2.1 p.2.2.1 p.2.2.2.1 p.2.2.2.2.1 p.2.2.2.2.2.1 p.2.2.2.2.2.2 = some r) (fun u2 => [.fact 100011 (.at 11 (.rep [] a0.Id)), .fact 100012 (.at 12 (.rep [] a0.Members)), .fact 100013 (.at 13 (.rep [] a0.Chunk)), .fact 100014 (.at 14 (.rep [] a0.Rows)), .fact 100015 (.at 15 (.rep [] a0.Log)), .fact 100016 (.at 16 (.rep [] a0.Heads)), .fact 100025 (.at 25 (.rep [] ((0 : Int) : Int))), .fact 100026 (.at 26 (.nilv)), .fact 100027 (.at 27 (.nilv)), .fact 100028 (.at 28 (.rep [] ((0 : UInt8) : UInt8))), .fact 100029 (.at 29 (.rep [] (false : Bool))), .fact 100030 (.at 30 (.rep [] ((0 : UInt32) : UInt32))), .fact 100046 (.at 46 (.rep [] ((4 : Int) : Int))), .fact 100048 (.at 48 (.fnv 71 [] [Fact.isv 10])), .fact 100050 (.at 50 (.rep [] ((0 : Int) : Int))), .fact 100051 (.at 51 (.nilv)), .fact 100052 (.at 52 (.nilv)), .fact 100053 (.at 53 (.rep [] ((0 : UInt8) : UInt8))), .fact 100054 (.at 54 (.rep [] (false : Bool))), .fact 100055 (.at 55 (.rep [] ((0 : UInt32) : UInt32))), .fact 902004 (.cst (u1 4) (Fact.isv 24)), .fact 904008 (.cst (u2 8) (Fact.isv 49)), .fact 100010 (.obj 10 [(false, 1), (false, 1), (false, 1), (false, 1), (false, 1), (false, 1)]), .fact 100024 (.obj 24 [(false, 1), (false, 1), (false, 1), (false, 1), (false, 1), (false, 1)]), .fact 100045 (.obj 45 [(false, 1)]), .fact 100047 (.obj 47 [(false, 1)]), .fact 100049 (.obj 49 [(false, 1), (false, 1), (false, 1), (false, 1), (false, 1), (false, 1)])]) (FA := [Fact.flds [(false, 1, Fact.rep [] a0.Id), (false, 1, Fact.rep [] a0.Members), (false, 1, Fact.rep [] a0.Chunk), (false, 1, Fact.rep [] a0.Rows), (false, 1, Fact.rep [] a0.Log), (false, 1, Fact.rep [] a0.Heads)], Fact.flds [(false, 1, Fact.rep [] a1.Stripe), (false, 1, Fact.rep [0] a1.Blocks), (false, 1, Fact.rep [0] a1.Dirty), (false, 1, Fact.rep [] a1.Phase), (false, 1, Fact.rep [] a1.Deals), (false, 1, Fact.rep [] a1.Seq)], Fact.rep [] ((0 : Int) : Int), Fact.nilv, Fact.fnv 77 [] [Fact.isv 45, Fact.isv 47]]) rfl Try.func48 rfl rfl rfl (CallOk.fn en48 (HasF.cons (Has.s rfl) (HasF.cons (Has.s rfl) (HasF.cons Has.int (HasF.cons Has.nilv (HasF.cons (Has.s rfl) HasF.nil)))))) (fun u2 => (ck (ck (ck (ck (ck (ck (ck (ck (ck (ck (ck (ck (ck (ck (ck (ck (ck (ck (ck (ck (ck (cs 904000 8 (ck (ck (ck (ck (ck Carry.nil)))))))))))))))))))))))))))) (fun u2 => ?_) ?_
  ·refine CWalk.seq ?_
   refine CWalk.region ?_
   refine ws (Step.boxObj (ls := [(false, 1, Fact.rep [] a0.Id), (false, 1, Fact.rep [] a0.Members), (false, 1, Fact.rep [] a0.Chunk), (false, 1, Fact.rep [] a0.Rows), (false, 1, Fact.rep [] a0.Log), (false, 1, Fact.rep [] a0.Heads)]) 56 rfl rfl rfl rfl (HasL.flds (Has.s rfl))) ?_
   refine ws (Step.boxObj (ls := [(false, 1, Fact.rep [] a1.Stripe), (false, 1, Fact.rep [0] a1.Blocks), (false, 1, Fact.rep [0] a1.Dirty), (false, 1, Fact.rep [] a1.Phase), (false, 1, Fact.rep [] a1.Deals), (false, 1, Fact.rep [] a1.Seq)]) 63 rfl rfl rfl rfl (HasL.flds (Has.s rfl))) ?_
   refine ws (Step.allocObj (ls := [(false, 1, Fact.rep [] ((0 : Int) : Int)), (false, 1, Fact.nilv), (false, 1, Fact.nilv), (false, 1, Fact.rep [] ((0 : UInt8) : UInt8)), (false, 1, Fact.rep [] (false : Bool)), (false, 1, Fact.rep [] ((0 : UInt32) : UInt32))]) 70 rfl rfl rfl rfl zl28) ?_
   refine wo (Spec.assign Has.int) ?_
   refine Walk.nil ?_
   refine Leaf.thenN ?_
   refine CWalk.seq ?_
   refine CWalk.seq ?_
   refine CWalk.region ?_
   refine wo (Spec.loadObj (ls := [(false, 1, Fact.rep [] a0.Id), (false, 1, Fact.rep [] a0.Members), (false, 1, Fact.rep [] a0.Chunk), (false, 1, Fact.rep [] a0.Rows), (false, 1, Fact.rep [] a0.Log), (false, 1, Fact.rep [] a0.Heads)]) ty24 rfl rfl (Has.s rfl) rfl (HasGs.cons (HasG.s rfl) (HasGs.cons (HasG.s rfl) (HasGs.cons (HasG.s rfl) (HasGs.cons (HasG.s rfl) (HasGs.cons (HasG.s rfl) (HasGs.cons (HasG.s rfl) HasGs.nil))))))) ?_
   refine wo (Spec.loadObj (ls := [(false, 1, Fact.rep [] a1.Stripe), (false, 1, Fact.rep [0] a1.Blocks), (false, 1, Fact.rep [0] a1.Dirty), (false, 1, Fact.rep [] a1.Phase), (false, 1, Fact.rep [] a1.Deals), (false, 1, Fact.rep [] a1.Seq)]) ty28 rfl rfl (Has.s rfl) rfl (HasGs.cons (HasG.s rfl) (HasGs.cons (HasG.s rfl) (HasGs.cons (HasG.s rfl) (HasGs.cons (HasG.s rfl) (HasGs.cons (HasG.s rfl) (HasGs.cons (HasG.s rfl) HasGs.nil))))))) ?_
   obtain ⟨x15, hx15, hm⟩ := bind_some hm
   refine wo (f := Fact.rep [] (x15 : Int)) (Spec.callE [0] 77 rfl en24 (head_Check_c a0 a1 hx15) (HasAll.cons (Has.fl (Has.cv (Has.s rfl) (Cv.trans (Cv.flds (CvL.cons Cv.fl (CvL.cons Cv.fl (CvL.cons Cv.fl (CvL.cons Cv.fl (CvL.cons Cv.fl (CvL.cons Cv.fl CvL.nil))))))) (Cv.close (T := []) (chConfig a0))))) (HasAll.cons (Has.m (Has.cv (Has.s rfl) (Cv.trans (Cv.flds (CvL.cons Cv.fl (CvL.cons (Cv.m rfl) (CvL.cons (Cv.m rfl) (CvL.cons Cv.fl (CvL.cons Cv.fl (CvL.cons Cv.fl CvL.nil))))))) (Cv.close (T := [0]) (chHead a1)))) rfl) HasAll.nil))) ?_
   refine wo (Spec.assign (Has.s rfl)) ?_
   refine Walk.nil ?_
   refine Leaf.thenN ?_
   refine CWalk.seq ?_
   refine CWalk.region ?_
   refine mv ?_
   refine wo (Spec.neqI (Has.s rfl) Has.int) ?_
   refine Walk.nil ?_
   refine Leaf.thenN ?_
   refine CWalk.cond rfl (fun hb => ?_) (fun hb => ?_)
   ·have hm := cond_t hb hm
    refine CWalk.ret ?_
    refine Leaf.thenR ?_
    exact Leaf.in2 ((0 : Int), ([] : List (List UInt8)), ([] : List Bool), (0 : UInt8), false, (0 : UInt32), x15) hm rfl rfl (HasR.cv (HasR.obj (ls := [(false, 1, Fact.rep [] ((0 : Int) : Int)), (false, 1, Fact.nilv), (false, 1, Fact.nilv), (false, 1, Fact.rep [] ((0 : UInt8) : UInt8)), (false, 1, Fact.rep [] (false : Bool)), (false, 1, Fact.rep [] ((0 : UInt32) : UInt32))]) ty28 rfl rfl (Has.s rfl) rfl (HasGs.cons (HasG.s rfl) (HasGs.cons (HasG.s rfl) (HasGs.cons (HasG.s rfl) (HasGs.cons (HasG.s rfl) (HasGs.cons (HasG.s rfl) (HasGs.cons (HasG.s rfl) HasGs.nil))))))) (Cv.flds (CvL.cons Cv.fl (CvL.cons (Cv.trans Cv.nilOw (Cv.owM (T := []) (te := []) rfl rfl)) (CvL.cons (Cv.trans Cv.nilOw (Cv.owF (T := []) (te := []) rfl)) (CvL.cons Cv.fl (CvL.cons Cv.fl (CvL.cons Cv.fl CvL.nil)))))))) (HasR.cv (HasR.tmp (Has.s rfl)) Cv.fl) (ls 904008 (Low.res (lc (lf (lg (lg (lf (lf (lf (lf (lg (lg (lf (lf (lf (lo (lo Low.nil)))))))))))))))))
   ·have hm := cond_f hb hm
    refine CWalk.skip ?_
    refine Leaf.thenN ?_
    refine CWalk.seq ?_
    refine CWalk.seq ?_
    refine CWalk.region ?_
    refine mv ?_
    refine wo (Spec.lssI (Has.s rfl) Has.int) ?_
    refine mv ?_
    refine wg rfl rfl (fun hb => Spec.move (Has.s rfl)) ?_
    refine wg rfl rfl (fun hb => Spec.fieldAddrO fd24_1 (Has.cv (Has.s rfl) (Cv.isvP rfl))) ?_
    refine wg rfl rfl (fun hb => Spec.loadF (i := 1) ty3 rfl (Has.u rfl hb) rfl (HasG.s rfl)) ?_
    refine wg rfl rfl (fun hb => Spec.subI (Has.u rfl hb) Has.int) ?_
    refine wg rfl rfl (fun hb => Spec.geqI (Has.u rfl hb) (Has.u rfl hb)) ?_
    refine wo (Spec.or (Has.s rfl) (fun h => Has.u rfl h)) ?_
    refine Walk.nil ?_
    refine Leaf.thenN ?_
    refine CWalk.cond rfl (fun hb => ?_) (fun hb => ?_)
    ·have hm := cond_t hb hm
     refine CWalk.seq ?_
     refine CWalk.region ?_
     refine wo (Spec.loadObj (ls := [(false, 1, Fact.rep [] ((0 : Int) : Int)), (false, 1, Fact.nilv), (false, 1, Fact.nilv), (false, 1, Fact.rep [] ((0 : UInt8) : UInt8)), (false, 1, Fact.rep [] (false : Bool)), (false, 1, Fact.rep [] ((0 : UInt32) : UInt32))]) ty28 rfl rfl (Has.s rfl) rfl (HasGs.cons (HasG.s rfl) (HasGs.cons (HasG.s rfl) (HasGs.cons (HasG.s rfl) (HasGs.cons (HasG.s rfl) (HasGs.cons (HasG.s rfl) (HasGs.cons (HasG.s rfl) HasGs.nil))))))) ?_
     refine ws (Step.storeObj (ls := [(false, 1, Fact.rep [] ((0 : Int) : Int)), (false, 1, Fact.nilv), (false, 1, Fact.nilv), (false, 1, Fact.rep [] ((0 : UInt8) : UInt8)), (false, 1, Fact.rep [] (false : Bool)), (false, 1, Fact.rep [] ((0 : UInt32) : UInt32))]) rfl ty28 rfl rfl (Has.s rfl) rfl (HasL.flds (Has.s rfl)) rfl) ?_
     refine wo (Spec.assign Has.int) ?_
     refine Walk.nil ?_
     refine Leaf.thenN ?_
     refine CWalk.ret ?_
     refine Leaf.thenR ?_
     exact Leaf.in2 ((0 : Int), ([] : List (List UInt8)), ([] : List Bool), (0 : UInt8), false, (0 : UInt32), (2 : Int)) hm rfl rfl (HasR.cv (HasR.obj (ls := [(false, 1, Fact.rep [] ((0 : Int) : Int)), (false, 1, Fact.nilv), (false, 1, Fact.nilv), (false, 1, Fact.rep [] ((0 : UInt8) : UInt8)), (false, 1, Fact.rep [] (false : Bool)), (false, 1, Fact.rep [] ((0 : UInt32) : UInt32))]) ty28 rfl rfl (Has.s rfl) rfl (HasGs.cons (HasG.s rfl) (HasGs.cons (HasG.s rfl) (HasGs.cons (HasG.s rfl) (HasGs.cons (HasG.s rfl) (HasGs.cons (HasG.s rfl) (HasGs.cons (HasG.s rfl) HasGs.nil))))))) (Cv.flds (CvL.cons Cv.fl (CvL.cons (Cv.trans Cv.nilOw (Cv.owM (T := []) (te := []) rfl rfl)) (CvL.cons (Cv.trans Cv.nilOw (Cv.owF (T := []) (te := []) rfl)) (CvL.cons Cv.fl (CvL.cons Cv.fl (CvL.cons Cv.fl CvL.nil)))))))) (HasR.cv (HasR.tmp (Has.s rfl)) Cv.fl) (ls 904008 (Low.res (lc (lf (lg (lg (lf (lf (lf (lf (lg (lg (lf (lf (lf (lo (lo Low.nil)))))))))))))))))
    ·have hm := cond_f hb hm
     refine CWalk.skip ?_
     refine Leaf.thenN ?_
     refine CWalk.seq ?_
     refine CWalk.seq ?_
     refine CWalk.region ?_
     refine mv ?_
     obtain ⟨x16, hx16, hm⟩ := bind_some hm
     refine wo (f := Fact.rep [] (x16 : Bool)) (Spec.callE [] 78 rfl en58 (head_odd_c ([] : List UInt8) hx16) (HasAll.cons (Has.m (Has.cv (Has.s rfl) (Cv.nil (T := []))) rfl) HasAll.nil)) ?_
     refine Walk.nil ?_
     refine Leaf.thenN ?_
     refine CWalk.cond rfl (fun hb => ?_) (fun hb => ?_)
     ·have hm := cond_t hb hm
      refine CWalk.seq ?_
      refine CWalk.region ?_
      refine wo (Spec.loadObj (ls := [(false, 1, Fact.rep [] ((0 : Int) : Int)), (false, 1, Fact.nilv), (false, 1, Fact.nilv), (false, 1, Fact.rep [] ((0 : UInt8) : UInt8)), (false, 1, Fact.rep [] (false : Bool)), (false, 1, Fact.rep [] ((0 : UInt32) : UInt32))]) ty28 rfl rfl (Has.s rfl) rfl (HasGs.cons (HasG.s rfl) (HasGs.cons (HasG.s rfl) (HasGs.cons (HasG.s rfl) (HasGs.cons (HasG.s rfl) (HasGs.cons (HasG.s rfl) (HasGs.cons (HasG.s rfl) HasGs.nil))))))) ?_
      refine ws (Step.storeObj (ls := [(false, 1, Fact.rep [] ((0 : Int) : Int)), (false, 1, Fact.nilv), (false, 1, Fact.nilv), (false, 1, Fact.rep [] ((0 : UInt8) : UInt8)), (false, 1, Fact.rep [] (false : Bool)), (false, 1, Fact.rep [] ((0 : UInt32) : UInt32))]) rfl ty28 rfl rfl (Has.s rfl) rfl (HasL.flds (Has.s rfl)) rfl) ?_
      refine wo (Spec.assign Has.int) ?_
      refine Walk.nil ?_
      refine Leaf.thenN ?_
      refine CWalk.ret ?_
      refine Leaf.thenR ?_
      exact Leaf.in2 ((0 : Int), ([] : List (List UInt8)), ([] : List Bool), (0 : UInt8), false, (0 : UInt32), (3 : Int)) hm rfl rfl (HasR.cv (HasR.obj (ls := [(false, 1, Fact.rep [] ((0 : Int) : Int)), (false, 1, Fact.nilv), (false, 1, Fact.nilv), (false, 1, Fact.rep [] ((0 : UInt8) : UInt8)), (false, 1, Fact.rep [] (false : Bool)), (false, 1, Fact.rep [] ((0 : UInt32) : UInt32))]) ty28 rfl rfl (Has.s rfl) rfl (HasGs.cons (HasG.s rfl) (HasGs.cons (HasG.s rfl) (HasGs.cons (HasG.s rfl) (HasGs.cons (HasG.s rfl) (HasGs.cons (HasG.s rfl) (HasGs.cons (HasG.s rfl) HasGs.nil))))))) (Cv.flds (CvL.cons Cv.fl (CvL.cons (Cv.trans Cv.nilOw (Cv.owM (T := []) (te := []) rfl rfl)) (CvL.cons (Cv.trans Cv.nilOw (Cv.owF (T := []) (te := []) rfl)) (CvL.cons Cv.fl (CvL.cons Cv.fl (CvL.cons Cv.fl CvL.nil)))))))) (HasR.cv (HasR.tmp (Has.s rfl)) Cv.fl) (ls 904008 (Low.res (lc (lf (lg (lg (lf (lf (lf (lf (lg (lg (lf (lf (lf (lo (lo Low.nil)))))))))))))))))
     ·have hm := cond_f hb hm
      refine CWalk.skip ?_
      refine Leaf.thenN ?_
      refine CWalk.seq ?_
      refine CWalk.region ?_
      refine wo (Spec.loadObj (ls := [(false, 1, Fact.rep [] a1.Stripe), (false, 1, Fact.rep [0] a1.Blocks), (false, 1, Fact.rep [0] a1.Dirty), (false, 1, Fact.rep [] a1.Phase), (false, 1, Fact.rep [] a1.Deals), (false, 1, Fact.rep [] a1.Seq)]) ty28 rfl rfl (Has.s rfl) rfl (HasGs.cons (HasG.s rfl) (HasGs.cons (HasG.s rfl) (HasGs.cons (HasG.s rfl) (HasGs.cons (HasG.s rfl) (HasGs.cons (HasG.s rfl) (HasGs.cons (HasG.s rfl) HasGs.nil))))))) ?_
      obtain ⟨x17, hx17, hm⟩ := bind_some hm
      refine wo (f := Fact.flds [(false, 1, Fact.rep [] x17.Stripe), (false, 1, Fact.ow [79] [80] 31 (x17.Blocks : List (List UInt8))), (false, 1, Fact.ow [81] [] 4 (x17.Dirty : List Bool)), (false, 1, Fact.rep [] x17.Phase), (false, 1, Fact.rep [] x17.Deals), (false, 1, Fact.rep [] x17.Seq)]) (Spec.callE [0] 79 rfl en23 (head_Twin_c a1 hx17) (HasAll.cons (Has.m (Has.cv (Has.s rfl) (Cv.trans (Cv.flds (CvL.cons Cv.fl (CvL.cons (Cv.m rfl) (CvL.cons (Cv.m rfl) (CvL.cons Cv.fl (CvL.cons Cv.fl (CvL.cons Cv.fl CvL.nil))))))) (Cv.close (T := [0]) (chHead a1)))) rfl) HasAll.nil)) ?_
      refine ws (Step.allocObj (ls := [(false, 1, Fact.rep [] ((0 : Int) : Int)), (false, 1, Fact.nilv), (false, 1, Fact.nilv), (false, 1, Fact.rep [] ((0 : UInt8) : UInt8)), (false, 1, Fact.rep [] (false : Bool)), (false, 1, Fact.rep [] ((0 : UInt32) : UInt32))]) 82 rfl rfl rfl rfl zl28) ?_
      refine ws (Step.storeObj (ls := [(false, 1, Fact.rep [] x17.Stripe), (false, 1, Fact.ow [79] [80] 31 (x17.Blocks : List (List UInt8))), (false, 1, Fact.ow [81] [] 4 (x17.Dirty : List Bool)), (false, 1, Fact.rep [] x17.Phase), (false, 1, Fact.rep [] x17.Deals), (false, 1, Fact.rep [] x17.Seq)]) rfl ty28 rfl rfl (Has.s rfl) rfl (HasL.flds (Has.s rfl)) rfl) ?_
      refine Walk.nil ?_
      refine Leaf.thenN ?_
      refine CWalk.seqJ (fun p : Int × Int × (List (List UInt8)) × (List Bool) × UInt8 × Bool × UInt32 => [.fact 10 (.isv 70), .fact 11 (.rep [] p.1), .fact 902004 (.cst (u1 4) (Fact.isv 24)), .fact 904008 (.cst (u2 8) (Fact.isv 49)), .fact 100071 (.at 71 (.rep [] p.2.1)), .fact 100072 (.at 72 (.ow [79, 91] [80] 31 (p.2.2.1 : List (List UInt8)))), .fact 100073 (.at 73 (.ow [81, 92] [] 4 (p.2.2.2.1 : List Bool))), .fact 100074 (.at 74 (.rep [] p.2.2.2.2.1)), .fact 100075 (.at 75 (.rep [] p.2.2.2.2.2.1)), .fact 100076 (.at 76 (.rep [] p.2.2.2.2.2.2)), .fact 100025 (.at 25 (.rep [] ((0 : Int) : Int))), .fact 100026 (.at 26 (.nilv)), .fact 100027 (.at 27 (.nilv)), .fact 100028 (.at 28 (.rep [] ((0 : UInt8) : UInt8))), .fact 100029 (.at 29 (.rep [] (false : Bool))), .fact 100030 (.at 30 (.rep [] ((0 : UInt32) : UInt32))), .fact 100050 (.at 50 (.rep [] ((0 : Int) : Int))), .fact 100051 (.at 51 (.nilv)), .fact 100052 (.at 52 (.nilv)), .fact 100053 (.at 53 (.rep [] ((0 : UInt8) : UInt8))), .fact 100054 (.at 54 (.rep [] (false : Bool))), .fact 100055 (.at 55 (.rep [] ((0 : UInt32) : UInt32))), .fact 100070 (.obj 70 [(false, 1), (false, 1), (false, 1), (false, 1), (false, 1), (false, 1)]), .fact 100024 (.obj 24 [(false, 1), (false, 1), (false, 1), (false, 1), (false, 1), (false, 1)]), .fact 100049 (.obj 49 [(false, 1), (false, 1), (false, 1), (false, 1), (false, 1), (false, 1)])]) (fun p : Int × Int × (List (List UInt8)) × (List Bool) × UInt8 × Bool × UInt32 => head_Home_J3 p.1 p.2.1 p.2.2.1 p.2.2.2.1 p.2.2.2.2.1 p.2.2.2.2.2.1 p.2.2.2.2.2.2 = some r) ?_ ?_
      ·rintro ⟨j18, j19, j20, j21, j22, j23, j24⟩ hm
       replace hm : head_Home_J3 j18 j19 j20 j21 j22 j23 j24 = some r := hm
       unfold head_Home_J3 at hm
       show CWalk _ [.fact 10 (.isv 70), .fact 11 (.rep [] (j18 : Int)), .fact 902004 (.cst (u1 4) (Fact.isv 24)), .fact 904008 (.cst (u2 8) (Fact.isv 49)), .fact 100071 (.at 71 (.rep [] (j19 : Int))), .fact 100072 (.at 72 (.ow [79, 91] [80] 31 (j20 : List (List UInt8)))), .fact 100073 (.at 73 (.ow [81, 92] [] 4 (j21 : List Bool))), .fact 100074 (.at 74 (.rep [] (j22 : UInt8))), .fact 100075 (.at 75 (.rep [] (j23 : Bool))), .fact 100076 (.at 76 (.rep [] (j24 : UInt32))), .fact 100025 (.at 25 (.rep [] ((0 : Int) : Int))), .fact 100026 (.at 26 (.nilv)), .fact 100027 (.at 27 (.nilv)), .fact 100028 (.at 28 (.rep [] ((0 : UInt8) : UInt8))), .fact 100029 (.at 29 (.rep [] (false : Bool))), .fact 100030 (.at 30 (.rep [] ((0 : UInt32) : UInt32))), .fact 100050 (.at 50 (.rep [] ((0 : Int) : Int))), .fact 100051 (.at 51 (.nilv)), .fact 100052 (.at 52 (.nilv)), .fact 100053 (.at 53 (.rep [] ((0 : UInt8) : UInt8))), .fact 100054 (.at 54 (.rep [] (false : Bool))), .fact 100055 (.at 55 (.rep [] ((0 : UInt32) : UInt32))), .fact 100070 (.obj 70 [(false, 1), (false, 1), (false, 1), (false, 1), (false, 1), (false, 1)]), .fact 100024 (.obj 24 [(false, 1), (false, 1), (false, 1), (false, 1), (false, 1), (false, 1)]), .fact 100049 (.obj 49 [(false, 1), (false, 1), (false, 1), (false, 1), (false, 1), (false, 1)])] _ _
       refine CWalk.ret ?_
       exact Leaf.in2 (j19, j20, j21, j22, j23, j24, j18) hm rfl rfl (HasR.cv (HasR.obj (ls := [(false, 1, Fact.rep [] (j19 : Int)), (false, 1, Fact.ow [79, 91] [80] 31 (j20 : List (List UInt8))), (false, 1, Fact.ow [81, 92] [] 4 (j21 : List Bool)), (false, 1, Fact.rep [] (j22 : UInt8)), (false, 1, Fact.rep [] (j23 : Bool)), (false, 1, Fact.rep [] (j24 : UInt32))]) ty28 rfl rfl (Has.s rfl) rfl (HasGs.cons (HasG.s rfl) (HasGs.cons (HasG.s rfl) (HasGs.cons (HasG.s rfl) (HasGs.cons (HasG.s rfl) (HasGs.cons (HasG.s rfl) (HasGs.cons (HasG.s rfl) HasGs.nil))))))) (Cv.flds (CvL.cons Cv.fl (CvL.cons (Cv.owM (T := [79, 91]) (te := [80]) rfl rfl) (CvL.cons (Cv.owF (T := [81, 92]) (te := []) rfl) (CvL.cons Cv.fl (CvL.cons Cv.fl (CvL.cons Cv.fl CvL.nil)))))))) (HasR.cv (HasR.tmp (Has.s rfl)) Cv.fl) (ls 904008 (Low.res (lc (lf (lg (lg (lf (lf (lf (lf (lg (lg (lf (lf (lf (lo (lo Low.nil)))))))))))))))))
      ·refine CWalk.seq ?_
       refine CWalk.region ?_
       refine mv ?_
       refine Walk.inline (S := Int × (List (List UInt8)) × (List Bool) × UInt8 × UInt32) (fun p : Int × (List (List UInt8)) × (List Bool) × UInt8 × UInt32 => [.fact 10 (.isv 70), .fact 12 (.isv 82), .fact 34 (.rep [] p.1), .fact 902004 (.cst (u1 4) (Fact.isv 24)), .fact 904008 (.cst (u2 8) (Fact.isv 49)), .fact 100071 (.at 71 (.rep [] ((0 : Int) : Int))), .fact 100072 (.at 72 (.nilv)), .fact 100073 (.at 73 (.nilv)), .fact 100074 (.at 74 (.rep [] ((0 : UInt8) : UInt8))), .fact 100075 (.at 75 (.rep [] (false : Bool))), .fact 100076 (.at 76 (.rep [] ((0 : UInt32) : UInt32))), .fact 100083 (.at 83 (.rep [] x17.Stripe)), .fact 100084 (.at 84 (.ow [79, 91] [80] 31 (p.2.1 : List (List UInt8)))), .fact 100085 (.at 85 (.ow [81, 92] [] 4 (p.2.2.1 : List Bool))), .fact 100086 (.at 86 (.rep [] p.2.2.2.1)), .fact 100087 (.at 87 (.rep [] x17.Deals)), .fact 100088 (.at 88 (.rep [] p.2.2.2.2)), .fact 100025 (.at 25 (.rep [] ((0 : Int) : Int))), .fact 100026 (.at 26 (.nilv)), .fact 100027 (.at 27 (.nilv)), .fact 100028 (.at 28 (.rep [] ((0 : UInt8) : UInt8))), .fact 100029 (.at 29 (.rep [] (false : Bool))), .fact 100030 (.at 30 (.rep [] ((0 : UInt32) : UInt32))), .fact 100050 (.at 50 (.rep [] ((0 : Int) : Int))), .fact 100051 (.at 51 (.nilv)), .fact 100052 (.at 52 (.nilv)), .fact 100053 (.at 53 (.rep [] ((0 : UInt8) : UInt8))), .fact 100054 (.at 54 (.rep [] (false : Bool))), .fact 100055 (.at 55 (.rep [] ((0 : UInt32) : UInt32))), .fact 100070 (.obj 70 [(false, 1), (false, 1), (false, 1), (false, 1), (false, 1), (false, 1)]), .fact 100082 (.obj 82 [(false, 1), (false, 1), (false, 1), (false, 1), (false, 1), (false, 1)]), .fact 100024 (.obj 24 [(false, 1), (false, 1), (false, 1), (false, 1), (false, 1), (false, 1)]), .fact 100049 (.obj 49 [(false, 1), (false, 1), (false, 1), (false, 1), (false, 1), (false, 1)])]) (fun p : Int × (List (List UInt8)) × (List Bool) × UInt8 × UInt32 => head_Home_J4 x17 p.1 p.2.1 p.2.2.1 p.2.2.2.1 p.2.2.2.2 = some r) (fun u3 => [.fact 100011 (.at 11 (.rep [] a0.Id)), .fact 100012 (.at 12 (.rep [] a0.Members)), .fact 100013 (.at 13 (.rep [] a0.Chunk)), .fact 100014 (.at 14 (.rep [] a0.Rows)), .fact 100015 (.at 15 (.rep [] a0.Log)), .fact 100016 (.at 16 (.rep [] a0.Heads)), .fact 100025 (.at 25 (.rep [] ((0 : Int) : Int))), .fact 100026 (.at 26 (.nilv)), .fact 100027 (.at 27 (.nilv)), .fact 100028 (.at 28 (.rep [] ((0 : UInt8) : UInt8))), .fact 100029 (.at 29 (.rep [] (false : Bool))), .fact 100030 (.at 30 (.rep [] ((0 : UInt32) : UInt32))), .fact 100046 (.at 46 (.rep [] ((4 : Int) : Int))), .fact 100048 (.at 48 (.fnv 71 [] [Fact.isv 10])), .fact 100050 (.at 50 (.rep [] ((0 : Int) : Int))), .fact 100051 (.at 51 (.nilv)), .fact 100052 (.at 52 (.nilv)), .fact 100053 (.at 53 (.rep [] ((0 : UInt8) : UInt8))), .fact 100054 (.at 54 (.rep [] (false : Bool))), .fact 100055 (.at 55 (.rep [] ((0 : UInt32) : UInt32))), .fact 100071 (.at 71 (.rep [] ((0 : Int) : Int))), .fact 100072 (.at 72 (.nilv)), .fact 100073 (.at 73 (.nilv)), .fact 100074 (.at 74 (.rep [] ((0 : UInt8) : UInt8))), .fact 100075 (.at 75 (.rep [] (false : Bool))), .fact 100076 (.at 76 (.rep [] ((0 : UInt32) : UInt32))), .fact 100083 (.at 83 (.rep [] x17.Stripe)), .fact 100084 (.at 84 (.ow [79] [80] 31 (x17.Blocks : List (List UInt8)))), .fact 100085 (.at 85 (.ow [81] [] 4 (x17.Dirty : List Bool))), .fact 100086 (.at 86 (.rep [] x17.Phase)), .fact 100087 (.at 87 (.rep [] x17.Deals)), .fact 100088 (.at 88 (.rep [] x17.Seq)), .fact 902004 (.cst (u1 4) (Fact.isv 24)), .fact 904008 (.cst (u2 8) (Fact.isv 49)), .fact 906010 (.cst (u3 10) (Fact.isv 70)), .fact 906012 (.cst (u3 12) (Fact.isv 82)), .fact 100010 (.obj 10 [(false, 1), (false, 1), (false, 1), (false, 1), (false, 1), (false, 1)]), .fact 100024 (.obj 24 [(false, 1), (false, 1), (false, 1), (false, 1), (false, 1), (false, 1)]), .fact 100045 (.obj 45 [(false, 1)]), .fact 100047 (.obj 47 [(false, 1)]), .fact 100049 (.obj 49 [(false, 1), (false, 1), (false, 1), (false, 1), (false, 1), (false, 1)]), .fact 100070 (.obj 70 [(false, 1), (false, 1), (false, 1), (false, 1), (false, 1), (false, 1)]), .fact 100082 (.obj 82 [(false, 1), (false, 1), (false, 1), (false, 1), (false, 1), (false, 1)])]) (FA := [Fact.isv 82, Fact.isv 45, Fact.isv 47]) rfl Try.func77 rfl rfl rfl (CallOk.valE en77 (Has.s rfl) (HasF.cons (Has.s rfl) HasF.nil)) (fun u3 => (ck (ck (ck (ck (ck (ck (ck (ck (ck (ck (ck (ck (ck (ck (ck (ck (ck (ck (ck (ck (ck (ck (ck (ck (ck (ck (ck (ck (ck (ck (ck (ck (ck (ck (cs 906000 10 (cs 906000 12 (ck (ck (ck (ck (ck (ck (ck Carry.nil)))))))))))))))))))))))))))))))))))))))))))) (fun u3 => ?_) ?_
       ·refine CWalk.seq ?_
        refine CWalk.region ?_
        refine wo (Spec.assign Has.int) ?_
        refine Walk.nil ?_
        refine Leaf.thenN ?_
        refine CWalk.seq ?_
        refine CWalk.seq ?_
        obtain ⟨x30, hx30, hm⟩ := bind_some hm
        obtain ⟨x31, hx31, hm⟩ := bind_some hm
        refine CWalk.drawM [[], [], [1], [1, 2], [1, 2, 3], [0, 1, 2, 3, 4], [0, 1, 2, 3, 4, 5], [0, 1, 2, 3, 4, 5, 6], [0, 1, 2, 3, 4, 5, 6, 7], [0, 1, 2, 3, 4, 5, 6, 7, 8], [0, 1, 2, 3, 4, 5, 6, 7, 8, 9], [0, 1, 2, 3, 4, 5, 6, 7, 8, 9, 10], [0, 1, 2, 3, 4, 5, 6, 7, 8, 9, 10, 11], [0, 1, 2, 3, 4, 5, 6, 7, 8, 9, 10, 11, 12], [0, 1, 2, 3, 4, 5, 6, 7, 8, 9, 10, 11, 12, 13], [0, 1, 2, 3, 4, 5, 6, 7, 8, 9, 10, 11, 12, 13, 14], [0, 1, 2, 3, 4, 5, 6, 7, 8, 9, 10, 11, 12, 13, 14, 15], [0, 1, 2, 3, 4, 5, 6, 7, 8, 9, 10, 11, 12, 13, 14, 15, 16], [0, 1, 2, 3, 4, 5, 6, 7, 8, 9, 10, 11, 12, 13, 14, 15, 16, 17]] [[.fact 5 (.rep [] ((4 : Int) : Int))], [.fact 6 (.isv 82)], [.fact 7 (.isv 82)], [.fact 8 (.pto 82 3)], [.fact 9 (.rep [] x17.Phase)], [.fact 10 (.rep [] (x30 : Bool))], [.fact 11 (.rep [] ((!x30) : Bool))], [.fact 12 (.rep [] ((!x30) : Bool))], [.fact 13 (.under ((!x30) = false) (.rep [] ((4 : Int) : Int)))], [.fact 14 (.under ((!x30) = false) (.rep [] (((4 : Int) == (0 : Int)) : Bool)))], [.fact 15 (.under ((!x30) = false) (.rep [] (((4 : Int) == (0 : Int)) : Bool)))], [.fact 16 (.under (((!x30) = false) ∧ (((4 : Int) == (0 : Int)) = true)) (.isv 82))], [.fact 17 (.under (((!x30) = false) ∧ (((4 : Int) == (0 : Int)) = true)) (.isv 82))], [.fact 18 (.under (((!x30) = false) ∧ (((4 : Int) == (0 : Int)) = true)) (.pto 82 2))], [.fact 19 (.under (((!x30) = false) ∧ (((4 : Int) == (0 : Int)) = true)) (.ow [81] [] 4 (x17.Dirty : List Bool)))], [.fact 20 (.under (((!x30) = false) ∧ (((4 : Int) == (0 : Int)) = true)) (.rep [] (x31 : Bool)))], [.fact 21 (.under (((!x30) = false) ∧ (((4 : Int) == (0 : Int)) = true)) (.rep [] ((!x31) : Bool)))], [.fact 22 (.under ((!x30) = false) (.rep [] ((((4 : Int) == (0 : Int)) && (!x31)) : Bool)))], [.fact 23 (.rep [] (((!x30) || (((4 : Int) == (0 : Int)) && (!x31))) : Bool))]] mixed (by kernel_rfl) (ao (so (Spec.loadF (i := 0) ty3 rfl (Has.cv (Has.s rfl) (Cv.isvP rfl)) rfl (HasG.s rfl))) (ao (so (Spec.move (Has.s rfl))) (ao (so (Spec.nilCheckI (Has.s rfl) rfl)) (ao (so (Spec.fieldAddrO fd28_3 (Has.cv (Has.s rfl) (Cv.isvP rfl)))) (ao (so (Spec.loadF (i := 3) ty5 rfl (Has.s rfl) rfl (HasG.s rfl))) (ao (so (Spec.callE [] 89 rfl en78 (head_may_c (4 : Int) x17.Phase hx30) (HasAll.cons (Has.fl (Has.s rfl)) (HasAll.cons (Has.fl (Has.s rfl)) HasAll.nil)))) (ao (so (Spec.not (Has.s rfl))) (ao (so (Spec.move (Has.s rfl))) (ao (StepG.opg rfl rfl rfl (fun hb => Spec.loadF (i := 0) ty3 rfl (Has.cv (Has.s rfl) (Cv.isvP rfl)) rfl (HasG.s rfl))) (ao (StepG.opg rfl rfl rfl (fun hb => Spec.eqlI (Has.u rfl hb) Has.int)) (ao (StepG.opg rfl rfl rfl (fun hb => Spec.move (Has.u rfl hb))) (ao (StepG.opgu rfl rfl rfl (fun hb => Spec.move (Has.s rfl))) (ao (StepG.opgu rfl rfl rfl (fun hb => Spec.nilCheckI (Has.u rfl hb) rfl)) (ao (StepG.opgu rfl rfl rfl (fun hb => Spec.fieldAddrO fd28_2 (Has.cv (Has.u rfl hb) (Cv.isvP rfl)))) (ao (StepG.opgu rfl rfl rfl (fun hb => Spec.loadF (i := 2) ty26 rfl (Has.u rfl hb) rfl (HasG.s rfl))) (ao (StepG.opgu rfl rfl rfl (fun hb => Spec.callE [81] 90 rfl en79 (slices_Contains_bool_bool_c x17.Dirty true (gO_t hx31 (and_t (not_t hb.1) hb.2))) (HasAll.cons (Has.m (Has.cv (Has.u rfl hb) (Cv.trans Cv.owSl (Cv.slRep (T' := [81]) rfl rfl))) rfl) (HasAll.cons (Has.fl Has.bool) HasAll.nil)))) (ao (StepG.opgu rfl rfl rfl (fun hb => Spec.not (Has.u rfl hb))) (ao (StepG.opg rfl rfl rfl (fun hb => Spec.and (Has.u rfl hb) (fun h => Has.u rfl ⟨hb, h⟩))) (ao (so (Spec.or (Has.s rfl) (fun h => Has.u rfl h))) AllM.nil))))))))))))))))))) ?_
        refine Leaf.thenN ?_
        refine CWalk.cond rfl (fun hb => ?_) (fun hb => ?_)
        ·have hm := cond_t hb hm
         refine CWalk.seq ?_
         refine CWalk.region ?_
         refine wo (Spec.assign Has.int) ?_
         refine Walk.nil ?_
         refine Leaf.thenN ?_
         refine CWalk.ret ?_
         refine Leaf.thenR ?_
         exact Leaf.in1 ((6 : Int), x17.Blocks, x17.Dirty, x17.Phase, x17.Seq) hm rfl rfl (HasR.cv (HasR.tmp (Has.s rfl)) Cv.fl) (ls 906010 (ls 906012 (Low.res (lc (lc (lf (lg (lg (lf (lf (lf (lf (Low.keepG (HasG.cv (HasG.s rfl) (Cv.owM (T := [79]) (te := [80]) rfl rfl)) (Low.keepG (HasG.cv (HasG.s rfl) (Cv.owF (T := [81]) (te := []) rfl)) (lf (lf (lf (lf (lg (lg (lf (lf (lf (lf (lg (lg (lf (lf (lf (lo (lo (lo (lo Low.nil)))))))))))))))))))))))))))))))))
        ·have hm := cond_f hb hm
         refine CWalk.skip ?_
         refine Leaf.thenN ?_
         refine CWalk.seq ?_
         refine CWalk.region ?_
         refine wo (Spec.loadF (α := Int) (i := 0) ty96 rfl (Has.cv (Has.s rfl) (Cv.isvP rfl)) rfl (HasG.s rfl)) ?_
         refine mv ?_
         refine Walk.inline (S := (List (List UInt8))) (fun p : (List (List UInt8)) => [.fact 26 (.top), .fact 902004 (.cst (u1 4) (Fact.isv 24)), .fact 904008 (.cst (u2 8) (Fact.isv 49)), .fact 906010 (.cst (u3 10) (Fact.isv 70)), .fact 906012 (.cst (u3 12) (Fact.isv 82)), .fact 100025 (.at 25 (.rep [] ((0 : Int) : Int))), .fact 100026 (.at 26 (.nilv)), .fact 100027 (.at 27 (.nilv)), .fact 100028 (.at 28 (.rep [] ((0 : UInt8) : UInt8))), .fact 100029 (.at 29 (.rep [] (false : Bool))), .fact 100030 (.at 30 (.rep [] ((0 : UInt32) : UInt32))), .fact 100050 (.at 50 (.rep [] ((0 : Int) : Int))), .fact 100051 (.at 51 (.nilv)), .fact 100052 (.at 52 (.nilv)), .fact 100053 (.at 53 (.rep [] ((0 : UInt8) : UInt8))), .fact 100054 (.at 54 (.rep [] (false : Bool))), .fact 100055 (.at 55 (.rep [] ((0 : UInt32) : UInt32))), .fact 100071 (.at 71 (.rep [] ((0 : Int) : Int))), .fact 100072 (.at 72 (.nilv)), .fact 100073 (.at 73 (.nilv)), .fact 100074 (.at 74 (.rep [] ((0 : UInt8) : UInt8))), .fact 100075 (.at 75 (.rep [] (false : Bool))), .fact 100076 (.at 76 (.rep [] ((0 : UInt32) : UInt32))), .fact 100083 (.at 83 (.rep [] x17.Stripe)), .fact 100084 (.at 84 (.isv 91)), .fact 100085 (.at 85 (.isv 92)), .fact 100086 (.at 86 (.rep [] ((0 : UInt8) : UInt8))), .fact 100087 (.at 87 (.rep [] x17.Deals)), .fact 100088 (.at 88 (.rep [] ((0 : UInt32) : UInt32))), .fact 100024 (.obj 24 [(false, 1), (false, 1), (false, 1), (false, 1), (false, 1), (false, 1)]), .fact 100049 (.obj 49 [(false, 1), (false, 1), (false, 1), (false, 1), (false, 1), (false, 1)]), .fact 100070 (.obj 70 [(false, 1), (false, 1), (false, 1), (false, 1), (false, 1), (false, 1)]), .fact 100082 (.obj 82 [(false, 1), (false, 1), (false, 1), (false, 1), (false, 1), (false, 1)]), .fact 100091 (.own 91 [80] 31 (p : List (List UInt8))), .fact 100092 (.own 92 [] 4 (List.replicate (x17.Dirty).length false : List Bool))]) (fun p : (List (List UInt8)) => head_Home_J5 x17 p = some r) (fun u4 => [.fact 100011 (.at 11 (.rep [] a0.Id)), .fact 100012 (.at 12 (.rep [] a0.Members)), .fact 100013 (.at 13 (.rep [] a0.Chunk)), .fact 100014 (.at 14 (.rep [] a0.Rows)), .fact 100015 (.at 15 (.rep [] a0.Log)), .fact 100016 (.at 16 (.rep [] a0.Heads)), .fact 100025 (.at 25 (.rep [] ((0 : Int) : Int))), .fact 100026 (.at 26 (.nilv)), .fact 100027 (.at 27 (.nilv)), .fact 100028 (.at 28 (.rep [] ((0 : UInt8) : UInt8))), .fact 100029 (.at 29 (.rep [] (false : Bool))), .fact 100030 (.at 30 (.rep [] ((0 : UInt32) : UInt32))), .fact 100050 (.at 50 (.rep [] ((0 : Int) : Int))), .fact 100051 (.at 51 (.nilv)), .fact 100052 (.at 52 (.nilv)), .fact 100053 (.at 53 (.rep [] ((0 : UInt8) : UInt8))), .fact 100054 (.at 54 (.rep [] (false : Bool))), .fact 100055 (.at 55 (.rep [] ((0 : UInt32) : UInt32))), .fact 100071 (.at 71 (.rep [] ((0 : Int) : Int))), .fact 100072 (.at 72 (.nilv)), .fact 100073 (.at 73 (.nilv)), .fact 100074 (.at 74 (.rep [] ((0 : UInt8) : UInt8))), .fact 100075 (.at 75 (.rep [] (false : Bool))), .fact 100076 (.at 76 (.rep [] ((0 : UInt32) : UInt32))), .fact 100083 (.at 83 (.rep [] x17.Stripe)), .fact 100084 (.at 84 (.ow [79] [80] 31 (x17.Blocks : List (List UInt8)))), .fact 100085 (.at 85 (.ow [81] [] 4 (x17.Dirty : List Bool))), .fact 100086 (.at 86 (.rep [] x17.Phase)), .fact 100087 (.at 87 (.rep [] x17.Deals)), .fact 100088 (.at 88 (.rep [] x17.Seq)), .fact 902004 (.cst (u1 4) (Fact.isv 24)), .fact 904008 (.cst (u2 8) (Fact.isv 49)), .fact 906010 (.cst (u3 10) (Fact.isv 70)), .fact 906012 (.cst (u3 12) (Fact.isv 82)), .fact 100010 (.obj 10 [(false, 1), (false, 1), (false, 1), (false, 1), (false, 1), (false, 1)]), .fact 100024 (.obj 24 [(false, 1), (false, 1), (false, 1), (false, 1), (false, 1), (false, 1)]), .fact 100049 (.obj 49 [(false, 1), (false, 1), (false, 1), (false, 1), (false, 1), (false, 1)]), .fact 100070 (.obj 70 [(false, 1), (false, 1), (false, 1), (false, 1), (false, 1), (false, 1)]), .fact 100082 (.obj 82 [(false, 1), (false, 1), (false, 1), (false, 1), (false, 1), (false, 1)])]) (FA := [Fact.isv 82, Fact.isv 10]) rfl Try.func71 rfl rfl rfl (CallOk.valE en71 (Has.s rfl) (HasF.cons (Has.s rfl) HasF.nil)) (fun u4 => (ck (ck (ck (ck (ck (ck (ck (ck (ck (ck (ck (ck (ck (ck (ck (ck (ck (ck (ck (ck (ck (ck (ck (ck (ck (ck (ck (ck (ck (ck (ck (ck (ck (ck (ck (ck (ck (ck (ck Carry.nil)))))))))))))))))))))))))))))))))))))))) (fun u4 => ?_) ?_
         ·refine CWalk.seq ?_
          refine CWalk.region ?_
          refine mv ?_
          refine mv ?_
          refine wo (Spec.nilCheckI (Has.s rfl) rfl) ?_
          refine wo (Spec.fieldAddrO fd28_3 (Has.cv (Has.s rfl) (Cv.isvP rfl))) ?_
          refine ws (Step.storeF (i := 3) (f := Fact.rep [] ((0 : UInt8) : UInt8)) rfl ty5 rfl (Has.s rfl) rfl (Has.u8 0 rfl) (Has.u8 0 rfl) rfl) ?_
          refine wo (Spec.nilCheckI (Has.s rfl) rfl) ?_
          refine wo (Spec.fieldAddrO fd28_5 (Has.cv (Has.s rfl) (Cv.isvP rfl))) ?_
          refine ws (Step.storeF (i := 5) (f := Fact.rep [] ((0 : UInt32) : UInt32)) rfl ty22 rfl (Has.s rfl) rfl (Has.u32 0 rfl) (Has.u32 0 rfl) rfl) ?_
          refine Walk.nil ?_
          refine Leaf.thenN ?_
          refine CWalk.seq ?_
          refine CWalk.ad (Ad.owF (i := 84) 91 rfl rfl rfl (ElT.tags rfl) rfl (Cv.owM (T := [79]) (te := [80]) (T' := [79]) (te' := [80]) rfl rfl)) ?_
          obtain ⟨x33, hx33, hm⟩ := bind_some hm
          refine CWalk.drawM [[], [0], [0, 1], [0, 1, 2], [], [4], [4, 5], [0, 1, 2, 3, 4, 5, 6], [0, 1, 2, 3, 4, 5, 6, 7]] [[.fact 9 (.isv 82)], [.fact 10 (.isv 82)], [.fact 11 (.pto 82 1)], [.fact 12 (.isv 91)], [.fact 13 (.pto 10 1)], [.fact 14 (.rep [] a0.Members)], [.fact 15 (.rep [] ((wI (a0.Members - (1 : Int))) : Int))], [.fact 16 (.pto 91 (x33 * Rp.n (List UInt8)))], [.fact 100091 (.own 91 [80] 31 ((x17.Blocks).set x33 ([] : List UInt8) : List (List UInt8))), .kill 91]] mixed (by kernel_rfl) (ao (so (Spec.move (Has.s rfl))) (ao (so (Spec.nilCheckI (Has.s rfl) rfl)) (ao (so (Spec.fieldAddrO fd28_1 (Has.cv (Has.s rfl) (Cv.isvP rfl)))) (ao (so (Spec.loadF (i := 1) ty25 rfl (Has.s rfl) rfl (HasG.s rfl))) (ao (so (Spec.fieldAddrO fd24_1 (Has.cv (Has.s rfl) (Cv.isvP rfl)))) (ao (so (Spec.loadF (i := 1) ty3 rfl (Has.s rfl) rfl (HasG.s rfl))) (ao (so (Spec.subI (Has.s rfl) Has.int)) (ao (so (Spec.idxOwn hx33 ow25 (Has.s rfl) rfl (Has.s rfl))) (ao (StepG.stE (Step.storeOwn (te' := [80]) rfl (bnd_lt hx33 rfl) ty31 (Has.s rfl) rfl (Has.nil UInt8) (ElKeep.tags rfl rfl) (ElKeep.tags rfl rfl))) AllM.nil))))))))) ?_
          refine Leaf.thenN ?_
          refine CWalk.ad (Ad.owF (i := 85) 92 rfl rfl rfl ElT.flat rfl (Cv.owF (T := [81]) (te := []) (T' := [81]) (te' := []) rfl)) ?_
          refine CWalk.region ?_
          refine mv ?_
          refine wo (Spec.nilCheckI (Has.s rfl) rfl) ?_
          refine wo (Spec.fieldAddrO fd28_2 (Has.cv (Has.s rfl) (Cv.isvP rfl))) ?_
          refine wo (Spec.loadF (i := 2) ty26 rfl (Has.s rfl) rfl (HasG.s rfl)) ?_
          refine ws (Step.clearOwn ow26 zt4 rfl (Has.s rfl) rfl) ?_
          refine Walk.nil ?_
          exact Leaf.inN (Leaf.in0 (f0 := Fact.top) ((x17.Blocks).set x33 ([] : List UInt8)) hm rfl rfl (fun _ _ => trivial) (Low.res (lc (lc (lc (lc (lf (lg (lg (lf (lf (lf (lf (lg (lg (lf (lf (lf (lf (lg (lg (lf (lf (lf (lf (lg (lg (lf (lf (lf (lo (lo (lo (lo (Low.keepR (fun _ _ _ _ h => h) (Has.ownM (Has.s rfl) rfl) (Low.keepR (fun _ _ _ _ h => h) (Has.ownM (Has.s rfl) rfl) Low.nil))))))))))))))))))))))))))))))))))))
         ·rintro j32 hm
          replace hm : head_Home_J5 x17 j32 = some r := hm
          unfold head_Home_J5 at hm
          show Walk _ _ _ [.fact 26 (.top), .fact 902004 (.cst (u1 4) (Fact.isv 24)), .fact 904008 (.cst (u2 8) (Fact.isv 49)), .fact 906010 (.cst (u3 10) (Fact.isv 70)), .fact 906012 (.cst (u3 12) (Fact.isv 82)), .fact 100025 (.at 25 (.rep [] ((0 : Int) : Int))), .fact 100026 (.at 26 (.nilv)), .fact 100027 (.at 27 (.nilv)), .fact 100028 (.at 28 (.rep [] ((0 : UInt8) : UInt8))), .fact 100029 (.at 29 (.rep [] (false : Bool))), .fact 100030 (.at 30 (.rep [] ((0 : UInt32) : UInt32))), .fact 100050 (.at 50 (.rep [] ((0 : Int) : Int))), .fact 100051 (.at 51 (.nilv)), .fact 100052 (.at 52 (.nilv)), .fact 100053 (.at 53 (.rep [] ((0 : UInt8) : UInt8))), .fact 100054 (.at 54 (.rep [] (false : Bool))), .fact 100055 (.at 55 (.rep [] ((0 : UInt32) : UInt32))), .fact 100071 (.at 71 (.rep [] ((0 : Int) : Int))), .fact 100072 (.at 72 (.nilv)), .fact 100073 (.at 73 (.nilv)), .fact 100074 (.at 74 (.rep [] ((0 : UInt8) : UInt8))), .fact 100075 (.at 75 (.rep [] (false : Bool))), .fact 100076 (.at 76 (.rep [] ((0 : UInt32) : UInt32))), .fact 100083 (.at 83 (.rep [] x17.Stripe)), .fact 100084 (.at 84 (.isv 91)), .fact 100085 (.at 85 (.isv 92)), .fact 100086 (.at 86 (.rep [] ((0 : UInt8) : UInt8))), .fact 100087 (.at 87 (.rep [] x17.Deals)), .fact 100088 (.at 88 (.rep [] ((0 : UInt32) : UInt32))), .fact 100024 (.obj 24 [(false, 1), (false, 1), (false, 1), (false, 1), (false, 1), (false, 1)]), .fact 100049 (.obj 49 [(false, 1), (false, 1), (false, 1), (false, 1), (false, 1), (false, 1)]), .fact 100070 (.obj 70 [(false, 1), (false, 1), (false, 1), (false, 1), (false, 1), (false, 1)]), .fact 100082 (.obj 82 [(false, 1), (false, 1), (false, 1), (false, 1), (false, 1), (false, 1)]), .fact 100091 (.own 91 [80] 31 (j32 : List (List UInt8))), .fact 100092 (.own 92 [] 4 (List.replicate (x17.Dirty).length false : List Bool))] _
          refine Walk.nil ?_
          refine Leaf.thenN ?_
          refine CWalk.seq ?_
          refine CWalk.region ?_
          refine wo (Spec.assign Has.int) ?_
          refine Walk.nil ?_
          refine Leaf.thenN ?_
          refine CWalk.ret ?_
          exact Leaf.in1 ((0 : Int), j32, List.replicate (x17.Dirty).length false, (0 : UInt8), (0 : UInt32)) hm rfl rfl (HasR.cv (HasR.tmp (Has.s rfl)) Cv.fl) (ls 906010 (ls 906012 (Low.res (lc (lc (lf (lg (lg (lf (lf (lf (lf (Low.keepG (HasG.cv (HasG.s rfl) (Cv.trans (Cv.isvOw rfl) (Cv.owM (T := [91]) (te := [80]) rfl rfl))) (Low.keepG (HasG.cv (HasG.s rfl) (Cv.trans (Cv.isvOw rfl) (Cv.owF (T := [92]) (te := []) rfl))) (lf (lf (lf (lf (lg (lg (lf (lf (lf (lf (lg (lg (lf (lf (lf (lo (lo (lo (lo Low.nil)))))))))))))))))))))))))))))))))
       ·rintro ⟨j25, j26, j27, j28, j29⟩ hm
        replace hm : head_Home_J4 x17 j25 j26 j27 j28 j29 = some r := hm
        unfold head_Home_J4 at hm
        show Walk _ _ _ [.fact 10 (.isv 70), .fact 12 (.isv 82), .fact 34 (.rep [] (j25 : Int)), .fact 902004 (.cst (u1 4) (Fact.isv 24)), .fact 904008 (.cst (u2 8) (Fact.isv 49)), .fact 100071 (.at 71 (.rep [] ((0 : Int) : Int))), .fact 100072 (.at 72 (.nilv)), .fact 100073 (.at 73 (.nilv)), .fact 100074 (.at 74 (.rep [] ((0 : UInt8) : UInt8))), .fact 100075 (.at 75 (.rep [] (false : Bool))), .fact 100076 (.at 76 (.rep [] ((0 : UInt32) : UInt32))), .fact 100083 (.at 83 (.rep [] x17.Stripe)), .fact 100084 (.at 84 (.ow [79, 91] [80] 31 (j26 : List (List UInt8)))), .fact 100085 (.at 85 (.ow [81, 92] [] 4 (j27 : List Bool))), .fact 100086 (.at 86 (.rep [] (j28 : UInt8))), .fact 100087 (.at 87 (.rep [] x17.Deals)), .fact 100088 (.at 88 (.rep [] (j29 : UInt32))), .fact 100025 (.at 25 (.rep [] ((0 : Int) : Int))), .fact 100026 (.at 26 (.nilv)), .fact 100027 (.at 27 (.nilv)), .fact 100028 (.at 28 (.rep [] ((0 : UInt8) : UInt8))), .fact 100029 (.at 29 (.rep [] (false : Bool))), .fact 100030 (.at 30 (.rep [] ((0 : UInt32) : UInt32))), .fact 100050 (.at 50 (.rep [] ((0 : Int) : Int))), .fact 100051 (.at 51 (.nilv)), .fact 100052 (.at 52 (.nilv)), .fact 100053 (.at 53 (.rep [] ((0 : UInt8) : UInt8))), .fact 100054 (.at 54 (.rep [] (false : Bool))), .fact 100055 (.at 55 (.rep [] ((0 : UInt32) : UInt32))), .fact 100070 (.obj 70 [(false, 1), (false, 1), (false, 1), (false, 1), (false, 1), (false, 1)]), .fact 100082 (.obj 82 [(false, 1), (false, 1), (false, 1), (false, 1), (false, 1), (false, 1)]), .fact 100024 (.obj 24 [(false, 1), (false, 1), (false, 1), (false, 1), (false, 1), (false, 1)]), .fact 100049 (.obj 49 [(false, 1), (false, 1), (false, 1), (false, 1), (false, 1), (false, 1)])] _
        refine wo (Spec.assign (Has.s rfl)) ?_
        refine Walk.nil ?_
        refine Leaf.thenN ?_
        refine CWalk.seq ?_
        refine CWalk.region ?_
        refine mv ?_
        refine wo (Spec.eqlI (Has.s rfl) Has.int) ?_
        refine Walk.nil ?_
        refine Leaf.thenN ?_
        refine CWalk.cond rfl (fun hb => ?_) (fun hb => ?_)
        ·have hm := cond_t hb hm
         refine CWalk.region ?_
         refine wo (Spec.loadObj (ls := [(false, 1, Fact.rep [] x17.Stripe), (false, 1, Fact.ow [79, 91] [80] 31 (j26 : List (List UInt8))), (false, 1, Fact.ow [81, 92] [] 4 (j27 : List Bool)), (false, 1, Fact.rep [] (j28 : UInt8)), (false, 1, Fact.rep [] x17.Deals), (false, 1, Fact.rep [] (j29 : UInt32))]) ty28 rfl rfl (Has.s rfl) rfl (HasGs.cons (HasG.s rfl) (HasGs.cons (HasG.s rfl) (HasGs.cons (HasG.s rfl) (HasGs.cons (HasG.s rfl) (HasGs.cons (HasG.s rfl) (HasGs.cons (HasG.s rfl) HasGs.nil))))))) ?_
         refine ws (Step.storeObj (ls := [(false, 1, Fact.rep [] x17.Stripe), (false, 1, Fact.ow [79, 91] [80] 31 (j26 : List (List UInt8))), (false, 1, Fact.ow [81, 92] [] 4 (j27 : List Bool)), (false, 1, Fact.rep [] (j28 : UInt8)), (false, 1, Fact.rep [] x17.Deals), (false, 1, Fact.rep [] (j29 : UInt32))]) rfl ty28 rfl rfl (Has.s rfl) rfl (HasL.flds (Has.s rfl)) rfl) ?_
         refine Walk.nil ?_
         exact Leaf.join (j25, x17.Stripe, j26, j27, j28, x17.Deals, j29) hm (sn (st (sc (sc (sf (Sub.cons (Has.at (HasG.cv (HasG.s rfl) (Cv.owM (T := [79, 91]) (te := [80]) rfl rfl))) (Sub.cons (Has.at (HasG.cv (HasG.s rfl) (Cv.owF (T := [81, 92]) (te := []) rfl))) (sf (sf (sf (sf (sg (sg (sf (sf (sf (sf (sg (sg (sf (sf (sf (sn (sn (sn Sub.nil)))))))))))))))))))))))))
        ·have hm := cond_f hb hm
         refine CWalk.skip ?_
         exact Leaf.join (j25, (0 : Int), ([] : List (List UInt8)), ([] : List Bool), (0 : UInt8), false, (0 : UInt32)) hm (sn (st (sc (sc (sf (Sub.cons (Has.at (HasG.cv (HasG.s rfl) (Cv.trans Cv.nilOw (Cv.owM (T := []) (te := []) rfl rfl)))) (Sub.cons (Has.at (HasG.cv (HasG.s rfl) (Cv.trans Cv.nilOw (Cv.owF (T := []) (te := []) rfl)))) (sf (sf (sf (sf (sg (sg (sf (sf (sf (sf (sg (sg (sf (sf (sf (sn (sn (sn Sub.nil)))))))))))))))))))))))))
  ·rintro ⟨j8, j9, j10, j11, j12, j13, j14⟩ hm
   replace hm : head_Home_J2 j8 j9 j10 j11 j12 j13 j14 = some r := hm
   unfold head_Home_J2 at hm
   show Walk _ _ _ [.fact 8 (.isv 49), .fact 13 (.tup2 (Fact.flds [(false, 1, Fact.rep [] (j8 : Int)), (false, 1, Fact.ow [79, 91] [80] 31 (j9 : List (List UInt8))), (false, 1, Fact.ow [81, 92] [] 4 (j10 : List Bool)), (false, 1, Fact.rep [] (j11 : UInt8)), (false, 1, Fact.rep [] (j12 : Bool)), (false, 1, Fact.rep [] (j13 : UInt32))]) (Fact.rep [] (j14 : Int))), .fact 902004 (.cst (u1 4) (Fact.isv 24)), .fact 100050 (.at 50 (.rep [] ((0 : Int) : Int))), .fact 100051 (.at 51 (.nilv)), .fact 100052 (.at 52 (.nilv)), .fact 100053 (.at 53 (.rep [] ((0 : UInt8) : UInt8))), .fact 100054 (.at 54 (.rep [] (false : Bool))), .fact 100055 (.at 55 (.rep [] ((0 : UInt32) : UInt32))), .fact 100025 (.at 25 (.rep [] ((0 : Int) : Int))), .fact 100026 (.at 26 (.nilv)), .fact 100027 (.at 27 (.nilv)), .fact 100028 (.at 28 (.rep [] ((0 : UInt8) : UInt8))), .fact 100029 (.at 29 (.rep [] (false : Bool))), .fact 100030 (.at 30 (.rep [] ((0 : UInt32) : UInt32))), .fact 100049 (.obj 49 [(false, 1), (false, 1), (false, 1), (false, 1), (false, 1), (false, 1)]), .fact 100024 (.obj 24 [(false, 1), (false, 1), (false, 1), (false, 1), (false, 1), (false, 1)])] _
   refine wo (Spec.ext0 (Has.s rfl)) ?_
   refine wo (Spec.ext1 (Has.s rfl)) ?_
   refine ws (Step.storeObj (ls := [(false, 1, Fact.rep [] (j8 : Int)), (false, 1, Fact.ow [79, 91] [80] 31 (j9 : List (List UInt8))), (false, 1, Fact.ow [81, 92] [] 4 (j10 : List Bool)), (false, 1, Fact.rep [] (j11 : UInt8)), (false, 1, Fact.rep [] (j12 : Bool)), (false, 1, Fact.rep [] (j13 : UInt32))]) rfl ty28 rfl rfl (Has.s rfl) rfl (HasL.flds (Has.s rfl)) rfl) ?_
   refine wo (Spec.assign (Has.s rfl)) ?_
   refine Walk.nil ?_
   refine Leaf.thenN ?_
   refine CWalk.ret ?_
   exact Leaf.in2 (j8, j9, j10, j11, j12, j13, j14) hm rfl rfl (HasR.cv (HasR.obj (ls := [(false, 1, Fact.rep [] (j8 : Int)), (false, 1, Fact.ow [79, 91] [80] 31 (j9 : List (List UInt8))), (false, 1, Fact.ow [81, 92] [] 4 (j10 : List Bool)), (false, 1, Fact.rep [] (j11 : UInt8)), (false, 1, Fact.rep [] (j12 : Bool)), (false, 1, Fact.rep [] (j13 : UInt32))]) ty28 rfl rfl (Has.s rfl) rfl (HasGs.cons (HasG.s rfl) (HasGs.cons (HasG.s rfl) (HasGs.cons (HasG.s rfl) (HasGs.cons (HasG.s rfl) (HasGs.cons (HasG.s rfl) (HasGs.cons (HasG.s rfl) HasGs.nil))))))) (Cv.flds (CvL.cons Cv.fl (CvL.cons (Cv.owM (T := [79, 91]) (te := [80]) rfl rfl) (CvL.cons (Cv.owF (T := [81, 92]) (te := []) rfl) (CvL.cons Cv.fl (CvL.cons Cv.fl (CvL.cons Cv.fl CvL.nil)))))))) (HasR.cv (HasR.tmp (Has.s rfl)) Cv.fl) (ls 902004 (Low.res (lf (lg (lg (lf (lf (lf (lo Low.nil)))))))))
 ·rintro ⟨j1, j2, j3, j4, j5, j6, j7⟩ hm
  replace hm : head_Home_J1 j1 j2 j3 j4 j5 j6 j7 = some r := hm
  unfold head_Home_J1 at hm
  show Walk _ _ _ [.fact 4 (.isv 24), .fact 9 (.tup2 (Fact.flds [(false, 1, Fact.rep [] (j1 : Int)), (false, 1, Fact.ow [79, 91] [80] 31 (j2 : List (List UInt8))), (false, 1, Fact.ow [81, 92] [] 4 (j3 : List Bool)), (false, 1, Fact.rep [] (j4 : UInt8)), (false, 1, Fact.rep [] (j5 : Bool)), (false, 1, Fact.rep [] (j6 : UInt32))]) (Fact.rep [] (j7 : Int))), .fact 100025 (.at 25 (.rep [] ((0 : Int) : Int))), .fact 100026 (.at 26 (.nilv)), .fact 100027 (.at 27 (.nilv)), .fact 100028 (.at 28 (.rep [] ((0 : UInt8) : UInt8))), .fact 100029 (.at 29 (.rep [] (false : Bool))), .fact 100030 (.at 30 (.rep [] ((0 : UInt32) : UInt32))), .fact 100024 (.obj 24 [(false, 1), (false, 1), (false, 1), (false, 1), (false, 1), (false, 1)])] _
  refine wo (Spec.ext0 (Has.s rfl)) ?_
  refine wo (Spec.ext1 (Has.s rfl)) ?_
  refine ws (Step.storeObj (ls := [(false, 1, Fact.rep [] (j1 : Int)), (false, 1, Fact.ow [79, 91] [80] 31 (j2 : List (List UInt8))), (false, 1, Fact.ow [81, 92] [] 4 (j3 : List Bool)), (false, 1, Fact.rep [] (j4 : UInt8)), (false, 1, Fact.rep [] (j5 : Bool)), (false, 1, Fact.rep [] (j6 : UInt32))]) rfl ty28 rfl rfl (Has.s rfl) rfl (HasL.flds (Has.s rfl)) rfl) ?_
  refine wo (Spec.assign (Has.s rfl)) ?_
  refine Walk.nil ?_
  refine Leaf.thenN ?_
  refine CWalk.ret ?_
  obtain rfl := Option.some.inj hm
  exact Leaf.retC2 rfl (HasR.cv (HasR.obj (ls := [(false, 1, Fact.rep [] (j1 : Int)), (false, 1, Fact.ow [79, 91] [80] 31 (j2 : List (List UInt8))), (false, 1, Fact.ow [81, 92] [] 4 (j3 : List Bool)), (false, 1, Fact.rep [] (j4 : UInt8)), (false, 1, Fact.rep [] (j5 : Bool)), (false, 1, Fact.rep [] (j6 : UInt32))]) ty28 rfl rfl (Has.s rfl) rfl (HasGs.cons (HasG.s rfl) (HasGs.cons (HasG.s rfl) (HasGs.cons (HasG.s rfl) (HasGs.cons (HasG.s rfl) (HasGs.cons (HasG.s rfl) (HasGs.cons (HasG.s rfl) HasGs.nil))))))) (Cv.flds (CvL.cons Cv.fl (CvL.cons (Cv.owM (T := [79, 91]) (te := [80]) rfl rfl) (CvL.cons (Cv.owF (T := [81, 92]) (te := []) rfl) (CvL.cons Cv.fl (CvL.cons Cv.fl (CvL.cons Cv.fl CvL.nil)))))))) (HasR.cv (HasR.tmp (Has.s rfl)) Cv.fl)

/-- freeboard/freeboardlaw16.alike -/
def law16_alike (a0 : Config) (a1 : Head) (a2 : Int) (a3 : List UInt8) (a4 : Bool) : Option (Bool) :=
  Option.bind (head_Tell a0 a1 a2) (fun x1 => Option.bind (gO ((((x1.2.2 == (0 : Int)) && (x1.2.1 == a4)) && ((Str.mk x1.1).s == (Str.mk a3).s))) (head_Check a0 a1)) (fun x2 => some ((((x1.2.2 == (0 : Int)) && (x1.2.1 == a4)) && ((Str.mk x1.1).s == (Str.mk a3).s)) && (x2 == (0 : Int)))))
set_option maxRecDepth 100000 in
set_option maxHeartbeats 2000000 in
theorem law16_alike_c (a0 : Config) (a1 : Head) (a2 : Int) (a3 : List UInt8) (a4 : Bool) {r : Bool} (hm : law16_alike a0 a1 a2 a3 a4 = some r) : Ctr Try.prog 39 [.rep 0 a0, .rep 0 a1, .rep 0 a2, .rep 0 a3, .rep 0 a4] (.fl r) [] := by
 refine ctr_of_walk [[]] 42 Try.func39 rfl rfl rfl rfl (fun w0 om => ?_)
 unfold law16_alike at hm
 refine CWalk.sub (G' := [.fact 0 (.rep [] (a0 : Config)), .fact 1 (.rep [0] (a1 : Head)), .fact 2 (.rep [] (a2 : Int)), .fact 3 (.rep [0] (a3 : List UInt8)), .fact 4 (.rep [] (a4 : Bool))]) (Sub.cons (Has.fl (Has.s rfl)) (sn (Sub.cons (Has.fl (Has.s rfl)) (sn (Sub.cons (Has.fl (Has.s rfl)) Sub.nil))))) ?_
 refine CWalk.seq ?_
 refine CWalk.region ?_
 refine ws (Step.boxObj (ls := [(false, 1, Fact.rep [] a0.Id), (false, 1, Fact.rep [] a0.Members), (false, 1, Fact.rep [] a0.Chunk), (false, 1, Fact.rep [] a0.Rows), (false, 1, Fact.rep [] a0.Log), (false, 1, Fact.rep [] a0.Heads)]) 10 rfl rfl rfl rfl (HasL.flds (Has.cv (Has.s rfl) (Cv.trans (Cv.opens (chConfig a0)) (Cv.flds (CvL.cons Cv.fl (CvL.cons Cv.fl (CvL.cons Cv.fl (CvL.cons Cv.fl (CvL.cons Cv.fl (CvL.cons Cv.fl CvL.nil))))))))))) ?_
 refine ws (Step.boxObj (ls := [(false, 1, Fact.rep [] a1.Stripe), (false, 1, Fact.rep [0] a1.Blocks), (false, 1, Fact.rep [0] a1.Dirty), (false, 1, Fact.rep [] a1.Phase), (false, 1, Fact.rep [] a1.Deals), (false, 1, Fact.rep [] a1.Seq)]) 17 rfl rfl rfl rfl (HasL.flds (Has.cv (Has.s rfl) (Cv.trans (Cv.opens (chHead a1)) (Cv.flds (CvL.cons Cv.fl (CvL.cons Cv.refl (CvL.cons Cv.refl (CvL.cons Cv.fl (CvL.cons Cv.fl (CvL.cons Cv.fl CvL.nil))))))))))) ?_
 refine wo (Spec.assign Has.bool) ?_
 refine Walk.nil ?_
 refine Leaf.thenN ?_
 refine CWalk.seq ?_
 refine CWalk.region ?_
 refine wo (Spec.loadObj (ls := [(false, 1, Fact.rep [] a0.Id), (false, 1, Fact.rep [] a0.Members), (false, 1, Fact.rep [] a0.Chunk), (false, 1, Fact.rep [] a0.Rows), (false, 1, Fact.rep [] a0.Log), (false, 1, Fact.rep [] a0.Heads)]) ty24 rfl rfl (Has.s rfl) rfl (HasGs.cons (HasG.s rfl) (HasGs.cons (HasG.s rfl) (HasGs.cons (HasG.s rfl) (HasGs.cons (HasG.s rfl) (HasGs.cons (HasG.s rfl) (HasGs.cons (HasG.s rfl) HasGs.nil))))))) ?_
 refine wo (Spec.loadObj (ls := [(false, 1, Fact.rep [] a1.Stripe), (false, 1, Fact.rep [0] a1.Blocks), (false, 1, Fact.rep [0] a1.Dirty), (false, 1, Fact.rep [] a1.Phase), (false, 1, Fact.rep [] a1.Deals), (false, 1, Fact.rep [] a1.Seq)]) ty28 rfl rfl (Has.s rfl) rfl (HasGs.cons (HasG.s rfl) (HasGs.cons (HasG.s rfl) (HasGs.cons (HasG.s rfl) (HasGs.cons (HasG.s rfl) (HasGs.cons (HasG.s rfl) (HasGs.cons (HasG.s rfl) HasGs.nil))))))) ?_
 refine mv ?_
 obtain ⟨x1, hx1, hm⟩ := bind_some hm
 refine wo (f := Fact.tup3 (Fact.ow [24] [] 5 (x1.1 : List UInt8)) (Fact.rep [] x1.2.1) (Fact.rep [] x1.2.2)) (Spec.callE [0] 24 rfl en11 (head_Tell_c a0 a1 a2 hx1) (HasAll.cons (Has.fl (Has.cv (Has.s rfl) (Cv.trans (Cv.flds (CvL.cons Cv.fl (CvL.cons Cv.fl (CvL.cons Cv.fl (CvL.cons Cv.fl (CvL.cons Cv.fl (CvL.cons Cv.fl CvL.nil))))))) (Cv.close (T := []) (chConfig a0))))) (HasAll.cons (Has.m (Has.cv (Has.s rfl) (Cv.trans (Cv.flds (CvL.cons Cv.fl (CvL.cons (Cv.m rfl) (CvL.cons (Cv.m rfl) (CvL.cons Cv.fl (CvL.cons Cv.fl (CvL.cons Cv.fl CvL.nil))))))) (Cv.close (T := [0]) (chHead a1)))) rfl) (HasAll.cons (Has.fl (Has.s rfl)) HasAll.nil)))) ?_
 refine mv ?_
 refine wo (Spec.ext0_3 (Has.s rfl)) ?_
 refine wo (Spec.ext1_3 (Has.s rfl)) ?_
 refine wo (Spec.ext2_3 (Has.s rfl)) ?_
 refine wo (Spec.assign (Has.s rfl)) ?_
 refine wo (Spec.assign (Has.s rfl)) ?_
 refine wo (Spec.assign (Has.s rfl)) ?_
 refine Walk.nil ?_
 refine Leaf.thenN ?_
 refine CWalk.seq ?_
 refine CWalk.region ?_
 refine mv ?_
 refine wo (Spec.eqlI (Has.s rfl) Has.int) ?_
 refine mv ?_
 refine wg rfl rfl (fun hb => Spec.move (Has.s rfl)) ?_
 refine wg rfl rfl (fun hb => Spec.move (Has.s rfl)) ?_
 refine wg rfl rfl (fun hb => Spec.eqlT (Has.u rfl hb) (Has.u rfl hb) Try.underlying4) ?_
 refine wo (Spec.and (Has.s rfl) (fun h => Has.u rfl h)) ?_
 refine mv ?_
 refine wg rfl rfl (fun hb => Spec.move (Has.s rfl)) ?_
 refine wg rfl rfl (fun hb => Spec.toStr Try.underlying31 Try.underlying5 Try.underlying9 (Has.cv (Has.u rfl hb) (Cv.trans Cv.owSl (Cv.slRep (T' := [24]) rfl rfl)))) ?_
 refine wg rfl rfl (fun hb => Spec.move (Has.s rfl)) ?_
 refine wg rfl rfl (fun hb => Spec.toStr Try.underlying31 Try.underlying5 Try.underlying9 (Has.u rfl hb)) ?_
 refine wg rfl rfl (fun hb => Spec.eqlS (Has.u rfl hb) (Has.u rfl hb)) ?_
 refine wo (Spec.and (Has.s rfl) (fun h => Has.u rfl h)) ?_
 refine mv ?_
 refine wg rfl rfl (fun hb => Spec.loadObj (ls := [(false, 1, Fact.rep [] a0.Id), (false, 1, Fact.rep [] a0.Members), (false, 1, Fact.rep [] a0.Chunk), (false, 1, Fact.rep [] a0.Rows), (false, 1, Fact.rep [] a0.Log), (false, 1, Fact.rep [] a0.Heads)]) ty24 rfl rfl (Has.s rfl) rfl (HasGs.cons (HasG.s rfl) (HasGs.cons (HasG.s rfl) (HasGs.cons (HasG.s rfl) (HasGs.cons (HasG.s rfl) (HasGs.cons (HasG.s rfl) (HasGs.cons (HasG.s rfl) HasGs.nil))))))) ?_
 refine wg rfl rfl (fun hb => Spec.loadObj (ls := [(false, 1, Fact.rep [] a1.Stripe), (false, 1, Fact.rep [0] a1.Blocks), (false, 1, Fact.rep [0] a1.Dirty), (false, 1, Fact.rep [] a1.Phase), (false, 1, Fact.rep [] a1.Deals), (false, 1, Fact.rep [] a1.Seq)]) ty28 rfl rfl (Has.s rfl) rfl (HasGs.cons (HasG.s rfl) (HasGs.cons (HasG.s rfl) (HasGs.cons (HasG.s rfl) (HasGs.cons (HasG.s rfl) (HasGs.cons (HasG.s rfl) (HasGs.cons (HasG.s rfl) HasGs.nil))))))) ?_
 obtain ⟨x2, hx2, hm⟩ := bind_some hm
 refine wg (f := Fact.rep [] (x2 : Int)) rfl rfl (fun hb => Spec.callE [0] 25 rfl en24 (head_Check_c a0 a1 (gO_t hx2 hb)) (HasAll.cons (Has.fl (Has.cv (Has.u rfl hb) (Cv.trans (Cv.flds (CvL.cons Cv.fl (CvL.cons Cv.fl (CvL.cons Cv.fl (CvL.cons Cv.fl (CvL.cons Cv.fl (CvL.cons Cv.fl CvL.nil))))))) (Cv.close (T := []) (chConfig a0))))) (HasAll.cons (Has.m (Has.cv (Has.u rfl hb) (Cv.trans (Cv.flds (CvL.cons Cv.fl (CvL.cons (Cv.m rfl) (CvL.cons (Cv.m rfl) (CvL.cons Cv.fl (CvL.cons Cv.fl (CvL.cons Cv.fl CvL.nil))))))) (Cv.close (T := [0]) (chHead a1)))) rfl) HasAll.nil))) ?_
 refine wg rfl rfl (fun hb => Spec.eqlI (Has.u rfl hb) Has.int) ?_
 refine wo (Spec.and (Has.s rfl) (fun h => Has.u rfl h)) ?_
 refine wo (Spec.assign (Has.s rfl)) ?_
 refine Walk.nil ?_
 refine Leaf.thenN ?_
 refine CWalk.ret ?_
 obtain rfl := Option.some.inj hm
 exact Leaf.retC1 rfl (HasR.cv (HasR.tmp (Has.s rfl)) Cv.fl)

/-- freeboard/freeboardlaw16.HeadApart -/
def law16_HeadApart (a0 : Config) (a1 : Head) (a2 : Int) (a3 : Int) (a4 : List UInt8) : Option (Bool) :=
  Option.bind (law16_alive) (fun x1 => Option.bind (ref16_Great a1) (fun x2 => (bif ((x2 || (decide (((a4).length : Int) > (1000 : Int)))) || (!x1)) then some x1 else Option.bind (head_Tell a0 a1 a3) (fun x3 => (bif (x3.2.2 != (0 : Int)) then some true else Option.bind (head_Take a0 a1 a2 a4) (fun x4 => Option.bind (head_Know a0 a1 a2 a4) (fun x5 => Option.bind (head_Make a0 a1 a4) (fun x6 => Option.bind (head_Log a0 a1 (7 : UInt32)) (fun x7 => Option.bind (head_Lay a0 a1) (fun x8 => Option.bind (head_Home a0 a1) (fun x9 => Option.bind (gO (!((x4.2 != (0 : Int)) || (a2 == a3))) (law16_alike a0 x4.1 a3 x3.1 x3.2.1)) (fun x10 => Option.bind (gO (((((x4.2 != (0 : Int)) || (a2 == a3)) || x10)) && (!((x5.2 != (0 : Int)) || (a2 == a3)))) (law16_alike a0 x5.1 a3 x3.1 x3.2.1)) (fun x11 => Option.bind (gO ((((((x4.2 != (0 : Int)) || (a2 == a3)) || x10) && (((x5.2 != (0 : Int)) || (a2 == a3)) || x11))) && (!(x6.2 != (0 : Int)))) (law16_alike a0 x6.1 a3 x3.1 x3.2.1)) (fun x12 => Option.bind (gO (((((((x4.2 != (0 : Int)) || (a2 == a3)) || x10) && (((x5.2 != (0 : Int)) || (a2 == a3)) || x11)) && ((x6.2 != (0 : Int)) || x12))) && (!(x7.2 != (0 : Int)))) (law16_alike a0 x7.1 a3 x3.1 x3.2.1)) (fun x13 => Option.bind (gO ((((((((x4.2 != (0 : Int)) || (a2 == a3)) || x10) && (((x5.2 != (0 : Int)) || (a2 == a3)) || x11)) && ((x6.2 != (0 : Int)) || x12)) && ((x7.2 != (0 : Int)) || x13))) && (!(x8.2 != (0 : Int)))) (law16_alike a0 x8.1 a3 x3.1 x3.2.1)) (fun x14 => Option.bind (gO (((((((((x4.2 != (0 : Int)) || (a2 == a3)) || x10) && (((x5.2 != (0 : Int)) || (a2 == a3)) || x11)) && ((x6.2 != (0 : Int)) || x12)) && ((x7.2 != (0 : Int)) || x13)) && ((x8.2 != (0 : Int)) || x14))) && (!(x9.2 != (0 : Int)))) (law16_alike a0 x9.1 a3 x3.1 x3.2.1)) (fun x15 => some ((((((((x4.2 != (0 : Int)) || (a2 == a3)) || x10) && (((x5.2 != (0 : Int)) || (a2 == a3)) || x11)) && ((x6.2 != (0 : Int)) || x12)) && ((x7.2 != (0 : Int)) || x13)) && ((x8.2 != (0 : Int)) || x14)) && ((x9.2 != (0 : Int)) || x15)))))))))))))))))))
set_option maxRecDepth 100000 in
set_option maxHeartbeats 2000000 in
theorem law16_HeadApart_c (a0 : Config) (a1 : Head) (a2 : Int) (a3 : Int) (a4 : List UInt8) {r : Bool} (hm : law16_HeadApart a0 a1 a2 a3 a4 = some r) : Ctr Try.prog 6 [.rep 0 a0, .rep 0 a1, .rep 0 a2, .rep 0 a3, .rep 0 a4] (.fl r) [] := by
 refine ctr_of_walk [[]] 173 Try.func6 rfl rfl rfl rfl (fun w0 om => ?_)
 unfold law16_HeadApart at hm
 refine CWalk.sub (G' := [.fact 0 (.rep [] (a0 : Config)), .fact 1 (.rep [0] (a1 : Head)), .fact 2 (.rep [] (a2 : Int)), .fact 3 (.rep [] (a3 : Int)), .fact 4 (.rep [0] (a4 : List UInt8))]) (Sub.cons (Has.fl (Has.s rfl)) (sn (Sub.cons (Has.fl (Has.s rfl)) (Sub.cons (Has.fl (Has.s rfl)) (sn Sub.nil))))) ?_
 refine CWalk.seq ?_
 refine CWalk.region ?_
 refine ws (Step.boxObj (ls := [(false, 1, Fact.rep [] a0.Id), (false, 1, Fact.rep [] a0.Members), (false, 1, Fact.rep [] a0.Chunk), (false, 1, Fact.rep [] a0.Rows), (false, 1, Fact.rep [] a0.Log), (false, 1, Fact.rep [] a0.Heads)]) 10 rfl rfl rfl rfl (HasL.flds (Has.cv (Has.s rfl) (Cv.trans (Cv.opens (chConfig a0)) (Cv.flds (CvL.cons Cv.fl (CvL.cons Cv.fl (CvL.cons Cv.fl (CvL.cons Cv.fl (CvL.cons Cv.fl (CvL.cons Cv.fl CvL.nil))))))))))) ?_
 refine ws (Step.boxObj (ls := [(false, 1, Fact.rep [] a1.Stripe), (false, 1, Fact.rep [0] a1.Blocks), (false, 1, Fact.rep [0] a1.Dirty), (false, 1, Fact.rep [] a1.Phase), (false, 1, Fact.rep [] a1.Deals), (false, 1, Fact.rep [] a1.Seq)]) 17 rfl rfl rfl rfl (HasL.flds (Has.cv (Has.s rfl) (Cv.trans (Cv.opens (chHead a1)) (Cv.flds (CvL.cons Cv.fl (CvL.cons Cv.refl (CvL.cons Cv.refl (CvL.cons Cv.fl (CvL.cons Cv.fl (CvL.cons Cv.fl CvL.nil))))))))))) ?_
 refine wo (Spec.assign Has.bool) ?_
 refine Walk.nil ?_
 refine Leaf.thenN ?_
 refine CWalk.seq ?_
 refine CWalk.region ?_
 obtain ⟨x1, hx1, hm⟩ := bind_some hm
 refine wo (f := Fact.rep [] (x1 : Bool)) (Spec.callE [] 24 rfl en38 (law16_alive_c  hx1) HasAll.nil) ?_
 refine wo (Spec.assign (Has.s rfl)) ?_
 refine Walk.nil ?_
 refine Leaf.thenN ?_
 refine CWalk.seq ?_
 refine CWalk.seq ?_
 refine CWalk.region ?_
 refine wo (Spec.loadObj (ls := [(false, 1, Fact.rep [] a1.Stripe), (false, 1, Fact.rep [0] a1.Blocks), (false, 1, Fact.rep [0] a1.Dirty), (false, 1, Fact.rep [] a1.Phase), (false, 1, Fact.rep [] a1.Deals), (false, 1, Fact.rep [] a1.Seq)]) ty28 rfl rfl (Has.s rfl) rfl (HasGs.cons (HasG.s rfl) (HasGs.cons (HasG.s rfl) (HasGs.cons (HasG.s rfl) (HasGs.cons (HasG.s rfl) (HasGs.cons (HasG.s rfl) (HasGs.cons (HasG.s rfl) HasGs.nil))))))) ?_
 obtain ⟨x2, hx2, hm⟩ := bind_some hm
 refine wo (f := Fact.rep [] (x2 : Bool)) (Spec.callE [0] 25 rfl en9 (ref16_Great_c a1 hx2) (HasAll.cons (Has.m (Has.cv (Has.s rfl) (Cv.trans (Cv.flds (CvL.cons Cv.fl (CvL.cons (Cv.m rfl) (CvL.cons (Cv.m rfl) (CvL.cons Cv.fl (CvL.cons Cv.fl (CvL.cons Cv.fl CvL.nil))))))) (Cv.close (T := [0]) (chHead a1)))) rfl) HasAll.nil)) ?_
 refine mv ?_
 refine wg rfl rfl (fun hb => Spec.move (Has.s rfl)) ?_
 refine wg rfl rfl (fun hb => Spec.len (Has.u rfl hb) Try.underlying31) ?_
 refine wg rfl rfl (fun hb => Spec.gtrI (Has.u rfl hb) Has.int) ?_
 refine wo (Spec.or (Has.s rfl) (fun h => Has.u rfl h)) ?_
 refine mv ?_
 refine wg rfl rfl (fun hb => Spec.move (Has.s rfl)) ?_
 refine wg rfl rfl (fun hb => Spec.not (Has.u rfl hb)) ?_
 refine wo (Spec.or (Has.s rfl) (fun h => Has.u rfl h)) ?_
 refine Walk.nil ?_
 refine Leaf.thenN ?_
 refine CWalk.cond rfl (fun hb => ?_) (fun hb => ?_)
 ·have hm := cond_t hb hm
  refine CWalk.seq ?_
  refine CWalk.region ?_
  refine mv ?_
  refine wo (Spec.assign (Has.s rfl)) ?_
  refine Walk.nil ?_
  refine Leaf.thenN ?_
  refine CWalk.ret ?_
  refine Leaf.thenR ?_
  obtain rfl := Option.some.inj hm
  exact Leaf.retC1 rfl (HasR.cv (HasR.tmp (Has.s rfl)) Cv.fl)
 ·have hm := cond_f hb hm
  refine CWalk.skip ?_
  refine Leaf.thenN ?_
  refine CWalk.seq ?_
  refine CWalk.region ?_
  refine wo (Spec.loadObj (ls := [(false, 1, Fact.rep [] a0.Id), (false, 1, Fact.rep [] a0.Members), (false, 1, Fact.rep [] a0.Chunk), (false, 1, Fact.rep [] a0.Rows), (false, 1, Fact.rep [] a0.Log), (false, 1, Fact.rep [] a0.Heads)]) ty24 rfl rfl (Has.s rfl) rfl (HasGs.cons (HasG.s rfl) (HasGs.cons (HasG.s rfl) (HasGs.cons (HasG.s rfl) (HasGs.cons (HasG.s rfl) (HasGs.cons (HasG.s rfl) (HasGs.cons (HasG.s rfl) HasGs.nil))))))) ?_
  refine wo (Spec.loadObj (ls := [(false, 1, Fact.rep [] a1.Stripe), (false, 1, Fact.rep [0] a1.Blocks), (false, 1, Fact.rep [0] a1.Dirty), (false, 1, Fact.rep [] a1.Phase), (false, 1, Fact.rep [] a1.Deals), (false, 1, Fact.rep [] a1.Seq)]) ty28 rfl rfl (Has.s rfl) rfl (HasGs.cons (HasG.s rfl) (HasGs.cons (HasG.s rfl) (HasGs.cons (HasG.s rfl) (HasGs.cons (HasG.s rfl) (HasGs.cons (HasG.s rfl) (HasGs.cons (HasG.s rfl) HasGs.nil))))))) ?_
  refine mv ?_
  obtain ⟨x3, hx3, hm⟩ := bind_some hm
  refine wo (f := Fact.tup3 (Fact.ow [26] [] 5 (x3.1 : List UInt8)) (Fact.rep [] x3.2.1) (Fact.rep [] x3.2.2)) (Spec.callE [0] 26 rfl en11 (head_Tell_c a0 a1 a3 hx3) (HasAll.cons (Has.fl (Has.cv (Has.s rfl) (Cv.trans (Cv.flds (CvL.cons Cv.fl (CvL.cons Cv.fl (CvL.cons Cv.fl (CvL.cons Cv.fl (CvL.cons Cv.fl (CvL.cons Cv.fl CvL.nil))))))) (Cv.close (T := []) (chConfig a0))))) (HasAll.cons (Has.m (Has.cv (Has.s rfl) (Cv.trans (Cv.flds (CvL.cons Cv.fl (CvL.cons (Cv.m rfl) (CvL.cons (Cv.m rfl) (CvL.cons Cv.fl (CvL.cons Cv.fl (CvL.cons Cv.fl CvL.nil))))))) (Cv.close (T := [0]) (chHead a1)))) rfl) (HasAll.cons (Has.fl (Has.s rfl)) HasAll.nil)))) ?_
  refine mv ?_
  refine wo (Spec.ext0_3 (Has.s rfl)) ?_
  refine wo (Spec.ext1_3 (Has.s rfl)) ?_
  refine wo (Spec.ext2_3 (Has.s rfl)) ?_
  refine wo (Spec.assign (Has.s rfl)) ?_
  refine wo (Spec.assign (Has.s rfl)) ?_
  refine wo (Spec.assign (Has.s rfl)) ?_
  refine Walk.nil ?_
  refine Leaf.thenN ?_
  refine CWalk.seq ?_
  refine CWalk.seq ?_
  refine CWalk.region ?_
  refine mv ?_
  refine wo (Spec.neqI (Has.s rfl) Has.int) ?_
  refine Walk.nil ?_
  refine Leaf.thenN ?_
  refine CWalk.cond rfl (fun hb => ?_) (fun hb => ?_)
  ·have hm := cond_t hb hm
   refine CWalk.seq ?_
   refine CWalk.region ?_
   refine wo (Spec.assign Has.bool) ?_
   refine Walk.nil ?_
   refine Leaf.thenN ?_
   refine CWalk.ret ?_
   refine Leaf.thenR ?_
   obtain rfl := Option.some.inj hm
   exact Leaf.retC1 rfl (HasR.cv (HasR.tmp (Has.s rfl)) Cv.fl)
  ·have hm := cond_f hb hm
   refine CWalk.skip ?_
   refine Leaf.thenN ?_
   refine CWalk.seq ?_
   refine CWalk.region ?_
   refine wo (Spec.loadObj (ls := [(false, 1, Fact.rep [] a0.Id), (false, 1, Fact.rep [] a0.Members), (false, 1, Fact.rep [] a0.Chunk), (false, 1, Fact.rep [] a0.Rows), (false, 1, Fact.rep [] a0.Log), (false, 1, Fact.rep [] a0.Heads)]) ty24 rfl rfl (Has.s rfl) rfl (HasGs.cons (HasG.s rfl) (HasGs.cons (HasG.s rfl) (HasGs.cons (HasG.s rfl) (HasGs.cons (HasG.s rfl) (HasGs.cons (HasG.s rfl) (HasGs.cons (HasG.s rfl) HasGs.nil))))))) ?_
   refine wo (Spec.loadObj (ls := [(false, 1, Fact.rep [] a1.Stripe), (false, 1, Fact.rep [0] a1.Blocks), (false, 1, Fact.rep [0] a1.Dirty), (false, 1, Fact.rep [] a1.Phase), (false, 1, Fact.rep [] a1.Deals), (false, 1, Fact.rep [] a1.Seq)]) ty28 rfl rfl (Has.s rfl) rfl (HasGs.cons (HasG.s rfl) (HasGs.cons (HasG.s rfl) (HasGs.cons (HasG.s rfl) (HasGs.cons (HasG.s rfl) (HasGs.cons (HasG.s rfl) (HasGs.cons (HasG.s rfl) HasGs.nil))))))) ?_
   refine mv ?_
   refine mv ?_
   obtain ⟨x4, hx4, hm⟩ := bind_some hm
   refine wo (f := Fact.tup2 (Fact.flds [(false, 1, Fact.rep [] x4.1.Stripe), (false, 1, Fact.ow [27] [28] 31 (x4.1.Blocks : List (List UInt8))), (false, 1, Fact.ow [29] [] 4 (x4.1.Dirty : List Bool)), (false, 1, Fact.rep [] x4.1.Phase), (false, 1, Fact.rep [] x4.1.Deals), (false, 1, Fact.rep [] x4.1.Seq)]) (Fact.rep [] x4.2)) (Spec.callE [0] 27 rfl en17 (head_Take_c a0 a1 a2 a4 hx4) (HasAll.cons (Has.fl (Has.cv (Has.s rfl) (Cv.trans (Cv.flds (CvL.cons Cv.fl (CvL.cons Cv.fl (CvL.cons Cv.fl (CvL.cons Cv.fl (CvL.cons Cv.fl (CvL.cons Cv.fl CvL.nil))))))) (Cv.close (T := []) (chConfig a0))))) (HasAll.cons (Has.m (Has.cv (Has.s rfl) (Cv.trans (Cv.flds (CvL.cons Cv.fl (CvL.cons (Cv.m rfl) (CvL.cons (Cv.m rfl) (CvL.cons Cv.fl (CvL.cons Cv.fl (CvL.cons Cv.fl CvL.nil))))))) (Cv.close (T := [0]) (chHead a1)))) rfl) (HasAll.cons (Has.fl (Has.s rfl)) (HasAll.cons (Has.m (Has.s rfl) rfl) HasAll.nil))))) ?_
   refine mv ?_
   refine wo (Spec.ext0 (Has.s rfl)) ?_
   refine wo (Spec.ext1 (Has.s rfl)) ?_
   refine ws (Step.allocObj (ls := [(false, 1, Fact.rep [] ((0 : Int) : Int)), (false, 1, Fact.nilv), (false, 1, Fact.nilv), (false, 1, Fact.rep [] ((0 : UInt8) : UInt8)), (false, 1, Fact.rep [] (false : Bool)), (false, 1, Fact.rep [] ((0 : UInt32) : UInt32))]) 30 rfl rfl rfl rfl zl28) ?_
   refine ws (Step.storeObj (ls := [(false, 1, Fact.rep [] x4.1.Stripe), (false, 1, Fact.ow [27] [28] 31 (x4.1.Blocks : List (List UInt8))), (false, 1, Fact.ow [29] [] 4 (x4.1.Dirty : List Bool)), (false, 1, Fact.rep [] x4.1.Phase), (false, 1, Fact.rep [] x4.1.Deals), (false, 1, Fact.rep [] x4.1.Seq)]) rfl ty28 rfl rfl (Has.s rfl) rfl (HasL.flds (Has.s rfl)) rfl) ?_
   refine wo (Spec.assign (Has.s rfl)) ?_
   refine Walk.nil ?_
   refine Leaf.thenN ?_
   refine CWalk.seq ?_
   refine CWalk.region ?_
   refine wo (Spec.loadObj (ls := [(false, 1, Fact.rep [] a0.Id), (false, 1, Fact.rep [] a0.Members), (false, 1, Fact.rep [] a0.Chunk), (false, 1, Fact.rep [] a0.Rows), (false, 1, Fact.rep [] a0.Log), (false, 1, Fact.rep [] a0.Heads)]) ty24 rfl rfl (Has.s rfl) rfl (HasGs.cons (HasG.s rfl) (HasGs.cons (HasG.s rfl) (HasGs.cons (HasG.s rfl) (HasGs.cons (HasG.s rfl) (HasGs.cons (HasG.s rfl) (HasGs.cons (HasG.s rfl) HasGs.nil))))))) ?_
   refine wo (Spec.loadObj (ls := [(false, 1, Fact.rep [] a1.Stripe), (false, 1, Fact.rep [0] a1.Blocks), (false, 1, Fact.rep [0] a1.Dirty), (false, 1, Fact.rep [] a1.Phase), (false, 1, Fact.rep [] a1.Deals), (false, 1, Fact.rep [] a1.Seq)]) ty28 rfl rfl (Has.s rfl) rfl (HasGs.cons (HasG.s rfl) (HasGs.cons (HasG.s rfl) (HasGs.cons (HasG.s rfl) (HasGs.cons (HasG.s rfl) (HasGs.cons (HasG.s rfl) (HasGs.cons (HasG.s rfl) HasGs.nil))))))) ?_
   refine mv ?_
   refine mv ?_
   obtain ⟨x5, hx5, hm⟩ := bind_some hm
   refine wo (f := Fact.tup2 (Fact.flds [(false, 1, Fact.rep [] x5.1.Stripe), (false, 1, Fact.ow [37] [38] 31 (x5.1.Blocks : List (List UInt8))), (false, 1, Fact.ow [39] [] 4 (x5.1.Dirty : List Bool)), (false, 1, Fact.rep [] x5.1.Phase), (false, 1, Fact.rep [] x5.1.Deals), (false, 1, Fact.rep [] x5.1.Seq)]) (Fact.rep [] x5.2)) (Spec.callE [0] 37 rfl en19 (head_Know_c a0 a1 a2 a4 hx5) (HasAll.cons (Has.fl (Has.cv (Has.s rfl) (Cv.trans (Cv.flds (CvL.cons Cv.fl (CvL.cons Cv.fl (CvL.cons Cv.fl (CvL.cons Cv.fl (CvL.cons Cv.fl (CvL.cons Cv.fl CvL.nil))))))) (Cv.close (T := []) (chConfig a0))))) (HasAll.cons (Has.m (Has.cv (Has.s rfl) (Cv.trans (Cv.flds (CvL.cons Cv.fl (CvL.cons (Cv.m rfl) (CvL.cons (Cv.m rfl) (CvL.cons Cv.fl (CvL.cons Cv.fl (CvL.cons Cv.fl CvL.nil))))))) (Cv.close (T := [0]) (chHead a1)))) rfl) (HasAll.cons (Has.fl (Has.s rfl)) (HasAll.cons (Has.m (Has.s rfl) rfl) HasAll.nil))))) ?_
   refine mv ?_
   refine wo (Spec.ext0 (Has.s rfl)) ?_
   refine wo (Spec.ext1 (Has.s rfl)) ?_
   refine ws (Step.allocObj (ls := [(false, 1, Fact.rep [] ((0 : Int) : Int)), (false, 1, Fact.nilv), (false, 1, Fact.nilv), (false, 1, Fact.rep [] ((0 : UInt8) : UInt8)), (false, 1, Fact.rep [] (false : Bool)), (false, 1, Fact.rep [] ((0 : UInt32) : UInt32))]) 40 rfl rfl rfl rfl zl28) ?_
   refine ws (Step.storeObj (ls := [(false, 1, Fact.rep [] x5.1.Stripe), (false, 1, Fact.ow [37] [38] 31 (x5.1.Blocks : List (List UInt8))), (false, 1, Fact.ow [39] [] 4 (x5.1.Dirty : List Bool)), (false, 1, Fact.rep [] x5.1.Phase), (false, 1, Fact.rep [] x5.1.Deals), (false, 1, Fact.rep [] x5.1.Seq)]) rfl ty28 rfl rfl (Has.s rfl) rfl (HasL.flds (Has.s rfl)) rfl) ?_
   refine wo (Spec.assign (Has.s rfl)) ?_
   refine Walk.nil ?_
   refine Leaf.thenN ?_
   refine CWalk.seq ?_
   refine CWalk.region ?_
   refine wo (Spec.loadObj (ls := [(false, 1, Fact.rep [] a0.Id), (false, 1, Fact.rep [] a0.Members), (false, 1, Fact.rep [] a0.Chunk), (false, 1, Fact.rep [] a0.Rows), (false, 1, Fact.rep [] a0.Log), (false, 1, Fact.rep [] a0.Heads)]) ty24 rfl rfl (Has.s rfl) rfl (HasGs.cons (HasG.s rfl) (HasGs.cons (HasG.s rfl) (HasGs.cons (HasG.s rfl) (HasGs.cons (HasG.s rfl) (HasGs.cons (HasG.s rfl) (HasGs.cons (HasG.s rfl) HasGs.nil))))))) ?_
   refine wo (Spec.loadObj (ls := [(false, 1, Fact.rep [] a1.Stripe), (false, 1, Fact.rep [0] a1.Blocks), (false, 1, Fact.rep [0] a1.Dirty), (false, 1, Fact.rep [] a1.Phase), (false, 1, Fact.rep [] a1.Deals), (false, 1, Fact.rep [] a1.Seq)]) ty28 rfl rfl (Has.s rfl) rfl (HasGs.cons (HasG.s rfl) (HasGs.cons (HasG.s rfl) (HasGs.cons (HasG.s rfl) (HasGs.cons (HasG.s rfl) (HasGs.cons (HasG.s rfl) (HasGs.cons (HasG.s rfl) HasGs.nil))))))) ?_
   refine mv ?_
   obtain ⟨x6, hx6, hm⟩ := bind_some hm
   refine wo (f := Fact.tup2 (Fact.flds [(false, 1, Fact.rep [] x6.1.Stripe), (false, 1, Fact.ow [47] [48] 31 (x6.1.Blocks : List (List UInt8))), (false, 1, Fact.ow [49] [] 4 (x6.1.Dirty : List Bool)), (false, 1, Fact.rep [] x6.1.Phase), (false, 1, Fact.rep [] x6.1.Deals), (false, 1, Fact.rep [] x6.1.Seq)]) (Fact.rep [] x6.2)) (Spec.callE [0] 47 rfl en28 (head_Make_c a0 a1 a4 hx6) (HasAll.cons (Has.fl (Has.cv (Has.s rfl) (Cv.trans (Cv.flds (CvL.cons Cv.fl (CvL.cons Cv.fl (CvL.cons Cv.fl (CvL.cons Cv.fl (CvL.cons Cv.fl (CvL.cons Cv.fl CvL.nil))))))) (Cv.close (T := []) (chConfig a0))))) (HasAll.cons (Has.m (Has.cv (Has.s rfl) (Cv.trans (Cv.flds (CvL.cons Cv.fl (CvL.cons (Cv.m rfl) (CvL.cons (Cv.m rfl) (CvL.cons Cv.fl (CvL.cons Cv.fl (CvL.cons Cv.fl CvL.nil))))))) (Cv.close (T := [0]) (chHead a1)))) rfl) (HasAll.cons (Has.m (Has.s rfl) rfl) HasAll.nil)))) ?_
   refine mv ?_
   refine wo (Spec.ext0 (Has.s rfl)) ?_
   refine wo (Spec.ext1 (Has.s rfl)) ?_
   refine ws (Step.allocObj (ls := [(false, 1, Fact.rep [] ((0 : Int) : Int)), (false, 1, Fact.nilv), (false, 1, Fact.nilv), (false, 1, Fact.rep [] ((0 : UInt8) : UInt8)), (false, 1, Fact.rep [] (false : Bool)), (false, 1, Fact.rep [] ((0 : UInt32) : UInt32))]) 50 rfl rfl rfl rfl zl28) ?_
   refine ws (Step.storeObj (ls := [(false, 1, Fact.rep [] x6.1.Stripe), (false, 1, Fact.ow [47] [48] 31 (x6.1.Blocks : List (List UInt8))), (false, 1, Fact.ow [49] [] 4 (x6.1.Dirty : List Bool)), (false, 1, Fact.rep [] x6.1.Phase), (false, 1, Fact.rep [] x6.1.Deals), (false, 1, Fact.rep [] x6.1.Seq)]) rfl ty28 rfl rfl (Has.s rfl) rfl (HasL.flds (Has.s rfl)) rfl) ?_
   refine wo (Spec.assign (Has.s rfl)) ?_
   refine Walk.nil ?_
   refine Leaf.thenN ?_
   refine CWalk.seq ?_
   refine CWalk.region ?_
   refine wo (Spec.loadObj (ls := [(false, 1, Fact.rep [] a0.Id), (false, 1, Fact.rep [] a0.Members), (false, 1, Fact.rep [] a0.Chunk), (false, 1, Fact.rep [] a0.Rows), (false, 1, Fact.rep [] a0.Log), (false, 1, Fact.rep [] a0.Heads)]) ty24 rfl rfl (Has.s rfl) rfl (HasGs.cons (HasG.s rfl) (HasGs.cons (HasG.s rfl) (HasGs.cons (HasG.s rfl) (HasGs.cons (HasG.s rfl) (HasGs.cons (HasG.s rfl) (HasGs.cons (HasG.s rfl) HasGs.nil))))))) ?_
   refine wo (Spec.loadObj (ls := [(false, 1, Fact.rep [] a1.Stripe), (false, 1, Fact.rep [0] a1.Blocks), (false, 1, Fact.rep [0] a1.Dirty), (false, 1, Fact.rep [] a1.Phase), (false, 1, Fact.rep [] a1.Deals), (false, 1, Fact.rep [] a1.Seq)]) ty28 rfl rfl (Has.s rfl) rfl (HasGs.cons (HasG.s rfl) (HasGs.cons (HasG.s rfl) (HasGs.cons (HasG.s rfl) (HasGs.cons (HasG.s rfl) (HasGs.cons (HasG.s rfl) (HasGs.cons (HasG.s rfl) HasGs.nil))))))) ?_
   obtain ⟨x7, hx7, hm⟩ := bind_some hm
   refine wo (f := Fact.tup2 (Fact.flds [(false, 1, Fact.rep [] x7.1.Stripe), (false, 1, Fact.ow [57] [58] 31 (x7.1.Blocks : List (List UInt8))), (false, 1, Fact.ow [59] [] 4 (x7.1.Dirty : List Bool)), (false, 1, Fact.rep [] x7.1.Phase), (false, 1, Fact.rep [] x7.1.Deals), (false, 1, Fact.rep [] x7.1.Seq)]) (Fact.rep [] x7.2)) (Spec.callE [0] 57 rfl en30 (head_Log_c a0 a1 (7 : UInt32) hx7) (HasAll.cons (Has.fl (Has.cv (Has.s rfl) (Cv.trans (Cv.flds (CvL.cons Cv.fl (CvL.cons Cv.fl (CvL.cons Cv.fl (CvL.cons Cv.fl (CvL.cons Cv.fl (CvL.cons Cv.fl CvL.nil))))))) (Cv.close (T := []) (chConfig a0))))) (HasAll.cons (Has.m (Has.cv (Has.s rfl) (Cv.trans (Cv.flds (CvL.cons Cv.fl (CvL.cons (Cv.m rfl) (CvL.cons (Cv.m rfl) (CvL.cons Cv.fl (CvL.cons Cv.fl (CvL.cons Cv.fl CvL.nil))))))) (Cv.close (T := [0]) (chHead a1)))) rfl) (HasAll.cons (Has.fl (Has.u32 7 rfl)) HasAll.nil)))) ?_
   refine mv ?_
   refine wo (Spec.ext0 (Has.s rfl)) ?_
   refine wo (Spec.ext1 (Has.s rfl)) ?_
   refine ws (Step.allocObj (ls := [(false, 1, Fact.rep [] ((0 : Int) : Int)), (false, 1, Fact.nilv), (false, 1, Fact.nilv), (false, 1, Fact.rep [] ((0 : UInt8) : UInt8)), (false, 1, Fact.rep [] (false : Bool)), (false, 1, Fact.rep [] ((0 : UInt32) : UInt32))]) 60 rfl rfl rfl rfl zl28) ?_
   refine ws (Step.storeObj (ls := [(false, 1, Fact.rep [] x7.1.Stripe), (false, 1, Fact.ow [57] [58] 31 (x7.1.Blocks : List (List UInt8))), (false, 1, Fact.ow [59] [] 4 (x7.1.Dirty : List Bool)), (false, 1, Fact.rep [] x7.1.Phase), (false, 1, Fact.rep [] x7.1.Deals), (false, 1, Fact.rep [] x7.1.Seq)]) rfl ty28 rfl rfl (Has.s rfl) rfl (HasL.flds (Has.s rfl)) rfl) ?_
   refine wo (Spec.assign (Has.s rfl)) ?_
   refine Walk.nil ?_
   refine Leaf.thenN ?_
   refine CWalk.seq ?_
   refine CWalk.region ?_
   refine wo (Spec.loadObj (ls := [(false, 1, Fact.rep [] a0.Id), (false, 1, Fact.rep [] a0.Members), (false, 1, Fact.rep [] a0.Chunk), (false, 1, Fact.rep [] a0.Rows), (false, 1, Fact.rep [] a0.Log), (false, 1, Fact.rep [] a0.Heads)]) ty24 rfl rfl (Has.s rfl) rfl (HasGs.cons (HasG.s rfl) (HasGs.cons (HasG.s rfl) (HasGs.cons (HasG.s rfl) (HasGs.cons (HasG.s rfl) (HasGs.cons (HasG.s rfl) (HasGs.cons (HasG.s rfl) HasGs.nil))))))) ?_
   refine wo (Spec.loadObj (ls := [(false, 1, Fact.rep [] a1.Stripe), (false, 1, Fact.rep [0] a1.Blocks), (false, 1, Fact.rep [0] a1.Dirty), (false, 1, Fact.rep [] a1.Phase), (false, 1, Fact.rep [] a1.Deals), (false, 1, Fact.rep [] a1.Seq)]) ty28 rfl rfl (Has.s rfl) rfl (HasGs.cons (HasG.s rfl) (HasGs.cons (HasG.s rfl) (HasGs.cons (HasG.s rfl) (HasGs.cons (HasG.s rfl) (HasGs.cons (HasG.s rfl) (HasGs.cons (HasG.s rfl) HasGs.nil))))))) ?_
   obtain ⟨x8, hx8, hm⟩ := bind_some hm
   refine wo (f := Fact.tup2 (Fact.flds [(false, 1, Fact.rep [] x8.1.Stripe), (false, 1, Fact.ow [67] [68] 31 (x8.1.Blocks : List (List UInt8))), (false, 1, Fact.ow [69] [] 4 (x8.1.Dirty : List Bool)), (false, 1, Fact.rep [] x8.1.Phase), (false, 1, Fact.rep [] x8.1.Deals), (false, 1, Fact.rep [] x8.1.Seq)]) (Fact.rep [] x8.2)) (Spec.callE [0] 67 rfl en34 (head_Lay_c a0 a1 hx8) (HasAll.cons (Has.fl (Has.cv (Has.s rfl) (Cv.trans (Cv.flds (CvL.cons Cv.fl (CvL.cons Cv.fl (CvL.cons Cv.fl (CvL.cons Cv.fl (CvL.cons Cv.fl (CvL.cons Cv.fl CvL.nil))))))) (Cv.close (T := []) (chConfig a0))))) (HasAll.cons (Has.m (Has.cv (Has.s rfl) (Cv.trans (Cv.flds (CvL.cons Cv.fl (CvL.cons (Cv.m rfl) (CvL.cons (Cv.m rfl) (CvL.cons Cv.fl (CvL.cons Cv.fl (CvL.cons Cv.fl CvL.nil))))))) (Cv.close (T := [0]) (chHead a1)))) rfl) HasAll.nil))) ?_
   refine mv ?_
   refine wo (Spec.ext0 (Has.s rfl)) ?_
   refine wo (Spec.ext1 (Has.s rfl)) ?_
   refine ws (Step.allocObj (ls := [(false, 1, Fact.rep [] ((0 : Int) : Int)), (false, 1, Fact.nilv), (false, 1, Fact.nilv), (false, 1, Fact.rep [] ((0 : UInt8) : UInt8)), (false, 1, Fact.rep [] (false : Bool)), (false, 1, Fact.rep [] ((0 : UInt32) : UInt32))]) 70 rfl rfl rfl rfl zl28) ?_
   refine ws (Step.storeObj (ls := [(false, 1, Fact.rep [] x8.1.Stripe), (false, 1, Fact.ow [67] [68] 31 (x8.1.Blocks : List (List UInt8))), (false, 1, Fact.ow [69] [] 4 (x8.1.Dirty : List Bool)), (false, 1, Fact.rep [] x8.1.Phase), (false, 1, Fact.rep [] x8.1.Deals), (false, 1, Fact.rep [] x8.1.Seq)]) rfl ty28 rfl rfl (Has.s rfl) rfl (HasL.flds (Has.s rfl)) rfl) ?_
   refine wo (Spec.assign (Has.s rfl)) ?_
   refine Walk.nil ?_
   refine Leaf.thenN ?_
   refine CWalk.seq ?_
   refine CWalk.region ?_
   refine wo (Spec.loadObj (ls := [(false, 1, Fact.rep [] a0.Id), (false, 1, Fact.rep [] a0.Members), (false, 1, Fact.rep [] a0.Chunk), (false, 1, Fact.rep [] a0.Rows), (false, 1, Fact.rep [] a0.Log), (false, 1, Fact.rep [] a0.Heads)]) ty24 rfl rfl (Has.s rfl) rfl (HasGs.cons (HasG.s rfl) (HasGs.cons (HasG.s rfl) (HasGs.cons (HasG.s rfl) (HasGs.cons (HasG.s rfl) (HasGs.cons (HasG.s rfl) (HasGs.cons (HasG.s rfl) HasGs.nil))))))) ?_
   refine wo (Spec.loadObj (ls := [(false, 1, Fact.rep [] a1.Stripe), (false, 1, Fact.rep [0] a1.Blocks), (false, 1, Fact.rep [0] a1.Dirty), (false, 1, Fact.rep [] a1.Phase), (false, 1, Fact.rep [] a1.Deals), (false, 1, Fact.rep [] a1.Seq)]) ty28 rfl rfl (Has.s rfl) rfl (HasGs.cons (HasG.s rfl) (HasGs.cons (HasG.s rfl) (HasGs.cons (HasG.s rfl) (HasGs.cons (HasG.s rfl) (HasGs.cons (HasG.s rfl) (HasGs.cons (HasG.s rfl) HasGs.nil))))))) ?_
   obtain ⟨x9, hx9, hm⟩ := bind_some hm
   refine wo (f := Fact.tup2 (Fact.flds [(false, 1, Fact.rep [] x9.1.Stripe), (false, 1, Fact.ow [77] [78] 31 (x9.1.Blocks : List (List UInt8))), (false, 1, Fact.ow [79] [] 4 (x9.1.Dirty : List Bool)), (false, 1, Fact.rep [] x9.1.Phase), (false, 1, Fact.rep [] x9.1.Deals), (false, 1, Fact.rep [] x9.1.Seq)]) (Fact.rep [] x9.2)) (Spec.callE [0] 77 rfl en36 (head_Home_c a0 a1 hx9) (HasAll.cons (Has.fl (Has.cv (Has.s rfl) (Cv.trans (Cv.flds (CvL.cons Cv.fl (CvL.cons Cv.fl (CvL.cons Cv.fl (CvL.cons Cv.fl (CvL.cons Cv.fl (CvL.cons Cv.fl CvL.nil))))))) (Cv.close (T := []) (chConfig a0))))) (HasAll.cons (Has.m (Has.cv (Has.s rfl) (Cv.trans (Cv.flds (CvL.cons Cv.fl (CvL.cons (Cv.m rfl) (CvL.cons (Cv.m rfl) (CvL.cons Cv.fl (CvL.cons Cv.fl (CvL.cons Cv.fl CvL.nil))))))) (Cv.close (T := [0]) (chHead a1)))) rfl) HasAll.nil))) ?_
   refine mv ?_
   refine wo (Spec.ext0 (Has.s rfl)) ?_
   refine wo (Spec.ext1 (Has.s rfl)) ?_
   refine ws (Step.allocObj (ls := [(false, 1, Fact.rep [] ((0 : Int) : Int)), (false, 1, Fact.nilv), (false, 1, Fact.nilv), (false, 1, Fact.rep [] ((0 : UInt8) : UInt8)), (false, 1, Fact.rep [] (false : Bool)), (false, 1, Fact.rep [] ((0 : UInt32) : UInt32))]) 80 rfl rfl rfl rfl zl28) ?_
   refine ws (Step.storeObj (ls := [(false, 1, Fact.rep [] x9.1.Stripe), (false, 1, Fact.ow [77] [78] 31 (x9.1.Blocks : List (List UInt8))), (false, 1, Fact.ow [79] [] 4 (x9.1.Dirty : List Bool)), (false, 1, Fact.rep [] x9.1.Phase), (false, 1, Fact.rep [] x9.1.Deals), (false, 1, Fact.rep [] x9.1.Seq)]) rfl ty28 rfl rfl (Has.s rfl) rfl (HasL.flds (Has.s rfl)) rfl) ?_
   refine wo (Spec.assign (Has.s rfl)) ?_
   refine Walk.nil ?_
   refine Leaf.thenN ?_
   refine CWalk.seq ?_
   refine CWalk.region ?_
   refine mv ?_
   refine wo (Spec.neqI (Has.s rfl) Has.int) ?_
   refine mv ?_
   refine wg rfl rfl (fun hb => Spec.move (Has.s rfl)) ?_
   refine wg rfl rfl (fun hb => Spec.move (Has.s rfl)) ?_
   refine wg rfl rfl (fun hb => Spec.eqlI (Has.u rfl hb) (Has.u rfl hb)) ?_
   refine wo (Spec.or (Has.s rfl) (fun h => Has.u rfl h)) ?_
   refine mv ?_
   refine wg rfl rfl (fun hb => Spec.loadObj (ls := [(false, 1, Fact.rep [] a0.Id), (false, 1, Fact.rep [] a0.Members), (false, 1, Fact.rep [] a0.Chunk), (false, 1, Fact.rep [] a0.Rows), (false, 1, Fact.rep [] a0.Log), (false, 1, Fact.rep [] a0.Heads)]) ty24 rfl rfl (Has.s rfl) rfl (HasGs.cons (HasG.s rfl) (HasGs.cons (HasG.s rfl) (HasGs.cons (HasG.s rfl) (HasGs.cons (HasG.s rfl) (HasGs.cons (HasG.s rfl) (HasGs.cons (HasG.s rfl) HasGs.nil))))))) ?_
   refine wg rfl rfl (fun hb => Spec.loadObj (ls := [(false, 1, Fact.rep [] x4.1.Stripe), (false, 1, Fact.ow [27] [28] 31 (x4.1.Blocks : List (List UInt8))), (false, 1, Fact.ow [29] [] 4 (x4.1.Dirty : List Bool)), (false, 1, Fact.rep [] x4.1.Phase), (false, 1, Fact.rep [] x4.1.Deals), (false, 1, Fact.rep [] x4.1.Seq)]) ty28 rfl rfl (Has.s rfl) rfl (HasGs.cons (HasG.s rfl) (HasGs.cons (HasG.s rfl) (HasGs.cons (HasG.s rfl) (HasGs.cons (HasG.s rfl) (HasGs.cons (HasG.s rfl) (HasGs.cons (HasG.s rfl) HasGs.nil))))))) ?_
   refine wg rfl rfl (fun hb => Spec.move (Has.s rfl)) ?_
   refine wg rfl rfl (fun hb => Spec.move (Has.s rfl)) ?_
   refine wg rfl rfl (fun hb => Spec.move (Has.s rfl)) ?_
   obtain ⟨x10, hx10, hm⟩ := bind_some hm
   refine wg (f := Fact.rep [] (x10 : Bool)) rfl rfl (fun hb => Spec.callE [26, 27, 28, 29] 87 rfl en39 (law16_alike_c a0 x4.1 a3 x3.1 x3.2.1 (gO_t hx10 (not_t hb))) (HasAll.cons (Has.fl (Has.cv (Has.u rfl hb) (Cv.trans (Cv.flds (CvL.cons Cv.fl (CvL.cons Cv.fl (CvL.cons Cv.fl (CvL.cons Cv.fl (CvL.cons Cv.fl (CvL.cons Cv.fl CvL.nil))))))) (Cv.close (T := []) (chConfig a0))))) (HasAll.cons (Has.m (Has.cv (Has.u rfl hb) (Cv.trans (Cv.flds (CvL.cons Cv.fl (CvL.cons (Cv.trans (Cv.trans Cv.owSl (Cv.slRep (T' := [27, 28]) rfl rfl)) (Cv.m rfl)) (CvL.cons (Cv.trans (Cv.trans Cv.owSl (Cv.slRep (T' := [29]) rfl rfl)) (Cv.m rfl)) (CvL.cons Cv.fl (CvL.cons Cv.fl (CvL.cons Cv.fl CvL.nil))))))) (Cv.close (T := [27, 28, 29]) (chHead x4.1)))) rfl) (HasAll.cons (Has.fl (Has.u rfl hb)) (HasAll.cons (Has.m (Has.cv (Has.u rfl hb) (Cv.trans Cv.owSl (Cv.slRep (T' := [26]) rfl rfl))) rfl) (HasAll.cons (Has.fl (Has.u rfl hb)) HasAll.nil)))))) ?_
   refine wo (Spec.or (Has.s rfl) (fun h => Has.u rfl h)) ?_
   refine mv ?_
   refine wg rfl rfl (fun hb => Spec.move (Has.s rfl)) ?_
   refine wg rfl rfl (fun hb => Spec.neqI (Has.u rfl hb) Has.int) ?_
   refine wg rfl rfl (fun hb => Spec.move (Has.u rfl hb)) ?_
   refine Walk.opgu rfl rfl rfl (fun hb => Spec.move (Has.s rfl)) ?_
   refine Walk.opgu rfl rfl rfl (fun hb => Spec.move (Has.s rfl)) ?_
   refine Walk.opgu rfl rfl rfl (fun hb => Spec.eqlI (Has.u rfl hb) (Has.u rfl hb)) ?_
   refine wg rfl rfl (fun hb => Spec.or (Has.u rfl hb) (fun h => Has.u rfl ⟨hb, h⟩)) ?_
   refine wg rfl rfl (fun hb => Spec.move (Has.u rfl hb)) ?_
   refine Walk.opgu rfl rfl rfl (fun hb => Spec.loadObj (ls := [(false, 1, Fact.rep [] a0.Id), (false, 1, Fact.rep [] a0.Members), (false, 1, Fact.rep [] a0.Chunk), (false, 1, Fact.rep [] a0.Rows), (false, 1, Fact.rep [] a0.Log), (false, 1, Fact.rep [] a0.Heads)]) ty24 rfl rfl (Has.s rfl) rfl (HasGs.cons (HasG.s rfl) (HasGs.cons (HasG.s rfl) (HasGs.cons (HasG.s rfl) (HasGs.cons (HasG.s rfl) (HasGs.cons (HasG.s rfl) (HasGs.cons (HasG.s rfl) HasGs.nil))))))) ?_
   refine Walk.opgu rfl rfl rfl (fun hb => Spec.loadObj (ls := [(false, 1, Fact.rep [] x5.1.Stripe), (false, 1, Fact.ow [37] [38] 31 (x5.1.Blocks : List (List UInt8))), (false, 1, Fact.ow [39] [] 4 (x5.1.Dirty : List Bool)), (false, 1, Fact.rep [] x5.1.Phase), (false, 1, Fact.rep [] x5.1.Deals), (false, 1, Fact.rep [] x5.1.Seq)]) ty28 rfl rfl (Has.s rfl) rfl (HasGs.cons (HasG.s rfl) (HasGs.cons (HasG.s rfl) (HasGs.cons (HasG.s rfl) (HasGs.cons (HasG.s rfl) (HasGs.cons (HasG.s rfl) (HasGs.cons (HasG.s rfl) HasGs.nil))))))) ?_
   refine Walk.opgu rfl rfl rfl (fun hb => Spec.move (Has.s rfl)) ?_
   refine Walk.opgu rfl rfl rfl (fun hb => Spec.move (Has.s rfl)) ?_
   refine Walk.opgu rfl rfl rfl (fun hb => Spec.move (Has.s rfl)) ?_
   obtain ⟨x11, hx11, hm⟩ := bind_some hm
   refine Walk.opgu (f := Fact.rep [] (x11 : Bool)) rfl rfl rfl (fun hb => Spec.callE [26, 37, 38, 39] 88 rfl en39 (law16_alike_c a0 x5.1 a3 x3.1 x3.2.1 (gO_t hx11 (and_t hb.1 (not_t hb.2)))) (HasAll.cons (Has.fl (Has.cv (Has.u rfl hb) (Cv.trans (Cv.flds (CvL.cons Cv.fl (CvL.cons Cv.fl (CvL.cons Cv.fl (CvL.cons Cv.fl (CvL.cons Cv.fl (CvL.cons Cv.fl CvL.nil))))))) (Cv.close (T := []) (chConfig a0))))) (HasAll.cons (Has.m (Has.cv (Has.u rfl hb) (Cv.trans (Cv.flds (CvL.cons Cv.fl (CvL.cons (Cv.trans (Cv.trans Cv.owSl (Cv.slRep (T' := [37, 38]) rfl rfl)) (Cv.m rfl)) (CvL.cons (Cv.trans (Cv.trans Cv.owSl (Cv.slRep (T' := [39]) rfl rfl)) (Cv.m rfl)) (CvL.cons Cv.fl (CvL.cons Cv.fl (CvL.cons Cv.fl CvL.nil))))))) (Cv.close (T := [37, 38, 39]) (chHead x5.1)))) rfl) (HasAll.cons (Has.fl (Has.u rfl hb)) (HasAll.cons (Has.m (Has.cv (Has.u rfl hb) (Cv.trans Cv.owSl (Cv.slRep (T' := [26]) rfl rfl))) rfl) (HasAll.cons (Has.fl (Has.u rfl hb)) HasAll.nil)))))) ?_
   refine wg rfl rfl (fun hb => Spec.or (Has.u rfl hb) (fun h => Has.u rfl ⟨hb, h⟩)) ?_
   refine wo (Spec.and (Has.s rfl) (fun h => Has.u rfl h)) ?_
   refine wo (Spec.assign (Has.s rfl)) ?_
   refine Walk.nil ?_
   refine Leaf.thenN ?_
   refine CWalk.seq ?_
   refine CWalk.region ?_
   refine mv ?_
   refine mv ?_
   refine wg rfl rfl (fun hb => Spec.move (Has.s rfl)) ?_
   refine wg rfl rfl (fun hb => Spec.neqI (Has.u rfl hb) Has.int) ?_
   refine wg rfl rfl (fun hb => Spec.move (Has.u rfl hb)) ?_
   refine Walk.opgu rfl rfl rfl (fun hb => Spec.loadObj (ls := [(false, 1, Fact.rep [] a0.Id), (false, 1, Fact.rep [] a0.Members), (false, 1, Fact.rep [] a0.Chunk), (false, 1, Fact.rep [] a0.Rows), (false, 1, Fact.rep [] a0.Log), (false, 1, Fact.rep [] a0.Heads)]) ty24 rfl rfl (Has.s rfl) rfl (HasGs.cons (HasG.s rfl) (HasGs.cons (HasG.s rfl) (HasGs.cons (HasG.s rfl) (HasGs.cons (HasG.s rfl) (HasGs.cons (HasG.s rfl) (HasGs.cons (HasG.s rfl) HasGs.nil))))))) ?_
   refine Walk.opgu rfl rfl rfl (fun hb => Spec.loadObj (ls := [(false, 1, Fact.rep [] x6.1.Stripe), (false, 1, Fact.ow [47] [48] 31 (x6.1.Blocks : List (List UInt8))), (false, 1, Fact.ow [49] [] 4 (x6.1.Dirty : List Bool)), (false, 1, Fact.rep [] x6.1.Phase), (false, 1, Fact.rep [] x6.1.Deals), (false, 1, Fact.rep [] x6.1.Seq)]) ty28 rfl rfl (Has.s rfl) rfl (HasGs.cons (HasG.s rfl) (HasGs.cons (HasG.s rfl) (HasGs.cons (HasG.s rfl) (HasGs.cons (HasG.s rfl) (HasGs.cons (HasG.s rfl) (HasGs.cons (HasG.s rfl) HasGs.nil))))))) ?_
   refine Walk.opgu rfl rfl rfl (fun hb => Spec.move (Has.s rfl)) ?_
   refine Walk.opgu rfl rfl rfl (fun hb => Spec.move (Has.s rfl)) ?_
   refine Walk.opgu rfl rfl rfl (fun hb => Spec.move (Has.s rfl)) ?_
   obtain ⟨x12, hx12, hm⟩ := bind_some hm
   refine Walk.opgu (f := Fact.rep [] (x12 : Bool)) rfl rfl rfl (fun hb => Spec.callE [26, 47, 48, 49] 89 rfl en39 (law16_alike_c a0 x6.1 a3 x3.1 x3.2.1 (gO_t hx12 (and_t hb.1 (not_t hb.2)))) (HasAll.cons (Has.fl (Has.cv (Has.u rfl hb) (Cv.trans (Cv.flds (CvL.cons Cv.fl (CvL.cons Cv.fl (CvL.cons Cv.fl (CvL.cons Cv.fl (CvL.cons Cv.fl (CvL.cons Cv.fl CvL.nil))))))) (Cv.close (T := []) (chConfig a0))))) (HasAll.cons (Has.m (Has.cv (Has.u rfl hb) (Cv.trans (Cv.flds (CvL.cons Cv.fl (CvL.cons (Cv.trans (Cv.trans Cv.owSl (Cv.slRep (T' := [47, 48]) rfl rfl)) (Cv.m rfl)) (CvL.cons (Cv.trans (Cv.trans Cv.owSl (Cv.slRep (T' := [49]) rfl rfl)) (Cv.m rfl)) (CvL.cons Cv.fl (CvL.cons Cv.fl (CvL.cons Cv.fl CvL.nil))))))) (Cv.close (T := [47, 48, 49]) (chHead x6.1)))) rfl) (HasAll.cons (Has.fl (Has.u rfl hb)) (HasAll.cons (Has.m (Has.cv (Has.u rfl hb) (Cv.trans Cv.owSl (Cv.slRep (T' := [26]) rfl rfl))) rfl) (HasAll.cons (Has.fl (Has.u rfl hb)) HasAll.nil)))))) ?_
   refine wg rfl rfl (fun hb => Spec.or (Has.u rfl hb) (fun h => Has.u rfl ⟨hb, h⟩)) ?_
   refine wo (Spec.and (Has.s rfl) (fun h => Has.u rfl h)) ?_
   refine mv ?_
   refine wg rfl rfl (fun hb => Spec.move (Has.s rfl)) ?_
   refine wg rfl rfl (fun hb => Spec.neqI (Has.u rfl hb) Has.int) ?_
   refine wg rfl rfl (fun hb => Spec.move (Has.u rfl hb)) ?_
   refine Walk.opgu rfl rfl rfl (fun hb => Spec.loadObj (ls := [(false, 1, Fact.rep [] a0.Id), (false, 1, Fact.rep [] a0.Members), (false, 1, Fact.rep [] a0.Chunk), (false, 1, Fact.rep [] a0.Rows), (false, 1, Fact.rep [] a0.Log), (false, 1, Fact.rep [] a0.Heads)]) ty24 rfl rfl (Has.s rfl) rfl (HasGs.cons (HasG.s rfl) (HasGs.cons (HasG.s rfl) (HasGs.cons (HasG.s rfl) (HasGs.cons (HasG.s rfl) (HasGs.cons (HasG.s rfl) (HasGs.cons (HasG.s rfl) HasGs.nil))))))) ?_
   refine Walk.opgu rfl rfl rfl (fun hb => Spec.loadObj (ls := [(false, 1, Fact.rep [] x7.1.Stripe), (false, 1, Fact.ow [57] [58] 31 (x7.1.Blocks : List (List UInt8))), (false, 1, Fact.ow [59] [] 4 (x7.1.Dirty : List Bool)), (false, 1, Fact.rep [] x7.1.Phase), (false, 1, Fact.rep [] x7.1.Deals), (false, 1, Fact.rep [] x7.1.Seq)]) ty28 rfl rfl (Has.s rfl) rfl (HasGs.cons (HasG.s rfl) (HasGs.cons (HasG.s rfl) (HasGs.cons (HasG.s rfl) (HasGs.cons (HasG.s rfl) (HasGs.cons (HasG.s rfl) (HasGs.cons (HasG.s rfl) HasGs.nil))))))) ?_
   refine Walk.opgu rfl rfl rfl (fun hb => Spec.move (Has.s rfl)) ?_
   refine Walk.opgu rfl rfl rfl (fun hb => Spec.move (Has.s rfl)) ?_
   refine Walk.opgu rfl rfl rfl (fun hb => Spec.move (Has.s rfl)) ?_
   obtain ⟨x13, hx13, hm⟩ := bind_some hm
   refine Walk.opgu (f := Fact.rep [] (x13 : Bool)) rfl rfl rfl (fun hb => Spec.callE [26, 57, 58, 59] 90 rfl en39 (law16_alike_c a0 x7.1 a3 x3.1 x3.2.1 (gO_t hx13 (and_t hb.1 (not_t hb.2)))) (HasAll.cons (Has.fl (Has.cv (Has.u rfl hb) (Cv.trans (Cv.flds (CvL.cons Cv.fl (CvL.cons Cv.fl (CvL.cons Cv.fl (CvL.cons Cv.fl (CvL.cons Cv.fl (CvL.cons Cv.fl CvL.nil))))))) (Cv.close (T := []) (chConfig a0))))) (HasAll.cons (Has.m (Has.cv (Has.u rfl hb) (Cv.trans (Cv.flds (CvL.cons Cv.fl (CvL.cons (Cv.trans (Cv.trans Cv.owSl (Cv.slRep (T' := [57, 58]) rfl rfl)) (Cv.m rfl)) (CvL.cons (Cv.trans (Cv.trans Cv.owSl (Cv.slRep (T' := [59]) rfl rfl)) (Cv.m rfl)) (CvL.cons Cv.fl (CvL.cons Cv.fl (CvL.cons Cv.fl CvL.nil))))))) (Cv.close (T := [57, 58, 59]) (chHead x7.1)))) rfl) (HasAll.cons (Has.fl (Has.u rfl hb)) (HasAll.cons (Has.m (Has.cv (Has.u rfl hb) (Cv.trans Cv.owSl (Cv.slRep (T' := [26]) rfl rfl))) rfl) (HasAll.cons (Has.fl (Has.u rfl hb)) HasAll.nil)))))) ?_
   refine wg rfl rfl (fun hb => Spec.or (Has.u rfl hb) (fun h => Has.u rfl ⟨hb, h⟩)) ?_
   refine wo (Spec.and (Has.s rfl) (fun h => Has.u rfl h)) ?_
   refine mv ?_
   refine wg rfl rfl (fun hb => Spec.move (Has.s rfl)) ?_
   refine wg rfl rfl (fun hb => Spec.neqI (Has.u rfl hb) Has.int) ?_
   refine wg rfl rfl (fun hb => Spec.move (Has.u rfl hb)) ?_
   refine Walk.opgu rfl rfl rfl (fun hb => Spec.loadObj (ls := [(false, 1, Fact.rep [] a0.Id), (false, 1, Fact.rep [] a0.Members), (false, 1, Fact.rep [] a0.Chunk), (false, 1, Fact.rep [] a0.Rows), (false, 1, Fact.rep [] a0.Log), (false, 1, Fact.rep [] a0.Heads)]) ty24 rfl rfl (Has.s rfl) rfl (HasGs.cons (HasG.s rfl) (HasGs.cons (HasG.s rfl) (HasGs.cons (HasG.s rfl) (HasGs.cons (HasG.s rfl) (HasGs.cons (HasG.s rfl) (HasGs.cons (HasG.s rfl) HasGs.nil))))))) ?_
   refine Walk.opgu rfl rfl rfl (fun hb => Spec.loadObj (ls := [(false, 1, Fact.rep [] x8.1.Stripe), (false, 1, Fact.ow [67] [68] 31 (x8.1.Blocks : List (List UInt8))), (false, 1, Fact.ow [69] [] 4 (x8.1.Dirty : List Bool)), (false, 1, Fact.rep [] x8.1.Phase), (false, 1, Fact.rep [] x8.1.Deals), (false, 1, Fact.rep [] x8.1.Seq)]) ty28 rfl rfl (Has.s rfl) rfl (HasGs.cons (HasG.s rfl) (HasGs.cons (HasG.s rfl) (HasGs.cons (HasG.s rfl) (HasGs.cons (HasG.s rfl) (HasGs.cons (HasG.s rfl) (HasGs.cons (HasG.s rfl) HasGs.nil))))))) ?_
   refine Walk.opgu rfl rfl rfl (fun hb => Spec.move (Has.s rfl)) ?_
   refine Walk.opgu rfl rfl rfl (fun hb => Spec.move (Has.s rfl)) ?_
   refine Walk.opgu rfl rfl rfl (fun hb => Spec.move (Has.s rfl)) ?_
   obtain ⟨x14, hx14, hm⟩ := bind_some hm
   refine Walk.opgu (f := Fact.rep [] (x14 : Bool)) rfl rfl rfl (fun hb => Spec.callE [26, 67, 68, 69] 91 rfl en39 (law16_alike_c a0 x8.1 a3 x3.1 x3.2.1 (gO_t hx14 (and_t hb.1 (not_t hb.2)))) (HasAll.cons (Has.fl (Has.cv (Has.u rfl hb) (Cv.trans (Cv.flds (CvL.cons Cv.fl (CvL.cons Cv.fl (CvL.cons Cv.fl (CvL.cons Cv.fl (CvL.cons Cv.fl (CvL.cons Cv.fl CvL.nil))))))) (Cv.close (T := []) (chConfig a0))))) (HasAll.cons (Has.m (Has.cv (Has.u rfl hb) (Cv.trans (Cv.flds (CvL.cons Cv.fl (CvL.cons (Cv.trans (Cv.trans Cv.owSl (Cv.slRep (T' := [67, 68]) rfl rfl)) (Cv.m rfl)) (CvL.cons (Cv.trans (Cv.trans Cv.owSl (Cv.slRep (T' := [69]) rfl rfl)) (Cv.m rfl)) (CvL.cons Cv.fl (CvL.cons Cv.fl (CvL.cons Cv.fl CvL.nil))))))) (Cv.close (T := [67, 68, 69]) (chHead x8.1)))) rfl) (HasAll.cons (Has.fl (Has.u rfl hb)) (HasAll.cons (Has.m (Has.cv (Has.u rfl hb) (Cv.trans Cv.owSl (Cv.slRep (T' := [26]) rfl rfl))) rfl) (HasAll.cons (Has.fl (Has.u rfl hb)) HasAll.nil)))))) ?_
   refine wg rfl rfl (fun hb => Spec.or (Has.u rfl hb) (fun h => Has.u rfl ⟨hb, h⟩)) ?_
   refine wo (Spec.and (Has.s rfl) (fun h => Has.u rfl h)) ?_
   refine mv ?_
   refine wg rfl rfl (fun hb => Spec.move (Has.s rfl)) ?_
   refine wg rfl rfl (fun hb => Spec.neqI (Has.u rfl hb) Has.int) ?_
   refine wg rfl rfl (fun hb => Spec.move (Has.u rfl hb)) ?_
   refine Walk.opgu rfl rfl rfl (fun hb => Spec.loadObj (ls := [(false, 1, Fact.rep [] a0.Id), (false, 1, Fact.rep [] a0.Members), (false, 1, Fact.rep [] a0.Chunk), (false, 1, Fact.rep [] a0.Rows), (false, 1, Fact.rep [] a0.Log), (false, 1, Fact.rep [] a0.Heads)]) ty24 rfl rfl (Has.s rfl) rfl (HasGs.cons (HasG.s rfl) (HasGs.cons (HasG.s rfl) (HasGs.cons (HasG.s rfl) (HasGs.cons (HasG.s rfl) (HasGs.cons (HasG.s rfl) (HasGs.cons (HasG.s rfl) HasGs.nil))))))) ?_
   refine Walk.opgu rfl rfl rfl (fun hb => Spec.loadObj (ls := [(false, 1, Fact.rep [] x9.1.Stripe), (false, 1, Fact.ow [77] [78] 31 (x9.1.Blocks : List (List UInt8))), (false, 1, Fact.ow [79] [] 4 (x9.1.Dirty : List Bool)), (false, 1, Fact.rep [] x9.1.Phase), (false, 1, Fact.rep [] x9.1.Deals), (false, 1, Fact.rep [] x9.1.Seq)]) ty28 rfl rfl (Has.s rfl) rfl (HasGs.cons (HasG.s rfl) (HasGs.cons (HasG.s rfl) (HasGs.cons (HasG.s rfl) (HasGs.cons (HasG.s rfl) (HasGs.cons (HasG.s rfl) (HasGs.cons (HasG.s rfl) HasGs.nil))))))) ?_
   refine Walk.opgu rfl rfl rfl (fun hb => Spec.move (Has.s rfl)) ?_
   refine Walk.opgu rfl rfl rfl (fun hb => Spec.move (Has.s rfl)) ?_
   refine Walk.opgu rfl rfl rfl (fun hb => Spec.move (Has.s rfl)) ?_
   obtain ⟨x15, hx15, hm⟩ := bind_some hm
   refine Walk.opgu (f := Fact.rep [] (x15 : Bool)) rfl rfl rfl (fun hb => Spec.callE [26, 77, 78, 79] 92 rfl en39 (law16_alike_c a0 x9.1 a3 x3.1 x3.2.1 (gO_t hx15 (and_t hb.1 (not_t hb.2)))) (HasAll.cons (Has.fl (Has.cv (Has.u rfl hb) (Cv.trans (Cv.flds (CvL.cons Cv.fl (CvL.cons Cv.fl (CvL.cons Cv.fl (CvL.cons Cv.fl (CvL.cons Cv.fl (CvL.cons Cv.fl CvL.nil))))))) (Cv.close (T := []) (chConfig a0))))) (HasAll.cons (Has.m (Has.cv (Has.u rfl hb) (Cv.trans (Cv.flds (CvL.cons Cv.fl (CvL.cons (Cv.trans (Cv.trans Cv.owSl (Cv.slRep (T' := [77, 78]) rfl rfl)) (Cv.m rfl)) (CvL.cons (Cv.trans (Cv.trans Cv.owSl (Cv.slRep (T' := [79]) rfl rfl)) (Cv.m rfl)) (CvL.cons Cv.fl (CvL.cons Cv.fl (CvL.cons Cv.fl CvL.nil))))))) (Cv.close (T := [77, 78, 79]) (chHead x9.1)))) rfl) (HasAll.cons (Has.fl (Has.u rfl hb)) (HasAll.cons (Has.m (Has.cv (Has.u rfl hb) (Cv.trans Cv.owSl (Cv.slRep (T' := [26]) rfl rfl))) rfl) (HasAll.cons (Has.fl (Has.u rfl hb)) HasAll.nil)))))) ?_
   refine wg rfl rfl (fun hb => Spec.or (Has.u rfl hb) (fun h => Has.u rfl ⟨hb, h⟩)) ?_
   refine wo (Spec.and (Has.s rfl) (fun h => Has.u rfl h)) ?_
   refine wo (Spec.assign (Has.s rfl)) ?_
   refine Walk.nil ?_
   refine Leaf.thenN ?_
   refine CWalk.ret ?_
   obtain rfl := Option.some.inj hm
   exact Leaf.retC1 rfl (HasR.cv (HasR.tmp (Has.s rfl)) Cv.fl)

end Go.Proofs.Ytjefieckineneaa
