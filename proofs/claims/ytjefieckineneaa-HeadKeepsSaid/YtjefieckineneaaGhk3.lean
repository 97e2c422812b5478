/- Printed by a program of ours: models of functions, and that calls do what they say. -/
import Derived.Test.YtjefieckineneaaGhk2
namespace Go.Proofs.Ytjefieckineneaa
open Go GL
set_option linter.unusedVariables false

def head_Home_J1 (j1 : Int) (j2 : List (List UInt8)) (j3 : List Bool) (j4 : UInt8) (j5 : Bool) (j6 : UInt32) (j7 : Int) : Option (Head × Int) :=
  some ((Head.mk j1 j2 j3 j4 j5 j6), j7)
def head_Home_J2 (j8 : Int) (j9 : List (List UInt8)) (j10 : List Bool) (j11 : UInt8) (j12 : Bool) (j13 : UInt32) (j14 : Int) : Option (Head × Int) :=
  (head_Home_J1 j8 j9 j10 j11 j12 j13 j14)
def head_Home_J3 (j18 : Int) (j19 : Int) (j20 : List (List UInt8)) (j21 : List Bool) (j22 : UInt8) (j23 : Bool) (j24 : UInt32) : Option (Head × Int) :=
  (head_Home_J2 j19 j20 j21 j22 j23 j24 j18)
def head_Home_J4 (x17 : Head) (j25 : Int) (j26 : List (List UInt8)) (j27 : List Bool) (j28 : UInt8) (j29 : UInt32) : Option (Head × Int) :=
  (bif (j25 == (0 : Int)) then (head_Home_J3 j25 x17.Stripe j26 j27 j28 x17.Deals j29) else (head_Home_J3 j25 (0 : Int) ([] : List (List UInt8)) ([] : List Bool) (0 : UInt8) false (0 : UInt32)))
def head_Home_J5 (x17 : Head) (j32 : List (List UInt8)) : Option (Head × Int) :=
  (head_Home_J4 x17 (0 : Int) j32 (List.replicate (x17.Dirty).length false) (0 : UInt8) (0 : UInt32))
/-- freeboard/head.Home -/
def head_Home (a0 : Config) (a1 : Head) : Option (Head × Int) :=
  Option.bind (head_Check a0 a1) (fun x15 => (bif (x15 != (0 : Int)) then (head_Home_J2 (0 : Int) ([] : List (List UInt8)) ([] : List Bool) (0 : UInt8) false (0 : UInt32) x15) else (bif ((decide ((0 : Int) < (0 : Int))) || (decide ((0 : Int) ≥ (wI (a0.Members - (1 : Int)))))) then (head_Home_J2 (0 : Int) ([] : List (List UInt8)) ([] : List Bool) (0 : UInt8) false (0 : UInt32) (2 : Int)) else Option.bind (head_odd ([] : List UInt8)) (fun x16 => (bif x16 then (head_Home_J2 (0 : Int) ([] : List (List UInt8)) ([] : List Bool) (0 : UInt8) false (0 : UInt32) (3 : Int)) else Option.bind (head_Twin a1) (fun x17 => Option.bind (head_may (4 : Int) x17.Phase) (fun x30 => Option.bind (gO ((!(!x30)) && (((4 : Int) == (0 : Int)))) (slices_Contains_bool_bool x17.Dirty true)) (fun x31 => (bif ((!x30) || (((4 : Int) == (0 : Int)) && (!x31))) then (head_Home_J4 x17 (6 : Int) x17.Blocks x17.Dirty x17.Phase x17.Seq) else Option.bind (bnd (x17.Blocks).length (wI (a0.Members - (1 : Int)))) (fun x33 => (head_Home_J5 x17 ((x17.Blocks).set x33 ([] : List UInt8)))))))))))))
set_option maxRecDepth 100000 in
set_option maxHeartbeats 2000000 in
theorem head_Home_c (a0 : Config) (a1 : Head) {r : Head × Int} (hm : head_Home a0 a1 = some r) : Ctr Try.prog 36 [.rep 0 a0, .rep 0 a1] (.tup2 (.flds [(false, 1, (.fl r.1.Stripe)), (false, 1, (.own 0 (some 1) 31 r.1.Blocks)), (false, 1, (.own 2 none 4 r.1.Dirty)), (false, 1, (.fl r.1.Phase)), (false, 1, (.fl r.1.Deals)), (false, 1, (.fl r.1.Seq))]) (.fl r.2)) [] := by
 refine ctr_of_walk [[79, 91], [80], [81, 92]] 12 Try.func36 rfl rfl rfl rfl (fun w0 om => ?_)
 unfold head_Home at hm
 refine CWalk.sub (G' := [.fact 0 (.rep [] (a0 : Config)), .fact 1 (.rep [0] (a1 : Head))]) (Sub.cons (Has.fl (Has.s rfl)) (sn Sub.nil)) ?_
 refine CWalk.seq ?_
 refine CWalk.region ?_
 refine ws (Step.boxObj (ls := [(false, 1, Fact.rep [] a0.Id), (false, 1, Fact.rep [] a0.Members), (false, 1, Fact.rep [] a0.Chunk), (false, 1, Fact.rep [] a0.Rows), (false, 1, Fact.rep [] a0.Log), (false, 1, Fact.rep [] a0.Heads)]) 10 rfl rfl rfl rfl (HasL.flds (Has.cv (Has.s rfl) (Cv.trans (Cv.opens (chConfig a0)) (Cv.flds (CvL.cons Cv.fl (CvL.cons Cv.fl (CvL.cons Cv.fl (CvL.cons Cv.fl (CvL.cons Cv.fl (CvL.cons Cv.fl CvL.nil))))))))))) ?_
 refine ws (Step.boxObj (ls := [(false, 1, Fact.rep [] a1.Stripe), (false, 1, Fact.rep [0] a1.Blocks), (false, 1, Fact.rep [0] a1.Dirty), (false, 1, Fact.rep [] a1.Phase), (false, 1, Fact.rep [] a1.Deals), (false, 1, Fact.rep [] a1.Seq)]) 17 rfl rfl rfl rfl (HasL.flds (Has.cv (Has.s rfl) (Cv.trans (Cv.opens (chHead a1)) (Cv.flds (CvL.cons Cv.fl (CvL.cons Cv.refl (CvL.cons Cv.refl (CvL.cons Cv.fl (CvL.cons Cv.fl (CvL.cons Cv.fl CvL.nil))))))))))) ?_
 refine ws (Step.allocObj (ls := [(false, 1, Fact.rep [] ((0 : Int) : Int)), (false, 1, Fact.nilv), (false, 1, Fact.nilv), (false, 1, Fact.rep [] ((0 : UInt8) : UInt8)), (false, 1, Fact.rep [] (false : Bool)), (false, 1, Fact.rep [] ((0 : UInt32) : UInt32))]) 24 rfl rfl rfl rfl zl28) ?_
 refine wo (Spec.assign Has.int) ?_
 refine Walk.nil ?_
 refine Leaf.thenN ?_
 refine CWalk.seq ?_
 refine CWalk.region ?_
 refine wo (Spec.loadObj (ls := [(false, 1, Fact.rep [] a0.Id), (false, 1, Fact.rep [] a0.Members), (false, 1, Fact.rep [] a0.Chunk), (false, 1, Fact.rep [] a0.Rows), (false, 1, Fact.rep [] a0.Log), (false, 1, Fact.rep [] a0.Heads)]) ty24 rfl rfl (Has.s rfl) rfl (HasGs.cons (HasG.s rfl) (HasGs.cons (HasG.s rfl) (HasGs.cons (HasG.s rfl) (HasGs.cons (HasG.s rfl) (HasGs.cons (HasG.s rfl) (HasGs.cons (HasG.s rfl) HasGs.nil))))))) ?_
 refine wo (Spec.loadObj (ls := [(false, 1, Fact.rep [] a1.Stripe), (false, 1, Fact.rep [0] a1.Blocks), (false, 1, Fact.rep [0] a1.Dirty), (false, 1, Fact.rep [] a1.Phase), (false, 1, Fact.rep [] a1.Deals), (false, 1, Fact.rep [] a1.Seq)]) ty28 rfl rfl (Has.s rfl) rfl (HasGs.cons (HasG.s rfl) (HasGs.cons (HasG.s rfl) (HasGs.cons (HasG.s rfl) (HasGs.cons (HasG.s rfl) (HasGs.cons (HasG.s rfl) (HasGs.cons (HasG.s rfl) HasGs.nil))))))) ?_
 refine wo (Spec.makeFunc (xs := []) (ys := [.tmp 2]) rfl rfl HasF.nil (HasF.cons (Has.s rfl) HasF.nil) (fun _ _ _ => rfl)) ?_
 refine Walk.inline (S := Int × (List (List UInt8)) × (List Bool) × UInt8 × Bool × UInt32 × Int) (fun p : Int × (List (List UInt8)) × (List Bool) × UInt8 × Bool × UInt32 × Int => [.fact 4 (.isv 24), .fact 9 (.tup2 (Fact.flds [(false, 1, Fact.rep [] p.1), (false, 1, Fact.ow [79, 91] [80] 31 (p.2.1 : List (List UInt8))), (false, 1, Fact.ow [81, 92] [] 4 (p.2.2.1 : List Bool)), (false, 1, Fact.rep [] p.2.2.2.1), (false, 1, Fact.rep [] p.2.2.2.2.1), (false, 1, Fact.rep [] p.2.2.2.2.2.1)]) (Fact.rep [] p.2.2.2.2.2.2)), .fact 100025 (.at 25 (.rep [] ((0 : Int) : Int))), .fact 100026 (.at 26 (.nilv)), .fact 100027 (.at 27 (.nilv)), .fact 100028 (.at 28 (.rep [] ((0 : UInt8) : UInt8))), .fact 100029 (.at 29 (.rep [] (false : Bool))), .fact 100030 (.at 30 (.rep [] ((0 : UInt32) : UInt32))), .fact 100024 (.obj 24 [(false, 1), (false, 1), (false, 1), (false, 1), (false, 1), (false, 1)])]) (fun p : Int × (List (List UInt8)) × (List Bool) × UInt8 × Bool × UInt32 × Int => head_Home_J1 p.1 p.2.1 p.2.2.1 p.2.2.2.1 p.2.2.2.2.1 p.2.2.2.2.2.1 p.2.2.2.2.2.2 = some r) (fun u1 => [.fact 100011 (.at 11 (.rep [] a0.Id)), .fact 100012 (.at 12 (.rep [] a0.Members)), .fact 100013 (.at 13 (.rep [] a0.Chunk)), .fact 100014 (.at 14 (.rep [] a0.Rows)), .fact 100015 (.at 15 (.rep [] a0.Log)), .fact 100016 (.at 16 (.rep [] a0.Heads)), .fact 100025 (.at 25 (.rep [] ((0 : Int) : Int))), .fact 100026 (.at 26 (.nilv)), .fact 100027 (.at 27 (.nilv)), .fact 100028 (.at 28 (.rep [] ((0 : UInt8) : UInt8))), .fact 100029 (.at 29 (.rep [] (false : Bool))), .fact 100030 (.at 30 (.rep [] ((0 : UInt32) : UInt32))), .fact 902004 (.cst (u1 4) (Fact.isv 24)), .fact 100010 (.obj 10 [(false, 1), (false, 1), (false, 1), (false, 1), (false, 1), (false, 1)]), .fact 100024 (.obj 24 [(false, 1), (false, 1), (false, 1), (false, 1), (false, 1), (false, 1)])]) (FA := [Fact.flds [(false, 1, Fact.rep [] a0.Id), (false, 1, Fact.rep [] a0.Members), (false, 1, Fact.rep [] a0.Chunk), (false, 1, Fact.rep [] a0.Rows), (false, 1, Fact.rep [] a0.Log), (false, 1, Fact.rep [] a0.Heads)], Fact.flds [(false, 1, Fact.rep [] a1.Stripe), (false, 1, Fact.rep [0] a1.Blocks), (false, 1, Fact.rep [0] a1.Dirty), (false, 1, Fact.rep [] a1.Phase), (false, 1, Fact.rep [] a1.Deals), (false, 1, Fact.rep [] a1.Seq)], Fact.rep [] ((4 : Int) : Int), Fact.fnv 71 [] [Fact.isv 10]]) rfl Try.func63 rfl rfl rfl (CallOk.fn en63 (HasF.cons (Has.s rfl) (HasF.cons (Has.s rfl) (HasF.cons Has.int (HasF.cons (Has.s rfl) HasF.nil))))) (fun u1 => (ck (ck (ck (ck (ck (ck (ck (ck (ck (ck (ck (ck (cs 902000 4 (ck (ck Carry.nil)))))))))))))))) (fun u1 => ?_) ?_
 ·refine CWalk.seq ?_
  refine CWalk.region ?_
  refine ws (Step.boxObj (ls := [(false, 1, Fact.rep [] a0.Id), (false, 1, Fact.rep [] a0.Members), (false, 1, Fact.rep [] a0.Chunk), (false, 1, Fact.rep [] a0.Rows), (false, 1, Fact.rep [] a0.Log), (false, 1, Fact.rep [] a0.Heads)]) 31 rfl rfl rfl rfl (HasL.flds (Has.s rfl))) ?_
  refine ws (Step.boxObj (ls := [(false, 1, Fact.rep [] a1.Stripe), (false, 1, Fact.rep [0] a1.Blocks), (false, 1, Fact.rep [0] a1.Dirty), (false, 1, Fact.rep [] a1.Phase), (false, 1, Fact.rep [] a1.Deals), (false, 1, Fact.rep [] a1.Seq)]) 38 rfl rfl rfl rfl (HasL.flds (Has.s rfl))) ?_
  refine ws (Step.boxObj (ls := [(false, 1, Fact.rep [] ((4 : Int) : Int))]) 45 rfl rfl rfl rfl (HasL.one (Has.s rfl) rfl (Has.s rfl))) ?_
  refine ws (Step.boxObj (ls := [(false, 1, Fact.fnv 71 [] [Fact.isv 10])]) 47 rfl rfl rfl rfl (HasL.fnv (Has.s rfl))) ?_
  refine ws (Step.allocObj (ls := [(false, 1, Fact.rep [] ((0 : Int) : Int)), (false, 1, Fact.nilv), (false, 1, Fact.nilv), (false, 1, Fact.rep [] ((0 : UInt8) : UInt8)), (false, 1, Fact.rep [] (false : Bool)), (false, 1, Fact.rep [] ((0 : UInt32) : UInt32))]) 49 rfl rfl rfl rfl zl28) ?_
  refine wo (Spec.assign Has.int) ?_
  refine Walk.nil ?_
  refine Leaf.thenN ?_
  refine CWalk.seq ?_
  refine CWalk.region ?_
  refine wo (Spec.loadObj (ls := [(false, 1, Fact.rep [] a0.Id), (false, 1, Fact.rep [] a0.Members), (false, 1, Fact.rep [] a0.Chunk), (false, 1, Fact.rep [] a0.Rows), (false, 1, Fact.rep [] a0.Log), (false, 1, Fact.rep [] a0.Heads)]) ty24 rfl rfl (Has.s rfl) rfl (HasGs.cons (HasG.s rfl) (HasGs.cons (HasG.s rfl) (HasGs.cons (HasG.s rfl) (HasGs.cons (HasG.s rfl) (HasGs.cons (HasG.s rfl) (HasGs.cons (HasG.s rfl) HasGs.nil))))))) ?_
  refine wo (Spec.loadObj (ls := [(false, 1, Fact.rep [] a1.Stripe), (false, 1, Fact.rep [0] a1.Blocks), (false, 1, Fact.rep [0] a1.Dirty), (false, 1, Fact.rep [] a1.Phase), (false, 1, Fact.rep [] a1.Deals), (false, 1, Fact.rep [] a1.Seq)]) ty28 rfl rfl (Has.s rfl) rfl (HasGs.cons (HasG.s rfl) (HasGs.cons (HasG.s rfl) (HasGs.cons (HasG.s rfl) (HasGs.cons (HasG.s rfl) (HasGs.cons (HasG.s rfl) (HasGs.cons (HasG.s rfl) HasGs.nil))))))) ?_
  refine wo (Spec.makeFunc (xs := []) (ys := [.tmp 6, .tmp 7]) rfl rfl HasF.nil (HasF.cons (Has.s rfl) (HasF.cons (Has.s rfl) HasF.nil)) (fun _ _ _ => rfl)) ?_
  refine Walk.inline (S := Int × (List (List UInt8)) × (List Bool) × UInt8 × Bool × UInt32 × Int) (fun p : Int × (List (List UInt8)) × (List Bool) × UInt8 × Bool × UInt32 × Int => [.fact 8 (.isv 49), .fact 13 (.tup2 (Fact.flds [(false, 1, Fact.rep [] p.1), (false, 1, Fact.ow [79, 91] [80] 31 (p.2.1 : List (List UInt8))), (false, 1, Fact.ow [81, 92] [] 4 (p.2.2.1 : List Bool)), (false, 1, Fact.rep [] p.2.2.2.1), (false, 1, Fact.rep [] p.2.2.2.2.1), (false, 1, Fact.rep [] p.2.2.2.2.2.1)]) (Fact.rep [] p.2.2.2.2.2.2)), .fact 902004 (.cst (u1 4) (Fact.isv 24)), .fact 100050 (.at 50 (.rep [] ((0 : Int) : Int))), .fact 100051 (.at 51 (.nilv)), .fact 100052 (.at 52 (.nilv)), .fact 100053 (.at 53 (.rep [] ((0 : UInt8) : UInt8))), .fact 100054 (.at 54 (.rep [] (false : Bool))), .fact 100055 (.at 55 (.rep [] ((0 : UInt32) : UInt32))), .fact 100025 (.at 25 (.rep [] ((0 : Int) : Int))), .fact 100026 (.at 26 (.nilv)), .fact 100027 (.at 27 (.nilv)), .fact 100028 (.at 28 (.rep [] ((0 : UInt8) : UInt8))), .fact 100029 (.at 29 (.rep [] (false : Bool))), .fact 100030 (.at 30 (.rep [] ((0 : UInt32) : UInt32))), .fact 100049 (.obj 49 [(false, 1), (false, 1), (false, 1), (false, 1), (false, 1), (false, 1)]), .fact 100024 (.obj 24 [(false, 1), (false, 1), (false, 1), (false, 1), (false, 1), (false, 1)])]) (fun p : Int × (List (List UInt8)) × (List Bool) × UInt8 × Bool × UInt32 × Int => head_Home_J2 p.1 p.2.1 p.2.2.1 p.2.2.2.1 p.2.2.2.2.1 p.2.2.2.2.2.1 p.2.2.2.2.2.2 = some r) (fun u2 => [.fact 100011 (.at 11 (.rep [] a0.Id)), .fact 100012 (.at 12 (.rep [] a0.Members)), .fact 100013 (.at 13 (.rep [] a0.Chunk)), .fact 100014 (.at 14 (.rep [] a0.Rows)), .fact 100015 (.at 15 (.rep [] a0.Log)), .fact 100016 (.at 16 (.rep [] a0.Heads)), .fact 100025 (.at 25 (.rep [] ((0 : Int) : Int))), .fact 100026 (.at 26 (.nilv)), .fact 100027 (.at 27 (.nilv)), .fact 100028 (.at 28 (.rep [] ((0 : UInt8) : UInt8))), .fact 100029 (.at 29 (.rep [] (false : Bool))), .fact 100030 (.at 30 (.rep [] ((0 : UInt32) : UInt32))), .fact 100046 (.at 46 (.rep [] ((4 : Int) : Int))), .fact 100048 (.at 48 (.fnv 71 [] [Fact.isv 10])), .fact 100050 (.at 50 (.rep [] ((0 : Int) : Int))), .fact 100051 (.at 51 (.nilv)), .fact 100052 (.at 52 (.nilv)), .fact 100053 (.at 53 (.rep [] ((0 : UInt8) : UInt8))), .fact 100054 (.at 54 (.rep [] (false : Bool))), .fact 100055 (.at 55 (.rep [] ((0 : UInt32) : UInt32))), .fact 902004 (.cst (u1 4) (Fact.isv 24)), .fact 904008 (.cst (u2 8) (Fact.isv 49)), .fact 100010 (.obj 10 [(false, 1), (false, 1), (false, 1), (false, 1), (false, 1), (false, 1)]), .fact 100024 (.obj 24 [(false, 1), (false, 1), (false, 1), (false, 1), (false, 1), (false, 1)]), .fact 100045 (.obj 45 [(false, 1)]), .fact 100047 (.obj 47 [(false, 1)]), .fact 100049 (.obj 49 [(false, 1), (false, 1), (false, 1), (false, 1), (false, 1), (false, 1)])]) (FA := [Fact.flds [(false, 1, Fact.rep [] a0.Id), (false, 1, Fact.rep [] a0.Members), (false, 1, Fact.rep [] a0.Chunk), (false, 1, Fact.rep [] a0.Rows), (false, 1, Fact.rep [] a0.Log), (false, 1, Fact.rep [] a0.Heads)], Fact.flds [(false, 1, Fact.rep [] a1.Stripe), (false, 1, Fact.rep [0] a1.Blocks), (false, 1, Fact.rep [0] a1.Dirty), (false, 1, Fact.rep [] a1.Phase), (false, 1, Fact.rep [] a1.Deals), (false, 1, Fact.rep [] a1.Seq)], Fact.rep [] ((0 : Int) : Int), Fact.nilv, Fact.fnv 77 [] [Fact.isv 45, Fact.isv 47]]) rfl Try.func48 rfl rfl rfl (CallOk.fn en48 (HasF.cons (Has.s rfl) (HasF.cons (Has.s rfl) (HasF.cons Has.int (HasF.cons Has.nilv (HasF.cons (Has.s rfl) HasF.nil)))))) (fun u2 => (ck (ck (ck (ck (ck (ck (ck (ck (ck (ck (ck (ck (ck (ck (ck (ck (ck (ck (ck (ck (ck (cs 904000 8 (ck (ck (ck (ck (ck Carry.nil)))))))))))))))))))))))))))) (fun u2 => ?_) ?_
  ·refine CWalk.seq ?_
   refine CWalk.region ?_
   refine ws (Step.boxObj (ls := [(false, 1, Fact.rep [] a0.Id), (false, 1, Fact.rep [] a0.Members), (false, 1, Fact.rep [] a0.Chunk), (false, 1, Fact.rep [] a0.Rows), (false, 1, Fact.rep [] a0.Log), (false, 1, Fact.rep [] a0.Heads)]) 56 rfl rfl rfl rfl (HasL.flds (Has.s rfl))) ?_
   refine ws (Step.boxObj (ls := [(false, 1, Fact.rep [] a1.Stripe), (false, 1, Fact.rep [0] a1.Blocks), (false, 1, Fact.rep [0] a1.Dirty), (false, 1, Fact.rep [] a1.Phase), (false, 1, Fact.rep [] a1.Deals), (false, 1, Fact.rep [] a1.Seq)]) 63 rfl rfl rfl rfl (HasL.flds (Has.s rfl))) ?_
   refine ws (Step.allocObj (ls := [(false, 1, Fact.rep [] ((0 : Int) : Int)), (false, 1, Fact.nilv), (false, 1, Fact.nilv), (false, 1, Fact.rep [] ((0 : UInt8) : UInt8)), (false, 1, Fact.rep [] (false : Bool)), (false, 1, Fact.rep [] ((0 : UInt32) : UInt32))]) 70 rfl rfl rfl rfl zl28) ?_
   refine wo (Spec.assign Has.int) ?_
   refine Walk.nil ?_
   refine Leaf.thenN ?_
   refine CWalk.seq ?_
   refine CWalk.seq ?_
   refine CWalk.region ?_
   refine wo (Spec.loadObj (ls := [(false, 1, Fact.rep [] a0.Id), (false, 1, Fact.rep [] a0.Members), (false, 1, Fact.rep [] a0.Chunk), (false, 1, Fact.rep [] a0.Rows), (false, 1, Fact.rep [] a0.Log), (false, 1, Fact.rep [] a0.Heads)]) ty24 rfl rfl (Has.s rfl) rfl (HasGs.cons (HasG.s rfl) (HasGs.cons (HasG.s rfl) (HasGs.cons (HasG.s rfl) (HasGs.cons (HasG.s rfl) (HasGs.cons (HasG.s rfl) (HasGs.cons (HasG.s rfl) HasGs.nil))))))) ?_
   refine wo (Spec.loadObj (ls := [(false, 1, Fact.rep [] a1.Stripe), (false, 1, Fact.rep [0] a1.Blocks), (false, 1, Fact.rep [0] a1.Dirty), (false, 1, Fact.rep [] a1.Phase), (false, 1, Fact.rep [] a1.Deals), (false, 1, Fact.rep [] a1.Seq)]) ty28 rfl rfl (Has.s rfl) rfl (HasGs.cons (HasG.s rfl) (HasGs.cons (HasG.s rfl) (HasGs.cons (HasG.s rfl) (HasGs.cons (HasG.s rfl) (HasGs.cons (HasG.s rfl) (HasGs.cons (HasG.s rfl) HasGs.nil))))))) ?_
   obtain ⟨x15, hx15, hm⟩ := bind_some hm
   refine wo (f := Fact.rep [] (x15 : Int)) (Spec.callE [0] 77 rfl en24 (head_Check_c a0 a1 hx15) (HasAll.cons (Has.fl (Has.cv (Has.s rfl) (Cv.trans (Cv.flds (CvL.cons Cv.fl (CvL.cons Cv.fl (CvL.cons Cv.fl (CvL.cons Cv.fl (CvL.cons Cv.fl (CvL.cons Cv.fl CvL.nil))))))) (Cv.close (T := []) (chConfig a0))))) (HasAll.cons (Has.m (Has.cv (Has.s rfl) (Cv.trans (Cv.flds (CvL.cons Cv.fl (CvL.cons (Cv.m rfl) (CvL.cons (Cv.m rfl) (CvL.cons Cv.fl (CvL.cons Cv.fl (CvL.cons Cv.fl CvL.nil))))))) (Cv.close (T := [0]) (chHead a1)))) rfl) HasAll.nil))) ?_
   refine wo (Spec.assign (Has.s rfl)) ?_
   refine Walk.nil ?_
   refine Leaf.thenN ?_
   refine CWalk.seq ?_
   refine CWalk.region ?_
   refine mv ?_
   refine wo (Spec.neqI (Has.s rfl) Has.int) ?_
   refine Walk.nil ?_
   refine Leaf.thenN ?_
   refine CWalk.cond rfl (fun hb => ?_) (fun hb => ?_)
   ·have hm := cond_t hb hm
    refine CWalk.ret ?_
    refine Leaf.thenR ?_
    exact Leaf.in2 ((0 : Int), ([] : List (List UInt8)), ([] : List Bool), (0 : UInt8), false, (0 : UInt32), x15) hm rfl rfl (HasR.cv (HasR.obj (ls := [(false, 1, Fact.rep [] ((0 : Int) : Int)), (false, 1, Fact.nilv), (false, 1, Fact.nilv), (false, 1, Fact.rep [] ((0 : UInt8) : UInt8)), (false, 1, Fact.rep [] (false : Bool)), (false, 1, Fact.rep [] ((0 : UInt32) : UInt32))]) ty28 rfl rfl (Has.s rfl) rfl (HasGs.cons (HasG.s rfl) (HasGs.cons (HasG.s rfl) (HasGs.cons (HasG.s rfl) (HasGs.cons (HasG.s rfl) (HasGs.cons (HasG.s rfl) (HasGs.cons (HasG.s rfl) HasGs.nil))))))) (Cv.flds (CvL.cons Cv.fl (CvL.cons (Cv.trans Cv.nilOw (Cv.owM (T := []) (te := []) rfl rfl)) (CvL.cons (Cv.trans Cv.nilOw (Cv.owF (T := []) (te := []) rfl)) (CvL.cons Cv.fl (CvL.cons Cv.fl (CvL.cons Cv.fl CvL.nil)))))))) (HasR.cv (HasR.tmp (Has.s rfl)) Cv.fl) (ls 904008 (Low.res (lc (lf (lg (lg (lf (lf (lf (lf (lg (lg (lf (lf (lf (lo (lo Low.nil)))))))))))))))))
   ·have hm := cond_f hb hm
    refine CWalk.skip ?_
    refine Leaf.thenN ?_
    refine CWalk.seq ?_
    refine CWalk.seq ?_
    refine CWalk.region ?_
    refine mv ?_
    refine wo (Spec.lssI (Has.s rfl) Has.int) ?_
    refine mv ?_
    refine wg rfl rfl (fun hb => Spec.move (Has.s rfl)) ?_
    refine wg rfl rfl (fun hb => Spec.fieldAddrO fd24_1 (Has.cv (Has.s rfl) (Cv.isvP rfl))) ?_
    refine wg rfl rfl (fun hb => Spec.loadF (i := 1) ty3 rfl (Has.u rfl hb) rfl (HasG.s rfl)) ?_
    refine wg rfl rfl (fun hb => Spec.subI (Has.u rfl hb) Has.int) ?_
    refine wg rfl rfl (fun hb => Spec.geqI (Has.u rfl hb) (Has.u rfl hb)) ?_
    refine wo (Spec.or (Has.s rfl) (fun h => Has.u rfl h)) ?_
    refine Walk.nil ?_
    refine Leaf.thenN ?_
    refine CWalk.cond rfl (fun hb => ?_) (fun hb => ?_)
    ·have hm := cond_t hb hm
     refine CWalk.seq ?_
     refine CWalk.region ?_
     refine wo (Spec.loadObj (ls := [(false, 1, Fact.rep [] ((0 : Int) : Int)), (false, 1, Fact.nilv), (false, 1, Fact.nilv), (false, 1, Fact.rep [] ((0 : UInt8) : UInt8)), (false, 1, Fact.rep [] (false : Bool)), (false, 1, Fact.rep [] ((0 : UInt32) : UInt32))]) ty28 rfl rfl (Has.s rfl) rfl (HasGs.cons (HasG.s rfl) (HasGs.cons (HasG.s rfl) (HasGs.cons (HasG.s rfl) (HasGs.cons (HasG.s rfl) (HasGs.cons (HasG.s rfl) (HasGs.cons (HasG.s rfl) HasGs.nil))))))) ?_
     refine ws (Step.storeObj (ls := [(false, 1, Fact.rep [] ((0 : Int) : Int)), (false, 1, Fact.nilv), (false, 1, Fact.nilv), (false, 1, Fact.rep [] ((0 : UInt8) : UInt8)), (false, 1, Fact.rep [] (false : Bool)), (false, 1, Fact.rep [] ((0 : UInt32) : UInt32))]) rfl ty28 rfl rfl (Has.s rfl) rfl (HasL.flds (Has.s rfl)) rfl) ?_
     refine wo (Spec.assign Has.int) ?_
     refine Walk.nil ?_
     refine Leaf.thenN ?_
     refine CWalk.ret ?_
     refine Leaf.thenR ?_
     exact Leaf.in2 ((0 : Int), ([] : List (List UInt8)), ([] : List Bool), (0 : UInt8), false, (0 : UInt32), (2 : Int)) hm rfl rfl (HasR.cv (HasR.obj (ls := [(false, 1, Fact.rep [] ((0 : Int) : Int)), (false, 1, Fact.nilv), (false, 1, Fact.nilv), (false, 1, Fact.rep [] ((0 : UInt8) : UInt8)), (false, 1, Fact.rep [] (false : Bool)), (false, 1, Fact.rep [] ((0 : UInt32) : UInt32))]) ty28 rfl rfl (Has.s rfl) rfl (HasGs.cons (HasG.s rfl) (HasGs.cons (HasG.s rfl) (HasGs.cons (HasG.s rfl) (HasGs.cons (HasG.s rfl) (HasGs.cons (HasG.s rfl) (HasGs.cons (HasG.s rfl) HasGs.nil))))))) (Cv.flds (CvL.cons Cv.fl (CvL.cons (Cv.trans Cv.nilOw (Cv.owM (T := []) (te := []) rfl rfl)) (CvL.cons (Cv.trans Cv.nilOw (Cv.owF (T := []) (te := []) rfl)) (CvL.cons Cv.fl (CvL.cons Cv.fl (CvL.cons Cv.fl CvL.nil)))))))) (HasR.cv (HasR.tmp (Has.s rfl)) Cv.fl) (ls 904008 (Low.res (lc (lf (lg (lg (lf (lf (lf (lf (lg (lg (lf (lf (lf (lo (lo Low.nil)))))))))))))))))
    ·have hm := cond_f hb hm
     refine CWalk.skip ?_
     refine Leaf.thenN ?_
     refine CWalk.seq ?_
     refine CWalk.seq ?_
     refine CWalk.region ?_
     refine mv ?_
     obtain ⟨x16, hx16, hm⟩ := bind_some hm
     refine wo (f := Fact.rep [] (x16 : Bool)) (Spec.callE [] 78 rfl en58 (head_odd_c ([] : List UInt8) hx16) (HasAll.cons (Has.m (Has.cv (Has.s rfl) (Cv.nil (T := []))) rfl) HasAll.nil)) ?_
     refine Walk.nil ?_
     refine Leaf.thenN ?_
     refine CWalk.cond rfl (fun hb => ?_) (fun hb => ?_)
     ·have hm := cond_t hb hm
      refine CWalk.seq ?_
      refine CWalk.region ?_
      refine wo (Spec.loadObj (ls := [(false, 1, Fact.rep [] ((0 : Int) : Int)), (false, 1, Fact.nilv), (false, 1, Fact.nilv), (false, 1, Fact.rep [] ((0 : UInt8) : UInt8)), (false, 1, Fact.rep [] (false : Bool)), (false, 1, Fact.rep [] ((0 : UInt32) : UInt32))]) ty28 rfl rfl (Has.s rfl) rfl (HasGs.cons (HasG.s rfl) (HasGs.cons (HasG.s rfl) (HasGs.cons (HasG.s rfl) (HasGs.cons (HasG.s rfl) (HasGs.cons (HasG.s rfl) (HasGs.cons (HasG.s rfl) HasGs.nil))))))) ?_
      refine ws (Step.storeObj (ls := [(false, 1, Fact.rep [] ((0 : Int) : Int)), (false, 1, Fact.nilv), (false, 1, Fact.nilv), (false, 1, Fact.rep [] ((0 : UInt8) : UInt8)), (false, 1, Fact.rep [] (false : Bool)), (false, 1, Fact.rep [] ((0 : UInt32) : UInt32))]) rfl ty28 rfl rfl (Has.s rfl) rfl (HasL.flds (Has.s rfl)) rfl) ?_
      refine wo (Spec.assign Has.int) ?_
      refine Walk.nil ?_
      refine Leaf.thenN ?_
      refine CWalk.ret ?_
      refine Leaf.thenR ?_
      exact Leaf.in2 ((0 : Int), ([] : List (List UInt8)), ([] : List Bool), (0 : UInt8), false, (0 : UInt32), (3 : Int)) hm rfl rfl (HasR.cv (HasR.obj (ls := [(false, 1, Fact.rep [] ((0 : Int) : Int)), (false, 1, Fact.nilv), (false, 1, Fact.nilv), (false, 1, Fact.rep [] ((0 : UInt8) : UInt8)), (false, 1, Fact.rep [] (false : Bool)), (false, 1, Fact.rep [] ((0 : UInt32) : UInt32))]) ty28 rfl rfl (Has.s rfl) rfl (HasGs.cons (HasG.s rfl) (HasGs.cons (HasG.s rfl) (HasGs.cons (HasG.s rfl) (HasGs.cons (HasG.s rfl) (HasGs.cons (HasG.s rfl) (HasGs.cons (HasG.s rfl) HasGs.nil))))))) (Cv.flds (CvL.cons Cv.fl (CvL.cons (Cv.trans Cv.nilOw (Cv.owM (T := []) (te := []) rfl rfl)) (CvL.cons (Cv.trans Cv.nilOw (Cv.owF (T := []) (te := []) rfl)) (CvL.cons Cv.fl (CvL.cons Cv.fl (CvL.cons Cv.fl CvL.nil)))))))) (HasR.cv (HasR.tmp (Has.s rfl)) Cv.fl) (ls 904008 (Low.res (lc (lf (lg (lg (lf (lf (lf (lf (lg (lg (lf (lf (lf (lo (lo Low.nil)))))))))))))))))
     ·have hm := cond_f hb hm
      refine CWalk.skip ?_
      refine Leaf.thenN ?_
      refine CWalk.seq ?_
      refine CWalk.region ?_
      refine wo (Spec.loadObj (ls := [(false, 1, Fact.rep [] a1.Stripe), (false, 1, Fact.rep [0] a1.Blocks), (false, 1, Fact.rep [0] a1.Dirty), (false, 1, Fact.rep [] a1.Phase), (false, 1, Fact.rep [] a1.Deals), (false, 1, Fact.rep [] a1.Seq)]) ty28 rfl rfl (Has.s rfl) rfl (HasGs.cons (HasG.s rfl) (HasGs.cons (HasG.s rfl) (HasGs.cons (HasG.s rfl) (HasGs.cons (HasG.s rfl) (HasGs.cons (HasG.s rfl) (HasGs.cons (HasG.s rfl) HasGs.nil))))))) ?_
      obtain ⟨x17, hx17, hm⟩ := bind_some hm
      refine wo (f := Fact.flds [(false, 1, Fact.rep [] x17.Stripe), (false, 1, Fact.ow [79] [80] 31 (x17.Blocks : List (List UInt8))), (false, 1, Fact.ow [81] [] 4 (x17.Dirty : List Bool)), (false, 1, Fact.rep [] x17.Phase), (false, 1, Fact.rep [] x17.Deals), (false, 1, Fact.rep [] x17.Seq)]) (Spec.callE [0] 79 rfl en23 (head_Twin_c a1 hx17) (HasAll.cons (Has.m (Has.cv (Has.s rfl) (Cv.trans (Cv.flds (CvL.cons Cv.fl (CvL.cons (Cv.m rfl) (CvL.cons (Cv.m rfl) (CvL.cons Cv.fl (CvL.cons Cv.fl (CvL.cons Cv.fl CvL.nil))))))) (Cv.close (T := [0]) (chHead a1)))) rfl) HasAll.nil)) ?_
      refine ws (Step.allocObj (ls := [(false, 1, Fact.rep [] ((0 : Int) : Int)), (false, 1, Fact.nilv), (false, 1, Fact.nilv), (false, 1, Fact.rep [] ((0 : UInt8) : UInt8)), (false, 1, Fact.rep [] (false : Bool)), (false, 1, Fact.rep [] ((0 : UInt32) : UInt32))]) 82 rfl rfl rfl rfl zl28) ?_
      refine ws (Step.storeObj (ls := [(false, 1, Fact.rep [] x17.Stripe), (false, 1, Fact.ow [79] [80] 31 (x17.Blocks : List (List UInt8))), (false, 1, Fact.ow [81] [] 4 (x17.Dirty : List Bool)), (false, 1, Fact.rep [] x17.Phase), (false, 1, Fact.rep [] x17.Deals), (false, 1, Fact.rep [] x17.Seq)]) rfl ty28 rfl rfl (Has.s rfl) rfl (HasL.flds (Has.s rfl)) rfl) ?_
      refine Walk.nil ?_
      refine Leaf.thenN ?_
      refine CWalk.seqJ (fun p : Int × Int × (List (List UInt8)) × (List Bool) × UInt8 × Bool × UInt32 => [.fact 10 (.isv 70), .fact 11 (.rep [] p.1), .fact 902004 (.cst (u1 4) (Fact.isv 24)), .fact 904008 (.cst (u2 8) (Fact.isv 49)), .fact 100071 (.at 71 (.rep [] p.2.1)), .fact 100072 (.at 72 (.ow [79, 91] [80] 31 (p.2.2.1 : List (List UInt8)))), .fact 100073 (.at 73 (.ow [81, 92] [] 4 (p.2.2.2.1 : List Bool))), .fact 100074 (.at 74 (.rep [] p.2.2.2.2.1)), .fact 100075 (.at 75 (.rep [] p.2.2.2.2.2.1)), .fact 100076 (.at 76 (.rep [] p.2.2.2.2.2.2)), .fact 100025 (.at 25 (.rep [] ((0 : Int) : Int))), .fact 100026 (.at 26 (.nilv)), .fact 100027 (.at 27 (.nilv)), .fact 100028 (.at 28 (.rep [] ((0 : UInt8) : UInt8))), .fact 100029 (.at 29 (.rep [] (false : Bool))), .fact 100030 (.at 30 (.rep [] ((0 : UInt32) : UInt32))), .fact 100050 (.at 50 (.rep [] ((0 : Int) : Int))), .fact 100051 (.at 51 (.nilv)), .fact 100052 (.at 52 (.nilv)), .fact 100053 (.at 53 (.rep [] ((0 : UInt8) : UInt8))), .fact 100054 (.at 54 (.rep [] (false : Bool))), .fact 100055 (.at 55 (.rep [] ((0 : UInt32) : UInt32))), .fact 100070 (.obj 70 [(false, 1), (false, 1), (false, 1), (false, 1), (false, 1), (false, 1)]), .fact 100024 (.obj 24 [(false, 1), (false, 1), (false, 1), (false, 1), (false, 1), (false, 1)]), .fact 100049 (.obj 49 [(false, 1), (false, 1), (false, 1), (false, 1), (false, 1), (false, 1)])]) (fun p : Int × Int × (List (List UInt8)) × (List Bool) × UInt8 × Bool × UInt32 => head_Home_J3 p.1 p.2.1 p.2.2.1 p.2.2.2.1 p.2.2.2.2.1 p.2.2.2.2.2.1 p.2.2.2.2.2.2 = some r) ?_ ?_
      ·rintro ⟨j18, j19, j20, j21, j22, j23, j24⟩ hm
       replace hm : head_Home_J3 j18 j19 j20 j21 j22 j23 j24 = some r := hm
       unfold head_Home_J3 at hm
       show CWalk _ [.fact 10 (.isv 70), .fact 11 (.rep [] (j18 : Int)), .fact 902004 (.cst (u1 4) (Fact.isv 24)), .fact 904008 (.cst (u2 8) (Fact.isv 49)), .fact 100071 (.at 71 (.rep [] (j19 : Int))), .fact 100072 (.at 72 (.ow [79, 91] [80] 31 (j20 : List (List UInt8)))), .fact 100073 (.at 73 (.ow [81, 92] [] 4 (j21 : List Bool))), .fact 100074 (.at 74 (.rep [] (j22 : UInt8))), .fact 100075 (.at 75 (.rep [] (j23 : Bool))), .fact 100076 (.at 76 (.rep [] (j24 : UInt32))), .fact 100025 (.at 25 (.rep [] ((0 : Int) : Int))), .fact 100026 (.at 26 (.nilv)), .fact 100027 (.at 27 (.nilv)), .fact 100028 (.at 28 (.rep [] ((0 : UInt8) : UInt8))), .fact 100029 (.at 29 (.rep [] (false : Bool))), .fact 100030 (.at 30 (.rep [] ((0 : UInt32) : UInt32))), .fact 100050 (.at 50 (.rep [] ((0 : Int) : Int))), .fact 100051 (.at 51 (.nilv)), .fact 100052 (.at 52 (.nilv)), .fact 100053 (.at 53 (.rep [] ((0 : UInt8) : UInt8))), .fact 100054 (.at 54 (.rep [] (false : Bool))), .fact 100055 (.at 55 (.rep [] ((0 : UInt32) : UInt32))), .fact 100070 (.obj 70 [(false, 1), (false, 1), (false, 1), (false, 1), (false, 1), (false, 1)]), .fact 100024 (.obj 24 [(false, 1), (false, 1), (false, 1), (false, 1), (false, 1), (false, 1)]), .fact 100049 (.obj 49 [(false, 1), (false, 1), (false, 1), (false, 1), (false, 1), (false, 1)])] _ _
       refine CWalk.ret ?_
       exact Leaf.in2 (j19, j20, j21, j22, j23, j24, j18) hm rfl rfl (HasR.cv (HasR.obj (ls := [(false, 1, Fact.rep [] (j19 : Int)), (false, 1, Fact.ow [79, 91] [80] 31 (j20 : List (List UInt8))), (false, 1, Fact.ow [81, 92] [] 4 (j21 : List Bool)), (false, 1, Fact.rep [] (j22 : UInt8)), (false, 1, Fact.rep [] (j23 : Bool)), (false, 1, Fact.rep [] (j24 : UInt32))]) ty28 rfl rfl (Has.s rfl) rfl (HasGs.cons (HasG.s rfl) (HasGs.cons (HasG.s rfl) (HasGs.cons (HasG.s rfl) (HasGs.cons (HasG.s rfl) (HasGs.cons (HasG.s rfl) (HasGs.cons (HasG.s rfl) HasGs.nil))))))) (Cv.flds (CvL.cons Cv.fl (CvL.cons (Cv.owM (T := [79, 91]) (te := [80]) rfl rfl) (CvL.cons (Cv.owF (T := [81, 92]) (te := []) rfl) (CvL.cons Cv.fl (CvL.cons Cv.fl (CvL.cons Cv.fl CvL.nil)))))))) (HasR.cv (HasR.tmp (Has.s rfl)) Cv.fl) (ls 904008 (Low.res (lc (lf (lg (lg (lf (lf (lf (lf (lg (lg (lf (lf (lf (lo (lo Low.nil)))))))))))))))))
      ·refine CWalk.seq ?_
       refine CWalk.region ?_
       refine mv ?_
       refine Walk.inline (S := Int × (List (List UInt8)) × (List Bool) × UInt8 × UInt32) (fun p : Int × (List (List UInt8)) × (List Bool) × UInt8 × UInt32 => [.fact 10 (.isv 70), .fact 12 (.isv 82), .fact 34 (.rep [] p.1), .fact 902004 (.cst (u1 4) (Fact.isv 24)), .fact 904008 (.cst (u2 8) (Fact.isv 49)), .fact 100071 (.at 71 (.rep [] ((0 : Int) : Int))), .fact 100072 (.at 72 (.nilv)), .fact 100073 (.at 73 (.nilv)), .fact 100074 (.at 74 (.rep [] ((0 : UInt8) : UInt8))), .fact 100075 (.at 75 (.rep [] (false : Bool))), .fact 100076 (.at 76 (.rep [] ((0 : UInt32) : UInt32))), .fact 100083 (.at 83 (.rep [] x17.Stripe)), .fact 100084 (.at 84 (.ow [79, 91] [80] 31 (p.2.1 : List (List UInt8)))), .fact 100085 (.at 85 (.ow [81, 92] [] 4 (p.2.2.1 : List Bool))), .fact 100086 (.at 86 (.rep [] p.2.2.2.1)), .fact 100087 (.at 87 (.rep [] x17.Deals)), .fact 100088 (.at 88 (.rep [] p.2.2.2.2)), .fact 100025 (.at 25 (.rep [] ((0 : Int) : Int))), .fact 100026 (.at 26 (.nilv)), .fact 100027 (.at 27 (.nilv)), .fact 100028 (.at 28 (.rep [] ((0 : UInt8) : UInt8))), .fact 100029 (.at 29 (.rep [] (false : Bool))), .fact 100030 (.at 30 (.rep [] ((0 : UInt32) : UInt32))), .fact 100050 (.at 50 (.rep [] ((0 : Int) : Int))), .fact 100051 (.at 51 (.nilv)), .fact 100052 (.at 52 (.nilv)), .fact 100053 (.at 53 (.rep [] ((0 : UInt8) : UInt8))), .fact 100054 (.at 54 (.rep [] (false : Bool))), .fact 100055 (.at 55 (.rep [] ((0 : UInt32) : UInt32))), .fact 100070 (.obj 70 [(false, 1), (false, 1), (false, 1), (false, 1), (false, 1), (false, 1)]), .fact 100082 (.obj 82 [(false, 1), (false, 1), (false, 1), (false, 1), (false, 1), (false, 1)]), .fact 100024 (.obj 24 [(false, 1), (false, 1), (false, 1), (false, 1), (false, 1), (false, 1)]), .fact 100049 (.obj 49 [(false, 1), (false, 1), (false, 1), (false, 1), (false, 1), (false, 1)])]) (fun p : Int × (List (List UInt8)) × (List Bool) × UInt8 × UInt32 => head_Home_J4 x17 p.1 p.2.1 p.2.2.1 p.2.2.2.1 p.2.2.2.2 = some r) (fun u3 => [.fact 100011 (.at 11 (.rep [] a0.Id)), .fact 100012 (.at 12 (.rep [] a0.Members)), .fact 100013 (.at 13 (.rep [] a0.Chunk)), .fact 100014 (.at 14 (.rep [] a0.Rows)), .fact 100015 (.at 15 (.rep [] a0.Log)), .fact 100016 (.at 16 (.rep [] a0.Heads)), .fact 100025 (.at 25 (.rep [] ((0 : Int) : Int))), .fact 100026 (.at 26 (.nilv)), .fact 100027 (.at 27 (.nilv)), .fact 100028 (.at 28 (.rep [] ((0 : UInt8) : UInt8))), .fact 100029 (.at 29 (.rep [] (false : Bool))), .fact 100030 (.at 30 (.rep [] ((0 : UInt32) : UInt32))), .fact 100046 (.at 46 (.rep [] ((4 : Int) : Int))), .fact 100048 (.at 48 (.fnv 71 [] [Fact.isv 10])), .fact 100050 (.at 50 (.rep [] ((0 : Int) : Int))), .fact 100051 (.at 51 (.nilv)), .fact 100052 (.at 52 (.nilv)), .fact 100053 (.at 53 (.rep [] ((0 : UInt8) : UInt8))), .fact 100054 (.at 54 (.rep [] (false : Bool))), .fact 100055 (.at 55 (.rep [] ((0 : UInt32) : UInt32))), .fact 100071 (.at 71 (.rep [] ((0 : Int) : Int))), .fact 100072 (.at 72 (.nilv)), .fact 100073 (.at 73 (.nilv)), .fact 100074 (.at 74 (.rep [] ((0 : UInt8) : UInt8))), .fact 100075 (.at 75 (.rep [] (false : Bool))), .fact 100076 (.at 76 (.rep [] ((0 : UInt32) : UInt32))), .fact 100083 (.at 83 (.rep [] x17.Stripe)), .fact 100084 (.at 84 (.ow [79] [80] 31 (x17.Blocks : List (List UInt8)))), .fact 100085 (.at 85 (.ow [81] [] 4 (x17.Dirty : List Bool))), .fact 100086 (.at 86 (.rep [] x17.Phase)), .fact 100087 (.at 87 (.rep [] x17.Deals)), .fact 100088 (.at 88 (.rep [] x17.Seq)), .fact 902004 (.cst (u1 4) (Fact.isv 24)), .fact 904008 (.cst (u2 8) (Fact.isv 49)), .fact 906010 (.cst (u3 10) (Fact.isv 70)), .fact 906012 (.cst (u3 12) (Fact.isv 82)), .fact 100010 (.obj 10 [(false, 1), (false, 1), (false, 1), (false, 1), (false, 1), (false, 1)]), .fact 100024 (.obj 24 [(false, 1), (false, 1), (false, 1), (false, 1), (false, 1), (false, 1)]), .fact 100045 (.obj 45 [(false, 1)]), .fact 100047 (.obj 47 [(false, 1)]), .fact 100049 (.obj 49 [(false, 1), (false, 1), (false, 1), (false, 1), (false, 1), (false, 1)]), .fact 100070 (.obj 70 [(false, 1), (false, 1), (false, 1), (false, 1), (false, 1), (false, 1)]), .fact 100082 (.obj 82 [(false, 1), (false, 1), (false, 1), (false, 1), (false, 1), (false, 1)])]) (FA := [Fact.isv 82, Fact.isv 45, Fact.isv 47]) rfl Try.func77 rfl rfl rfl (CallOk.valE en77 (Has.s rfl) (HasF.cons (Has.s rfl) HasF.nil)) (fun u3 => (ck (ck (ck (ck (ck (ck (ck (ck (ck (ck (ck (ck (ck (ck (ck (ck (ck (ck (ck (ck (ck (ck (ck (ck (ck (ck (ck (ck (ck (ck (ck (ck (ck (ck (cs 906000 10 (cs 906000 12 (ck (ck (ck (ck (ck (ck (ck Carry.nil)))))))))))))))))))))))))))))))))))))))))))) (fun u3 => ?_) ?_
       ·refine CWalk.seq ?_
        refine CWalk.region ?_
        refine wo (Spec.assign Has.int) ?_
        refine Walk.nil ?_
        refine Leaf.thenN ?_
        refine CWalk.seq ?_
        refine CWalk.seq ?_
        obtain ⟨x30, hx30, hm⟩ := bind_some hm
        obtain ⟨x31, hx31, hm⟩ := bind_some hm
        refine CWalk.drawM [[], [], [1], [1, 2], [1, 2, 3], [0, 1, 2, 3, 4], [0, 1, 2, 3, 4, 5], [0, 1, 2, 3, 4, 5, 6], [0, 1, 2, 3, 4, 5, 6, 7], [0, 1, 2, 3, 4, 5, 6, 7, 8], [0, 1, 2, 3, 4, 5, 6, 7, 8, 9], [0, 1, 2, 3, 4, 5, 6, 7, 8, 9, 10], [0, 1, 2, 3, 4, 5, 6, 7, 8, 9, 10, 11], [0, 1, 2, 3, 4, 5, 6, 7, 8, 9, 10, 11, 12], [0, 1, 2, 3, 4, 5, 6, 7, 8, 9, 10, 11, 12, 13], [0, 1, 2, 3, 4, 5, 6, 7, 8, 9, 10, 11, 12, 13, 14], [0, 1, 2, 3, 4, 5, 6, 7, 8, 9, 10, 11, 12, 13, 14, 15], [0, 1, 2, 3, 4, 5, 6, 7, 8, 9, 10, 11, 12, 13, 14, 15, 16], [0, 1, 2, 3, 4, 5, 6, 7, 8, 9, 10, 11, 12, 13, 14, 15, 16, 17]] [[.fact 5 (.rep [] ((4 : Int) : Int))], [.fact 6 (.isv 82)], [.fact 7 (.isv 82)], [.fact 8 (.pto 82 3)], [.fact 9 (.rep [] x17.Phase)], [.fact 10 (.rep [] (x30 : Bool))], [.fact 11 (.rep [] ((!x30) : Bool))], [.fact 12 (.rep [] ((!x30) : Bool))], [.fact 13 (.under ((!x30) = false) (.rep [] ((4 : Int) : Int)))], [.fact 14 (.under ((!x30) = false) (.rep [] (((4 : Int) == (0 : Int)) : Bool)))], [.fact 15 (.under ((!x30) = false) (.rep [] (((4 : Int) == (0 : Int)) : Bool)))], [.fact 16 (.under (((!x30) = false) ∧ (((4 : Int) == (0 : Int)) = true)) (.isv 82))], [.fact 17 (.under (((!x30) = false) ∧ (((4 : Int) == (0 : Int)) = true)) (.isv 82))], [.fact 18 (.under (((!x30) = false) ∧ (((4 : Int) == (0 : Int)) = true)) (.pto 82 2))], [.fact 19 (.under (((!x30) = false) ∧ (((4 : Int) == (0 : Int)) = true)) (.ow [81] [] 4 (x17.Dirty : List Bool)))], [.fact 20 (.under (((!x30) = false) ∧ (((4 : Int) == (0 : Int)) = true)) (.rep [] (x31 : Bool)))], [.fact 21 (.under (((!x30) = false) ∧ (((4 : Int) == (0 : Int)) = true)) (.rep [] ((!x31) : Bool)))], [.fact 22 (.under ((!x30) = false) (.rep [] ((((4 : Int) == (0 : Int)) && (!x31)) : Bool)))], [.fact 23 (.rep [] (((!x30) || (((4 : Int) == (0 : Int)) && (!x31))) : Bool))]] mixed (by kernel_rfl) (ao (so (Spec.loadF (i := 0) ty3 rfl (Has.cv (Has.s rfl) (Cv.isvP rfl)) rfl (HasG.s rfl))) (ao (so (Spec.move (Has.s rfl))) (ao (so (Spec.nilCheckI (Has.s rfl) rfl)) (ao (so (Spec.fieldAddrO fd28_3 (Has.cv (Has.s rfl) (Cv.isvP rfl)))) (ao (so (Spec.loadF (i := 3) ty5 rfl (Has.s rfl) rfl (HasG.s rfl))) (ao (so (Spec.callE [] 89 rfl en78 (head_may_c (4 : Int) x17.Phase hx30) (HasAll.cons (Has.fl (Has.s rfl)) (HasAll.cons (Has.fl (Has.s rfl)) HasAll.nil)))) (ao (so (Spec.not (Has.s rfl))) (ao (so (Spec.move (Has.s rfl))) (ao (StepG.opg rfl rfl rfl (fun hb => Spec.loadF (i := 0) ty3 rfl (Has.cv (Has.s rfl) (Cv.isvP rfl)) rfl (HasG.s rfl))) (ao (StepG.opg rfl rfl rfl (fun hb => Spec.eqlI (Has.u rfl hb) Has.int)) (ao (StepG.opg rfl rfl rfl (fun hb => Spec.move (Has.u rfl hb))) (ao (StepG.opgu rfl rfl rfl (fun hb => Spec.move (Has.s rfl))) (ao (StepG.opgu rfl rfl rfl (fun hb => Spec.nilCheckI (Has.u rfl hb) rfl)) (ao (StepG.opgu rfl rfl rfl (fun hb => Spec.fieldAddrO fd28_2 (Has.cv (Has.u rfl hb) (Cv.isvP rfl)))) (ao (StepG.opgu rfl rfl rfl (fun hb => Spec.loadF (i := 2) ty26 rfl (Has.u rfl hb) rfl (HasG.s rfl))) (ao (StepG.opgu rfl rfl rfl (fun hb => Spec.callE [81] 90 rfl en79 (slices_Contains_bool_bool_c x17.Dirty true (gO_t hx31 (and_t (not_t hb.1) hb.2))) (HasAll.cons (Has.m (Has.cv (Has.u rfl hb) (Cv.trans Cv.owSl (Cv.slRep (T' := [81]) rfl rfl))) rfl) (HasAll.cons (Has.fl Has.bool) HasAll.nil)))) (ao (StepG.opgu rfl rfl rfl (fun hb => Spec.not (Has.u rfl hb))) (ao (StepG.opg rfl rfl rfl (fun hb => Spec.and (Has.u rfl hb) (fun h => Has.u rfl ⟨hb, h⟩))) (ao (so (Spec.or (Has.s rfl) (fun h => Has.u rfl h))) AllM.nil))))))))))))))))))) ?_
        refine Leaf.thenN ?_
        refine CWalk.cond rfl (fun hb => ?_) (fun hb => ?_)
        ·have hm := cond_t hb hm
         refine CWalk.seq ?_
         refine CWalk.region ?_
         refine wo (Spec.assign Has.int) ?_
         refine Walk.nil ?_
         refine Leaf.thenN ?_
         refine CWalk.ret ?_
         refine Leaf.thenR ?_
         exact Leaf.in1 ((6 : Int), x17.Blocks, x17.Dirty, x17.Phase, x17.Seq) hm rfl rfl (HasR.cv (HasR.tmp (Has.s rfl)) Cv.fl) (ls 906010 (ls 906012 (Low.res (lc (lc (lf (lg (lg (lf (lf (lf (lf (Low.keepG (HasG.cv (HasG.s rfl) (Cv.owM (T := [79]) (te := [80]) rfl rfl)) (Low.keepG (HasG.cv (HasG.s rfl) (Cv.owF (T := [81]) (te := []) rfl)) (lf (lf (lf (lf (lg (lg (lf (lf (lf (lf (lg (lg (lf (lf (lf (lo (lo (lo (lo Low.nil)))))))))))))))))))))))))))))))))
        ·have hm := cond_f hb hm
         refine CWalk.skip ?_
         refine Leaf.thenN ?_
         refine CWalk.seq ?_
         refine CWalk.region ?_
         refine wo (Spec.loadF (α := Int) (i := 0) ty96 rfl (Has.cv (Has.s rfl) (Cv.isvP rfl)) rfl (HasG.s rfl)) ?_
         refine mv ?_
         refine Walk.inline (S := (List (List UInt8))) (fun p : (List (List UInt8)) => [.fact 26 (.top), .fact 902004 (.cst (u1 4) (Fact.isv 24)), .fact 904008 (.cst (u2 8) (Fact.isv 49)), .fact 906010 (.cst (u3 10) (Fact.isv 70)), .fact 906012 (.cst (u3 12) (Fact.isv 82)), .fact 100025 (.at 25 (.rep [] ((0 : Int) : Int))), .fact 100026 (.at 26 (.nilv)), .fact 100027 (.at 27 (.nilv)), .fact 100028 (.at 28 (.rep [] ((0 : UInt8) : UInt8))), .fact 100029 (.at 29 (.rep [] (false : Bool))), .fact 100030 (.at 30 (.rep [] ((0 : UInt32) : UInt32))), .fact 100050 (.at 50 (.rep [] ((0 : Int) : Int))), .fact 100051 (.at 51 (.nilv)), .fact 100052 (.at 52 (.nilv)), .fact 100053 (.at 53 (.rep [] ((0 : UInt8) : UInt8))), .fact 100054 (.at 54 (.rep [] (false : Bool))), .fact 100055 (.at 55 (.rep [] ((0 : UInt32) : UInt32))), .fact 100071 (.at 71 (.rep [] ((0 : Int) : Int))), .fact 100072 (.at 72 (.nilv)), .fact 100073 (.at 73 (.nilv)), .fact 100074 (.at 74 (.rep [] ((0 : UInt8) : UInt8))), .fact 100075 (.at 75 (.rep [] (false : Bool))), .fact 100076 (.at 76 (.rep [] ((0 : UInt32) : UInt32))), .fact 100083 (.at 83 (.rep [] x17.Stripe)), .fact 100084 (.at 84 (.isv 91)), .fact 100085 (.at 85 (.isv 92)), .fact 100086 (.at 86 (.rep [] ((0 : UInt8) : UInt8))), .fact 100087 (.at 87 (.rep [] x17.Deals)), .fact 100088 (.at 88 (.rep [] ((0 : UInt32) : UInt32))), .fact 100024 (.obj 24 [(false, 1), (false, 1), (false, 1), (false, 1), (false, 1), (false, 1)]), .fact 100049 (.obj 49 [(false, 1), (false, 1), (false, 1), (false, 1), (false, 1), (false, 1)]), .fact 100070 (.obj 70 [(false, 1), (false, 1), (false, 1), (false, 1), (false, 1), (false, 1)]), .fact 100082 (.obj 82 [(false, 1), (false, 1), (false, 1), (false, 1), (false, 1), (false, 1)]), .fact 100091 (.own 91 [80] 31 (p : List (List UInt8))), .fact 100092 (.own 92 [] 4 (List.replicate (x17.Dirty).length false : List Bool))]) (fun p : (List (List UInt8)) => head_Home_J5 x17 p = some r) (fun u4 => [.fact 100011 (.at 11 (.rep [] a0.Id)), .fact 100012 (.at 12 (.rep [] a0.Members)), .fact 100013 (.at 13 (.rep [] a0.Chunk)), .fact 100014 (.at 14 (.rep [] a0.Rows)), .fact 100015 (.at 15 (.rep [] a0.Log)), .fact 100016 (.at 16 (.rep [] a0.Heads)), .fact 100025 (.at 25 (.rep [] ((0 : Int) : Int))), .fact 100026 (.at 26 (.nilv)), .fact 100027 (.at 27 (.nilv)), .fact 100028 (.at 28 (.rep [] ((0 : UInt8) : UInt8))), .fact 100029 (.at 29 (.rep [] (false : Bool))), .fact 100030 (.at 30 (.rep [] ((0 : UInt32) : UInt32))), .fact 100050 (.at 50 (.rep [] ((0 : Int) : Int))), .fact 100051 (.at 51 (.nilv)), .fact 100052 (.at 52 (.nilv)), .fact 100053 (.at 53 (.rep [] ((0 : UInt8) : UInt8))), .fact 100054 (.at 54 (.rep [] (false : Bool))), .fact 100055 (.at 55 (.rep [] ((0 : UInt32) : UInt32))), .fact 100071 (.at 71 (.rep [] ((0 : Int) : Int))), .fact 100072 (.at 72 (.nilv)), .fact 100073 (.at 73 (.nilv)), .fact 100074 (.at 74 (.rep [] ((0 : UInt8) : UInt8))), .fact 100075 (.at 75 (.rep [] (false : Bool))), .fact 100076 (.at 76 (.rep [] ((0 : UInt32) : UInt32))), .fact 100083 (.at 83 (.rep [] x17.Stripe)), .fact 100084 (.at 84 (.ow [79] [80] 31 (x17.Blocks : List (List UInt8)))), .fact 100085 (.at 85 (.ow [81] [] 4 (x17.Dirty : List Bool))), .fact 100086 (.at 86 (.rep [] x17.Phase)), .fact 100087 (.at 87 (.rep [] x17.Deals)), .fact 100088 (.at 88 (.rep [] x17.Seq)), .fact 902004 (.cst (u1 4) (Fact.isv 24)), .fact 904008 (.cst (u2 8) (Fact.isv 49)), .fact 906010 (.cst (u3 10) (Fact.isv 70)), .fact 906012 (.cst (u3 12) (Fact.isv 82)), .fact 100010 (.obj 10 [(false, 1), (false, 1), (false, 1), (false, 1), (false, 1), (false, 1)]), .fact 100024 (.obj 24 [(false, 1), (false, 1), (false, 1), (false, 1), (false, 1), (false, 1)]), .fact 100049 (.obj 49 [(false, 1), (false, 1), (false, 1), (false, 1), (false, 1), (false, 1)]), .fact 100070 (.obj 70 [(false, 1), (false, 1), (false, 1), (false, 1), (false, 1), (false, 1)]), .fact 100082 (.obj 82 [(false, 1), (false, 1), (false, 1), (false, 1), (false, 1), (false, 1)])]) (FA := [Fact.isv 82, Fact.isv 10]) rfl Try.func71 rfl rfl rfl (CallOk.valE en71 (Has.s rfl) (HasF.cons (Has.s rfl) HasF.nil)) (fun u4 => (ck (ck (ck (ck (ck (ck (ck (ck (ck (ck (ck (ck (ck (ck (ck (ck (ck (ck (ck (ck (ck (ck (ck (ck (ck (ck (ck (ck (ck (ck (ck (ck (ck (ck (ck (ck (ck (ck (ck Carry.nil)))))))))))))))))))))))))))))))))))))))) (fun u4 => ?_) ?_
         ·refine CWalk.seq ?_
          refine CWalk.region ?_
          refine mv ?_
          refine mv ?_
          refine wo (Spec.nilCheckI (Has.s rfl) rfl) ?_
          refine wo (Spec.fieldAddrO fd28_3 (Has.cv (Has.s rfl) (Cv.isvP rfl))) ?_
          refine ws (Step.storeF (i := 3) (f := Fact.rep [] ((0 : UInt8) : UInt8)) rfl ty5 rfl (Has.s rfl) rfl (Has.u8 0 rfl) (Has.u8 0 rfl) rfl) ?_
          refine wo (Spec.nilCheckI (Has.s rfl) rfl) ?_
          refine wo (Spec.fieldAddrO fd28_5 (Has.cv (Has.s rfl) (Cv.isvP rfl))) ?_
          refine ws (Step.storeF (i := 5) (f := Fact.rep [] ((0 : UInt32) : UInt32)) rfl ty22 rfl (Has.s rfl) rfl (Has.u32 0 rfl) (Has.u32 0 rfl) rfl) ?_
          refine Walk.nil ?_
          refine Leaf.thenN ?_
          refine CWalk.seq ?_
          refine CWalk.ad (Ad.owF (i := 84) 91 rfl rfl rfl (ElT.tags rfl) rfl (Cv.owM (T := [79]) (te := [80]) (T' := [79]) (te' := [80]) rfl rfl)) ?_
          obtain ⟨x33, hx33, hm⟩ := bind_some hm
          refine CWalk.drawM [[], [0], [0, 1], [0, 1, 2], [], [4], [4, 5], [0, 1, 2, 3, 4, 5, 6], [0, 1, 2, 3, 4, 5, 6, 7]] [[.fact 9 (.isv 82)], [.fact 10 (.isv 82)], [.fact 11 (.pto 82 1)], [.fact 12 (.isv 91)], [.fact 13 (.pto 10 1)], [.fact 14 (.rep [] a0.Members)], [.fact 15 (.rep [] ((wI (a0.Members - (1 : Int))) : Int))], [.fact 16 (.pto 91 (x33 * Rp.n (List UInt8)))], [.fact 100091 (.own 91 [80] 31 ((x17.Blocks).set x33 ([] : List UInt8) : List (List UInt8))), .kill 91]] mixed (by kernel_rfl) (ao (so (Spec.move (Has.s rfl))) (ao (so (Spec.nilCheckI (Has.s rfl) rfl)) (ao (so (Spec.fieldAddrO fd28_1 (Has.cv (Has.s rfl) (Cv.isvP rfl)))) (ao (so (Spec.loadF (i := 1) ty25 rfl (Has.s rfl) rfl (HasG.s rfl))) (ao (so (Spec.fieldAddrO fd24_1 (Has.cv (Has.s rfl) (Cv.isvP rfl)))) (ao (so (Spec.loadF (i := 1) ty3 rfl (Has.s rfl) rfl (HasG.s rfl))) (ao (so (Spec.subI (Has.s rfl) Has.int)) (ao (so (Spec.idxOwn hx33 ow25 (Has.s rfl) rfl (Has.s rfl))) (ao (StepG.stE (Step.storeOwn (te' := [80]) rfl (bnd_lt hx33 rfl) ty31 (Has.s rfl) rfl (Has.nil UInt8) (ElKeep.tags rfl rfl) (ElKeep.tags rfl rfl))) AllM.nil))))))))) ?_
          refine Leaf.thenN ?_
          refine CWalk.ad (Ad.owF (i := 85) 92 rfl rfl rfl ElT.flat rfl (Cv.owF (T := [81]) (te := []) (T' := [81]) (te' := []) rfl)) ?_
          refine CWalk.region ?_
          refine mv ?_
          refine wo (Spec.nilCheckI (Has.s rfl) rfl) ?_
          refine wo (Spec.fieldAddrO fd28_2 (Has.cv (Has.s rfl) (Cv.isvP rfl))) ?_
          refine wo (Spec.loadF (i := 2) ty26 rfl (Has.s rfl) rfl (HasG.s rfl)) ?_
          refine ws (Step.clearOwn ow26 zt4 rfl (Has.s rfl) rfl) ?_
          refine Walk.nil ?_
          exact Leaf.inN (Leaf.in0 (f0 := Fact.top) ((x17.Blocks).set x33 ([] : List UInt8)) hm rfl rfl (fun _ _ => trivial) (Low.res (lc (lc (lc (lc (lf (lg (lg (lf (lf (lf (lf (lg (lg (lf (lf (lf (lf (lg (lg (lf (lf (lf (lf (lg (lg (lf (lf (lf (lo (lo (lo (lo (Low.keepR (fun _ _ _ _ h => h) (Has.ownM (Has.s rfl) rfl) (Low.keepR (fun _ _ _ _ h => h) (Has.ownM (Has.s rfl) rfl) Low.nil))))))))))))))))))))))))))))))))))))
         ·rintro j32 hm
          replace hm : head_Home_J5 x17 j32 = some r := hm
          unfold head_Home_J5 at hm
          show Walk _ _ _ [.fact 26 (.top), .fact 902004 (.cst (u1 4) (Fact.isv 24)), .fact 904008 (.cst (u2 8) (Fact.isv 49)), .fact 906010 (.cst (u3 10) (Fact.isv 70)), .fact 906012 (.cst (u3 12) (Fact.isv 82)), .fact 100025 (.at 25 (.rep [] ((0 : Int) : Int))), .fact 100026 (.at 26 (.nilv)), .fact 100027 (.at 27 (.nilv)), .fact 100028 (.at 28 (.rep [] ((0 : UInt8) : UInt8))), .fact 100029 (.at 29 (.rep [] (false : Bool))), .fact 100030 (.at 30 (.rep [] ((0 : UInt32) : UInt32))), .fact 100050 (.at 50 (.rep [] ((0 : Int) : Int))), .fact 100051 (.at 51 (.nilv)), .fact 100052 (.at 52 (.nilv)), .fact 100053 (.at 53 (.rep [] ((0 : UInt8) : UInt8))), .fact 100054 (.at 54 (.rep [] (false : Bool))), .fact 100055 (.at 55 (.rep [] ((0 : UInt32) : UInt32))), .fact 100071 (.at 71 (.rep [] ((0 : Int) : Int))), .fact 100072 (.at 72 (.nilv)), .fact 100073 (.at 73 (.nilv)), .fact 100074 (.at 74 (.rep [] ((0 : UInt8) : UInt8))), .fact 100075 (.at 75 (.rep [] (false : Bool))), .fact 100076 (.at 76 (.rep [] ((0 : UInt32) : UInt32))), .fact 100083 (.at 83 (.rep [] x17.Stripe)), .fact 100084 (.at 84 (.isv 91)), .fact 100085 (.at 85 (.isv 92)), .fact 100086 (.at 86 (.rep [] ((0 : UInt8) : UInt8))), .fact 100087 (.at 87 (.rep [] x17.Deals)), .fact 100088 (.at 88 (.rep [] ((0 : UInt32) : UInt32))), .fact 100024 (.obj 24 [(false, 1), (false, 1), (false, 1), (false, 1), (false, 1), (false, 1)]), .fact 100049 (.obj 49 [(false, 1), (false, 1), (false, 1), (false, 1), (false, 1), (false, 1)]), .fact 100070 (.obj 70 [(false, 1), (false, 1), (false, 1), (false, 1), (false, 1), (false, 1)]), .fact 100082 (.obj 82 [(false, 1), (false, 1), (false, 1), (false, 1), (false, 1), (false, 1)]), .fact 100091 (.own 91 [80] 31 (j32 : List (List UInt8))), .fact 100092 (.own 92 [] 4 (List.replicate (x17.Dirty).length false : List Bool))] _
          refine Walk.nil ?_
          refine Leaf.thenN ?_
          refine CWalk.seq ?_
          refine CWalk.region ?_
          refine wo (Spec.assign Has.int) ?_
          refine Walk.nil ?_
          refine Leaf.thenN ?_
          refine CWalk.ret ?_
          exact Leaf.in1 ((0 : Int), j32, List.replicate (x17.Dirty).length false, (0 : UInt8), (0 : UInt32)) hm rfl rfl (HasR.cv (HasR.tmp (Has.s rfl)) Cv.fl) (ls 906010 (ls 906012 (Low.res (lc (lc (lf (lg (lg (lf (lf (lf (lf (Low.keepG (HasG.cv (HasG.s rfl) (Cv.trans (Cv.isvOw rfl) (Cv.owM (T := [91]) (te := [80]) rfl rfl))) (Low.keepG (HasG.cv (HasG.s rfl) (Cv.trans (Cv.isvOw rfl) (Cv.owF (T := [92]) (te := []) rfl))) (lf (lf (lf (lf (lg (lg (lf (lf (lf (lf (lg (lg (lf (lf (lf (lo (lo (lo (lo Low.nil)))))))))))))))))))))))))))))))))
       ·rintro ⟨j25, j26, j27, j28, j29⟩ hm
        replace hm : head_Home_J4 x17 j25 j26 j27 j28 j29 = some r := hm
        unfold head_Home_J4 at hm
        show Walk _ _ _ [.fact 10 (.isv 70), .fact 12 (.isv 82), .fact 34 (.rep [] (j25 : Int)), .fact 902004 (.cst (u1 4) (Fact.isv 24)), .fact 904008 (.cst (u2 8) (Fact.isv 49)), .fact 100071 (.at 71 (.rep [] ((0 : Int) : Int))), .fact 100072 (.at 72 (.nilv)), .fact 100073 (.at 73 (.nilv)), .fact 100074 (.at 74 (.rep [] ((0 : UInt8) : UInt8))), .fact 100075 (.at 75 (.rep [] (false : Bool))), .fact 100076 (.at 76 (.rep [] ((0 : UInt32) : UInt32))), .fact 100083 (.at 83 (.rep [] x17.Stripe)), .fact 100084 (.at 84 (.ow [79, 91] [80] 31 (j26 : List (List UInt8)))), .fact 100085 (.at 85 (.ow [81, 92] [] 4 (j27 : List Bool))), .fact 100086 (.at 86 (.rep [] (j28 : UInt8))), .fact 100087 (.at 87 (.rep [] x17.Deals)), .fact 100088 (.at 88 (.rep [] (j29 : UInt32))), .fact 100025 (.at 25 (.rep [] ((0 : Int) : Int))), .fact 100026 (.at 26 (.nilv)), .fact 100027 (.at 27 (.nilv)), .fact 100028 (.at 28 (.rep [] ((0 : UInt8) : UInt8))), .fact 100029 (.at 29 (.rep [] (false : Bool))), .fact 100030 (.at 30 (.rep [] ((0 : UInt32) : UInt32))), .fact 100050 (.at 50 (.rep [] ((0 : Int) : Int))), .fact 100051 (.at 51 (.nilv)), .fact 100052 (.at 52 (.nilv)), .fact 100053 (.at 53 (.rep [] ((0 : UInt8) : UInt8))), .fact 100054 (.at 54 (.rep [] (false : Bool))), .fact 100055 (.at 55 (.rep [] ((0 : UInt32) : UInt32))), .fact 100070 (.obj 70 [(false, 1), (false, 1), (false, 1), (false, 1), (false, 1), (false, 1)]), .fact 100082 (.obj 82 [(false, 1), (false, 1), (false, 1), (false, 1), (false, 1), (false, 1)]), .fact 100024 (.obj 24 [(false, 1), (false, 1), (false, 1), (false, 1), (false, 1), (false, 1)]), .fact 100049 (.obj 49 [(false, 1), (false, 1), (false, 1), (false, 1), (false, 1), (false, 1)])] _
        refine wo (Spec.assign (Has.s rfl)) ?_
        refine Walk.nil ?_
        refine Leaf.thenN ?_
        refine CWalk.seq ?_
        refine CWalk.region ?_
        refine mv ?_
        refine wo (Spec.eqlI (Has.s rfl) Has.int) ?_
        refine Walk.nil ?_
        refine Leaf.thenN ?_
        refine CWalk.cond rfl (fun hb => ?_) (fun hb => ?_)
        ·have hm := cond_t hb hm
         refine CWalk.region ?_
         refine wo (Spec.loadObj (ls := [(false, 1, Fact.rep [] x17.Stripe), (false, 1, Fact.ow [79, 91] [80] 31 (j26 : List (List UInt8))), (false, 1, Fact.ow [81, 92] [] 4 (j27 : List Bool)), (false, 1, Fact.rep [] (j28 : UInt8)), (false, 1, Fact.rep [] x17.Deals), (false, 1, Fact.rep [] (j29 : UInt32))]) ty28 rfl rfl (Has.s rfl) rfl (HasGs.cons (HasG.s rfl) (HasGs.cons (HasG.s rfl) (HasGs.cons (HasG.s rfl) (HasGs.cons (HasG.s rfl) (HasGs.cons (HasG.s rfl) (HasGs.cons (HasG.s rfl) HasGs.nil))))))) ?_
         refine ws (Step.storeObj (ls := [(false, 1, Fact.rep [] x17.Stripe), (false, 1, Fact.ow [79, 91] [80] 31 (j26 : List (List UInt8))), (false, 1, Fact.ow [81, 92] [] 4 (j27 : List Bool)), (false, 1, Fact.rep [] (j28 : UInt8)), (false, 1, Fact.rep [] x17.Deals), (false, 1, Fact.rep [] (j29 : UInt32))]) rfl ty28 rfl rfl (Has.s rfl) rfl (HasL.flds (Has.s rfl)) rfl) ?_
         refine Walk.nil ?_
         exact Leaf.join (j25, x17.Stripe, j26, j27, j28, x17.Deals, j29) hm (sn (st (sc (sc (sf (Sub.cons (Has.at (HasG.cv (HasG.s rfl) (Cv.owM (T := [79, 91]) (te := [80]) rfl rfl))) (Sub.cons (Has.at (HasG.cv (HasG.s rfl) (Cv.owF (T := [81, 92]) (te := []) rfl))) (sf (sf (sf (sf (sg (sg (sf (sf (sf (sf (sg (sg (sf (sf (sf (sn (sn (sn Sub.nil)))))))))))))))))))))))))
        ·have hm := cond_f hb hm
         refine CWalk.skip ?_
         exact Leaf.join (j25, (0 : Int), ([] : List (List UInt8)), ([] : List Bool), (0 : UInt8), false, (0 : UInt32)) hm (sn (st (sc (sc (sf (Sub.cons (Has.at (HasG.cv (HasG.s rfl) (Cv.trans Cv.nilOw (Cv.owM (T := []) (te := []) rfl rfl)))) (Sub.cons (Has.at (HasG.cv (HasG.s rfl) (Cv.trans Cv.nilOw (Cv.owF (T := []) (te := []) rfl)))) (sf (sf (sf (sf (sg (sg (sf (sf (sf (sf (sg (sg (sf (sf (sf (sn (sn (sn Sub.nil)))))))))))))))))))))))))
  ·rintro ⟨j8, j9, j10, j11, j12, j13, j14⟩ hm
   replace hm : head_Home_J2 j8 j9 j10 j11 j12 j13 j14 = some r := hm
   unfold head_Home_J2 at hm
   show Walk _ _ _ [.fact 8 (.isv 49), .fact 13 (.tup2 (Fact.flds [(false, 1, Fact.rep [] (j8 : Int)), (false, 1, Fact.ow [79, 91] [80] 31 (j9 : List (List UInt8))), (false, 1, Fact.ow [81, 92] [] 4 (j10 : List Bool)), (false, 1, Fact.rep [] (j11 : UInt8)), (false, 1, Fact.rep [] (j12 : Bool)), (false, 1, Fact.rep [] (j13 : UInt32))]) (Fact.rep [] (j14 : Int))), .fact 902004 (.cst (u1 4) (Fact.isv 24)), .fact 100050 (.at 50 (.rep [] ((0 : Int) : Int))), .fact 100051 (.at 51 (.nilv)), .fact 100052 (.at 52 (.nilv)), .fact 100053 (.at 53 (.rep [] ((0 : UInt8) : UInt8))), .fact 100054 (.at 54 (.rep [] (false : Bool))), .fact 100055 (.at 55 (.rep [] ((0 : UInt32) : UInt32))), .fact 100025 (.at 25 (.rep [] ((0 : Int) : Int))), .fact 100026 (.at 26 (.nilv)), .fact 100027 (.at 27 (.nilv)), .fact 100028 (.at 28 (.rep [] ((0 : UInt8) : UInt8))), .fact 100029 (.at 29 (.rep [] (false : Bool))), .fact 100030 (.at 30 (.rep [] ((0 : UInt32) : UInt32))), .fact 100049 (.obj 49 [(false, 1), (false, 1), (false, 1), (false, 1), (false, 1), (false, 1)]), .fact 100024 (.obj 24 [(false, 1), (false, 1), (false, 1), (false, 1), (false, 1), (false, 1)])] _
   refine wo (Spec.ext0 (Has.s rfl)) ?_
   refine wo (Spec.ext1 (Has.s rfl)) ?_
   refine ws (Step.storeObj (ls := [(false, 1, Fact.rep [] (j8 : Int)), (false, 1, Fact.ow [79, 91] [80] 31 (j9 : List (List UInt8))), (false, 1, Fact.ow [81, 92] [] 4 (j10 : List Bool)), (false, 1, Fact.rep [] (j11 : UInt8)), (false, 1, Fact.rep [] (j12 : Bool)), (false, 1, Fact.rep [] (j13 : UInt32))]) rfl ty28 rfl rfl (Has.s rfl) rfl (HasL.flds (Has.s rfl)) rfl) ?_
   refine wo (Spec.assign (Has.s rfl)) ?_
   refine Walk.nil ?_
   refine Leaf.thenN ?_
   refine CWalk.ret ?_
   exact Leaf.in2 (j8, j9, j10, j11, j12, j13, j14) hm rfl rfl (HasR.cv (HasR.obj (ls := [(false, 1, Fact.rep [] (j8 : Int)), (false, 1, Fact.ow [79, 91] [80] 31 (j9 : List (List UInt8))), (false, 1, Fact.ow [81, 92] [] 4 (j10 : List Bool)), (false, 1, Fact.rep [] (j11 : UInt8)), (false, 1, Fact.rep [] (j12 : Bool)), (false, 1, Fact.rep [] (j13 : UInt32))]) ty28 rfl rfl (Has.s rfl) rfl (HasGs.cons (HasG.s rfl) (HasGs.cons (HasG.s rfl) (HasGs.cons (HasG.s rfl) (HasGs.cons (HasG.s rfl) (HasGs.cons (HasG.s rfl) (HasGs.cons (HasG.s rfl) HasGs.nil))))))) (Cv.flds (CvL.cons Cv.fl (CvL.cons (Cv.owM (T := [79, 91]) (te := [80]) rfl rfl) (CvL.cons (Cv.owF (T := [81, 92]) (te := []) rfl) (CvL.cons Cv.fl (CvL.cons Cv.fl (CvL.cons Cv.fl CvL.nil)))))))) (HasR.cv (HasR.tmp (Has.s rfl)) Cv.fl) (ls 902004 (Low.res (lf (lg (lg (lf (lf (lf (lo Low.nil)))))))))
 ·rintro ⟨j1, j2, j3, j4, j5, j6, j7⟩ hm
  replace hm : head_Home_J1 j1 j2 j3 j4 j5 j6 j7 = some r := hm
  unfold head_Home_J1 at hm
  show Walk _ _ _ [.fact 4 (.isv 24), .fact 9 (.tup2 (Fact.flds [(false, 1, Fact.rep [] (j1 : Int)), (false, 1, Fact.ow [79, 91] [80] 31 (j2 : List (List UInt8))), (false, 1, Fact.ow [81, 92] [] 4 (j3 : List Bool)), (false, 1, Fact.rep [] (j4 : UInt8)), (false, 1, Fact.rep [] (j5 : Bool)), (false, 1, Fact.rep [] (j6 : UInt32))]) (Fact.rep [] (j7 : Int))), .fact 100025 (.at 25 (.rep [] ((0 : Int) : Int))), .fact 100026 (.at 26 (.nilv)), .fact 100027 (.at 27 (.nilv)), .fact 100028 (.at 28 (.rep [] ((0 : UInt8) : UInt8))), .fact 100029 (.at 29 (.rep [] (false : Bool))), .fact 100030 (.at 30 (.rep [] ((0 : UInt32) : UInt32))), .fact 100024 (.obj 24 [(false, 1), (false, 1), (false, 1), (false, 1), (false, 1), (false, 1)])] _
  refine wo (Spec.ext0 (Has.s rfl)) ?_
  refine wo (Spec.ext1 (Has.s rfl)) ?_
  refine ws (Step.storeObj (ls := [(false, 1, Fact.rep [] (j1 : Int)), (false, 1, Fact.ow [79, 91] [80] 31 (j2 : List (List UInt8))), (false, 1, Fact.ow [81, 92] [] 4 (j3 : List Bool)), (false, 1, Fact.rep [] (j4 : UInt8)), (false, 1, Fact.rep [] (j5 : Bool)), (false, 1, Fact.rep [] (j6 : UInt32))]) rfl ty28 rfl rfl (Has.s rfl) rfl (HasL.flds (Has.s rfl)) rfl) ?_
  refine wo (Spec.assign (Has.s rfl)) ?_
  refine Walk.nil ?_
  refine Leaf.thenN ?_
  refine CWalk.ret ?_
  obtain rfl := Option.some.inj hm
  exact Leaf.retC2 rfl (HasR.cv (HasR.obj (ls := [(false, 1, Fact.rep [] (j1 : Int)), (false, 1, Fact.ow [79, 91] [80] 31 (j2 : List (List UInt8))), (false, 1, Fact.ow [81, 92] [] 4 (j3 : List Bool)), (false, 1, Fact.rep [] (j4 : UInt8)), (false, 1, Fact.rep [] (j5 : Bool)), (false, 1, Fact.rep [] (j6 : UInt32))]) ty28 rfl rfl (Has.s rfl) rfl (HasGs.cons (HasG.s rfl) (HasGs.cons (HasG.s rfl) (HasGs.cons (HasG.s rfl) (HasGs.cons (HasG.s rfl) (HasGs.cons (HasG.s rfl) (HasGs.cons (HasG.s rfl) HasGs.nil))))))) (Cv.flds (CvL.cons Cv.fl (CvL.cons (Cv.owM (T := [79, 91]) (te := [80]) rfl rfl) (CvL.cons (Cv.owF (T := [81, 92]) (te := []) rfl) (CvL.cons Cv.fl (CvL.cons Cv.fl (CvL.cons Cv.fl CvL.nil)))))))) (HasR.cv (HasR.tmp (Has.s rfl)) Cv.fl)

/-- freeboard/freeboardlaw16.step -/
def law16_step (a0 : Head) (a1 : Op72) : Option (Head × Int) :=
  Option.bind (remI (wI (a1.Slot.toNat : Int)) (2 : Int)) (fun x1 => Option.bind (remB a1.Kind (7 : UInt8)) (fun x2 => (bif (x2 == (0 : UInt8)) then Option.bind (law16_small) (fun x3 => Option.bind (law16_full a1.Byte) (fun x4 => Option.bind (head_Take x3 a0 x1 x4) (fun x5 => some (x5.1, x5.2)))) else (bif (x2 == (1 : UInt8)) then Option.bind (law16_small) (fun x6 => Option.bind (law16_full a1.Byte) (fun x7 => Option.bind (head_Know x6 a0 x1 x7) (fun x8 => some (x8.1, x8.2)))) else (bif (x2 == (2 : UInt8)) then Option.bind (law16_small) (fun x9 => Option.bind (law16_full a1.Byte) (fun x10 => Option.bind (head_Make x9 a0 x10) (fun x11 => some (x11.1, x11.2)))) else (bif (x2 == (3 : UInt8)) then Option.bind (law16_small) (fun x12 => Option.bind (head_Log x12 a0 (scW.of (a1.Byte.toNat : Int))) (fun x13 => some (x13.1, x13.2))) else (bif (x2 == (4 : UInt8)) then Option.bind (law16_small) (fun x14 => Option.bind (head_Sure x14 a0) (fun x15 => some (x15.1, x15.2))) else (bif (x2 == (5 : UInt8)) then Option.bind (law16_small) (fun x16 => Option.bind (head_Lay x16 a0) (fun x17 => some (x17.1, x17.2))) else Option.bind (law16_small) (fun x18 => Option.bind (head_Home x18 a0) (fun x19 => some (x19.1, x19.2)))))))))))
set_option maxRecDepth 100000 in
set_option maxHeartbeats 2000000 in
theorem law16_step_c (a0 : Head) (a1 : Op72) {r : Head × Int} (hm : law16_step a0 a1 = some r) : Ctr Try.prog 41 [.rep 0 a0, .rep 0 a1] (.tup2 (.flds [(false, 1, (.fl r.1.Stripe)), (false, 1, (.own 0 (some 1) 31 r.1.Blocks)), (false, 1, (.own 2 none 4 r.1.Dirty)), (false, 1, (.fl r.1.Phase)), (false, 1, (.fl r.1.Deals)), (false, 1, (.fl r.1.Seq))]) (.fl r.2)) [] := by
 refine ctr_of_walk [[30, 35, 40, 44, 48, 52, 56], [31, 36, 41, 45, 49, 53, 57], [32, 37, 42, 46, 50, 54, 58]] 75 Try.func41 rfl rfl rfl rfl (fun w0 om => ?_)
 unfold law16_step at hm
 refine CWalk.sub (G' := [.fact 0 (.rep [0] (a0 : Head)), .fact 1 (.rep [] (a1 : Op72))]) (sn (Sub.cons (Has.fl (Has.s rfl)) Sub.nil)) ?_
 refine CWalk.seq ?_
 refine CWalk.region ?_
 refine ws (Step.boxObj (ls := [(false, 1, Fact.rep [] a0.Stripe), (false, 1, Fact.rep [0] a0.Blocks), (false, 1, Fact.rep [0] a0.Dirty), (false, 1, Fact.rep [] a0.Phase), (false, 1, Fact.rep [] a0.Deals), (false, 1, Fact.rep [] a0.Seq)]) 10 rfl rfl rfl rfl (HasL.flds (Has.cv (Has.s rfl) (Cv.trans (Cv.opens (chHead a0)) (Cv.flds (CvL.cons Cv.fl (CvL.cons Cv.refl (CvL.cons Cv.refl (CvL.cons Cv.fl (CvL.cons Cv.fl (CvL.cons Cv.fl CvL.nil))))))))))) ?_
 refine ws (Step.boxObj (ls := [(false, 1, Fact.rep [] a1.Kind), (false, 1, Fact.rep [] a1.Slot), (false, 1, Fact.rep [] a1.Byte)]) 17 rfl rfl rfl rfl (HasL.flds (Has.cv (Has.s rfl) (Cv.trans (Cv.opens (chOp72 a1)) (Cv.flds (CvL.cons Cv.fl (CvL.cons Cv.fl (CvL.cons Cv.fl CvL.nil)))))))) ?_
 refine ws (Step.allocObj (ls := [(false, 1, Fact.rep [] ((0 : Int) : Int)), (false, 1, Fact.nilv), (false, 1, Fact.nilv), (false, 1, Fact.rep [] ((0 : UInt8) : UInt8)), (false, 1, Fact.rep [] (false : Bool)), (false, 1, Fact.rep [] ((0 : UInt32) : UInt32))]) 21 rfl rfl rfl rfl zl28) ?_
 refine wo (Spec.assign Has.int) ?_
 refine Walk.nil ?_
 refine Leaf.thenN ?_
 refine CWalk.seq ?_
 refine CWalk.region ?_
 refine wo (Spec.fieldAddrO fd72_1 (Has.cv (Has.s rfl) (Cv.isvP rfl))) ?_
 refine wo (Spec.loadF (i := 1) ty5 rfl (Has.s rfl) rfl (HasG.s rfl)) ?_
 refine wo (Spec.conv (α := UInt8) (β := Int) Try.underlying5 Try.underlying3 (Has.s rfl)) ?_
 obtain ⟨x1, hx1, hm⟩ := bind_some hm
 refine wo (Spec.remI hx1 (Has.s rfl) Has.int) ?_
 refine wo (Spec.assign (Has.s rfl)) ?_
 refine Walk.nil ?_
 refine Leaf.thenN ?_
 refine CWalk.seq ?_
 refine CWalk.seq ?_
 refine CWalk.region ?_
 refine wo (Spec.fieldAddrO fd72_0 (Has.cv (Has.s rfl) (Cv.isvP rfl))) ?_
 refine wo (Spec.loadF (i := 0) ty5 rfl (Has.s rfl) rfl (HasG.s rfl)) ?_
 obtain ⟨x2, hx2, hm⟩ := bind_some hm
 refine wo (Spec.remB hx2 (Has.s rfl) (Has.u8 7 rfl)) ?_
 refine Walk.nil ?_
 refine Leaf.thenN ?_
 refine CWalk.block ?_
 refine CWalk.seq ?_
 refine CWalk.region ?_
 refine wo (Spec.eqlB (Has.s rfl) (Has.u8 0 rfl)) ?_
 refine wo (Spec.assign (Has.s rfl)) ?_
 refine Walk.nil ?_
 refine Leaf.thenN ?_
 refine CWalk.cond rfl (fun hb => ?_) (fun hb => ?_)
 ·have hm := cond_t hb hm
  refine CWalk.seq ?_
  obtain ⟨x3, hx3, hm⟩ := bind_some hm
  obtain ⟨x4, hx4, hm⟩ := bind_some hm
  obtain ⟨x5, hx5, hm⟩ := bind_some hm
  refine CWalk.drawM [[], [], [], [], [3], [0, 3, 4], [0, 1, 2, 3, 4, 5], [0, 1, 2, 3, 4, 5, 6], [0, 1, 2, 3, 4, 5, 6], [0, 1, 2, 3, 4, 5, 6, 7, 8], [0, 1, 2, 3, 4, 5, 6, 7, 8, 9]] [[.fact 16 (.rep [] (x3 : Config))], [.fact 17 (.flds [(false, 1, Fact.rep [] a0.Stripe), (false, 1, Fact.rep [0] a0.Blocks), (false, 1, Fact.rep [0] a0.Dirty), (false, 1, Fact.rep [] a0.Phase), (false, 1, Fact.rep [] a0.Deals), (false, 1, Fact.rep [] a0.Seq)])], [.fact 18 (.rep [] (x1 : Int))], [.fact 19 (.pto 17 2)], [.fact 20 (.rep [] a1.Byte)], [.fact 21 (.ow [29] [] 5 (x4 : List UInt8))], [.fact 22 (.tup2 (Fact.flds [(false, 1, Fact.rep [] x5.1.Stripe), (false, 1, Fact.ow [30] [31] 31 (x5.1.Blocks : List (List UInt8))), (false, 1, Fact.ow [32] [] 4 (x5.1.Dirty : List Bool)), (false, 1, Fact.rep [] x5.1.Phase), (false, 1, Fact.rep [] x5.1.Deals), (false, 1, Fact.rep [] x5.1.Seq)]) (Fact.rep [] x5.2))], [.fact 23 (.flds [(false, 1, Fact.rep [] x5.1.Stripe), (false, 1, Fact.ow [30] [31] 31 (x5.1.Blocks : List (List UInt8))), (false, 1, Fact.ow [32] [] 4 (x5.1.Dirty : List Bool)), (false, 1, Fact.rep [] x5.1.Phase), (false, 1, Fact.rep [] x5.1.Deals), (false, 1, Fact.rep [] x5.1.Seq)])], [.fact 24 (.rep [] x5.2)], [.fact 100021 (.obj 21 [(false, 1), (false, 1), (false, 1), (false, 1), (false, 1), (false, 1)]), .fact 100022 (.at 22 (.rep [] x5.1.Stripe)), .fact 100023 (.at 23 (.ow [30] [31] 31 (x5.1.Blocks : List (List UInt8)))), .fact 100024 (.at 24 (.ow [32] [] 4 (x5.1.Dirty : List Bool))), .fact 100025 (.at 25 (.rep [] x5.1.Phase)), .fact 100026 (.at 26 (.rep [] x5.1.Deals)), .fact 100027 (.at 27 (.rep [] x5.1.Seq)), .kill 21, .killId 22, .killId 23, .killId 24, .killId 25, .killId 26, .killId 27], [.fact 5 (.rep [] x5.2)]] mixed (by kernel_rfl) (ao (so (Spec.callE [] 28 rfl en40 (law16_small_c  hx3) HasAll.nil)) (ao (so (Spec.loadObj (ls := [(false, 1, Fact.rep [] a0.Stripe), (false, 1, Fact.rep [0] a0.Blocks), (false, 1, Fact.rep [0] a0.Dirty), (false, 1, Fact.rep [] a0.Phase), (false, 1, Fact.rep [] a0.Deals), (false, 1, Fact.rep [] a0.Seq)]) ty28 rfl rfl (Has.s rfl) rfl (HasGs.cons (HasG.s rfl) (HasGs.cons (HasG.s rfl) (HasGs.cons (HasG.s rfl) (HasGs.cons (HasG.s rfl) (HasGs.cons (HasG.s rfl) (HasGs.cons (HasG.s rfl) HasGs.nil)))))))) (ao (so (Spec.move (Has.s rfl))) (ao (so (Spec.fieldAddrO fd72_2 (Has.cv (Has.s rfl) (Cv.isvP rfl)))) (ao (so (Spec.loadF (i := 2) ty5 rfl (Has.s rfl) rfl (HasG.s rfl))) (ao (so (Spec.callE [] 29 rfl en43 (law16_full_c a1.Byte hx4) (HasAll.cons (Has.fl (Has.s rfl)) HasAll.nil))) (ao (so (Spec.callE [0, 29] 30 rfl en17 (head_Take_c x3 a0 x1 x4 hx5) (HasAll.cons (Has.fl (Has.s rfl)) (HasAll.cons (Has.m (Has.cv (Has.s rfl) (Cv.trans (Cv.flds (CvL.cons Cv.fl (CvL.cons (Cv.m rfl) (CvL.cons (Cv.m rfl) (CvL.cons Cv.fl (CvL.cons Cv.fl (CvL.cons Cv.fl CvL.nil))))))) (Cv.close (T := [0]) (chHead a0)))) rfl) (HasAll.cons (Has.fl (Has.s rfl)) (HasAll.cons (Has.m (Has.cv (Has.s rfl) (Cv.trans Cv.owSl (Cv.slRep (T' := [29]) rfl rfl))) rfl) HasAll.nil)))))) (ao (so (Spec.ext0 (Has.s rfl))) (ao (so (Spec.ext1 (Has.s rfl))) (ao (StepG.stE (Step.storeObj (ls := [(false, 1, Fact.rep [] x5.1.Stripe), (false, 1, Fact.ow [30] [31] 31 (x5.1.Blocks : List (List UInt8))), (false, 1, Fact.ow [32] [] 4 (x5.1.Dirty : List Bool)), (false, 1, Fact.rep [] x5.1.Phase), (false, 1, Fact.rep [] x5.1.Deals), (false, 1, Fact.rep [] x5.1.Seq)]) rfl ty28 rfl rfl (Has.s rfl) rfl (HasL.flds (Has.s rfl)) rfl)) (ao (so (Spec.assign (Has.s rfl))) AllM.nil))))))))))) ?_
  refine Leaf.thenN ?_
  refine CWalk.ret ?_
  refine Leaf.blockR ?_
  refine Leaf.thenR ?_
  obtain rfl := Option.some.inj hm
  exact Leaf.retC2 rfl (HasR.cv (HasR.obj (ls := [(false, 1, Fact.rep [] x5.1.Stripe), (false, 1, Fact.ow [30] [31] 31 (x5.1.Blocks : List (List UInt8))), (false, 1, Fact.ow [32] [] 4 (x5.1.Dirty : List Bool)), (false, 1, Fact.rep [] x5.1.Phase), (false, 1, Fact.rep [] x5.1.Deals), (false, 1, Fact.rep [] x5.1.Seq)]) ty28 rfl rfl (Has.s rfl) rfl (HasGs.cons (HasG.s rfl) (HasGs.cons (HasG.s rfl) (HasGs.cons (HasG.s rfl) (HasGs.cons (HasG.s rfl) (HasGs.cons (HasG.s rfl) (HasGs.cons (HasG.s rfl) HasGs.nil))))))) (Cv.flds (CvL.cons Cv.fl (CvL.cons (Cv.owM (T := [30]) (te := [31]) rfl rfl) (CvL.cons (Cv.owF (T := [32]) (te := []) rfl) (CvL.cons Cv.fl (CvL.cons Cv.fl (CvL.cons Cv.fl CvL.nil)))))))) (HasR.cv (HasR.tmp (Has.s rfl)) Cv.fl)
 ·have hm := cond_f hb hm
  refine CWalk.seq ?_
  refine CWalk.region ?_
  refine wo (Spec.eqlB (Has.s rfl) (Has.u8 1 rfl)) ?_
  refine wo (Spec.assign (Has.s rfl)) ?_
  refine Walk.nil ?_
  refine Leaf.thenN ?_
  refine CWalk.cond rfl (fun hb => ?_) (fun hb => ?_)
  ·have hm := cond_t hb hm
   refine CWalk.seq ?_
   obtain ⟨x6, hx6, hm⟩ := bind_some hm
   obtain ⟨x7, hx7, hm⟩ := bind_some hm
   obtain ⟨x8, hx8, hm⟩ := bind_some hm
   refine CWalk.drawM [[], [], [], [], [3], [0, 3, 4], [0, 1, 2, 3, 4, 5], [0, 1, 2, 3, 4, 5, 6], [0, 1, 2, 3, 4, 5, 6], [0, 1, 2, 3, 4, 5, 6, 7, 8], [0, 1, 2, 3, 4, 5, 6, 7, 8, 9]] [[.fact 27 (.rep [] (x6 : Config))], [.fact 28 (.flds [(false, 1, Fact.rep [] a0.Stripe), (false, 1, Fact.rep [0] a0.Blocks), (false, 1, Fact.rep [0] a0.Dirty), (false, 1, Fact.rep [] a0.Phase), (false, 1, Fact.rep [] a0.Deals), (false, 1, Fact.rep [] a0.Seq)])], [.fact 29 (.rep [] (x1 : Int))], [.fact 30 (.pto 17 2)], [.fact 31 (.rep [] a1.Byte)], [.fact 32 (.ow [34] [] 5 (x7 : List UInt8))], [.fact 33 (.tup2 (Fact.flds [(false, 1, Fact.rep [] x8.1.Stripe), (false, 1, Fact.ow [35] [36] 31 (x8.1.Blocks : List (List UInt8))), (false, 1, Fact.ow [37] [] 4 (x8.1.Dirty : List Bool)), (false, 1, Fact.rep [] x8.1.Phase), (false, 1, Fact.rep [] x8.1.Deals), (false, 1, Fact.rep [] x8.1.Seq)]) (Fact.rep [] x8.2))], [.fact 34 (.flds [(false, 1, Fact.rep [] x8.1.Stripe), (false, 1, Fact.ow [35] [36] 31 (x8.1.Blocks : List (List UInt8))), (false, 1, Fact.ow [37] [] 4 (x8.1.Dirty : List Bool)), (false, 1, Fact.rep [] x8.1.Phase), (false, 1, Fact.rep [] x8.1.Deals), (false, 1, Fact.rep [] x8.1.Seq)])], [.fact 35 (.rep [] x8.2)], [.fact 100021 (.obj 21 [(false, 1), (false, 1), (false, 1), (false, 1), (false, 1), (false, 1)]), .fact 100022 (.at 22 (.rep [] x8.1.Stripe)), .fact 100023 (.at 23 (.ow [35] [36] 31 (x8.1.Blocks : List (List UInt8)))), .fact 100024 (.at 24 (.ow [37] [] 4 (x8.1.Dirty : List Bool))), .fact 100025 (.at 25 (.rep [] x8.1.Phase)), .fact 100026 (.at 26 (.rep [] x8.1.Deals)), .fact 100027 (.at 27 (.rep [] x8.1.Seq)), .kill 21, .killId 22, .killId 23, .killId 24, .killId 25, .killId 26, .killId 27], [.fact 5 (.rep [] x8.2)]] mixed (by kernel_rfl) (ao (so (Spec.callE [] 33 rfl en40 (law16_small_c  hx6) HasAll.nil)) (ao (so (Spec.loadObj (ls := [(false, 1, Fact.rep [] a0.Stripe), (false, 1, Fact.rep [0] a0.Blocks), (false, 1, Fact.rep [0] a0.Dirty), (false, 1, Fact.rep [] a0.Phase), (false, 1, Fact.rep [] a0.Deals), (false, 1, Fact.rep [] a0.Seq)]) ty28 rfl rfl (Has.s rfl) rfl (HasGs.cons (HasG.s rfl) (HasGs.cons (HasG.s rfl) (HasGs.cons (HasG.s rfl) (HasGs.cons (HasG.s rfl) (HasGs.cons (HasG.s rfl) (HasGs.cons (HasG.s rfl) HasGs.nil)))))))) (ao (so (Spec.move (Has.s rfl))) (ao (so (Spec.fieldAddrO fd72_2 (Has.cv (Has.s rfl) (Cv.isvP rfl)))) (ao (so (Spec.loadF (i := 2) ty5 rfl (Has.s rfl) rfl (HasG.s rfl))) (ao (so (Spec.callE [] 34 rfl en43 (law16_full_c a1.Byte hx7) (HasAll.cons (Has.fl (Has.s rfl)) HasAll.nil))) (ao (so (Spec.callE [0, 34] 35 rfl en19 (head_Know_c x6 a0 x1 x7 hx8) (HasAll.cons (Has.fl (Has.s rfl)) (HasAll.cons (Has.m (Has.cv (Has.s rfl) (Cv.trans (Cv.flds (CvL.cons Cv.fl (CvL.cons (Cv.m rfl) (CvL.cons (Cv.m rfl) (CvL.cons Cv.fl (CvL.cons Cv.fl (CvL.cons Cv.fl CvL.nil))))))) (Cv.close (T := [0]) (chHead a0)))) rfl) (HasAll.cons (Has.fl (Has.s rfl)) (HasAll.cons (Has.m (Has.cv (Has.s rfl) (Cv.trans Cv.owSl (Cv.slRep (T' := [34]) rfl rfl))) rfl) HasAll.nil)))))) (ao (so (Spec.ext0 (Has.s rfl))) (ao (so (Spec.ext1 (Has.s rfl))) (ao (StepG.stE (Step.storeObj (ls := [(false, 1, Fact.rep [] x8.1.Stripe), (false, 1, Fact.ow [35] [36] 31 (x8.1.Blocks : List (List UInt8))), (false, 1, Fact.ow [37] [] 4 (x8.1.Dirty : List Bool)), (false, 1, Fact.rep [] x8.1.Phase), (false, 1, Fact.rep [] x8.1.Deals), (false, 1, Fact.rep [] x8.1.Seq)]) rfl ty28 rfl rfl (Has.s rfl) rfl (HasL.flds (Has.s rfl)) rfl)) (ao (so (Spec.assign (Has.s rfl))) AllM.nil))))))))))) ?_
   refine Leaf.thenN ?_
   refine CWalk.ret ?_
   refine Leaf.blockR ?_
   refine Leaf.thenR ?_
   obtain rfl := Option.some.inj hm
   exact Leaf.retC2 rfl (HasR.cv (HasR.obj (ls := [(false, 1, Fact.rep [] x8.1.Stripe), (false, 1, Fact.ow [35] [36] 31 (x8.1.Blocks : List (List UInt8))), (false, 1, Fact.ow [37] [] 4 (x8.1.Dirty : List Bool)), (false, 1, Fact.rep [] x8.1.Phase), (false, 1, Fact.rep [] x8.1.Deals), (false, 1, Fact.rep [] x8.1.Seq)]) ty28 rfl rfl (Has.s rfl) rfl (HasGs.cons (HasG.s rfl) (HasGs.cons (HasG.s rfl) (HasGs.cons (HasG.s rfl) (HasGs.cons (HasG.s rfl) (HasGs.cons (HasG.s rfl) (HasGs.cons (HasG.s rfl) HasGs.nil))))))) (Cv.flds (CvL.cons Cv.fl (CvL.cons (Cv.owM (T := [35]) (te := [36]) rfl rfl) (CvL.cons (Cv.owF (T := [37]) (te := []) rfl) (CvL.cons Cv.fl (CvL.cons Cv.fl (CvL.cons Cv.fl CvL.nil)))))))) (HasR.cv (HasR.tmp (Has.s rfl)) Cv.fl)
  ·have hm := cond_f hb hm
   refine CWalk.seq ?_
   refine CWalk.region ?_
   refine wo (Spec.eqlB (Has.s rfl) (Has.u8 2 rfl)) ?_
   refine wo (Spec.assign (Has.s rfl)) ?_
   refine Walk.nil ?_
   refine Leaf.thenN ?_
   refine CWalk.cond rfl (fun hb => ?_) (fun hb => ?_)
   ·have hm := cond_t hb hm
    refine CWalk.seq ?_
    obtain ⟨x9, hx9, hm⟩ := bind_some hm
    obtain ⟨x10, hx10, hm⟩ := bind_some hm
    obtain ⟨x11, hx11, hm⟩ := bind_some hm
    refine CWalk.drawM [[], [], [], [2], [0, 2, 3], [0, 1, 2, 3, 4], [0, 1, 2, 3, 4, 5], [0, 1, 2, 3, 4, 5], [0, 1, 2, 3, 4, 5, 6, 7], [0, 1, 2, 3, 4, 5, 6, 7, 8]] [[.fact 38 (.rep [] (x9 : Config))], [.fact 39 (.flds [(false, 1, Fact.rep [] a0.Stripe), (false, 1, Fact.rep [0] a0.Blocks), (false, 1, Fact.rep [0] a0.Dirty), (false, 1, Fact.rep [] a0.Phase), (false, 1, Fact.rep [] a0.Deals), (false, 1, Fact.rep [] a0.Seq)])], [.fact 40 (.pto 17 2)], [.fact 41 (.rep [] a1.Byte)], [.fact 42 (.ow [39] [] 5 (x10 : List UInt8))], [.fact 43 (.tup2 (Fact.flds [(false, 1, Fact.rep [] x11.1.Stripe), (false, 1, Fact.ow [40] [41] 31 (x11.1.Blocks : List (List UInt8))), (false, 1, Fact.ow [42] [] 4 (x11.1.Dirty : List Bool)), (false, 1, Fact.rep [] x11.1.Phase), (false, 1, Fact.rep [] x11.1.Deals), (false, 1, Fact.rep [] x11.1.Seq)]) (Fact.rep [] x11.2))], [.fact 44 (.flds [(false, 1, Fact.rep [] x11.1.Stripe), (false, 1, Fact.ow [40] [41] 31 (x11.1.Blocks : List (List UInt8))), (false, 1, Fact.ow [42] [] 4 (x11.1.Dirty : List Bool)), (false, 1, Fact.rep [] x11.1.Phase), (false, 1, Fact.rep [] x11.1.Deals), (false, 1, Fact.rep [] x11.1.Seq)])], [.fact 45 (.rep [] x11.2)], [.fact 100021 (.obj 21 [(false, 1), (false, 1), (false, 1), (false, 1), (false, 1), (false, 1)]), .fact 100022 (.at 22 (.rep [] x11.1.Stripe)), .fact 100023 (.at 23 (.ow [40] [41] 31 (x11.1.Blocks : List (List UInt8)))), .fact 100024 (.at 24 (.ow [42] [] 4 (x11.1.Dirty : List Bool))), .fact 100025 (.at 25 (.rep [] x11.1.Phase)), .fact 100026 (.at 26 (.rep [] x11.1.Deals)), .fact 100027 (.at 27 (.rep [] x11.1.Seq)), .kill 21, .killId 22, .killId 23, .killId 24, .killId 25, .killId 26, .killId 27], [.fact 5 (.rep [] x11.2)]] mixed (by kernel_rfl) (ao (so (Spec.callE [] 38 rfl en40 (law16_small_c  hx9) HasAll.nil)) (ao (so (Spec.loadObj (ls := [(false, 1, Fact.rep [] a0.Stripe), (false, 1, Fact.rep [0] a0.Blocks), (false, 1, Fact.rep [0] a0.Dirty), (false, 1, Fact.rep [] a0.Phase), (false, 1, Fact.rep [] a0.Deals), (false, 1, Fact.rep [] a0.Seq)]) ty28 rfl rfl (Has.s rfl) rfl (HasGs.cons (HasG.s rfl) (HasGs.cons (HasG.s rfl) (HasGs.cons (HasG.s rfl) (HasGs.cons (HasG.s rfl) (HasGs.cons (HasG.s rfl) (HasGs.cons (HasG.s rfl) HasGs.nil)))))))) (ao (so (Spec.fieldAddrO fd72_2 (Has.cv (Has.s rfl) (Cv.isvP rfl)))) (ao (so (Spec.loadF (i := 2) ty5 rfl (Has.s rfl) rfl (HasG.s rfl))) (ao (so (Spec.callE [] 39 rfl en43 (law16_full_c a1.Byte hx10) (HasAll.cons (Has.fl (Has.s rfl)) HasAll.nil))) (ao (so (Spec.callE [0, 39] 40 rfl en28 (head_Make_c x9 a0 x10 hx11) (HasAll.cons (Has.fl (Has.s rfl)) (HasAll.cons (Has.m (Has.cv (Has.s rfl) (Cv.trans (Cv.flds (CvL.cons Cv.fl (CvL.cons (Cv.m rfl) (CvL.cons (Cv.m rfl) (CvL.cons Cv.fl (CvL.cons Cv.fl (CvL.cons Cv.fl CvL.nil))))))) (Cv.close (T := [0]) (chHead a0)))) rfl) (HasAll.cons (Has.m (Has.cv (Has.s rfl) (Cv.trans Cv.owSl (Cv.slRep (T' := [39]) rfl rfl))) rfl) HasAll.nil))))) (ao (so (Spec.ext0 (Has.s rfl))) (ao (so (Spec.ext1 (Has.s rfl))) (ao (StepG.stE (Step.storeObj (ls := [(false, 1, Fact.rep [] x11.1.Stripe), (false, 1, Fact.ow [40] [41] 31 (x11.1.Blocks : List (List UInt8))), (false, 1, Fact.ow [42] [] 4 (x11.1.Dirty : List Bool)), (false, 1, Fact.rep [] x11.1.Phase), (false, 1, Fact.rep [] x11.1.Deals), (false, 1, Fact.rep [] x11.1.Seq)]) rfl ty28 rfl rfl (Has.s rfl) rfl (HasL.flds (Has.s rfl)) rfl)) (ao (so (Spec.assign (Has.s rfl))) AllM.nil)))))))))) ?_
    refine Leaf.thenN ?_
    refine CWalk.ret ?_
    refine Leaf.blockR ?_
    refine Leaf.thenR ?_
    obtain rfl := Option.some.inj hm
    exact Leaf.retC2 rfl (HasR.cv (HasR.obj (ls := [(false, 1, Fact.rep [] x11.1.Stripe), (false, 1, Fact.ow [40] [41] 31 (x11.1.Blocks : List (List UInt8))), (false, 1, Fact.ow [42] [] 4 (x11.1.Dirty : List Bool)), (false, 1, Fact.rep [] x11.1.Phase), (false, 1, Fact.rep [] x11.1.Deals), (false, 1, Fact.rep [] x11.1.Seq)]) ty28 rfl rfl (Has.s rfl) rfl (HasGs.cons (HasG.s rfl) (HasGs.cons (HasG.s rfl) (HasGs.cons (HasG.s rfl) (HasGs.cons (HasG.s rfl) (HasGs.cons (HasG.s rfl) (HasGs.cons (HasG.s rfl) HasGs.nil))))))) (Cv.flds (CvL.cons Cv.fl (CvL.cons (Cv.owM (T := [40]) (te := [41]) rfl rfl) (CvL.cons (Cv.owF (T := [42]) (te := []) rfl) (CvL.cons Cv.fl (CvL.cons Cv.fl (CvL.cons Cv.fl CvL.nil)))))))) (HasR.cv (HasR.tmp (Has.s rfl)) Cv.fl)
   ·have hm := cond_f hb hm
    refine CWalk.seq ?_
    refine CWalk.region ?_
    refine wo (Spec.eqlB (Has.s rfl) (Has.u8 3 rfl)) ?_
    refine wo (Spec.assign (Has.s rfl)) ?_
    refine Walk.nil ?_
    refine Leaf.thenN ?_
    refine CWalk.cond rfl (fun hb => ?_) (fun hb => ?_)
    ·have hm := cond_t hb hm
     refine CWalk.seq ?_
     obtain ⟨x12, hx12, hm⟩ := bind_some hm
     obtain ⟨x13, hx13, hm⟩ := bind_some hm
     refine CWalk.drawM [[], [], [], [2], [2, 3], [0, 1, 2, 3, 4], [0, 1, 2, 3, 4, 5], [0, 1, 2, 3, 4, 5], [0, 1, 2, 3, 4, 5, 6, 7], [0, 1, 2, 3, 4, 5, 6, 7, 8]] [[.fact 48 (.rep [] (x12 : Config))], [.fact 49 (.flds [(false, 1, Fact.rep [] a0.Stripe), (false, 1, Fact.rep [0] a0.Blocks), (false, 1, Fact.rep [0] a0.Dirty), (false, 1, Fact.rep [] a0.Phase), (false, 1, Fact.rep [] a0.Deals), (false, 1, Fact.rep [] a0.Seq)])], [.fact 50 (.pto 17 2)], [.fact 51 (.rep [] a1.Byte)], [.fact 52 (.rep [] ((scW.of (a1.Byte.toNat : Int)) : UInt32))], [.fact 53 (.tup2 (Fact.flds [(false, 1, Fact.rep [] x13.1.Stripe), (false, 1, Fact.ow [44] [45] 31 (x13.1.Blocks : List (List UInt8))), (false, 1, Fact.ow [46] [] 4 (x13.1.Dirty : List Bool)), (false, 1, Fact.rep [] x13.1.Phase), (false, 1, Fact.rep [] x13.1.Deals), (false, 1, Fact.rep [] x13.1.Seq)]) (Fact.rep [] x13.2))], [.fact 54 (.flds [(false, 1, Fact.rep [] x13.1.Stripe), (false, 1, Fact.ow [44] [45] 31 (x13.1.Blocks : List (List UInt8))), (false, 1, Fact.ow [46] [] 4 (x13.1.Dirty : List Bool)), (false, 1, Fact.rep [] x13.1.Phase), (false, 1, Fact.rep [] x13.1.Deals), (false, 1, Fact.rep [] x13.1.Seq)])], [.fact 55 (.rep [] x13.2)], [.fact 100021 (.obj 21 [(false, 1), (false, 1), (false, 1), (false, 1), (false, 1), (false, 1)]), .fact 100022 (.at 22 (.rep [] x13.1.Stripe)), .fact 100023 (.at 23 (.ow [44] [45] 31 (x13.1.Blocks : List (List UInt8)))), .fact 100024 (.at 24 (.ow [46] [] 4 (x13.1.Dirty : List Bool))), .fact 100025 (.at 25 (.rep [] x13.1.Phase)), .fact 100026 (.at 26 (.rep [] x13.1.Deals)), .fact 100027 (.at 27 (.rep [] x13.1.Seq)), .kill 21, .killId 22, .killId 23, .killId 24, .killId 25, .killId 26, .killId 27], [.fact 5 (.rep [] x13.2)]] mixed (by kernel_rfl) (ao (so (Spec.callE [] 43 rfl en40 (law16_small_c  hx12) HasAll.nil)) (ao (so (Spec.loadObj (ls := [(false, 1, Fact.rep [] a0.Stripe), (false, 1, Fact.rep [0] a0.Blocks), (false, 1, Fact.rep [0] a0.Dirty), (false, 1, Fact.rep [] a0.Phase), (false, 1, Fact.rep [] a0.Deals), (false, 1, Fact.rep [] a0.Seq)]) ty28 rfl rfl (Has.s rfl) rfl (HasGs.cons (HasG.s rfl) (HasGs.cons (HasG.s rfl) (HasGs.cons (HasG.s rfl) (HasGs.cons (HasG.s rfl) (HasGs.cons (HasG.s rfl) (HasGs.cons (HasG.s rfl) HasGs.nil)))))))) (ao (so (Spec.fieldAddrO fd72_2 (Has.cv (Has.s rfl) (Cv.isvP rfl)))) (ao (so (Spec.loadF (i := 2) ty5 rfl (Has.s rfl) rfl (HasG.s rfl))) (ao (so (Spec.conv (α := UInt8) (β := UInt32) Try.underlying5 Try.underlying22 (Has.s rfl))) (ao (so (Spec.callE [0] 44 rfl en30 (head_Log_c x12 a0 (scW.of (a1.Byte.toNat : Int)) hx13) (HasAll.cons (Has.fl (Has.s rfl)) (HasAll.cons (Has.m (Has.cv (Has.s rfl) (Cv.trans (Cv.flds (CvL.cons Cv.fl (CvL.cons (Cv.m rfl) (CvL.cons (Cv.m rfl) (CvL.cons Cv.fl (CvL.cons Cv.fl (CvL.cons Cv.fl CvL.nil))))))) (Cv.close (T := [0]) (chHead a0)))) rfl) (HasAll.cons (Has.fl (Has.s rfl)) HasAll.nil))))) (ao (so (Spec.ext0 (Has.s rfl))) (ao (so (Spec.ext1 (Has.s rfl))) (ao (StepG.stE (Step.storeObj (ls := [(false, 1, Fact.rep [] x13.1.Stripe), (false, 1, Fact.ow [44] [45] 31 (x13.1.Blocks : List (List UInt8))), (false, 1, Fact.ow [46] [] 4 (x13.1.Dirty : List Bool)), (false, 1, Fact.rep [] x13.1.Phase), (false, 1, Fact.rep [] x13.1.Deals), (false, 1, Fact.rep [] x13.1.Seq)]) rfl ty28 rfl rfl (Has.s rfl) rfl (HasL.flds (Has.s rfl)) rfl)) (ao (so (Spec.assign (Has.s rfl))) AllM.nil)))))))))) ?_
     refine Leaf.thenN ?_
     refine CWalk.ret ?_
     refine Leaf.blockR ?_
     refine Leaf.thenR ?_
     obtain rfl := Option.some.inj hm
     exact Leaf.retC2 rfl (HasR.cv (HasR.obj (ls := [(false, 1, Fact.rep [] x13.1.Stripe), (false, 1, Fact.ow [44] [45] 31 (x13.1.Blocks : List (List UInt8))), (false, 1, Fact.ow [46] [] 4 (x13.1.Dirty : List Bool)), (false, 1, Fact.rep [] x13.1.Phase), (false, 1, Fact.rep [] x13.1.Deals), (false, 1, Fact.rep [] x13.1.Seq)]) ty28 rfl rfl (Has.s rfl) rfl (HasGs.cons (HasG.s rfl) (HasGs.cons (HasG.s rfl) (HasGs.cons (HasG.s rfl) (HasGs.cons (HasG.s rfl) (HasGs.cons (HasG.s rfl) (HasGs.cons (HasG.s rfl) HasGs.nil))))))) (Cv.flds (CvL.cons Cv.fl (CvL.cons (Cv.owM (T := [44]) (te := [45]) rfl rfl) (CvL.cons (Cv.owF (T := [46]) (te := []) rfl) (CvL.cons Cv.fl (CvL.cons Cv.fl (CvL.cons Cv.fl CvL.nil)))))))) (HasR.cv (HasR.tmp (Has.s rfl)) Cv.fl)
    ·have hm := cond_f hb hm
     refine CWalk.seq ?_
     refine CWalk.region ?_
     refine wo (Spec.eqlB (Has.s rfl) (Has.u8 4 rfl)) ?_
     refine wo (Spec.assign (Has.s rfl)) ?_
     refine Walk.nil ?_
     refine Leaf.thenN ?_
     refine CWalk.cond rfl (fun hb => ?_) (fun hb => ?_)
     ·have hm := cond_t hb hm
      refine CWalk.seq ?_
      obtain ⟨x14, hx14, hm⟩ := bind_some hm
      obtain ⟨x15, hx15, hm⟩ := bind_some hm
      refine CWalk.drawM [[], [], [0, 1], [0, 1, 2], [0, 1, 2], [0, 1, 2, 3, 4], [0, 1, 2, 3, 4, 5]] [[.fact 58 (.rep [] (x14 : Config))], [.fact 59 (.flds [(false, 1, Fact.rep [] a0.Stripe), (false, 1, Fact.rep [0] a0.Blocks), (false, 1, Fact.rep [0] a0.Dirty), (false, 1, Fact.rep [] a0.Phase), (false, 1, Fact.rep [] a0.Deals), (false, 1, Fact.rep [] a0.Seq)])], [.fact 60 (.tup2 (Fact.flds [(false, 1, Fact.rep [] x15.1.Stripe), (false, 1, Fact.ow [48] [49] 31 (x15.1.Blocks : List (List UInt8))), (false, 1, Fact.ow [50] [] 4 (x15.1.Dirty : List Bool)), (false, 1, Fact.rep [] x15.1.Phase), (false, 1, Fact.rep [] x15.1.Deals), (false, 1, Fact.rep [] x15.1.Seq)]) (Fact.rep [] x15.2))], [.fact 61 (.flds [(false, 1, Fact.rep [] x15.1.Stripe), (false, 1, Fact.ow [48] [49] 31 (x15.1.Blocks : List (List UInt8))), (false, 1, Fact.ow [50] [] 4 (x15.1.Dirty : List Bool)), (false, 1, Fact.rep [] x15.1.Phase), (false, 1, Fact.rep [] x15.1.Deals), (false, 1, Fact.rep [] x15.1.Seq)])], [.fact 62 (.rep [] x15.2)], [.fact 100021 (.obj 21 [(false, 1), (false, 1), (false, 1), (false, 1), (false, 1), (false, 1)]), .fact 100022 (.at 22 (.rep [] x15.1.Stripe)), .fact 100023 (.at 23 (.ow [48] [49] 31 (x15.1.Blocks : List (List UInt8)))), .fact 100024 (.at 24 (.ow [50] [] 4 (x15.1.Dirty : List Bool))), .fact 100025 (.at 25 (.rep [] x15.1.Phase)), .fact 100026 (.at 26 (.rep [] x15.1.Deals)), .fact 100027 (.at 27 (.rep [] x15.1.Seq)), .kill 21, .killId 22, .killId 23, .killId 24, .killId 25, .killId 26, .killId 27], [.fact 5 (.rep [] x15.2)]] mixed (by kernel_rfl) (ao (so (Spec.callE [] 47 rfl en40 (law16_small_c  hx14) HasAll.nil)) (ao (so (Spec.loadObj (ls := [(false, 1, Fact.rep [] a0.Stripe), (false, 1, Fact.rep [0] a0.Blocks), (false, 1, Fact.rep [0] a0.Dirty), (false, 1, Fact.rep [] a0.Phase), (false, 1, Fact.rep [] a0.Deals), (false, 1, Fact.rep [] a0.Seq)]) ty28 rfl rfl (Has.s rfl) rfl (HasGs.cons (HasG.s rfl) (HasGs.cons (HasG.s rfl) (HasGs.cons (HasG.s rfl) (HasGs.cons (HasG.s rfl) (HasGs.cons (HasG.s rfl) (HasGs.cons (HasG.s rfl) HasGs.nil)))))))) (ao (so (Spec.callE [0] 48 rfl en32 (head_Sure_c x14 a0 hx15) (HasAll.cons (Has.fl (Has.s rfl)) (HasAll.cons (Has.m (Has.cv (Has.s rfl) (Cv.trans (Cv.flds (CvL.cons Cv.fl (CvL.cons (Cv.m rfl) (CvL.cons (Cv.m rfl) (CvL.cons Cv.fl (CvL.cons Cv.fl (CvL.cons Cv.fl CvL.nil))))))) (Cv.close (T := [0]) (chHead a0)))) rfl) HasAll.nil)))) (ao (so (Spec.ext0 (Has.s rfl))) (ao (so (Spec.ext1 (Has.s rfl))) (ao (StepG.stE (Step.storeObj (ls := [(false, 1, Fact.rep [] x15.1.Stripe), (false, 1, Fact.ow [48] [49] 31 (x15.1.Blocks : List (List UInt8))), (false, 1, Fact.ow [50] [] 4 (x15.1.Dirty : List Bool)), (false, 1, Fact.rep [] x15.1.Phase), (false, 1, Fact.rep [] x15.1.Deals), (false, 1, Fact.rep [] x15.1.Seq)]) rfl ty28 rfl rfl (Has.s rfl) rfl (HasL.flds (Has.s rfl)) rfl)) (ao (so (Spec.assign (Has.s rfl))) AllM.nil))))))) ?_
      refine Leaf.thenN ?_
      refine CWalk.ret ?_
      refine Leaf.blockR ?_
      refine Leaf.thenR ?_
      obtain rfl := Option.some.inj hm
      exact Leaf.retC2 rfl (HasR.cv (HasR.obj (ls := [(false, 1, Fact.rep [] x15.1.Stripe), (false, 1, Fact.ow [48] [49] 31 (x15.1.Blocks : List (List UInt8))), (false, 1, Fact.ow [50] [] 4 (x15.1.Dirty : List Bool)), (false, 1, Fact.rep [] x15.1.Phase), (false, 1, Fact.rep [] x15.1.Deals), (false, 1, Fact.rep [] x15.1.Seq)]) ty28 rfl rfl (Has.s rfl) rfl (HasGs.cons (HasG.s rfl) (HasGs.cons (HasG.s rfl) (HasGs.cons (HasG.s rfl) (HasGs.cons (HasG.s rfl) (HasGs.cons (HasG.s rfl) (HasGs.cons (HasG.s rfl) HasGs.nil))))))) (Cv.flds (CvL.cons Cv.fl (CvL.cons (Cv.owM (T := [48]) (te := [49]) rfl rfl) (CvL.cons (Cv.owF (T := [50]) (te := []) rfl) (CvL.cons Cv.fl (CvL.cons Cv.fl (CvL.cons Cv.fl CvL.nil)))))))) (HasR.cv (HasR.tmp (Has.s rfl)) Cv.fl)
     ·have hm := cond_f hb hm
      refine CWalk.seq ?_
      refine CWalk.region ?_
      refine wo (Spec.eqlB (Has.s rfl) (Has.u8 5 rfl)) ?_
      refine wo (Spec.assign (Has.s rfl)) ?_
      refine Walk.nil ?_
      refine Leaf.thenN ?_
      refine CWalk.cond rfl (fun hb => ?_) (fun hb => ?_)
      ·have hm := cond_t hb hm
       refine CWalk.seq ?_
       obtain ⟨x16, hx16, hm⟩ := bind_some hm
       obtain ⟨x17, hx17, hm⟩ := bind_some hm
       refine CWalk.drawM [[], [], [0, 1], [0, 1, 2], [0, 1, 2], [0, 1, 2, 3, 4], [0, 1, 2, 3, 4, 5]] [[.fact 65 (.rep [] (x16 : Config))], [.fact 66 (.flds [(false, 1, Fact.rep [] a0.Stripe), (false, 1, Fact.rep [0] a0.Blocks), (false, 1, Fact.rep [0] a0.Dirty), (false, 1, Fact.rep [] a0.Phase), (false, 1, Fact.rep [] a0.Deals), (false, 1, Fact.rep [] a0.Seq)])], [.fact 67 (.tup2 (Fact.flds [(false, 1, Fact.rep [] x17.1.Stripe), (false, 1, Fact.ow [52] [53] 31 (x17.1.Blocks : List (List UInt8))), (false, 1, Fact.ow [54] [] 4 (x17.1.Dirty : List Bool)), (false, 1, Fact.rep [] x17.1.Phase), (false, 1, Fact.rep [] x17.1.Deals), (false, 1, Fact.rep [] x17.1.Seq)]) (Fact.rep [] x17.2))], [.fact 68 (.flds [(false, 1, Fact.rep [] x17.1.Stripe), (false, 1, Fact.ow [52] [53] 31 (x17.1.Blocks : List (List UInt8))), (false, 1, Fact.ow [54] [] 4 (x17.1.Dirty : List Bool)), (false, 1, Fact.rep [] x17.1.Phase), (false, 1, Fact.rep [] x17.1.Deals), (false, 1, Fact.rep [] x17.1.Seq)])], [.fact 69 (.rep [] x17.2)], [.fact 100021 (.obj 21 [(false, 1), (false, 1), (false, 1), (false, 1), (false, 1), (false, 1)]), .fact 100022 (.at 22 (.rep [] x17.1.Stripe)), .fact 100023 (.at 23 (.ow [52] [53] 31 (x17.1.Blocks : List (List UInt8)))), .fact 100024 (.at 24 (.ow [54] [] 4 (x17.1.Dirty : List Bool))), .fact 100025 (.at 25 (.rep [] x17.1.Phase)), .fact 100026 (.at 26 (.rep [] x17.1.Deals)), .fact 100027 (.at 27 (.rep [] x17.1.Seq)), .kill 21, .killId 22, .killId 23, .killId 24, .killId 25, .killId 26, .killId 27], [.fact 5 (.rep [] x17.2)]] mixed (by kernel_rfl) (ao (so (Spec.callE [] 51 rfl en40 (law16_small_c  hx16) HasAll.nil)) (ao (so (Spec.loadObj (ls := [(false, 1, Fact.rep [] a0.Stripe), (false, 1, Fact.rep [0] a0.Blocks), (false, 1, Fact.rep [0] a0.Dirty), (false, 1, Fact.rep [] a0.Phase), (false, 1, Fact.rep [] a0.Deals), (false, 1, Fact.rep [] a0.Seq)]) ty28 rfl rfl (Has.s rfl) rfl (HasGs.cons (HasG.s rfl) (HasGs.cons (HasG.s rfl) (HasGs.cons (HasG.s rfl) (HasGs.cons (HasG.s rfl) (HasGs.cons (HasG.s rfl) (HasGs.cons (HasG.s rfl) HasGs.nil)))))))) (ao (so (Spec.callE [0] 52 rfl en34 (head_Lay_c x16 a0 hx17) (HasAll.cons (Has.fl (Has.s rfl)) (HasAll.cons (Has.m (Has.cv (Has.s rfl) (Cv.trans (Cv.flds (CvL.cons Cv.fl (CvL.cons (Cv.m rfl) (CvL.cons (Cv.m rfl) (CvL.cons Cv.fl (CvL.cons Cv.fl (CvL.cons Cv.fl CvL.nil))))))) (Cv.close (T := [0]) (chHead a0)))) rfl) HasAll.nil)))) (ao (so (Spec.ext0 (Has.s rfl))) (ao (so (Spec.ext1 (Has.s rfl))) (ao (StepG.stE (Step.storeObj (ls := [(false, 1, Fact.rep [] x17.1.Stripe), (false, 1, Fact.ow [52] [53] 31 (x17.1.Blocks : List (List UInt8))), (false, 1, Fact.ow [54] [] 4 (x17.1.Dirty : List Bool)), (false, 1, Fact.rep [] x17.1.Phase), (false, 1, Fact.rep [] x17.1.Deals), (false, 1, Fact.rep [] x17.1.Seq)]) rfl ty28 rfl rfl (Has.s rfl) rfl (HasL.flds (Has.s rfl)) rfl)) (ao (so (Spec.assign (Has.s rfl))) AllM.nil))))))) ?_
       refine Leaf.thenN ?_
       refine CWalk.ret ?_
       refine Leaf.blockR ?_
       refine Leaf.thenR ?_
       obtain rfl := Option.some.inj hm
       exact Leaf.retC2 rfl (HasR.cv (HasR.obj (ls := [(false, 1, Fact.rep [] x17.1.Stripe), (false, 1, Fact.ow [52] [53] 31 (x17.1.Blocks : List (List UInt8))), (false, 1, Fact.ow [54] [] 4 (x17.1.Dirty : List Bool)), (false, 1, Fact.rep [] x17.1.Phase), (false, 1, Fact.rep [] x17.1.Deals), (false, 1, Fact.rep [] x17.1.Seq)]) ty28 rfl rfl (Has.s rfl) rfl (HasGs.cons (HasG.s rfl) (HasGs.cons (HasG.s rfl) (HasGs.cons (HasG.s rfl) (HasGs.cons (HasG.s rfl) (HasGs.cons (HasG.s rfl) (HasGs.cons (HasG.s rfl) HasGs.nil))))))) (Cv.flds (CvL.cons Cv.fl (CvL.cons (Cv.owM (T := [52]) (te := [53]) rfl rfl) (CvL.cons (Cv.owF (T := [54]) (te := []) rfl) (CvL.cons Cv.fl (CvL.cons Cv.fl (CvL.cons Cv.fl CvL.nil)))))))) (HasR.cv (HasR.tmp (Has.s rfl)) Cv.fl)
      ·have hm := cond_f hb hm
       refine CWalk.skip ?_
       refine Leaf.blockN ?_
       refine Leaf.thenN ?_
       refine CWalk.seq ?_
       obtain ⟨x18, hx18, hm⟩ := bind_some hm
       obtain ⟨x19, hx19, hm⟩ := bind_some hm
       refine CWalk.drawM [[], [], [0, 1], [0, 1, 2], [0, 1, 2], [0, 1, 2, 3, 4], [0, 1, 2, 3, 4, 5]] [[.fact 70 (.rep [] (x18 : Config))], [.fact 71 (.flds [(false, 1, Fact.rep [] a0.Stripe), (false, 1, Fact.rep [0] a0.Blocks), (false, 1, Fact.rep [0] a0.Dirty), (false, 1, Fact.rep [] a0.Phase), (false, 1, Fact.rep [] a0.Deals), (false, 1, Fact.rep [] a0.Seq)])], [.fact 72 (.tup2 (Fact.flds [(false, 1, Fact.rep [] x19.1.Stripe), (false, 1, Fact.ow [56] [57] 31 (x19.1.Blocks : List (List UInt8))), (false, 1, Fact.ow [58] [] 4 (x19.1.Dirty : List Bool)), (false, 1, Fact.rep [] x19.1.Phase), (false, 1, Fact.rep [] x19.1.Deals), (false, 1, Fact.rep [] x19.1.Seq)]) (Fact.rep [] x19.2))], [.fact 73 (.flds [(false, 1, Fact.rep [] x19.1.Stripe), (false, 1, Fact.ow [56] [57] 31 (x19.1.Blocks : List (List UInt8))), (false, 1, Fact.ow [58] [] 4 (x19.1.Dirty : List Bool)), (false, 1, Fact.rep [] x19.1.Phase), (false, 1, Fact.rep [] x19.1.Deals), (false, 1, Fact.rep [] x19.1.Seq)])], [.fact 74 (.rep [] x19.2)], [.fact 100021 (.obj 21 [(false, 1), (false, 1), (false, 1), (false, 1), (false, 1), (false, 1)]), .fact 100022 (.at 22 (.rep [] x19.1.Stripe)), .fact 100023 (.at 23 (.ow [56] [57] 31 (x19.1.Blocks : List (List UInt8)))), .fact 100024 (.at 24 (.ow [58] [] 4 (x19.1.Dirty : List Bool))), .fact 100025 (.at 25 (.rep [] x19.1.Phase)), .fact 100026 (.at 26 (.rep [] x19.1.Deals)), .fact 100027 (.at 27 (.rep [] x19.1.Seq)), .kill 21, .killId 22, .killId 23, .killId 24, .killId 25, .killId 26, .killId 27], [.fact 5 (.rep [] x19.2)]] mixed (by kernel_rfl) (ao (so (Spec.callE [] 55 rfl en40 (law16_small_c  hx18) HasAll.nil)) (ao (so (Spec.loadObj (ls := [(false, 1, Fact.rep [] a0.Stripe), (false, 1, Fact.rep [0] a0.Blocks), (false, 1, Fact.rep [0] a0.Dirty), (false, 1, Fact.rep [] a0.Phase), (false, 1, Fact.rep [] a0.Deals), (false, 1, Fact.rep [] a0.Seq)]) ty28 rfl rfl (Has.s rfl) rfl (HasGs.cons (HasG.s rfl) (HasGs.cons (HasG.s rfl) (HasGs.cons (HasG.s rfl) (HasGs.cons (HasG.s rfl) (HasGs.cons (HasG.s rfl) (HasGs.cons (HasG.s rfl) HasGs.nil)))))))) (ao (so (Spec.callE [0] 56 rfl en36 (head_Home_c x18 a0 hx19) (HasAll.cons (Has.fl (Has.s rfl)) (HasAll.cons (Has.m (Has.cv (Has.s rfl) (Cv.trans (Cv.flds (CvL.cons Cv.fl (CvL.cons (Cv.m rfl) (CvL.cons (Cv.m rfl) (CvL.cons Cv.fl (CvL.cons Cv.fl (CvL.cons Cv.fl CvL.nil))))))) (Cv.close (T := [0]) (chHead a0)))) rfl) HasAll.nil)))) (ao (so (Spec.ext0 (Has.s rfl))) (ao (so (Spec.ext1 (Has.s rfl))) (ao (StepG.stE (Step.storeObj (ls := [(false, 1, Fact.rep [] x19.1.Stripe), (false, 1, Fact.ow [56] [57] 31 (x19.1.Blocks : List (List UInt8))), (false, 1, Fact.ow [58] [] 4 (x19.1.Dirty : List Bool)), (false, 1, Fact.rep [] x19.1.Phase), (false, 1, Fact.rep [] x19.1.Deals), (false, 1, Fact.rep [] x19.1.Seq)]) rfl ty28 rfl rfl (Has.s rfl) rfl (HasL.flds (Has.s rfl)) rfl)) (ao (so (Spec.assign (Has.s rfl))) AllM.nil))))))) ?_
       refine Leaf.thenN ?_
       refine CWalk.ret ?_
       obtain rfl := Option.some.inj hm
       exact Leaf.retC2 rfl (HasR.cv (HasR.obj (ls := [(false, 1, Fact.rep [] x19.1.Stripe), (false, 1, Fact.ow [56] [57] 31 (x19.1.Blocks : List (List UInt8))), (false, 1, Fact.ow [58] [] 4 (x19.1.Dirty : List Bool)), (false, 1, Fact.rep [] x19.1.Phase), (false, 1, Fact.rep [] x19.1.Deals), (false, 1, Fact.rep [] x19.1.Seq)]) ty28 rfl rfl (Has.s rfl) rfl (HasGs.cons (HasG.s rfl) (HasGs.cons (HasG.s rfl) (HasGs.cons (HasG.s rfl) (HasGs.cons (HasG.s rfl) (HasGs.cons (HasG.s rfl) (HasGs.cons (HasG.s rfl) HasGs.nil))))))) (Cv.flds (CvL.cons Cv.fl (CvL.cons (Cv.owM (T := [56]) (te := [57]) rfl rfl) (CvL.cons (Cv.owF (T := [58]) (te := []) rfl) (CvL.cons Cv.fl (CvL.cons Cv.fl (CvL.cons Cv.fl CvL.nil)))))))) (HasR.cv (HasR.tmp (Has.s rfl)) Cv.fl)

def law16_held_L1 (a0 : Head) (a1 : Arr2_Bool) (a2 : Arr2_UInt8) (s1 : Int) : Option (Ctl (Int) ((Unit) ⊕ (Unit))) :=
  (bif (decide (s1 < (2 : Int))) then Option.bind (law16_small) (fun x3 => Option.bind (head_Tell x3 a0 s1) (fun x4 => Option.bind (gO (!(x4.2.2 != (0 : Int))) (bnd 2 s1)) (fun x5 => Option.bind (gO (!(x4.2.2 != (0 : Int))) ((([a1.e0, a1.e1] : List Bool))[x5]?)) (fun x6 => Option.bind (gO ((!((x4.2.2 != (0 : Int)) || (x4.2.1 != x6))) && (x4.2.1)) (bnd 2 s1)) (fun x7 => Option.bind (gO ((!((x4.2.2 != (0 : Int)) || (x4.2.1 != x6))) && (x4.2.1)) ((([a2.e0, a2.e1] : List UInt8))[x7]?)) (fun x8 => Option.bind (gO ((!((x4.2.2 != (0 : Int)) || (x4.2.1 != x6))) && (x4.2.1)) (law16_full x8)) (fun x9 => (bif (((x4.2.2 != (0 : Int)) || (x4.2.1 != x6)) || (x4.2.1 && (!((Str.mk x4.1).s == (Str.mk x9).s)))) then some (Ctl.brk (Sum.inr ())) else some (Ctl.next (wI (s1 + (1 : Int)))))))))))) else some (Ctl.brk (Sum.inl ())))
/-- freeboard/freeboardlaw16.held -/
def law16_held (a0 : Head) (a1 : Arr2_Bool) (a2 : Arr2_UInt8) : Option (Bool) :=
  Option.bind (loopM (fun s : Int => law16_held_L1 a0 a1 a2 s) FUEL (0 : Int)) (fun b10 => Sum.elim (fun b11 => some true) (fun b12 => some false) b10)
set_option maxRecDepth 100000 in
set_option maxHeartbeats 2000000 in
theorem law16_held_c (a0 : Head) (a1 : Arr2_Bool) (a2 : Arr2_UInt8) {r : Bool} (hm : law16_held a0 a1 a2 = some r) : Ctr Try.prog 42 [.rep 0 a0, .rep 0 a1, .rep 0 a2] (.fl r) [] := by
 refine ctr_of_walk [[]] 45 Try.func42 rfl rfl rfl rfl (fun w0 om => ?_)
 unfold law16_held at hm
 refine CWalk.sub (G' := [.fact 0 (.rep [0] (a0 : Head)), .fact 1 (.rep [] (a1 : Arr2_Bool)), .fact 2 (.rep [] (a2 : Arr2_UInt8))]) (sn (Sub.cons (Has.fl (Has.s rfl)) (Sub.cons (Has.fl (Has.s rfl)) Sub.nil))) ?_
 refine CWalk.seq ?_
 refine CWalk.region ?_
 refine ws (Step.boxObj (ls := [(false, 1, Fact.rep [] a0.Stripe), (false, 1, Fact.rep [0] a0.Blocks), (false, 1, Fact.rep [0] a0.Dirty), (false, 1, Fact.rep [] a0.Phase), (false, 1, Fact.rep [] a0.Deals), (false, 1, Fact.rep [] a0.Seq)]) 10 rfl rfl rfl rfl (HasL.flds (Has.cv (Has.s rfl) (Cv.trans (Cv.opens (chHead a0)) (Cv.flds (CvL.cons Cv.fl (CvL.cons Cv.refl (CvL.cons Cv.refl (CvL.cons Cv.fl (CvL.cons Cv.fl (CvL.cons Cv.fl CvL.nil))))))))))) ?_
 refine ws (Step.boxObj (ls := [(false, 1, Fact.rep [] a1.e0), (false, 1, Fact.rep [] a1.e1)]) 17 rfl rfl rfl rfl (HasL.flds (Has.cv (Has.s rfl) (Cv.trans (Cv.opens (chArr2_Bool a1)) (Cv.flds (CvL.cons Cv.fl (CvL.cons Cv.fl CvL.nil))))))) ?_
 refine ws (Step.boxObj (ls := [(false, 1, Fact.rep [] a2.e0), (false, 1, Fact.rep [] a2.e1)]) 20 rfl rfl rfl rfl (HasL.flds (Has.cv (Has.s rfl) (Cv.trans (Cv.opens (chArr2_UInt8 a2)) (Cv.flds (CvL.cons Cv.fl (CvL.cons Cv.fl CvL.nil))))))) ?_
 refine wo (Spec.assign Has.bool) ?_
 refine Walk.nil ?_
 refine Leaf.thenN ?_
 refine CWalk.seq ?_
 refine CWalk.seq ?_
 refine CWalk.region ?_
 refine wo (Spec.assign Has.int) ?_
 refine Walk.nil ?_
 refine Leaf.thenN ?_
 refine CWalk.block ?_
 obtain ⟨b10, hb10, hm⟩ := bind_some hm
 refine CWalk.loop (fun s : Int => [.fact 3 (.isv 10), .fact 4 (.isv 17), .fact 5 (.isv 20), .fact 7 (.rep [] (s : Int)), .fact 100011 (.at 11 (.rep [] a0.Stripe)), .fact 100012 (.at 12 (.rep [0] a0.Blocks)), .fact 100013 (.at 13 (.rep [0] a0.Dirty)), .fact 100014 (.at 14 (.rep [] a0.Phase)), .fact 100015 (.at 15 (.rep [] a0.Deals)), .fact 100016 (.at 16 (.rep [] a0.Seq)), .fact 100018 (.at 18 (.rep [] a1.e0)), .fact 100019 (.at 19 (.rep [] a1.e1)), .fact 100021 (.at 21 (.rep [] a2.e0)), .fact 100022 (.at 22 (.rep [] a2.e1)), .fact 100010 (.obj 10 [(false, 1), (false, 1), (false, 1), (false, 1), (false, 1), (false, 1)]), .fact 100017 (.obj 17 [(false, 1), (false, 1)]), .fact 100020 (.obj 20 [(false, 1), (false, 1)])]) (fun b : (Unit) ⊕ (Unit) => Sum.elim (fun b => (Exit.exit 0, [])) (fun b => (Exit.ret, [.fact 6 (.rep [] (false : Bool))])) b) hb10 (sn (sn (sn (st (sf (sm (sm (sf (sf (sf (sf (sf (sf (sf (sn (sn (sn Sub.nil))))))))))))))))) ?_ ?_
 ·rintro s1 c2 hm
  replace hm : law16_held_L1 a0 a1 a2 s1 = some c2 := hm
  unfold law16_held_L1 at hm
  show CWalk _ [.fact 3 (.isv 10), .fact 4 (.isv 17), .fact 5 (.isv 20), .fact 7 (.rep [] (s1 : Int)), .fact 100011 (.at 11 (.rep [] a0.Stripe)), .fact 100012 (.at 12 (.rep [0] a0.Blocks)), .fact 100013 (.at 13 (.rep [0] a0.Dirty)), .fact 100014 (.at 14 (.rep [] a0.Phase)), .fact 100015 (.at 15 (.rep [] a0.Deals)), .fact 100016 (.at 16 (.rep [] a0.Seq)), .fact 100018 (.at 18 (.rep [] a1.e0)), .fact 100019 (.at 19 (.rep [] a1.e1)), .fact 100021 (.at 21 (.rep [] a2.e0)), .fact 100022 (.at 22 (.rep [] a2.e1)), .fact 100010 (.obj 10 [(false, 1), (false, 1), (false, 1), (false, 1), (false, 1), (false, 1)]), .fact 100017 (.obj 17 [(false, 1), (false, 1)]), .fact 100020 (.obj 20 [(false, 1), (false, 1)])] _ _
  refine CWalk.seq ?_
  refine CWalk.seq ?_
  refine CWalk.region ?_
  refine mv ?_
  refine wo (Spec.lssI (Has.s rfl) Has.int) ?_
  refine Walk.nil ?_
  refine Leaf.thenN ?_
  refine CWalk.cond rfl (fun hb => ?_) (fun hb => ?_)
  ·have hm := cond_t hb hm
   refine CWalk.skip ?_
   refine Leaf.thenN ?_
   refine CWalk.seq ?_
   refine CWalk.block ?_
   refine CWalk.seq ?_
   obtain ⟨x3, hx3, hm⟩ := bind_some hm
   obtain ⟨x4, hx4, hm⟩ := bind_some hm
   refine CWalk.drawM [[], [], [], [0, 1, 2], [0, 1, 2, 3], [0, 1, 2, 3, 4], [0, 1, 2, 3, 4], [0, 1, 2, 3, 4], [0, 1, 2, 3, 4, 5], [0, 1, 2, 3, 4, 5, 6, 8], [0, 1, 2, 3, 4, 5, 6, 7, 8, 9]] [[.fact 16 (.rep [] (x3 : Config))], [.fact 17 (.flds [(false, 1, Fact.rep [] a0.Stripe), (false, 1, Fact.rep [0] a0.Blocks), (false, 1, Fact.rep [0] a0.Dirty), (false, 1, Fact.rep [] a0.Phase), (false, 1, Fact.rep [] a0.Deals), (false, 1, Fact.rep [] a0.Seq)])], [.fact 18 (.rep [] (s1 : Int))], [.fact 19 (.tup3 (Fact.ow [24] [] 5 (x4.1 : List UInt8)) (Fact.rep [] x4.2.1) (Fact.rep [] x4.2.2))], [.fact 15 (.tup3 (Fact.ow [24] [] 5 (x4.1 : List UInt8)) (Fact.rep [] x4.2.1) (Fact.rep [] x4.2.2))], [.fact 20 (.ow [24] [] 5 (x4.1 : List UInt8))], [.fact 21 (.rep [] x4.2.1)], [.fact 22 (.rep [] x4.2.2)], [.fact 8 (.ow [24] [] 5 (x4.1 : List UInt8))], [.fact 9 (.rep [] x4.2.1)], [.fact 10 (.rep [] x4.2.2)]] mixed (by kernel_rfl) (ao (so (Spec.callE [] 23 rfl en40 (law16_small_c  hx3) HasAll.nil)) (ao (so (Spec.loadObj (ls := [(false, 1, Fact.rep [] a0.Stripe), (false, 1, Fact.rep [0] a0.Blocks), (false, 1, Fact.rep [0] a0.Dirty), (false, 1, Fact.rep [] a0.Phase), (false, 1, Fact.rep [] a0.Deals), (false, 1, Fact.rep [] a0.Seq)]) ty28 rfl rfl (Has.s rfl) rfl (HasGs.cons (HasG.s rfl) (HasGs.cons (HasG.s rfl) (HasGs.cons (HasG.s rfl) (HasGs.cons (HasG.s rfl) (HasGs.cons (HasG.s rfl) (HasGs.cons (HasG.s rfl) HasGs.nil)))))))) (ao (so (Spec.move (Has.s rfl))) (ao (so (Spec.callE [0] 24 rfl en11 (head_Tell_c x3 a0 s1 hx4) (HasAll.cons (Has.fl (Has.s rfl)) (HasAll.cons (Has.m (Has.cv (Has.s rfl) (Cv.trans (Cv.flds (CvL.cons Cv.fl (CvL.cons (Cv.m rfl) (CvL.cons (Cv.m rfl) (CvL.cons Cv.fl (CvL.cons Cv.fl (CvL.cons Cv.fl CvL.nil))))))) (Cv.close (T := [0]) (chHead a0)))) rfl) (HasAll.cons (Has.fl (Has.s rfl)) HasAll.nil))))) (ao (so (Spec.move (Has.s rfl))) (ao (so (Spec.ext0_3 (Has.s rfl))) (ao (so (Spec.ext1_3 (Has.s rfl))) (ao (so (Spec.ext2_3 (Has.s rfl))) (ao (so (Spec.assign (Has.s rfl))) (ao (so (Spec.assign (Has.s rfl))) (ao (so (Spec.assign (Has.s rfl))) AllM.nil))))))))))) ?_
   refine Leaf.thenN ?_
   refine CWalk.seq ?_
   obtain ⟨x5, hx5, hm⟩ := bind_some hm
   obtain ⟨x6, hx6, hm⟩ := bind_some hm
   obtain ⟨x7, hx7, hm⟩ := bind_some hm
   obtain ⟨x8, hx8, hm⟩ := bind_some hm
   obtain ⟨x9, hx9, hm⟩ := bind_some hm
   refine CWalk.drawM [[], [0], [0, 1], [0, 1, 2], [0, 1, 2], [0, 1, 2, 4], [0, 1, 2, 4, 5], [0, 1, 2, 3, 4, 5, 6], [0, 1, 2, 3, 4, 5, 6, 7], [0, 1, 2, 3, 4, 5, 6, 7, 8], [0, 1, 2, 3, 4, 5, 6, 7, 8, 9], [0, 1, 2, 3, 4, 5, 6, 7, 8, 9, 10], [0, 1, 2, 3, 4, 5, 6, 7, 8, 9, 10, 11], [0, 1, 2, 3, 4, 5, 6, 7, 8, 9, 10, 11, 12], [0, 1, 2, 3, 4, 5, 6, 7, 8, 9, 10, 11], [0, 1, 2, 3, 4, 5, 6, 7, 8, 9, 10, 11, 14], [0, 1, 2, 3, 4, 5, 6, 7, 8, 9, 10, 11, 14, 15], [0, 1, 2, 3, 4, 5, 6, 7, 8, 9, 10, 11, 14, 15, 16], [0, 1, 2, 3, 4, 5, 6, 7, 8, 9, 10, 11, 14, 15, 16, 17], [0, 1, 2, 3, 4, 5, 6, 7, 8, 9, 10, 11, 12, 13, 14, 15, 16, 17, 18], [0, 1, 2, 3, 4, 5, 6, 7, 8, 9, 10, 11, 12, 13, 14, 15, 16, 17, 18, 19], [0, 1, 2, 3, 4, 5, 6, 7, 8, 9, 10, 11, 12, 13, 14, 15, 16, 17, 18, 19, 20]] [[.fact 23 (.rep [] x4.2.2)], [.fact 24 (.rep [] ((x4.2.2 != (0 : Int)) : Bool))], [.fact 25 (.rep [] ((x4.2.2 != (0 : Int)) : Bool))], [.fact 26 (.under ((x4.2.2 != (0 : Int)) = false) (.rep [] x4.2.1))], [.fact 27 (.under ((x4.2.2 != (0 : Int)) = false) (.rep [] (s1 : Int)))], [.fact 28 (.under ((x4.2.2 != (0 : Int)) = false) (.pto 17 x5))], [.fact 29 (.under ((x4.2.2 != (0 : Int)) = false) (.rep [] (x6 : Bool)))], [.fact 30 (.under ((x4.2.2 != (0 : Int)) = false) (.rep [] ((x4.2.1 != x6) : Bool)))], [.fact 31 (.rep [] (((x4.2.2 != (0 : Int)) || (x4.2.1 != x6)) : Bool))], [.fact 32 (.rep [] (((x4.2.2 != (0 : Int)) || (x4.2.1 != x6)) : Bool))], [.fact 33 (.under (((x4.2.2 != (0 : Int)) || (x4.2.1 != x6)) = false) (.rep [] x4.2.1))], [.fact 34 (.under (((x4.2.2 != (0 : Int)) || (x4.2.1 != x6)) = false) (.rep [] x4.2.1))], [.fact 35 (.under ((((x4.2.2 != (0 : Int)) || (x4.2.1 != x6)) = false) ∧ (x4.2.1 = true)) (.ow [24] [] 5 (x4.1 : List UInt8)))], [.fact 36 (.under ((((x4.2.2 != (0 : Int)) || (x4.2.1 != x6)) = false) ∧ (x4.2.1 = true)) (.rep [] ((Str.mk x4.1) : Str)))], [.fact 37 (.under ((((x4.2.2 != (0 : Int)) || (x4.2.1 != x6)) = false) ∧ (x4.2.1 = true)) (.rep [] (s1 : Int)))], [.fact 38 (.under ((((x4.2.2 != (0 : Int)) || (x4.2.1 != x6)) = false) ∧ (x4.2.1 = true)) (.pto 20 x7))], [.fact 39 (.under ((((x4.2.2 != (0 : Int)) || (x4.2.1 != x6)) = false) ∧ (x4.2.1 = true)) (.rep [] (x8 : UInt8)))], [.fact 40 (.under ((((x4.2.2 != (0 : Int)) || (x4.2.1 != x6)) = false) ∧ (x4.2.1 = true)) (.ow [25] [] 5 (x9 : List UInt8)))], [.fact 41 (.under ((((x4.2.2 != (0 : Int)) || (x4.2.1 != x6)) = false) ∧ (x4.2.1 = true)) (.rep [] ((Str.mk x9) : Str)))], [.fact 42 (.under ((((x4.2.2 != (0 : Int)) || (x4.2.1 != x6)) = false) ∧ (x4.2.1 = true)) (.rep [] ((!((Str.mk x4.1).s == (Str.mk x9).s)) : Bool)))], [.fact 43 (.under (((x4.2.2 != (0 : Int)) || (x4.2.1 != x6)) = false) (.rep [] ((x4.2.1 && (!((Str.mk x4.1).s == (Str.mk x9).s))) : Bool)))], [.fact 44 (.rep [] ((((x4.2.2 != (0 : Int)) || (x4.2.1 != x6)) || (x4.2.1 && (!((Str.mk x4.1).s == (Str.mk x9).s)))) : Bool))]] mixed (by kernel_rfl) (ao (so (Spec.move (Has.s rfl))) (ao (so (Spec.neqI (Has.s rfl) Has.int)) (ao (so (Spec.move (Has.s rfl))) (ao (StepG.opg rfl rfl rfl (fun hb => Spec.move (Has.s rfl))) (ao (StepG.opg rfl rfl rfl (fun hb => Spec.move (Has.s rfl))) (ao (StepG.opg rfl rfl rfl (fun hb => Spec.idxVar (gO_t hx5 (not_t hb)) sm69 (Has.cv (Has.s rfl) (Cv.isvP rfl)) (Has.u rfl hb))) (ao (StepG.opg rfl rfl rfl (fun hb => Spec.loadV (T := []) (l := ([a1.e0, a1.e1] : List Bool)) (gO_t hx6 (not_t hb)) ty4 rfl rfl (Has.u rfl hb) rfl (HasVs.cons (HasG.s rfl) (HasVs.cons (HasG.s rfl) HasVs.nil)))) (ao (StepG.opg rfl rfl rfl (fun hb => Spec.neqT (Has.u rfl hb) (Has.u rfl hb) Try.underlying4)) (ao (so (Spec.or (Has.s rfl) (fun h => Has.u rfl h))) (ao (so (Spec.move (Has.s rfl))) (ao (StepG.opg rfl rfl rfl (fun hb => Spec.move (Has.s rfl))) (ao (StepG.opg rfl rfl rfl (fun hb => Spec.move (Has.u rfl hb))) (ao (StepG.opgu rfl rfl rfl (fun hb => Spec.move (Has.s rfl))) (ao (StepG.opgu rfl rfl rfl (fun hb => Spec.toStr Try.underlying31 Try.underlying5 Try.underlying9 (Has.cv (Has.u rfl hb) (Cv.trans Cv.owSl (Cv.slRep (T' := [24]) rfl rfl))))) (ao (StepG.opgu rfl rfl rfl (fun hb => Spec.move (Has.s rfl))) (ao (StepG.opgu rfl rfl rfl (fun hb => Spec.idxVar (gO_t hx7 (and_t (not_t hb.1) hb.2)) sm70 (Has.cv (Has.s rfl) (Cv.isvP rfl)) (Has.u rfl hb))) (ao (StepG.opgu rfl rfl rfl (fun hb => Spec.loadV (T := []) (l := ([a2.e0, a2.e1] : List UInt8)) (gO_t hx8 (and_t (not_t hb.1) hb.2)) ty5 rfl rfl (Has.u rfl hb) rfl (HasVs.cons (HasG.s rfl) (HasVs.cons (HasG.s rfl) HasVs.nil)))) (ao (StepG.opgu rfl rfl rfl (fun hb => Spec.callE [] 25 rfl en43 (law16_full_c x8 (gO_t hx9 (and_t (not_t hb.1) hb.2))) (HasAll.cons (Has.fl (Has.u rfl hb)) HasAll.nil))) (ao (StepG.opgu rfl rfl rfl (fun hb => Spec.toStr Try.underlying31 Try.underlying5 Try.underlying9 (Has.cv (Has.u rfl hb) (Cv.trans Cv.owSl (Cv.slRep (T' := [25]) rfl rfl))))) (ao (StepG.opgu rfl rfl rfl (fun hb => Spec.neqS (Has.u rfl hb) (Has.u rfl hb))) (ao (StepG.opg rfl rfl rfl (fun hb => Spec.and (Has.u rfl hb) (fun h => Has.u rfl ⟨hb, h⟩))) (ao (so (Spec.or (Has.s rfl) (fun h => Has.u rfl h))) AllM.nil)))))))))))))))))))))) ?_
   refine Leaf.thenN ?_
   refine CWalk.cond rfl (fun hb => ?_) (fun hb => ?_)
   ·have hm := cond_t hb hm
    refine CWalk.seq ?_
    refine CWalk.region ?_
    refine wo (Spec.assign Has.bool) ?_
    refine Walk.nil ?_
    refine Leaf.thenN ?_
    refine CWalk.ret ?_
    refine Leaf.blockR ?_
    refine Leaf.thenR ?_
    exact Leaf.brk hm (fun h => nomatch h) rfl (st Sub.nil)
   ·have hm := cond_f hb hm
    refine CWalk.skip ?_
    refine Leaf.blockN ?_
    refine Leaf.thenN ?_
    refine CWalk.region ?_
    refine mv ?_
    refine wo (Spec.addI (Has.s rfl) Has.int) ?_
    refine wo (Spec.assign (Has.s rfl)) ?_
    refine Walk.nil ?_
    exact Leaf.next hm (sn (sn (sn (st (sf (sm (sm (sf (sf (sf (sf (sf (sf (sf (sn (sn (sn Sub.nil)))))))))))))))))
  ·have hm := cond_f hb hm
   refine CWalk.exit ?_
   refine Leaf.thenE ?_
   exact Leaf.brk hm (fun h => nomatch h) rfl (Sub.nil)
 ·intro _
  rcases b10 with b11 | b12
  ·have hm := selim_l hm
   refine Leaf.blockE ?_
   refine Leaf.thenN ?_
   refine CWalk.seq ?_
   refine CWalk.region ?_
   refine wo (Spec.assign Has.bool) ?_
   refine Walk.nil ?_
   refine Leaf.thenN ?_
   refine CWalk.ret ?_
   obtain rfl := Option.some.inj hm
   exact Leaf.retC1 rfl (HasR.cv (HasR.tmp (Has.s rfl)) Cv.fl)
  ·have hm := selim_r hm
   refine Leaf.blockR ?_
   refine Leaf.thenR ?_
   obtain rfl := Option.some.inj hm
   exact Leaf.retC1 rfl (HasR.cv (HasR.tmp (Has.s rfl)) Cv.fl)

def law16_HeadKeeps_J2 (s5 : Int) (j19 : Int) (j20 : Int) (j21 : List (List UInt8)) (j22 : List Bool) (j23 : UInt8) (j24 : Bool) (j25 : UInt32) (j26 : Bool) (j27 : Bool) (j28 : Bool) (j29 : Bool) (j30 : UInt8) (j31 : UInt8) : Option (Ctl (Int × Int × Int × (List (List UInt8)) × (List Bool) × UInt8 × Bool × UInt32 × Bool × Bool × Bool × Bool × UInt8 × UInt8) ((Unit) ⊕ (Unit))) :=
  some (Ctl.next (j19, (wI (s5 + (1 : Int))), j20, j21, j22, j23, j24, j25, j26, j27, j28, j29, j30, j31))
def law16_HeadKeeps_J3 (s5 : Int) (x37 : Head × Int) (j38 : Int) (j39 : Bool) (j40 : Bool) (j41 : Bool) (j42 : Bool) (j43 : UInt8) (j44 : UInt8) : Option (Ctl (Int × Int × Int × (List (List UInt8)) × (List Bool) × UInt8 × Bool × UInt32 × Bool × Bool × Bool × Bool × UInt8 × UInt8) ((Unit) ⊕ (Unit))) :=
  Option.bind (law16_small) (fun x45 => Option.bind (head_Check x45 x37.1) (fun x46 => Option.bind (gO (!((x46 != (0 : Int)) || ((wI (x37.1.Phase.toNat : Int)) != j38))) (idx x37.1.Dirty (0 : Int))) (fun x47 => Option.bind (gO (!(((x46 != (0 : Int)) || ((wI (x37.1.Phase.toNat : Int)) != j38)) || (x47 != j41))) (idx x37.1.Dirty (1 : Int))) (fun x48 => Option.bind (gO (!((((x46 != (0 : Int)) || ((wI (x37.1.Phase.toNat : Int)) != j38)) || (x47 != j41)) || (x48 != j42))) (law16_held x37.1 (Arr2_Bool.mk j39 j40) (Arr2_UInt8.mk j43 j44))) (fun x49 => (bif (((((x46 != (0 : Int)) || ((wI (x37.1.Phase.toNat : Int)) != j38)) || (x47 != j41)) || (x48 != j42)) || (!x49)) then some (Ctl.brk (Sum.inr ())) else (law16_HeadKeeps_J2 s5 j38 x37.1.Stripe x37.1.Blocks x37.1.Dirty x37.1.Phase x37.1.Deals x37.1.Seq j39 j40 j41 j42 j43 j44)))))))
def law16_HeadKeeps_L1 (a0 : List Op72) (s4 : Int) (s5 : Int) (s6 : Int) (s7 : List (List UInt8)) (s8 : List Bool) (s9 : UInt8) (s10 : Bool) (s11 : UInt32) (s12 : Bool) (s13 : Bool) (s14 : Bool) (s15 : Bool) (s16 : UInt8) (s17 : UInt8) : Option (Ctl (Int × Int × Int × (List (List UInt8)) × (List Bool) × UInt8 × Bool × UInt32 × Bool × Bool × Bool × Bool × UInt8 × UInt8) ((Unit) ⊕ (Unit))) :=
  (bif (decide (s5 < ((a0).length : Int))) then Option.bind (idx a0 s5) (fun x32 => Option.bind (remB x32.Kind (7 : UInt8)) (fun x33 => Option.bind (idx a0 s5) (fun x34 => Option.bind (remI (wI (x34.Slot.toNat : Int)) (2 : Int)) (fun x35 => Option.bind (idx a0 s5) (fun x36 => Option.bind (law16_step (Head.mk s6 s7 s8 s9 s10 s11) x36) (fun x37 => (bif ((x37.2 == (0 : Int)) != (((((((((wI (x33.toNat : Int)) == (0 : Int)) && (decide (s4 < (2 : Int)))) || ((wI (x33.toNat : Int)) == (1 : Int))) || ((((wI (x33.toNat : Int)) == (2 : Int)) && (s4 == (0 : Int))) && (s14 || s15))) || (((wI (x33.toNat : Int)) == (3 : Int)) && (s4 == (1 : Int)))) || (((wI (x33.toNat : Int)) == (4 : Int)) && (s4 == (2 : Int)))) || (((wI (x33.toNat : Int)) == (5 : Int)) && ((s4 == (1 : Int)) || (s4 == (3 : Int))))) || (((wI (x33.toNat : Int)) == (6 : Int)) && (s4 == (4 : Int))))) then some (Ctl.brk (Sum.inr ())) else (bif (x37.2 != (0 : Int)) then (law16_HeadKeeps_J2 s5 s4 s6 s7 s8 s9 s10 s11 s12 s13 s14 s15 s16 s17) else (bif ((wI (x33.toNat : Int)) == (0 : Int)) then Option.bind (idx a0 s5) (fun x50 => Option.bind (bnd 2 x35) (fun x51 => Option.bind (bnd 2 x35) (fun x52 => Option.bind (bnd 2 x35) (fun x53 => (law16_HeadKeeps_J3 s5 x37 (0 : Int) (bif Nat.beq x51 0 then true else s12) (bif Nat.beq x51 1 then true else s13) (bif Nat.beq x52 0 then true else s14) (bif Nat.beq x52 1 then true else s15) (bif Nat.beq x53 0 then x50.Byte else s16) (bif Nat.beq x53 1 then x50.Byte else s17)))))) else Option.bind (gO (((wI (x33.toNat : Int)) == (1 : Int))) (bnd 2 x35)) (fun x54 => Option.bind (gO (((wI (x33.toNat : Int)) == (1 : Int))) ((([s12, s13] : List Bool))[x54]?)) (fun x55 => (bif (((wI (x33.toNat : Int)) == (1 : Int)) && (!x55)) then Option.bind (idx a0 s5) (fun x56 => Option.bind (bnd 2 x35) (fun x57 => Option.bind (bnd 2 x35) (fun x58 => (law16_HeadKeeps_J3 s5 x37 s4 (bif Nat.beq x57 0 then true else s12) (bif Nat.beq x57 1 then true else s13) s14 s15 (bif Nat.beq x58 0 then x56.Byte else s16) (bif Nat.beq x58 1 then x56.Byte else s17))))) else (bif ((wI (x33.toNat : Int)) == (6 : Int)) then (law16_HeadKeeps_J3 s5 x37 (0 : Int) s12 s13 false false s16 s17) else (bif (decide ((wI (x33.toNat : Int)) > (1 : Int))) then (law16_HeadKeeps_J3 s5 x37 (wI ((wI (x33.toNat : Int)) - (1 : Int))) s12 s13 s14 s15 s16 s17) else (law16_HeadKeeps_J3 s5 x37 s4 s12 s13 s14 s15 s16 s17))))))))))))))) else some (Ctl.brk (Sum.inl ())))
/-- freeboard/freeboardlaw16.HeadKeeps -/
def law16_HeadKeeps (a0 : List Op72) : Option (Bool) :=
  Option.bind (law16_alive) (fun x1 => Option.bind (law16_small) (fun x2 => Option.bind (head_New x2 (0 : Int)) (fun x3 => (bif (((decide (((a0).length : Int) > (100 : Int))) || (x3.2 != (0 : Int))) || (!x1)) then some (x1 && (x3.2 == (0 : Int))) else Option.bind (loopM (fun s : Int × Int × Int × (List (List UInt8)) × (List Bool) × UInt8 × Bool × UInt32 × Bool × Bool × Bool × Bool × UInt8 × UInt8 => law16_HeadKeeps_L1 a0 s.1 s.2.1 s.2.2.1 s.2.2.2.1 s.2.2.2.2.1 s.2.2.2.2.2.1 s.2.2.2.2.2.2.1 s.2.2.2.2.2.2.2.1 s.2.2.2.2.2.2.2.2.1 s.2.2.2.2.2.2.2.2.2.1 s.2.2.2.2.2.2.2.2.2.2.1 s.2.2.2.2.2.2.2.2.2.2.2.1 s.2.2.2.2.2.2.2.2.2.2.2.2.1 s.2.2.2.2.2.2.2.2.2.2.2.2.2) FUEL ((0 : Int), (0 : Int), x3.1.Stripe, x3.1.Blocks, x3.1.Dirty, x3.1.Phase, x3.1.Deals, x3.1.Seq, false, false, false, false, (0 : UInt8), (0 : UInt8))) (fun b59 => Sum.elim (fun b60 => some true) (fun b61 => some false) b59)))))
set_option maxRecDepth 100000 in
set_option maxHeartbeats 2000000 in
theorem law16_HeadKeeps_c (a0 : List Op72) {r : Bool} (hm : law16_HeadKeeps a0 = some r) : Ctr Try.prog 7 [.rep 0 a0] (.fl r) [] := by
 refine ctr_of_walk [[]] 213 Try.func7 rfl rfl rfl rfl (fun w0 om => ?_)
 unfold law16_HeadKeeps at hm
 refine CWalk.sub (G' := [.fact 0 (.rep [0] (a0 : List Op72))]) (sn Sub.nil) ?_
 refine CWalk.seq ?_
 refine CWalk.region ?_
 refine wo (Spec.assign Has.bool) ?_
 refine Walk.nil ?_
 refine Leaf.thenN ?_
 refine CWalk.seq ?_
 refine CWalk.region ?_
 obtain ⟨x1, hx1, hm⟩ := bind_some hm
 refine wo (f := Fact.rep [] (x1 : Bool)) (Spec.callE [] 10 rfl en38 (law16_alive_c  hx1) HasAll.nil) ?_
 refine wo (Spec.assign (Has.s rfl)) ?_
 refine Walk.nil ?_
 refine Leaf.thenN ?_
 refine CWalk.seq ?_
 refine CWalk.region ?_
 obtain ⟨x2, hx2, hm⟩ := bind_some hm
 refine wo (f := Fact.rep [] (x2 : Config)) (Spec.callE [] 11 rfl en40 (law16_small_c  hx2) HasAll.nil) ?_
 obtain ⟨x3, hx3, hm⟩ := bind_some hm
 refine wo (f := Fact.tup2 (Fact.flds [(false, 1, Fact.rep [] x3.1.Stripe), (false, 1, Fact.ow [12] [] 31 (x3.1.Blocks : List (List UInt8))), (false, 1, Fact.ow [13] [] 4 (x3.1.Dirty : List Bool)), (false, 1, Fact.rep [] x3.1.Phase), (false, 1, Fact.rep [] x3.1.Deals), (false, 1, Fact.rep [] x3.1.Seq)]) (Fact.rep [] x3.2)) (Spec.callE [] 12 rfl en21 (head_New_c x2 (0 : Int) hx3) (HasAll.cons (Has.fl (Has.s rfl)) (HasAll.cons (Has.fl Has.int) HasAll.nil))) ?_
 refine mv ?_
 refine wo (Spec.ext0 (Has.s rfl)) ?_
 refine wo (Spec.ext1 (Has.s rfl)) ?_
 refine ws (Step.allocObj (ls := [(false, 1, Fact.rep [] ((0 : Int) : Int)), (false, 1, Fact.nilv), (false, 1, Fact.nilv), (false, 1, Fact.rep [] ((0 : UInt8) : UInt8)), (false, 1, Fact.rep [] (false : Bool)), (false, 1, Fact.rep [] ((0 : UInt32) : UInt32))]) 14 rfl rfl rfl rfl zl28) ?_
 refine ws (Step.storeObj (ls := [(false, 1, Fact.rep [] x3.1.Stripe), (false, 1, Fact.ow [12] [] 31 (x3.1.Blocks : List (List UInt8))), (false, 1, Fact.ow [13] [] 4 (x3.1.Dirty : List Bool)), (false, 1, Fact.rep [] x3.1.Phase), (false, 1, Fact.rep [] x3.1.Deals), (false, 1, Fact.rep [] x3.1.Seq)]) rfl ty28 rfl rfl (Has.s rfl) rfl (HasL.flds (Has.s rfl)) rfl) ?_
 refine wo (Spec.assign (Has.s rfl)) ?_
 refine Walk.nil ?_
 refine Leaf.thenN ?_
 refine CWalk.seq ?_
 refine CWalk.seq ?_
 refine CWalk.region ?_
 refine mv ?_
 refine wo (Spec.len (Has.s rfl) Try.underlying67) ?_
 refine wo (Spec.gtrI (Has.s rfl) Has.int) ?_
 refine mv ?_
 refine wg rfl rfl (fun hb => Spec.move (Has.s rfl)) ?_
 refine wg rfl rfl (fun hb => Spec.neqI (Has.u rfl hb) Has.int) ?_
 refine wo (Spec.or (Has.s rfl) (fun h => Has.u rfl h)) ?_
 refine mv ?_
 refine wg rfl rfl (fun hb => Spec.move (Has.s rfl)) ?_
 refine wg rfl rfl (fun hb => Spec.not (Has.u rfl hb)) ?_
 refine wo (Spec.or (Has.s rfl) (fun h => Has.u rfl h)) ?_
 refine Walk.nil ?_
 refine Leaf.thenN ?_
 refine CWalk.cond rfl (fun hb => ?_) (fun hb => ?_)
 ·have hm := cond_t hb hm
  refine CWalk.seq ?_
  refine CWalk.region ?_
  refine mv ?_
  refine mv ?_
  refine wg rfl rfl (fun hb => Spec.move (Has.s rfl)) ?_
  refine wg rfl rfl (fun hb => Spec.eqlI (Has.u rfl hb) Has.int) ?_
  refine wo (Spec.and (Has.s rfl) (fun h => Has.u rfl h)) ?_
  refine wo (Spec.assign (Has.s rfl)) ?_
  refine Walk.nil ?_
  refine Leaf.thenN ?_
  refine CWalk.ret ?_
  refine Leaf.thenR ?_
  obtain rfl := Option.some.inj hm
  exact Leaf.retC1 rfl (HasR.cv (HasR.tmp (Has.s rfl)) Cv.fl)
 ·have hm := cond_f hb hm
  refine CWalk.skip ?_
  refine Leaf.thenN ?_
  refine CWalk.seq ?_
  refine CWalk.region ?_
  refine ws (Step.allocObj (ls := [(false, 1, Fact.rep [] (false : Bool)), (false, 1, Fact.rep [] (false : Bool))]) 21 rfl rfl rfl rfl zl69) ?_
  refine ws (Step.allocObj (ls := [(false, 1, Fact.rep [] (false : Bool)), (false, 1, Fact.rep [] (false : Bool))]) 24 rfl rfl rfl rfl zl69) ?_
  refine Walk.nil ?_
  refine Leaf.thenN ?_
  refine CWalk.seq ?_
  refine CWalk.region ?_
  refine ws (Step.allocObj (ls := [(false, 1, Fact.rep [] ((0 : UInt8) : UInt8)), (false, 1, Fact.rep [] ((0 : UInt8) : UInt8))]) 27 rfl rfl rfl rfl zl70) ?_
  refine Walk.nil ?_
  refine Leaf.thenN ?_
  refine CWalk.seq ?_
  refine CWalk.region ?_
  refine wo (Spec.assign Has.int) ?_
  refine Walk.nil ?_
  refine Leaf.thenN ?_
  refine CWalk.seq ?_
  refine CWalk.seq ?_
  refine CWalk.region ?_
  refine wo (Spec.assign Has.int) ?_
  refine Walk.nil ?_
  refine Leaf.thenN ?_
  refine CWalk.block ?_
  obtain ⟨b59, hb59, hm⟩ := bind_some hm
  refine CWalk.loop (fun s : Int × Int × Int × (List (List UInt8)) × (List Bool) × UInt8 × Bool × UInt32 × Bool × Bool × Bool × Bool × UInt8 × UInt8 => [.fact 0 (.rep [0] (a0 : List Op72)), .fact 4 (.isv 14), .fact 6 (.isv 21), .fact 7 (.isv 24), .fact 8 (.isv 27), .fact 9 (.rep [] s.1), .fact 10 (.rep [] s.2.1), .fact 100015 (.at 15 (.rep [] s.2.2.1)), .fact 100016 (.at 16 (.ow [12, 30] [31] 31 (s.2.2.2.1 : List (List UInt8)))), .fact 100017 (.at 17 (.ow [13, 32] [] 4 (s.2.2.2.2.1 : List Bool))), .fact 100018 (.at 18 (.rep [] s.2.2.2.2.2.1)), .fact 100019 (.at 19 (.rep [] s.2.2.2.2.2.2.1)), .fact 100020 (.at 20 (.rep [] s.2.2.2.2.2.2.2.1)), .fact 100022 (.at 22 (.rep [] s.2.2.2.2.2.2.2.2.1)), .fact 100023 (.at 23 (.rep [] s.2.2.2.2.2.2.2.2.2.1)), .fact 100025 (.at 25 (.rep [] s.2.2.2.2.2.2.2.2.2.2.1)), .fact 100026 (.at 26 (.rep [] s.2.2.2.2.2.2.2.2.2.2.2.1)), .fact 100028 (.at 28 (.rep [] s.2.2.2.2.2.2.2.2.2.2.2.2.1)), .fact 100029 (.at 29 (.rep [] s.2.2.2.2.2.2.2.2.2.2.2.2.2)), .fact 100014 (.obj 14 [(false, 1), (false, 1), (false, 1), (false, 1), (false, 1), (false, 1)]), .fact 100021 (.obj 21 [(false, 1), (false, 1)]), .fact 100024 (.obj 24 [(false, 1), (false, 1)]), .fact 100027 (.obj 27 [(false, 1), (false, 1)])]) (fun b : (Unit) ⊕ (Unit) => Sum.elim (fun b => (Exit.exit 0, [])) (fun b => (Exit.ret, [.fact 2 (.rep [] (false : Bool))])) b) hb59 (su (sn (sn (sn (sn (st (st (sf (Sub.cons (Has.at (HasG.cv (HasG.s rfl) (Cv.owM (T := [12]) (te := []) rfl rfl))) (Sub.cons (Has.at (HasG.cv (HasG.s rfl) (Cv.owF (T := [13]) (te := []) rfl))) (sf (sf (sf (sf (sf (sf (sf (sf (sf (sn (sn (sn (sn Sub.nil))))))))))))))))))))))) ?_ ?_
  ·rintro ⟨s4, s5, s6, s7, s8, s9, s10, s11, s12, s13, s14, s15, s16, s17⟩ c18 hm
   replace hm : law16_HeadKeeps_L1 a0 s4 s5 s6 s7 s8 s9 s10 s11 s12 s13 s14 s15 s16 s17 = some c18 := hm
   unfold law16_HeadKeeps_L1 at hm
   show CWalk _ [.fact 0 (.rep [0] (a0 : List Op72)), .fact 4 (.isv 14), .fact 6 (.isv 21), .fact 7 (.isv 24), .fact 8 (.isv 27), .fact 9 (.rep [] (s4 : Int)), .fact 10 (.rep [] (s5 : Int)), .fact 100015 (.at 15 (.rep [] (s6 : Int))), .fact 100016 (.at 16 (.ow [12, 30] [31] 31 (s7 : List (List UInt8)))), .fact 100017 (.at 17 (.ow [13, 32] [] 4 (s8 : List Bool))), .fact 100018 (.at 18 (.rep [] (s9 : UInt8))), .fact 100019 (.at 19 (.rep [] (s10 : Bool))), .fact 100020 (.at 20 (.rep [] (s11 : UInt32))), .fact 100022 (.at 22 (.rep [] (s12 : Bool))), .fact 100023 (.at 23 (.rep [] (s13 : Bool))), .fact 100025 (.at 25 (.rep [] (s14 : Bool))), .fact 100026 (.at 26 (.rep [] (s15 : Bool))), .fact 100028 (.at 28 (.rep [] (s16 : UInt8))), .fact 100029 (.at 29 (.rep [] (s17 : UInt8))), .fact 100014 (.obj 14 [(false, 1), (false, 1), (false, 1), (false, 1), (false, 1), (false, 1)]), .fact 100021 (.obj 21 [(false, 1), (false, 1)]), .fact 100024 (.obj 24 [(false, 1), (false, 1)]), .fact 100027 (.obj 27 [(false, 1), (false, 1)])] _ _
   refine CWalk.seq ?_
   refine CWalk.seq ?_
   refine CWalk.region ?_
   refine mv ?_
   refine mv ?_
   refine wo (Spec.len (Has.s rfl) Try.underlying67) ?_
   refine wo (Spec.lssI (Has.s rfl) (Has.s rfl)) ?_
   refine Walk.nil ?_
   refine Leaf.thenN ?_
   refine CWalk.cond rfl (fun hb => ?_) (fun hb => ?_)
   ·have hm := cond_t hb hm
    refine CWalk.skip ?_
    refine Leaf.thenN ?_
    refine CWalk.seqJ (fun p : Int × Int × (List (List UInt8)) × (List Bool) × UInt8 × Bool × UInt32 × Bool × Bool × Bool × Bool × UInt8 × UInt8 => [.fact 0 (.rep [0] (a0 : List Op72)), .fact 4 (.isv 14), .fact 6 (.isv 21), .fact 7 (.isv 24), .fact 8 (.isv 27), .fact 9 (.rep [] p.1), .fact 10 (.rep [] (s5 : Int)), .fact 100015 (.at 15 (.rep [] p.2.1)), .fact 100016 (.at 16 (.ow [12, 30] [31] 31 (p.2.2.1 : List (List UInt8)))), .fact 100017 (.at 17 (.ow [13, 32] [] 4 (p.2.2.2.1 : List Bool))), .fact 100018 (.at 18 (.rep [] p.2.2.2.2.1)), .fact 100019 (.at 19 (.rep [] p.2.2.2.2.2.1)), .fact 100020 (.at 20 (.rep [] p.2.2.2.2.2.2.1)), .fact 100022 (.at 22 (.rep [] p.2.2.2.2.2.2.2.1)), .fact 100023 (.at 23 (.rep [] p.2.2.2.2.2.2.2.2.1)), .fact 100025 (.at 25 (.rep [] p.2.2.2.2.2.2.2.2.2.1)), .fact 100026 (.at 26 (.rep [] p.2.2.2.2.2.2.2.2.2.2.1)), .fact 100028 (.at 28 (.rep [] p.2.2.2.2.2.2.2.2.2.2.2.1)), .fact 100029 (.at 29 (.rep [] p.2.2.2.2.2.2.2.2.2.2.2.2)), .fact 100014 (.obj 14 [(false, 1), (false, 1), (false, 1), (false, 1), (false, 1), (false, 1)]), .fact 100021 (.obj 21 [(false, 1), (false, 1)]), .fact 100024 (.obj 24 [(false, 1), (false, 1)]), .fact 100027 (.obj 27 [(false, 1), (false, 1)])]) (fun p : Int × Int × (List (List UInt8)) × (List Bool) × UInt8 × Bool × UInt32 × Bool × Bool × Bool × Bool × UInt8 × UInt8 => law16_HeadKeeps_J2 s5 p.1 p.2.1 p.2.2.1 p.2.2.2.1 p.2.2.2.2.1 p.2.2.2.2.2.1 p.2.2.2.2.2.2.1 p.2.2.2.2.2.2.2.1 p.2.2.2.2.2.2.2.2.1 p.2.2.2.2.2.2.2.2.2.1 p.2.2.2.2.2.2.2.2.2.2.1 p.2.2.2.2.2.2.2.2.2.2.2.1 p.2.2.2.2.2.2.2.2.2.2.2.2 = some c18) ?_ ?_
    ·rintro ⟨j19, j20, j21, j22, j23, j24, j25, j26, j27, j28, j29, j30, j31⟩ hm
     replace hm : law16_HeadKeeps_J2 s5 j19 j20 j21 j22 j23 j24 j25 j26 j27 j28 j29 j30 j31 = some c18 := hm
     unfold law16_HeadKeeps_J2 at hm
     show CWalk _ [.fact 0 (.rep [0] (a0 : List Op72)), .fact 4 (.isv 14), .fact 6 (.isv 21), .fact 7 (.isv 24), .fact 8 (.isv 27), .fact 9 (.rep [] (j19 : Int)), .fact 10 (.rep [] (s5 : Int)), .fact 100015 (.at 15 (.rep [] (j20 : Int))), .fact 100016 (.at 16 (.ow [12, 30] [31] 31 (j21 : List (List UInt8)))), .fact 100017 (.at 17 (.ow [13, 32] [] 4 (j22 : List Bool))), .fact 100018 (.at 18 (.rep [] (j23 : UInt8))), .fact 100019 (.at 19 (.rep [] (j24 : Bool))), .fact 100020 (.at 20 (.rep [] (j25 : UInt32))), .fact 100022 (.at 22 (.rep [] (j26 : Bool))), .fact 100023 (.at 23 (.rep [] (j27 : Bool))), .fact 100025 (.at 25 (.rep [] (j28 : Bool))), .fact 100026 (.at 26 (.rep [] (j29 : Bool))), .fact 100028 (.at 28 (.rep [] (j30 : UInt8))), .fact 100029 (.at 29 (.rep [] (j31 : UInt8))), .fact 100014 (.obj 14 [(false, 1), (false, 1), (false, 1), (false, 1), (false, 1), (false, 1)]), .fact 100021 (.obj 21 [(false, 1), (false, 1)]), .fact 100024 (.obj 24 [(false, 1), (false, 1)]), .fact 100027 (.obj 27 [(false, 1), (false, 1)])] _ _
     refine CWalk.region ?_
     refine mv ?_
     refine wo (Spec.addI (Has.s rfl) Has.int) ?_
     refine wo (Spec.assign (Has.s rfl)) ?_
     refine Walk.nil ?_
     exact Leaf.next hm (su (sn (sn (sn (sn (st (st (sf (Sub.cons (Has.at (HasG.cv (HasG.s rfl) (Cv.owM (T := [12, 30]) (te := [31]) rfl rfl))) (Sub.cons (Has.at (HasG.cv (HasG.s rfl) (Cv.owF (T := [13, 32]) (te := []) rfl))) (sf (sf (sf (sf (sf (sf (sf (sf (sf (sn (sn (sn (sn Sub.nil)))))))))))))))))))))))
    ·refine CWalk.block ?_
     refine CWalk.seq ?_
     refine CWalk.region ?_
     refine mv ?_
     refine mv ?_
     obtain ⟨x32, hx32, hm⟩ := bind_some hm
     refine wo (Spec.indexAddr hx32 sl67 (Has.s rfl) (Has.s rfl)) ?_
     refine wo (Spec.fieldAddrP fd72_0 (chOp72 x32) rfl (Has.s rfl)) ?_
     refine wo ((Spec.load ty5 (Has.s rfl)).flat (T' := [])) ?_
     obtain ⟨x33, hx33, hm⟩ := bind_some hm
     refine wo (Spec.remB hx33 (Has.s rfl) (Has.u8 7 rfl)) ?_
     refine wo (Spec.conv (α := UInt8) (β := Int) Try.underlying5 Try.underlying3 (Has.s rfl)) ?_
     refine wo (Spec.assign (Has.s rfl)) ?_
     refine Walk.nil ?_
     refine Leaf.thenN ?_
     refine CWalk.seq ?_
     refine CWalk.region ?_
     refine mv ?_
     refine mv ?_
     obtain ⟨x34, hx34, hm⟩ := bind_some hm
     refine wo (Spec.indexAddr hx34 sl67 (Has.s rfl) (Has.s rfl)) ?_
     refine wo (Spec.fieldAddrP fd72_1 (chOp72 x34) rfl (Has.s rfl)) ?_
     refine wo ((Spec.load ty5 (Has.s rfl)).flat (T' := [])) ?_
     refine wo (Spec.conv (α := UInt8) (β := Int) Try.underlying5 Try.underlying3 (Has.s rfl)) ?_
     obtain ⟨x35, hx35, hm⟩ := bind_some hm
     refine wo (Spec.remI hx35 (Has.s rfl) Has.int) ?_
     refine wo (Spec.assign (Has.s rfl)) ?_
     refine Walk.nil ?_
     refine Leaf.thenN ?_
     refine CWalk.seq ?_
     obtain ⟨x36, hx36, hm⟩ := bind_some hm
     obtain ⟨x37, hx37, hm⟩ := bind_some hm
     refine CWalk.drawM [[], [], [], [1, 2], [1, 2, 3], [0, 1, 2, 3, 4], [0, 1, 2, 3, 4, 5], [0, 1, 2, 3, 4, 5, 6], [0, 1, 2, 3, 4, 5, 6], [], [0, 1, 2, 3, 4, 5, 6, 7, 9], [0, 1, 2, 3, 4, 5, 6, 7, 8, 9, 10]] [[.fact 59 (.flds [(false, 1, Fact.rep [] (s6 : Int)), (false, 1, Fact.ow [12, 30] [31] 31 (s7 : List (List UInt8))), (false, 1, Fact.ow [13, 32] [] 4 (s8 : List Bool)), (false, 1, Fact.rep [] (s9 : UInt8)), (false, 1, Fact.rep [] (s10 : Bool)), (false, 1, Fact.rep [] (s11 : UInt32))])], [.fact 60 (.rep [0] (a0 : List Op72))], [.fact 61 (.rep [] (s5 : Int))], [.fact 62 (.ptr [0] (x36 : Op72))], [.fact 63 (.rep [] (x36 : Op72))], [.fact 64 (.tup2 (Fact.flds [(false, 1, Fact.rep [] x37.1.Stripe), (false, 1, Fact.ow [30] [31] 31 (x37.1.Blocks : List (List UInt8))), (false, 1, Fact.ow [32] [] 4 (x37.1.Dirty : List Bool)), (false, 1, Fact.rep [] x37.1.Phase), (false, 1, Fact.rep [] x37.1.Deals), (false, 1, Fact.rep [] x37.1.Seq)]) (Fact.rep [] x37.2))], [.fact 58 (.tup2 (Fact.flds [(false, 1, Fact.rep [] x37.1.Stripe), (false, 1, Fact.ow [30] [31] 31 (x37.1.Blocks : List (List UInt8))), (false, 1, Fact.ow [32] [] 4 (x37.1.Dirty : List Bool)), (false, 1, Fact.rep [] x37.1.Phase), (false, 1, Fact.rep [] x37.1.Deals), (false, 1, Fact.rep [] x37.1.Seq)]) (Fact.rep [] x37.2))], [.fact 65 (.flds [(false, 1, Fact.rep [] x37.1.Stripe), (false, 1, Fact.ow [30] [31] 31 (x37.1.Blocks : List (List UInt8))), (false, 1, Fact.ow [32] [] 4 (x37.1.Dirty : List Bool)), (false, 1, Fact.rep [] x37.1.Phase), (false, 1, Fact.rep [] x37.1.Deals), (false, 1, Fact.rep [] x37.1.Seq)])], [.fact 66 (.rep [] x37.2)], [.fact 13 (.isv 33), .fact 100033 (.obj 33 [(false, 1), (false, 1), (false, 1), (false, 1), (false, 1), (false, 1)]), .fact 100034 (.at 34 (.rep [] ((0 : Int) : Int))), .fact 100035 (.at 35 (.nilv)), .fact 100036 (.at 36 (.nilv)), .fact 100037 (.at 37 (.rep [] ((0 : UInt8) : UInt8))), .fact 100038 (.at 38 (.rep [] (false : Bool))), .fact 100039 (.at 39 (.rep [] ((0 : UInt32) : UInt32))), .killId 33, .killId 34, .killId 35, .killId 36, .killId 37, .killId 38, .killId 39], [.fact 100033 (.obj 33 [(false, 1), (false, 1), (false, 1), (false, 1), (false, 1), (false, 1)]), .fact 100034 (.at 34 (.rep [] x37.1.Stripe)), .fact 100035 (.at 35 (.ow [30] [31] 31 (x37.1.Blocks : List (List UInt8)))), .fact 100036 (.at 36 (.ow [32] [] 4 (x37.1.Dirty : List Bool))), .fact 100037 (.at 37 (.rep [] x37.1.Phase)), .fact 100038 (.at 38 (.rep [] x37.1.Deals)), .fact 100039 (.at 39 (.rep [] x37.1.Seq)), .kill 33, .killId 34, .killId 35, .killId 36, .killId 37, .killId 38, .killId 39], [.fact 14 (.rep [] x37.2)]] mixed (by kernel_rfl) (ao (so (Spec.loadObj (ls := [(false, 1, Fact.rep [] (s6 : Int)), (false, 1, Fact.ow [12, 30] [31] 31 (s7 : List (List UInt8))), (false, 1, Fact.ow [13, 32] [] 4 (s8 : List Bool)), (false, 1, Fact.rep [] (s9 : UInt8)), (false, 1, Fact.rep [] (s10 : Bool)), (false, 1, Fact.rep [] (s11 : UInt32))]) ty28 rfl rfl (Has.s rfl) rfl (HasGs.cons (HasG.s rfl) (HasGs.cons (HasG.s rfl) (HasGs.cons (HasG.s rfl) (HasGs.cons (HasG.s rfl) (HasGs.cons (HasG.s rfl) (HasGs.cons (HasG.s rfl) HasGs.nil)))))))) (ao (so (Spec.move (Has.s rfl))) (ao (so (Spec.move (Has.s rfl))) (ao (so (Spec.indexAddr hx36 sl67 (Has.s rfl) (Has.s rfl))) (ao (so ((Spec.load ty72 (Has.s rfl)).flat (T' := []))) (ao (so (Spec.callE [12, 13, 30, 31, 32] 30 rfl en41 (law16_step_c (Head.mk s6 s7 s8 s9 s10 s11) x36 hx37) (HasAll.cons (Has.m (Has.cv (Has.s rfl) (Cv.trans (Cv.flds (CvL.cons Cv.fl (CvL.cons (Cv.trans (Cv.trans Cv.owSl (Cv.slRep (T' := [12, 30, 31]) rfl rfl)) (Cv.m rfl)) (CvL.cons (Cv.trans (Cv.trans Cv.owSl (Cv.slRep (T' := [13, 32]) rfl rfl)) (Cv.m rfl)) (CvL.cons Cv.fl (CvL.cons Cv.fl (CvL.cons Cv.fl CvL.nil))))))) (Cv.close (T := [12, 13, 30, 31, 32]) (chHead (Head.mk s6 s7 s8 s9 s10 s11))))) rfl) (HasAll.cons (Has.fl (Has.s rfl)) HasAll.nil)))) (ao (so (Spec.move (Has.s rfl))) (ao (so (Spec.ext0 (Has.s rfl))) (ao (so (Spec.ext1 (Has.s rfl))) (ao (StepG.stE (Step.allocObj (ls := [(false, 1, Fact.rep [] ((0 : Int) : Int)), (false, 1, Fact.nilv), (false, 1, Fact.nilv), (false, 1, Fact.rep [] ((0 : UInt8) : UInt8)), (false, 1, Fact.rep [] (false : Bool)), (false, 1, Fact.rep [] ((0 : UInt32) : UInt32))]) 33 rfl rfl rfl rfl zl28)) (ao (StepG.stE (Step.storeObj (ls := [(false, 1, Fact.rep [] x37.1.Stripe), (false, 1, Fact.ow [30] [31] 31 (x37.1.Blocks : List (List UInt8))), (false, 1, Fact.ow [32] [] 4 (x37.1.Dirty : List Bool)), (false, 1, Fact.rep [] x37.1.Phase), (false, 1, Fact.rep [] x37.1.Deals), (false, 1, Fact.rep [] x37.1.Seq)]) rfl ty28 rfl rfl (Has.s rfl) rfl (HasL.flds (Has.s rfl)) rfl)) (ao (so (Spec.assign (Has.s rfl))) AllM.nil)))))))))))) ?_
     refine Leaf.thenN ?_
     refine CWalk.seq ?_
     refine CWalk.region ?_
     refine mv ?_
     refine wo (Spec.eqlI (Has.s rfl) Has.int) ?_
     refine mv ?_
     refine wg rfl rfl (fun hb => Spec.move (Has.s rfl)) ?_
     refine wg rfl rfl (fun hb => Spec.lssI (Has.u rfl hb) Has.int) ?_
     refine wo (Spec.and (Has.s rfl) (fun h => Has.u rfl h)) ?_
     refine mv ?_
     refine wg rfl rfl (fun hb => Spec.move (Has.s rfl)) ?_
     refine wg rfl rfl (fun hb => Spec.eqlI (Has.u rfl hb) Has.int) ?_
     refine wo (Spec.or (Has.s rfl) (fun h => Has.u rfl h)) ?_
     refine mv ?_
     refine wg rfl rfl (fun hb => Spec.move (Has.s rfl)) ?_
     refine wg rfl rfl (fun hb => Spec.eqlI (Has.u rfl hb) Has.int) ?_
     refine wg rfl rfl (fun hb => Spec.move (Has.u rfl hb)) ?_
     refine Walk.opgu rfl rfl rfl (fun hb => Spec.move (Has.s rfl)) ?_
     refine Walk.opgu rfl rfl rfl (fun hb => Spec.eqlI (Has.u rfl hb) Has.int) ?_
     refine wg rfl rfl (fun hb => Spec.and (Has.u rfl hb) (fun h => Has.u rfl ⟨hb, h⟩)) ?_
     refine wg rfl rfl (fun hb => Spec.move (Has.u rfl hb)) ?_
     refine Walk.opgu rfl rfl rfl (fun hb => Spec.idxC (i := 0) sm69 rfl (Has.cv (Has.s rfl) (Cv.isvP rfl))) ?_
     refine Walk.opgu rfl rfl rfl (fun hb => Spec.loadF (i := 0) ty4 rfl (Has.u rfl hb) rfl (HasG.s rfl)) ?_
     refine Walk.opgu rfl rfl rfl (fun hb => Spec.move (Has.u rfl hb)) ?_
     refine Walk.opgu rfl rfl rfl (fun hb => Spec.idxC (i := 1) sm69 rfl (Has.cv (Has.s rfl) (Cv.isvP rfl))) ?_
     refine Walk.opgu rfl rfl rfl (fun hb => Spec.loadF (i := 1) ty4 rfl (Has.u rfl hb) rfl (HasG.s rfl)) ?_
     refine Walk.opgu rfl rfl rfl (fun hb => Spec.or (Has.u rfl hb) (fun h => Has.u rfl ⟨hb, h⟩)) ?_
     refine wg rfl rfl (fun hb => Spec.and (Has.u rfl hb) (fun h => Has.u rfl ⟨hb, h⟩)) ?_
     refine wo (Spec.or (Has.s rfl) (fun h => Has.u rfl h)) ?_
     refine mv ?_
     refine wg rfl rfl (fun hb => Spec.move (Has.s rfl)) ?_
     refine wg rfl rfl (fun hb => Spec.eqlI (Has.u rfl hb) Has.int) ?_
     refine wg rfl rfl (fun hb => Spec.move (Has.u rfl hb)) ?_
     refine Walk.opgu rfl rfl rfl (fun hb => Spec.move (Has.s rfl)) ?_
     refine Walk.opgu rfl rfl rfl (fun hb => Spec.eqlI (Has.u rfl hb) Has.int) ?_
     refine wg rfl rfl (fun hb => Spec.and (Has.u rfl hb) (fun h => Has.u rfl ⟨hb, h⟩)) ?_
     refine wo (Spec.or (Has.s rfl) (fun h => Has.u rfl h)) ?_
     refine mv ?_
     refine wg rfl rfl (fun hb => Spec.move (Has.s rfl)) ?_
     refine wg rfl rfl (fun hb => Spec.eqlI (Has.u rfl hb) Has.int) ?_
     refine wg rfl rfl (fun hb => Spec.move (Has.u rfl hb)) ?_
     refine Walk.opgu rfl rfl rfl (fun hb => Spec.move (Has.s rfl)) ?_
     refine Walk.opgu rfl rfl rfl (fun hb => Spec.eqlI (Has.u rfl hb) Has.int) ?_
     refine wg rfl rfl (fun hb => Spec.and (Has.u rfl hb) (fun h => Has.u rfl ⟨hb, h⟩)) ?_
     refine wo (Spec.or (Has.s rfl) (fun h => Has.u rfl h)) ?_
     refine mv ?_
     refine wg rfl rfl (fun hb => Spec.move (Has.s rfl)) ?_
     refine wg rfl rfl (fun hb => Spec.eqlI (Has.u rfl hb) Has.int) ?_
     refine wg rfl rfl (fun hb => Spec.move (Has.u rfl hb)) ?_
     refine Walk.opgu rfl rfl rfl (fun hb => Spec.move (Has.s rfl)) ?_
     refine Walk.opgu rfl rfl rfl (fun hb => Spec.eqlI (Has.u rfl hb) Has.int) ?_
     refine Walk.opgu rfl rfl rfl (fun hb => Spec.move (Has.u rfl hb)) ?_
     refine Walk.opgu rfl rfl rfl (fun hb => Spec.move (Has.s rfl)) ?_
     refine Walk.opgu rfl rfl rfl (fun hb => Spec.eqlI (Has.u rfl hb) Has.int) ?_
     refine Walk.opgu rfl rfl rfl (fun hb => Spec.or (Has.u rfl hb) (fun h => Has.u rfl ⟨hb, h⟩)) ?_
     refine wg rfl rfl (fun hb => Spec.and (Has.u rfl hb) (fun h => Has.u rfl ⟨hb, h⟩)) ?_
     refine wo (Spec.or (Has.s rfl) (fun h => Has.u rfl h)) ?_
     refine mv ?_
     refine wg rfl rfl (fun hb => Spec.move (Has.s rfl)) ?_
     refine wg rfl rfl (fun hb => Spec.eqlI (Has.u rfl hb) Has.int) ?_
     refine wg rfl rfl (fun hb => Spec.move (Has.u rfl hb)) ?_
     refine Walk.opgu rfl rfl rfl (fun hb => Spec.move (Has.s rfl)) ?_
     refine Walk.opgu rfl rfl rfl (fun hb => Spec.eqlI (Has.u rfl hb) Has.int) ?_
     refine wg rfl rfl (fun hb => Spec.and (Has.u rfl hb) (fun h => Has.u rfl ⟨hb, h⟩)) ?_
     refine wo (Spec.or (Has.s rfl) (fun h => Has.u rfl h)) ?_
     refine wo (Spec.assign (Has.s rfl)) ?_
     refine Walk.nil ?_
     refine Leaf.thenN ?_
     refine CWalk.seq ?_
     refine CWalk.seq ?_
     refine CWalk.region ?_
     refine mv ?_
     refine wo (Spec.eqlI (Has.s rfl) Has.int) ?_
     refine mv ?_
     refine wo (Spec.neqT (Has.s rfl) (Has.s rfl) Try.underlying4) ?_
     refine Walk.nil ?_
     refine Leaf.thenN ?_
     refine CWalk.cond rfl (fun hb => ?_) (fun hb => ?_)
     ·have hm := cond_t hb hm
      refine CWalk.seq ?_
      refine CWalk.region ?_
      refine wo (Spec.assign Has.bool) ?_
      refine Walk.nil ?_
      refine Leaf.thenN ?_
      refine CWalk.ret ?_
      refine Leaf.thenR ?_
      refine Leaf.blockR ?_
      refine Leaf.thenR ?_
      exact Leaf.brk hm (fun h => nomatch h) rfl (st Sub.nil)
     ·have hm := cond_f hb hm
      refine CWalk.skip ?_
      refine Leaf.thenN ?_
      refine CWalk.seq ?_
      refine CWalk.seq ?_
      refine CWalk.region ?_
      refine mv ?_
      refine wo (Spec.neqI (Has.s rfl) Has.int) ?_
      refine Walk.nil ?_
      refine Leaf.thenN ?_
      refine CWalk.cond rfl (fun hb => ?_) (fun hb => ?_)
      ·have hm := cond_t hb hm
       refine CWalk.exit ?_
       refine Leaf.thenE ?_
       refine Leaf.blockE ?_
       exact Leaf.join (s4, s6, s7, s8, s9, s10, s11, s12, s13, s14, s15, s16, s17) hm (su (sn (sn (sn (sn (st (st (sf (Sub.cons (Has.at (HasG.cv (HasG.s rfl) (Cv.owM (T := [12, 30]) (te := [31]) rfl rfl))) (Sub.cons (Has.at (HasG.cv (HasG.s rfl) (Cv.owF (T := [13, 32]) (te := []) rfl))) (sf (sf (sf (sf (sf (sf (sf (sf (sf (sn (sn (sn (sn Sub.nil)))))))))))))))))))))))
      ·have hm := cond_f hb hm
       refine CWalk.skip ?_
       refine Leaf.thenN ?_
       refine CWalk.seq ?_
       refine CWalk.region ?_
       refine wo (Spec.loadObj (ls := [(false, 1, Fact.rep [] x37.1.Stripe), (false, 1, Fact.ow [30] [31] 31 (x37.1.Blocks : List (List UInt8))), (false, 1, Fact.ow [32] [] 4 (x37.1.Dirty : List Bool)), (false, 1, Fact.rep [] x37.1.Phase), (false, 1, Fact.rep [] x37.1.Deals), (false, 1, Fact.rep [] x37.1.Seq)]) ty28 rfl rfl (Has.s rfl) rfl (HasGs.cons (HasG.s rfl) (HasGs.cons (HasG.s rfl) (HasGs.cons (HasG.s rfl) (HasGs.cons (HasG.s rfl) (HasGs.cons (HasG.s rfl) (HasGs.cons (HasG.s rfl) HasGs.nil))))))) ?_
       refine ws (Step.storeObj (ls := [(false, 1, Fact.rep [] x37.1.Stripe), (false, 1, Fact.ow [30] [31] 31 (x37.1.Blocks : List (List UInt8))), (false, 1, Fact.ow [32] [] 4 (x37.1.Dirty : List Bool)), (false, 1, Fact.rep [] x37.1.Phase), (false, 1, Fact.rep [] x37.1.Deals), (false, 1, Fact.rep [] x37.1.Seq)]) rfl ty28 rfl rfl (Has.s rfl) rfl (HasL.flds (Has.s rfl)) rfl) ?_
       refine Walk.nil ?_
       refine Leaf.thenN ?_
       refine CWalk.seqJ (fun p : Int × Bool × Bool × Bool × Bool × UInt8 × UInt8 => [.fact 0 (.rep [0] (a0 : List Op72)), .fact 4 (.isv 14), .fact 6 (.isv 21), .fact 7 (.isv 24), .fact 8 (.isv 27), .fact 9 (.rep [] p.1), .fact 10 (.rep [] (s5 : Int)), .fact 100015 (.at 15 (.rep [] x37.1.Stripe)), .fact 100016 (.at 16 (.ow [30] [31] 31 (x37.1.Blocks : List (List UInt8)))), .fact 100017 (.at 17 (.ow [32] [] 4 (x37.1.Dirty : List Bool))), .fact 100018 (.at 18 (.rep [] x37.1.Phase)), .fact 100019 (.at 19 (.rep [] x37.1.Deals)), .fact 100020 (.at 20 (.rep [] x37.1.Seq)), .fact 100022 (.at 22 (.rep [] p.2.1)), .fact 100023 (.at 23 (.rep [] p.2.2.1)), .fact 100025 (.at 25 (.rep [] p.2.2.2.1)), .fact 100026 (.at 26 (.rep [] p.2.2.2.2.1)), .fact 100028 (.at 28 (.rep [] p.2.2.2.2.2.1)), .fact 100029 (.at 29 (.rep [] p.2.2.2.2.2.2)), .fact 100014 (.obj 14 [(false, 1), (false, 1), (false, 1), (false, 1), (false, 1), (false, 1)]), .fact 100021 (.obj 21 [(false, 1), (false, 1)]), .fact 100024 (.obj 24 [(false, 1), (false, 1)]), .fact 100027 (.obj 27 [(false, 1), (false, 1)])]) (fun p : Int × Bool × Bool × Bool × Bool × UInt8 × UInt8 => law16_HeadKeeps_J3 s5 x37 p.1 p.2.1 p.2.2.1 p.2.2.2.1 p.2.2.2.2.1 p.2.2.2.2.2.1 p.2.2.2.2.2.2 = some c18) ?_ ?_
       ·rintro ⟨j38, j39, j40, j41, j42, j43, j44⟩ hm
        replace hm : law16_HeadKeeps_J3 s5 x37 j38 j39 j40 j41 j42 j43 j44 = some c18 := hm
        unfold law16_HeadKeeps_J3 at hm
        show CWalk _ [.fact 0 (.rep [0] (a0 : List Op72)), .fact 4 (.isv 14), .fact 6 (.isv 21), .fact 7 (.isv 24), .fact 8 (.isv 27), .fact 9 (.rep [] (j38 : Int)), .fact 10 (.rep [] (s5 : Int)), .fact 100015 (.at 15 (.rep [] x37.1.Stripe)), .fact 100016 (.at 16 (.ow [30] [31] 31 (x37.1.Blocks : List (List UInt8)))), .fact 100017 (.at 17 (.ow [32] [] 4 (x37.1.Dirty : List Bool))), .fact 100018 (.at 18 (.rep [] x37.1.Phase)), .fact 100019 (.at 19 (.rep [] x37.1.Deals)), .fact 100020 (.at 20 (.rep [] x37.1.Seq)), .fact 100022 (.at 22 (.rep [] (j39 : Bool))), .fact 100023 (.at 23 (.rep [] (j40 : Bool))), .fact 100025 (.at 25 (.rep [] (j41 : Bool))), .fact 100026 (.at 26 (.rep [] (j42 : Bool))), .fact 100028 (.at 28 (.rep [] (j43 : UInt8))), .fact 100029 (.at 29 (.rep [] (j44 : UInt8))), .fact 100014 (.obj 14 [(false, 1), (false, 1), (false, 1), (false, 1), (false, 1), (false, 1)]), .fact 100021 (.obj 21 [(false, 1), (false, 1)]), .fact 100024 (.obj 24 [(false, 1), (false, 1)]), .fact 100027 (.obj 27 [(false, 1), (false, 1)])] _ _
        refine CWalk.seq ?_
        obtain ⟨x45, hx45, hm⟩ := bind_some hm
        obtain ⟨x46, hx46, hm⟩ := bind_some hm
        obtain ⟨x47, hx47, hm⟩ := bind_some hm
        obtain ⟨x48, hx48, hm⟩ := bind_some hm
        obtain ⟨x49, hx49, hm⟩ := bind_some hm
        refine CWalk.drawM [[], [], [0, 1], [0, 1, 2], [0, 1, 2, 3], [0, 1, 2, 3, 4], [0, 1, 2, 3, 4, 5], [0, 1, 2, 3, 4, 5, 6], [0, 1, 2, 3, 4], [0, 1, 2, 3, 4, 5, 6, 7, 8], [0, 1, 2, 3, 4, 5, 6, 7, 8, 9], [0, 1, 2, 3, 4, 5, 6, 7, 8, 9, 10], [0, 1, 2, 3, 4, 5, 6, 7, 8, 9, 10, 11], [0, 1, 2, 3, 4, 5, 6, 7, 8, 9, 10, 11, 12], [0, 1, 2, 3, 4, 5, 6, 7, 8, 9, 10, 11, 12, 13], [0, 1, 2, 3, 4, 5, 6, 7, 8, 9, 10, 11, 12, 13, 14], [0, 1, 2, 3, 4, 5, 6, 7, 8, 9, 10, 11], [0, 1, 2, 3, 4, 5, 6, 7, 8, 9, 10, 11, 16], [0, 1, 2, 3, 4, 5, 6, 7, 8, 9, 10, 11, 12, 13, 14, 15, 16, 17], [0, 1, 2, 3, 4, 5, 6, 7, 8, 9, 10, 11, 12, 13, 14, 15, 16, 17, 18], [0, 1, 2, 3, 4, 5, 6, 7, 8, 9, 10, 11, 12, 13, 14, 15, 16, 17, 18, 19], [0, 1, 2, 3, 4, 5, 6, 7, 8, 9, 10, 11, 12, 13, 14, 15, 16, 17, 18, 19, 20], [0, 1, 2, 3, 4, 5, 6, 7, 8, 9, 10, 11, 12, 13, 14, 15, 16, 17, 18, 19, 20, 21], [0, 1, 2, 3, 4, 5, 6, 7, 8, 9, 10, 11, 12, 13, 14, 15, 16, 17, 18, 19, 20, 21, 22], [0, 1, 2, 3, 4, 5, 6, 7, 8, 9, 10, 11, 12, 13, 14, 15, 16, 17, 18, 19, 20, 21, 22, 23], [0, 1, 2, 3, 4, 5, 6, 7, 8, 9, 10, 11, 12, 13, 14, 15, 16, 17, 18, 19, 20], [0, 1, 2, 3, 4, 5, 6, 7, 8, 9, 10, 11, 12, 13, 14, 15, 16, 17, 18, 19, 20, 25], [0, 1, 2, 3, 4, 5, 6, 7, 8, 9, 10, 11, 12, 13, 14, 15, 16, 17, 18, 19, 20, 21, 22, 23, 24, 25, 26], [0, 1, 2, 3, 4, 5, 6, 7, 8, 9, 10, 11, 12, 13, 14, 15, 16, 17, 18, 19, 20, 21, 22, 23, 24, 25, 26, 27], [0, 1, 2, 3, 4, 5, 6, 7, 8, 9, 10, 11, 12, 13, 14, 15, 16, 17, 18, 19, 20, 21, 22, 23, 24, 25, 26, 27, 28], [0, 1, 2, 3, 4, 5, 6, 7, 8, 9, 10, 11, 12, 13, 14, 15, 16, 17, 18, 19, 20, 21, 22, 23, 24, 25, 26, 27, 28, 29], [0, 1, 2, 3, 4, 5, 6, 7, 8, 9, 10, 11, 12, 13, 14, 15, 16, 17, 18, 19, 20, 21, 22, 23, 24, 25, 26, 27, 28, 29], [0, 1, 2, 3, 4, 5, 6, 7, 8, 9, 10, 11, 12, 13, 14, 15, 16, 17, 18, 19, 20, 21, 22, 23, 24, 25, 26, 27, 28, 29], [0, 1, 2, 3, 4, 5, 6, 7, 8, 9, 10, 11, 12, 13, 14, 15, 16, 17, 18, 19, 20, 21, 22, 23, 24, 25, 26, 27, 28, 29, 30, 31, 32], [0, 1, 2, 3, 4, 5, 6, 7, 8, 9, 10, 11, 12, 13, 14, 15, 16, 17, 18, 19, 20, 21, 22, 23, 24, 25, 26, 27, 28, 29, 30, 31, 32, 33], [0, 1, 2, 3, 4, 5, 6, 7, 8, 9, 10, 11, 12, 13, 14, 15, 16, 17, 18, 19, 20, 21, 22, 23, 24, 25, 26, 27, 28, 29, 30, 31, 32, 33, 34]] [[.fact 177 (.rep [] (x45 : Config))], [.fact 178 (.flds [(false, 1, Fact.rep [] x37.1.Stripe), (false, 1, Fact.ow [30] [31] 31 (x37.1.Blocks : List (List UInt8))), (false, 1, Fact.ow [32] [] 4 (x37.1.Dirty : List Bool)), (false, 1, Fact.rep [] x37.1.Phase), (false, 1, Fact.rep [] x37.1.Deals), (false, 1, Fact.rep [] x37.1.Seq)])], [.fact 179 (.rep [] (x46 : Int))], [.fact 180 (.rep [] ((x46 != (0 : Int)) : Bool))], [.fact 181 (.rep [] ((x46 != (0 : Int)) : Bool))], [.fact 182 (.under ((x46 != (0 : Int)) = false) (.pto 14 3))], [.fact 183 (.under ((x46 != (0 : Int)) = false) (.rep [] x37.1.Phase))], [.fact 184 (.under ((x46 != (0 : Int)) = false) (.rep [] ((wI (x37.1.Phase.toNat : Int)) : Int)))], [.fact 185 (.under ((x46 != (0 : Int)) = false) (.rep [] (j38 : Int)))], [.fact 186 (.under ((x46 != (0 : Int)) = false) (.rep [] (((wI (x37.1.Phase.toNat : Int)) != j38) : Bool)))], [.fact 187 (.rep [] (((x46 != (0 : Int)) || ((wI (x37.1.Phase.toNat : Int)) != j38)) : Bool))], [.fact 188 (.rep [] (((x46 != (0 : Int)) || ((wI (x37.1.Phase.toNat : Int)) != j38)) : Bool))], [.fact 189 (.under (((x46 != (0 : Int)) || ((wI (x37.1.Phase.toNat : Int)) != j38)) = false) (.pto 14 2))], [.fact 190 (.under (((x46 != (0 : Int)) || ((wI (x37.1.Phase.toNat : Int)) != j38)) = false) (.ow [32] [] 4 (x37.1.Dirty : List Bool)))], [.fact 191 (.under (((x46 != (0 : Int)) || ((wI (x37.1.Phase.toNat : Int)) != j38)) = false) (.pts [32] [] (x47 : Bool)))], [.fact 192 (.under (((x46 != (0 : Int)) || ((wI (x37.1.Phase.toNat : Int)) != j38)) = false) (.rep [] (x47 : Bool)))], [.fact 193 (.under (((x46 != (0 : Int)) || ((wI (x37.1.Phase.toNat : Int)) != j38)) = false) (.pto 24 0))], [.fact 194 (.under (((x46 != (0 : Int)) || ((wI (x37.1.Phase.toNat : Int)) != j38)) = false) (.rep [] (j41 : Bool)))], [.fact 195 (.under (((x46 != (0 : Int)) || ((wI (x37.1.Phase.toNat : Int)) != j38)) = false) (.rep [] ((x47 != j41) : Bool)))], [.fact 196 (.rep [] ((((x46 != (0 : Int)) || ((wI (x37.1.Phase.toNat : Int)) != j38)) || (x47 != j41)) : Bool))], [.fact 197 (.rep [] ((((x46 != (0 : Int)) || ((wI (x37.1.Phase.toNat : Int)) != j38)) || (x47 != j41)) : Bool))], [.fact 198 (.under ((((x46 != (0 : Int)) || ((wI (x37.1.Phase.toNat : Int)) != j38)) || (x47 != j41)) = false) (.pto 14 2))], [.fact 199 (.under ((((x46 != (0 : Int)) || ((wI (x37.1.Phase.toNat : Int)) != j38)) || (x47 != j41)) = false) (.ow [32] [] 4 (x37.1.Dirty : List Bool)))], [.fact 200 (.under ((((x46 != (0 : Int)) || ((wI (x37.1.Phase.toNat : Int)) != j38)) || (x47 != j41)) = false) (.pts [32] [] (x48 : Bool)))], [.fact 201 (.under ((((x46 != (0 : Int)) || ((wI (x37.1.Phase.toNat : Int)) != j38)) || (x47 != j41)) = false) (.rep [] (x48 : Bool)))], [.fact 202 (.under ((((x46 != (0 : Int)) || ((wI (x37.1.Phase.toNat : Int)) != j38)) || (x47 != j41)) = false) (.pto 24 1))], [.fact 203 (.under ((((x46 != (0 : Int)) || ((wI (x37.1.Phase.toNat : Int)) != j38)) || (x47 != j41)) = false) (.rep [] (j42 : Bool)))], [.fact 204 (.under ((((x46 != (0 : Int)) || ((wI (x37.1.Phase.toNat : Int)) != j38)) || (x47 != j41)) = false) (.rep [] ((x48 != j42) : Bool)))], [.fact 205 (.rep [] (((((x46 != (0 : Int)) || ((wI (x37.1.Phase.toNat : Int)) != j38)) || (x47 != j41)) || (x48 != j42)) : Bool))], [.fact 206 (.rep [] (((((x46 != (0 : Int)) || ((wI (x37.1.Phase.toNat : Int)) != j38)) || (x47 != j41)) || (x48 != j42)) : Bool))], [.fact 207 (.under (((((x46 != (0 : Int)) || ((wI (x37.1.Phase.toNat : Int)) != j38)) || (x47 != j41)) || (x48 != j42)) = false) (.flds [(false, 1, Fact.rep [] x37.1.Stripe), (false, 1, Fact.ow [30] [31] 31 (x37.1.Blocks : List (List UInt8))), (false, 1, Fact.ow [32] [] 4 (x37.1.Dirty : List Bool)), (false, 1, Fact.rep [] x37.1.Phase), (false, 1, Fact.rep [] x37.1.Deals), (false, 1, Fact.rep [] x37.1.Seq)]))], [.fact 208 (.under (((((x46 != (0 : Int)) || ((wI (x37.1.Phase.toNat : Int)) != j38)) || (x47 != j41)) || (x48 != j42)) = false) (.flds [(false, 1, Fact.rep [] (j39 : Bool)), (false, 1, Fact.rep [] (j40 : Bool))]))], [.fact 209 (.under (((((x46 != (0 : Int)) || ((wI (x37.1.Phase.toNat : Int)) != j38)) || (x47 != j41)) || (x48 != j42)) = false) (.flds [(false, 1, Fact.rep [] (j43 : UInt8)), (false, 1, Fact.rep [] (j44 : UInt8))]))], [.fact 210 (.under (((((x46 != (0 : Int)) || ((wI (x37.1.Phase.toNat : Int)) != j38)) || (x47 != j41)) || (x48 != j42)) = false) (.rep [] (x49 : Bool)))], [.fact 211 (.under (((((x46 != (0 : Int)) || ((wI (x37.1.Phase.toNat : Int)) != j38)) || (x47 != j41)) || (x48 != j42)) = false) (.rep [] ((!x49) : Bool)))], [.fact 212 (.rep [] ((((((x46 != (0 : Int)) || ((wI (x37.1.Phase.toNat : Int)) != j38)) || (x47 != j41)) || (x48 != j42)) || (!x49)) : Bool))]] mixed (by kernel_rfl) (ao (so (Spec.callE [] 40 rfl en40 (law16_small_c  hx45) HasAll.nil)) (ao (so (Spec.loadObj (ls := [(false, 1, Fact.rep [] x37.1.Stripe), (false, 1, Fact.ow [30] [31] 31 (x37.1.Blocks : List (List UInt8))), (false, 1, Fact.ow [32] [] 4 (x37.1.Dirty : List Bool)), (false, 1, Fact.rep [] x37.1.Phase), (false, 1, Fact.rep [] x37.1.Deals), (false, 1, Fact.rep [] x37.1.Seq)]) ty28 rfl rfl (Has.s rfl) rfl (HasGs.cons (HasG.s rfl) (HasGs.cons (HasG.s rfl) (HasGs.cons (HasG.s rfl) (HasGs.cons (HasG.s rfl) (HasGs.cons (HasG.s rfl) (HasGs.cons (HasG.s rfl) HasGs.nil)))))))) (ao (so (Spec.callE [30, 31, 32] 41 rfl en24 (head_Check_c x45 x37.1 hx46) (HasAll.cons (Has.fl (Has.s rfl)) (HasAll.cons (Has.m (Has.cv (Has.s rfl) (Cv.trans (Cv.flds (CvL.cons Cv.fl (CvL.cons (Cv.trans (Cv.trans Cv.owSl (Cv.slRep (T' := [30, 31]) rfl rfl)) (Cv.m rfl)) (CvL.cons (Cv.trans (Cv.trans Cv.owSl (Cv.slRep (T' := [32]) rfl rfl)) (Cv.m rfl)) (CvL.cons Cv.fl (CvL.cons Cv.fl (CvL.cons Cv.fl CvL.nil))))))) (Cv.close (T := [30, 31, 32]) (chHead x37.1)))) rfl) HasAll.nil)))) (ao (so (Spec.neqI (Has.s rfl) Has.int)) (ao (so (Spec.move (Has.s rfl))) (ao (StepG.opg rfl rfl rfl (fun hb => Spec.fieldAddrO fd28_3 (Has.cv (Has.s rfl) (Cv.isvP rfl)))) (ao (StepG.opg rfl rfl rfl (fun hb => Spec.loadF (i := 3) ty5 rfl (Has.u rfl hb) rfl (HasG.s rfl))) (ao (StepG.opg rfl rfl rfl (fun hb => Spec.conv (α := UInt8) (β := Int) Try.underlying5 Try.underlying3 (Has.u rfl hb))) (ao (StepG.opg rfl rfl rfl (fun hb => Spec.move (Has.s rfl))) (ao (StepG.opg rfl rfl rfl (fun hb => Spec.neqI (Has.u rfl hb) (Has.u rfl hb))) (ao (so (Spec.or (Has.s rfl) (fun h => Has.u rfl h))) (ao (so (Spec.move (Has.s rfl))) (ao (StepG.opg rfl rfl rfl (fun hb => Spec.fieldAddrO fd28_2 (Has.cv (Has.s rfl) (Cv.isvP rfl)))) (ao (StepG.opg rfl rfl rfl (fun hb => Spec.loadF (i := 2) ty26 rfl (Has.u rfl hb) rfl (HasG.s rfl))) (ao (StepG.opg rfl rfl rfl (fun hb => Spec.indexSl (gO_t hx47 (not_t hb)) sl26 (Has.cv (Has.u rfl hb) Cv.owSl) Has.int)) (ao (StepG.opg rfl rfl rfl (fun hb => (Spec.loadS ty4 (Has.u rfl hb)).flat (T' := []))) (ao (StepG.opg rfl rfl rfl (fun hb => Spec.idxC (i := 0) sm69 rfl (Has.cv (Has.s rfl) (Cv.isvP rfl)))) (ao (StepG.opg rfl rfl rfl (fun hb => Spec.loadF (i := 0) ty4 rfl (Has.u rfl hb) rfl (HasG.s rfl))) (ao (StepG.opg rfl rfl rfl (fun hb => Spec.neqT (Has.u rfl hb) (Has.u rfl hb) Try.underlying4)) (ao (so (Spec.or (Has.s rfl) (fun h => Has.u rfl h))) (ao (so (Spec.move (Has.s rfl))) (ao (StepG.opg rfl rfl rfl (fun hb => Spec.fieldAddrO fd28_2 (Has.cv (Has.s rfl) (Cv.isvP rfl)))) (ao (StepG.opg rfl rfl rfl (fun hb => Spec.loadF (i := 2) ty26 rfl (Has.u rfl hb) rfl (HasG.s rfl))) (ao (StepG.opg rfl rfl rfl (fun hb => Spec.indexSl (gO_t hx48 (not_t hb)) sl26 (Has.cv (Has.u rfl hb) Cv.owSl) Has.int)) (ao (StepG.opg rfl rfl rfl (fun hb => (Spec.loadS ty4 (Has.u rfl hb)).flat (T' := []))) (ao (StepG.opg rfl rfl rfl (fun hb => Spec.idxC (i := 1) sm69 rfl (Has.cv (Has.s rfl) (Cv.isvP rfl)))) (ao (StepG.opg rfl rfl rfl (fun hb => Spec.loadF (i := 1) ty4 rfl (Has.u rfl hb) rfl (HasG.s rfl))) (ao (StepG.opg rfl rfl rfl (fun hb => Spec.neqT (Has.u rfl hb) (Has.u rfl hb) Try.underlying4)) (ao (so (Spec.or (Has.s rfl) (fun h => Has.u rfl h))) (ao (so (Spec.move (Has.s rfl))) (ao (StepG.opg rfl rfl rfl (fun hb => Spec.loadObj (ls := [(false, 1, Fact.rep [] x37.1.Stripe), (false, 1, Fact.ow [30] [31] 31 (x37.1.Blocks : List (List UInt8))), (false, 1, Fact.ow [32] [] 4 (x37.1.Dirty : List Bool)), (false, 1, Fact.rep [] x37.1.Phase), (false, 1, Fact.rep [] x37.1.Deals), (false, 1, Fact.rep [] x37.1.Seq)]) ty28 rfl rfl (Has.s rfl) rfl (HasGs.cons (HasG.s rfl) (HasGs.cons (HasG.s rfl) (HasGs.cons (HasG.s rfl) (HasGs.cons (HasG.s rfl) (HasGs.cons (HasG.s rfl) (HasGs.cons (HasG.s rfl) HasGs.nil)))))))) (ao (StepG.opg rfl rfl rfl (fun hb => Spec.loadObj (ls := [(false, 1, Fact.rep [] (j39 : Bool)), (false, 1, Fact.rep [] (j40 : Bool))]) ty69 rfl rfl (Has.s rfl) rfl (HasGs.cons (HasG.s rfl) (HasGs.cons (HasG.s rfl) HasGs.nil)))) (ao (StepG.opg rfl rfl rfl (fun hb => Spec.loadObj (ls := [(false, 1, Fact.rep [] (j43 : UInt8)), (false, 1, Fact.rep [] (j44 : UInt8))]) ty70 rfl rfl (Has.s rfl) rfl (HasGs.cons (HasG.s rfl) (HasGs.cons (HasG.s rfl) HasGs.nil)))) (ao (StepG.opg rfl rfl rfl (fun hb => Spec.callE [30, 31, 32] 42 rfl en42 (law16_held_c x37.1 (Arr2_Bool.mk j39 j40) (Arr2_UInt8.mk j43 j44) (gO_t hx49 (not_t hb))) (HasAll.cons (Has.m (Has.cv (Has.u rfl hb) (Cv.trans (Cv.flds (CvL.cons Cv.fl (CvL.cons (Cv.trans (Cv.trans Cv.owSl (Cv.slRep (T' := [30, 31]) rfl rfl)) (Cv.m rfl)) (CvL.cons (Cv.trans (Cv.trans Cv.owSl (Cv.slRep (T' := [32]) rfl rfl)) (Cv.m rfl)) (CvL.cons Cv.fl (CvL.cons Cv.fl (CvL.cons Cv.fl CvL.nil))))))) (Cv.close (T := [30, 31, 32]) (chHead x37.1)))) rfl) (HasAll.cons (Has.fl (Has.cv (Has.u rfl hb) (Cv.trans (Cv.flds (CvL.cons Cv.fl (CvL.cons Cv.fl CvL.nil))) (Cv.close (T := []) (chArr2_Bool (Arr2_Bool.mk j39 j40)))))) (HasAll.cons (Has.fl (Has.cv (Has.u rfl hb) (Cv.trans (Cv.flds (CvL.cons Cv.fl (CvL.cons Cv.fl CvL.nil))) (Cv.close (T := []) (chArr2_UInt8 (Arr2_UInt8.mk j43 j44)))))) HasAll.nil))))) (ao (StepG.opg rfl rfl rfl (fun hb => Spec.not (Has.u rfl hb))) (ao (so (Spec.or (Has.s rfl) (fun h => Has.u rfl h))) AllM.nil)))))))))))))))))))))))))))))))))))) ?_
        refine Leaf.thenN ?_
        refine CWalk.cond rfl (fun hb => ?_) (fun hb => ?_)
        ·have hm := cond_t hb hm
         refine CWalk.seq ?_
         refine CWalk.region ?_
         refine wo (Spec.assign Has.bool) ?_
         refine Walk.nil ?_
         refine Leaf.thenN ?_
         refine CWalk.ret ?_
         refine Leaf.blockR ?_
         refine Leaf.thenR ?_
         exact Leaf.brk hm (fun h => nomatch h) rfl (st Sub.nil)
        ·have hm := cond_f hb hm
         refine CWalk.skip ?_
         refine Leaf.blockN ?_
         exact Leaf.join (j38, x37.1.Stripe, x37.1.Blocks, x37.1.Dirty, x37.1.Phase, x37.1.Deals, x37.1.Seq, j39, j40, j41, j42, j43, j44) hm (su (sn (sn (sn (sn (st (st (sf (Sub.cons (Has.at (HasG.cv (HasG.s rfl) (Cv.owM (T := [30]) (te := [31]) rfl rfl))) (Sub.cons (Has.at (HasG.cv (HasG.s rfl) (Cv.owF (T := [32]) (te := []) rfl))) (sf (sf (sf (sf (sf (sf (sf (sf (sf (sn (sn (sn (sn Sub.nil)))))))))))))))))))))))
       ·refine CWalk.block ?_
        refine CWalk.seq ?_
        refine CWalk.region ?_
        refine mv ?_
        refine wo (Spec.eqlI (Has.s rfl) Has.int) ?_
        refine wo (Spec.assign (Has.s rfl)) ?_
        refine Walk.nil ?_
        refine Leaf.thenN ?_
        refine CWalk.cond rfl (fun hb => ?_) (fun hb => ?_)
        ·have hm := cond_t hb hm
         obtain ⟨x50, hx50, hm⟩ := bind_some hm
         obtain ⟨x51, hx51, hm⟩ := bind_some hm
         obtain ⟨x52, hx52, hm⟩ := bind_some hm
         obtain ⟨x53, hx53, hm⟩ := bind_some hm
         refine CWalk.drawM [[], [], [], [], [], [3, 4], [3, 4, 5], [3, 4, 5, 6], [0], [0, 8], [0, 1, 8, 9], [0, 1, 8, 9, 10], [0, 1, 2, 3, 4, 5, 6, 7, 8, 9, 10, 11], [0, 1, 2, 3, 4, 5, 6, 7, 8, 9, 10, 11, 12], [0, 1, 2, 3, 4, 5, 6, 7, 8, 9, 10, 11, 12, 13]] [[.fact 139 (.rep [] (x35 : Int))], [.fact 140 (.rep [] (x35 : Int))], [.fact 141 (.rep [] (x35 : Int))], [.fact 142 (.rep [0] (a0 : List Op72))], [.fact 143 (.rep [] (s5 : Int))], [.fact 144 (.ptr [0] (x50 : Op72))], [.fact 145 (.ptr [0] (x50.Byte : UInt8))], [.fact 146 (.rep [] x50.Byte)], [.fact 147 (.pto 21 x51)], [.fact 100021 (.obj 21 [(false, 1), (false, 1)]), .fact 100022 (.at 22 (.rep [] ((bif Nat.beq x51 0 then true else s12) : Bool))), .fact 100023 (.at 23 (.rep [] ((bif Nat.beq x51 1 then true else s13) : Bool))), .kill 21, .killId 22, .killId 23], [.fact 148 (.pto 24 x52)], [.fact 100024 (.obj 24 [(false, 1), (false, 1)]), .fact 100025 (.at 25 (.rep [] ((bif Nat.beq x52 0 then true else s14) : Bool))), .fact 100026 (.at 26 (.rep [] ((bif Nat.beq x52 1 then true else s15) : Bool))), .kill 24, .killId 25, .killId 26], [.fact 149 (.pto 27 x53)], [.fact 100027 (.obj 27 [(false, 1), (false, 1)]), .fact 100028 (.at 28 (.rep [] ((bif Nat.beq x53 0 then x50.Byte else s16) : UInt8))), .fact 100029 (.at 29 (.rep [] ((bif Nat.beq x53 1 then x50.Byte else s17) : UInt8))), .kill 27, .killId 28, .killId 29], [.fact 9 (.rep [] ((0 : Int) : Int))]] mixed (by kernel_rfl) (ao (so (Spec.move (Has.s rfl))) (ao (so (Spec.move (Has.s rfl))) (ao (so (Spec.move (Has.s rfl))) (ao (so (Spec.move (Has.s rfl))) (ao (so (Spec.move (Has.s rfl))) (ao (so (Spec.indexAddr hx50 sl67 (Has.s rfl) (Has.s rfl))) (ao (so (Spec.fieldAddrP fd72_2 (chOp72 x50) rfl (Has.s rfl))) (ao (so ((Spec.load ty5 (Has.s rfl)).flat (T' := []))) (ao (so (Spec.idxVar hx51 sm69 (Has.cv (Has.s rfl) (Cv.isvP rfl)) (Has.s rfl))) (ao (StepG.stE (Step.storeV (T := []) (n := 2) (l := ([s12, s13] : List Bool)) (y := true) hx51 rfl ty4 rfl rfl rfl rfl (Has.s rfl) rfl Has.bool (HasVs.cons (HasG.s rfl) (HasVs.cons (HasG.s rfl) HasVs.nil)))) (ao (so (Spec.idxVar hx52 sm69 (Has.cv (Has.s rfl) (Cv.isvP rfl)) (Has.s rfl))) (ao (StepG.stE (Step.storeV (T := []) (n := 2) (l := ([s14, s15] : List Bool)) (y := true) hx52 rfl ty4 rfl rfl rfl rfl (Has.s rfl) rfl Has.bool (HasVs.cons (HasG.s rfl) (HasVs.cons (HasG.s rfl) HasVs.nil)))) (ao (so (Spec.idxVar hx53 sm70 (Has.cv (Has.s rfl) (Cv.isvP rfl)) (Has.s rfl))) (ao (StepG.stE (Step.storeV (T := []) (n := 2) (l := ([s16, s17] : List UInt8)) (y := x50.Byte) hx53 rfl ty5 rfl rfl rfl rfl (Has.s rfl) rfl (Has.s rfl) (HasVs.cons (HasG.s rfl) (HasVs.cons (HasG.s rfl) HasVs.nil)))) (ao (so (Spec.assign Has.int)) AllM.nil))))))))))))))) ?_
         refine Leaf.blockN ?_
         exact Leaf.join ((0 : Int), (bif Nat.beq x51 0 then true else s12), (bif Nat.beq x51 1 then true else s13), (bif Nat.beq x52 0 then true else s14), (bif Nat.beq x52 1 then true else s15), (bif Nat.beq x53 0 then x50.Byte else s16), (bif Nat.beq x53 1 then x50.Byte else s17)) hm (su (sn (sn (sn (sn (st (st (sf (Sub.cons (Has.at (HasG.cv (HasG.s rfl) (Cv.owM (T := [30]) (te := [31]) rfl rfl))) (Sub.cons (Has.at (HasG.cv (HasG.s rfl) (Cv.owF (T := [32]) (te := []) rfl))) (sf (sf (sf (sf (sf (sf (sf (sf (sf (sn (sn (sn (sn Sub.nil)))))))))))))))))))))))
        ·have hm := cond_f hb hm
         refine CWalk.seq ?_
         refine CWalk.region ?_
         refine mv ?_
         refine wo (Spec.eqlI (Has.s rfl) Has.int) ?_
         refine mv ?_
         refine wg rfl rfl (fun hb => Spec.move (Has.s rfl)) ?_
         obtain ⟨x54, hx54, hm⟩ := bind_some hm
         refine wg rfl rfl (fun hb => Spec.idxVar (gO_t hx54 hb) sm69 (Has.cv (Has.s rfl) (Cv.isvP rfl)) (Has.u rfl hb)) ?_
         obtain ⟨x55, hx55, hm⟩ := bind_some hm
         refine wg rfl rfl (fun hb => Spec.loadV (T := []) (l := ([s12, s13] : List Bool)) (gO_t hx55 hb) ty4 rfl rfl (Has.u rfl hb) rfl (HasVs.cons (HasG.s rfl) (HasVs.cons (HasG.s rfl) HasVs.nil))) ?_
         refine wg rfl rfl (fun hb => Spec.not (Has.u rfl hb)) ?_
         refine wo (Spec.and (Has.s rfl) (fun h => Has.u rfl h)) ?_
         refine wo (Spec.assign (Has.s rfl)) ?_
         refine Walk.nil ?_
         refine Leaf.thenN ?_
         refine CWalk.cond rfl (fun hb => ?_) (fun hb => ?_)
         ·have hm := cond_t hb hm
          obtain ⟨x56, hx56, hm⟩ := bind_some hm
          obtain ⟨x57, hx57, hm⟩ := bind_some hm
          obtain ⟨x58, hx58, hm⟩ := bind_some hm
          refine CWalk.drawM [[], [], [], [], [2, 3], [2, 3, 4], [2, 3, 4, 5], [0], [0, 7], [0, 1, 2, 3, 4, 5, 6, 7, 8], [0, 1, 2, 3, 4, 5, 6, 7, 8, 9]] [[.fact 159 (.rep [] (x35 : Int))], [.fact 160 (.rep [] (x35 : Int))], [.fact 161 (.rep [0] (a0 : List Op72))], [.fact 162 (.rep [] (s5 : Int))], [.fact 163 (.ptr [0] (x56 : Op72))], [.fact 164 (.ptr [0] (x56.Byte : UInt8))], [.fact 165 (.rep [] x56.Byte)], [.fact 166 (.pto 21 x57)], [.fact 100021 (.obj 21 [(false, 1), (false, 1)]), .fact 100022 (.at 22 (.rep [] ((bif Nat.beq x57 0 then true else s12) : Bool))), .fact 100023 (.at 23 (.rep [] ((bif Nat.beq x57 1 then true else s13) : Bool))), .kill 21, .killId 22, .killId 23], [.fact 167 (.pto 27 x58)], [.fact 100027 (.obj 27 [(false, 1), (false, 1)]), .fact 100028 (.at 28 (.rep [] ((bif Nat.beq x58 0 then x56.Byte else s16) : UInt8))), .fact 100029 (.at 29 (.rep [] ((bif Nat.beq x58 1 then x56.Byte else s17) : UInt8))), .kill 27, .killId 28, .killId 29]] mixed (by kernel_rfl) (ao (so (Spec.move (Has.s rfl))) (ao (so (Spec.move (Has.s rfl))) (ao (so (Spec.move (Has.s rfl))) (ao (so (Spec.move (Has.s rfl))) (ao (so (Spec.indexAddr hx56 sl67 (Has.s rfl) (Has.s rfl))) (ao (so (Spec.fieldAddrP fd72_2 (chOp72 x56) rfl (Has.s rfl))) (ao (so ((Spec.load ty5 (Has.s rfl)).flat (T' := []))) (ao (so (Spec.idxVar hx57 sm69 (Has.cv (Has.s rfl) (Cv.isvP rfl)) (Has.s rfl))) (ao (StepG.stE (Step.storeV (T := []) (n := 2) (l := ([s12, s13] : List Bool)) (y := true) hx57 rfl ty4 rfl rfl rfl rfl (Has.s rfl) rfl Has.bool (HasVs.cons (HasG.s rfl) (HasVs.cons (HasG.s rfl) HasVs.nil)))) (ao (so (Spec.idxVar hx58 sm70 (Has.cv (Has.s rfl) (Cv.isvP rfl)) (Has.s rfl))) (ao (StepG.stE (Step.storeV (T := []) (n := 2) (l := ([s16, s17] : List UInt8)) (y := x56.Byte) hx58 rfl ty5 rfl rfl rfl rfl (Has.s rfl) rfl (Has.s rfl) (HasVs.cons (HasG.s rfl) (HasVs.cons (HasG.s rfl) HasVs.nil)))) AllM.nil))))))))))) ?_
          refine Leaf.blockN ?_
          exact Leaf.join (s4, (bif Nat.beq x57 0 then true else s12), (bif Nat.beq x57 1 then true else s13), s14, s15, (bif Nat.beq x58 0 then x56.Byte else s16), (bif Nat.beq x58 1 then x56.Byte else s17)) hm (su (sn (sn (sn (sn (st (st (sf (Sub.cons (Has.at (HasG.cv (HasG.s rfl) (Cv.owM (T := [30]) (te := [31]) rfl rfl))) (Sub.cons (Has.at (HasG.cv (HasG.s rfl) (Cv.owF (T := [32]) (te := []) rfl))) (sf (sf (sf (sf (sf (sf (sf (sf (sf (sn (sn (sn (sn Sub.nil)))))))))))))))))))))))
         ·have hm := cond_f hb hm
          refine CWalk.seq ?_
          refine CWalk.region ?_
          refine mv ?_
          refine wo (Spec.eqlI (Has.s rfl) Has.int) ?_
          refine wo (Spec.assign (Has.s rfl)) ?_
          refine Walk.nil ?_
          refine Leaf.thenN ?_
          refine CWalk.cond rfl (fun hb => ?_) (fun hb => ?_)
          ·have hm := cond_t hb hm
           refine CWalk.region ?_
           refine wo (Spec.buildA (us := []) (ls' := [(false, 1, Fact.rep [] (false : Bool)), (false, 1, Fact.rep [] (false : Bool))]) bd69 rfl BP.nil) ?_
           refine ws (Step.storeObj (ls := [(false, 1, Fact.rep [] (false : Bool)), (false, 1, Fact.rep [] (false : Bool))]) rfl ty69 rfl rfl (Has.s rfl) rfl (HasL.flds (Has.s rfl)) rfl) ?_
           refine wo (Spec.assign Has.int) ?_
           refine Walk.nil ?_
           refine Leaf.blockN ?_
           exact Leaf.join ((0 : Int), s12, s13, false, false, s16, s17) hm (su (sn (sn (sn (sn (st (st (sf (Sub.cons (Has.at (HasG.cv (HasG.s rfl) (Cv.owM (T := [30]) (te := [31]) rfl rfl))) (Sub.cons (Has.at (HasG.cv (HasG.s rfl) (Cv.owF (T := [32]) (te := []) rfl))) (sf (sf (sf (sf (sf (sf (sf (sf (sf (sn (sn (sn (sn Sub.nil)))))))))))))))))))))))
          ·have hm := cond_f hb hm
           refine CWalk.seq ?_
           refine CWalk.region ?_
           refine mv ?_
           refine wo (Spec.gtrI (Has.s rfl) Has.int) ?_
           refine wo (Spec.assign (Has.s rfl)) ?_
           refine Walk.nil ?_
           refine Leaf.thenN ?_
           refine CWalk.cond rfl (fun hb => ?_) (fun hb => ?_)
           ·have hm := cond_t hb hm
            refine CWalk.region ?_
            refine mv ?_
            refine wo (Spec.subI (Has.s rfl) Has.int) ?_
            refine wo (Spec.assign (Has.s rfl)) ?_
            refine Walk.nil ?_
            refine Leaf.blockN ?_
            exact Leaf.join ((wI ((wI (x33.toNat : Int)) - (1 : Int))), s12, s13, s14, s15, s16, s17) hm (su (sn (sn (sn (sn (st (st (sf (Sub.cons (Has.at (HasG.cv (HasG.s rfl) (Cv.owM (T := [30]) (te := [31]) rfl rfl))) (Sub.cons (Has.at (HasG.cv (HasG.s rfl) (Cv.owF (T := [32]) (te := []) rfl))) (sf (sf (sf (sf (sf (sf (sf (sf (sf (sn (sn (sn (sn Sub.nil)))))))))))))))))))))))
           ·have hm := cond_f hb hm
            refine CWalk.skip ?_
            refine Leaf.blockN ?_
            exact Leaf.join (s4, s12, s13, s14, s15, s16, s17) hm (su (sn (sn (sn (sn (st (st (sf (Sub.cons (Has.at (HasG.cv (HasG.s rfl) (Cv.owM (T := [30]) (te := [31]) rfl rfl))) (Sub.cons (Has.at (HasG.cv (HasG.s rfl) (Cv.owF (T := [32]) (te := []) rfl))) (sf (sf (sf (sf (sf (sf (sf (sf (sf (sn (sn (sn (sn Sub.nil)))))))))))))))))))))))
   ·have hm := cond_f hb hm
    refine CWalk.exit ?_
    refine Leaf.thenE ?_
    exact Leaf.brk hm (fun h => nomatch h) rfl (Sub.nil)
  ·intro _
   rcases b59 with b60 | b61
   ·have hm := selim_l hm
    refine Leaf.blockE ?_
    refine Leaf.thenN ?_
    refine CWalk.seq ?_
    refine CWalk.region ?_
    refine wo (Spec.assign Has.bool) ?_
    refine Walk.nil ?_
    refine Leaf.thenN ?_
    refine CWalk.ret ?_
    obtain rfl := Option.some.inj hm
    exact Leaf.retC1 rfl (HasR.cv (HasR.tmp (Has.s rfl)) Cv.fl)
   ·have hm := selim_r hm
    refine Leaf.blockR ?_
    refine Leaf.thenR ?_
    obtain rfl := Option.some.inj hm
    exact Leaf.retC1 rfl (HasR.cv (HasR.tmp (Has.s rfl)) Cv.fl)

end Go.Proofs.Ytjefieckineneaa
