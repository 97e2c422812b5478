/- Printed by a program of ours: models of functions, and that calls do what they say. -/
import Derived.Test.YtjefieckineneaaGm1
namespace Go.Proofs.Ytjefieckineneaa
open Go GL
set_option linter.unusedVariables false

def head_Log_J1 (j1 : Int) (j2 : List (List UInt8)) (j3 : List Bool) (j4 : UInt8) (j5 : Bool) (j6 : UInt32) (j7 : Int) : Option (Head × Int) :=
  some ((Head.mk j1 j2 j3 j4 j5 j6), j7)
def head_Log_J2 (j8 : Int) (j9 : List (List UInt8)) (j10 : List Bool) (j11 : UInt8) (j12 : Bool) (j13 : UInt32) (j14 : Int) : Option (Head × Int) :=
  (head_Log_J1 j8 j9 j10 j11 j12 j13 j14)
def head_Log_J3 (j18 : Int) (j19 : Int) (j20 : List (List UInt8)) (j21 : List Bool) (j22 : UInt8) (j23 : Bool) (j24 : UInt32) : Option (Head × Int) :=
  (head_Log_J2 j19 j20 j21 j22 j23 j24 j18)
def head_Log_J4 (x17 : Head) (j25 : Int) (j26 : UInt8) (j27 : Bool) (j28 : UInt32) : Option (Head × Int) :=
  (bif (j25 == (0 : Int)) then (head_Log_J3 j25 x17.Stripe x17.Blocks x17.Dirty j26 j27 j28) else (head_Log_J3 j25 (0 : Int) ([] : List (List UInt8)) ([] : List Bool) (0 : UInt8) false (0 : UInt32)))
def head_Log_J5 (a2 : UInt32) (x17 : Head) : Option (Head × Int) :=
  (head_Log_J4 x17 (0 : Int) (2 : UInt8) false a2)
/-- freeboard/head.Log -/
def head_Log (a0 : Config) (a1 : Head) (a2 : UInt32) : Option (Head × Int) :=
  Option.bind (head_Check a0 a1) (fun x15 => (bif (x15 != (0 : Int)) then (head_Log_J2 (0 : Int) ([] : List (List UInt8)) ([] : List Bool) (0 : UInt8) false (0 : UInt32) x15) else (bif ((decide ((0 : Int) < (0 : Int))) || (decide ((0 : Int) ≥ (wI (a0.Members - (1 : Int)))))) then (head_Log_J2 (0 : Int) ([] : List (List UInt8)) ([] : List Bool) (0 : UInt8) false (0 : UInt32) (2 : Int)) else Option.bind (head_odd ([] : List UInt8)) (fun x16 => (bif x16 then (head_Log_J2 (0 : Int) ([] : List (List UInt8)) ([] : List Bool) (0 : UInt8) false (0 : UInt32) (3 : Int)) else Option.bind (head_Twin a1) (fun x17 => Option.bind (head_may (1 : Int) x17.Phase) (fun x29 => Option.bind (gO ((!(!x29)) && (((1 : Int) == (0 : Int)))) (slices_Contains_bool_bool x17.Dirty true)) (fun x30 => (bif ((!x29) || (((1 : Int) == (0 : Int)) && (!x30))) then (head_Log_J4 x17 (6 : Int) x17.Phase x17.Deals x17.Seq) else (head_Log_J5 a2 x17))))))))))
set_option maxRecDepth 100000 in
set_option maxHeartbeats 2000000 in
theorem head_Log_c (a0 : Config) (a1 : Head) (a2 : UInt32) {r : Head × Int} (hm : head_Log a0 a1 a2 = some r) : Ctr Try.prog 30 [.rep 0 a0, .rep 0 a1, .rep 0 a2] (.tup2 (.flds [(false, 1, (.fl r.1.Stripe)), (false, 1, (.own 0 (some 1) 31 r.1.Blocks)), (false, 1, (.own 2 none 4 r.1.Dirty)), (false, 1, (.fl r.1.Phase)), (false, 1, (.fl r.1.Deals)), (false, 1, (.fl r.1.Seq))]) (.fl r.2)) [] := by
 refine ctr_of_walk [[81], [82], [83]] 14 Try.func30 rfl rfl rfl rfl (fun w0 om => ?_)
 unfold head_Log at hm
 refine CWalk.sub (G' := [.fact 0 (.rep [] (a0 : Config)), .fact 1 (.rep [0] (a1 : Head)), .fact 2 (.rep [] (a2 : UInt32))]) (Sub.cons (Has.fl (Has.s rfl)) (sn (Sub.cons (Has.fl (Has.s rfl)) Sub.nil))) ?_
 refine CWalk.seq ?_
 refine CWalk.region ?_
 refine ws (Step.boxObj (ls := [(false, 1, Fact.rep [] a0.Id), (false, 1, Fact.rep [] a0.Members), (false, 1, Fact.rep [] a0.Chunk), (false, 1, Fact.rep [] a0.Rows), (false, 1, Fact.rep [] a0.Log), (false, 1, Fact.rep [] a0.Heads)]) 10 rfl rfl rfl rfl (HasL.flds (Has.cv (Has.s rfl) (Cv.trans (Cv.opens (chConfig a0)) (Cv.flds (CvL.cons Cv.fl (CvL.cons Cv.fl (CvL.cons Cv.fl (CvL.cons Cv.fl (CvL.cons Cv.fl (CvL.cons Cv.fl CvL.nil))))))))))) ?_
 refine ws (Step.boxObj (ls := [(false, 1, Fact.rep [] a1.Stripe), (false, 1, Fact.rep [0] a1.Blocks), (false, 1, Fact.rep [0] a1.Dirty), (false, 1, Fact.rep [] a1.Phase), (false, 1, Fact.rep [] a1.Deals), (false, 1, Fact.rep [] a1.Seq)]) 17 rfl rfl rfl rfl (HasL.flds (Has.cv (Has.s rfl) (Cv.trans (Cv.opens (chHead a1)) (Cv.flds (CvL.cons Cv.fl (CvL.cons Cv.refl (CvL.cons Cv.refl (CvL.cons Cv.fl (CvL.cons Cv.fl (CvL.cons Cv.fl CvL.nil))))))))))) ?_
 refine ws (Step.boxObj (ls := [(false, 1, Fact.rep [] (a2 : UInt32))]) 24 rfl rfl rfl rfl (HasL.one (Has.s rfl) rfl (Has.s rfl))) ?_
 refine ws (Step.allocObj (ls := [(false, 1, Fact.rep [] ((0 : Int) : Int)), (false, 1, Fact.nilv), (false, 1, Fact.nilv), (false, 1, Fact.rep [] ((0 : UInt8) : UInt8)), (false, 1, Fact.rep [] (false : Bool)), (false, 1, Fact.rep [] ((0 : UInt32) : UInt32))]) 26 rfl rfl rfl rfl zl28) ?_
 refine wo (Spec.assign Has.int) ?_
 refine Walk.nil ?_
 refine Leaf.thenN ?_
 refine CWalk.seq ?_
 refine CWalk.region ?_
 refine wo (Spec.loadObj (ls := [(false, 1, Fact.rep [] a0.Id), (false, 1, Fact.rep [] a0.Members), (false, 1, Fact.rep [] a0.Chunk), (false, 1, Fact.rep [] a0.Rows), (false, 1, Fact.rep [] a0.Log), (false, 1, Fact.rep [] a0.Heads)]) ty24 rfl rfl (Has.s rfl) rfl (HasGs.cons (HasG.s rfl) (HasGs.cons (HasG.s rfl) (HasGs.cons (HasG.s rfl) (HasGs.cons (HasG.s rfl) (HasGs.cons (HasG.s rfl) (HasGs.cons (HasG.s rfl) HasGs.nil))))))) ?_
 refine wo (Spec.loadObj (ls := [(false, 1, Fact.rep [] a1.Stripe), (false, 1, Fact.rep [0] a1.Blocks), (false, 1, Fact.rep [0] a1.Dirty), (false, 1, Fact.rep [] a1.Phase), (false, 1, Fact.rep [] a1.Deals), (false, 1, Fact.rep [] a1.Seq)]) ty28 rfl rfl (Has.s rfl) rfl (HasGs.cons (HasG.s rfl) (HasGs.cons (HasG.s rfl) (HasGs.cons (HasG.s rfl) (HasGs.cons (HasG.s rfl) (HasGs.cons (HasG.s rfl) (HasGs.cons (HasG.s rfl) HasGs.nil))))))) ?_
 refine wo (Spec.makeFunc (xs := []) (ys := [.tmp 5]) rfl rfl HasF.nil (HasF.cons (Has.s rfl) HasF.nil) (fun _ _ _ => rfl)) ?_
 refine Walk.inline (S := Int × (List (List UInt8)) × (List Bool) × UInt8 × Bool × UInt32 × Int) (fun p : Int × (List (List UInt8)) × (List Bool) × UInt8 × Bool × UInt32 × Int => [.fact 6 (.isv 26), .fact 11 (.tup2 (Fact.flds [(false, 1, Fact.rep [] p.1), (false, 1, Fact.ow [81] [82] 31 (p.2.1 : List (List UInt8))), (false, 1, Fact.ow [83] [] 4 (p.2.2.1 : List Bool)), (false, 1, Fact.rep [] p.2.2.2.1), (false, 1, Fact.rep [] p.2.2.2.2.1), (false, 1, Fact.rep [] p.2.2.2.2.2.1)]) (Fact.rep [] p.2.2.2.2.2.2)), .fact 100027 (.at 27 (.rep [] ((0 : Int) : Int))), .fact 100028 (.at 28 (.nilv)), .fact 100029 (.at 29 (.nilv)), .fact 100030 (.at 30 (.rep [] ((0 : UInt8) : UInt8))), .fact 100031 (.at 31 (.rep [] (false : Bool))), .fact 100032 (.at 32 (.rep [] ((0 : UInt32) : UInt32))), .fact 100026 (.obj 26 [(false, 1), (false, 1), (false, 1), (false, 1), (false, 1), (false, 1)])]) (fun p : Int × (List (List UInt8)) × (List Bool) × UInt8 × Bool × UInt32 × Int => head_Log_J1 p.1 p.2.1 p.2.2.1 p.2.2.2.1 p.2.2.2.2.1 p.2.2.2.2.2.1 p.2.2.2.2.2.2 = some r) (fun u1 => [.fact 100025 (.at 25 (.rep [] (a2 : UInt32))), .fact 100027 (.at 27 (.rep [] ((0 : Int) : Int))), .fact 100028 (.at 28 (.nilv)), .fact 100029 (.at 29 (.nilv)), .fact 100030 (.at 30 (.rep [] ((0 : UInt8) : UInt8))), .fact 100031 (.at 31 (.rep [] (false : Bool))), .fact 100032 (.at 32 (.rep [] ((0 : UInt32) : UInt32))), .fact 902006 (.cst (u1 6) (Fact.isv 26)), .fact 100024 (.obj 24 [(false, 1)]), .fact 100026 (.obj 26 [(false, 1), (false, 1), (false, 1), (false, 1), (false, 1), (false, 1)])]) (FA := [Fact.flds [(false, 1, Fact.rep [] a0.Id), (false, 1, Fact.rep [] a0.Members), (false, 1, Fact.rep [] a0.Chunk), (false, 1, Fact.rep [] a0.Rows), (false, 1, Fact.rep [] a0.Log), (false, 1, Fact.rep [] a0.Heads)], Fact.flds [(false, 1, Fact.rep [] a1.Stripe), (false, 1, Fact.rep [0] a1.Blocks), (false, 1, Fact.rep [0] a1.Dirty), (false, 1, Fact.rep [] a1.Phase), (false, 1, Fact.rep [] a1.Deals), (false, 1, Fact.rep [] a1.Seq)], Fact.rep [] ((1 : Int) : Int), Fact.fnv 68 [] [Fact.isv 24]]) rfl Try.func63 rfl rfl rfl (CallOk.fn en63 (HasF.cons (Has.s rfl) (HasF.cons (Has.s rfl) (HasF.cons Has.int (HasF.cons (Has.s rfl) HasF.nil))))) (fun u1 => (ck (ck (ck (ck (ck (ck (ck (cs 902000 6 (ck (ck Carry.nil))))))))))) (fun u1 => ?_) ?_
 ·refine CWalk.seq ?_
  refine CWalk.region ?_
  refine ws (Step.boxObj (ls := [(false, 1, Fact.rep [] a0.Id), (false, 1, Fact.rep [] a0.Members), (false, 1, Fact.rep [] a0.Chunk), (false, 1, Fact.rep [] a0.Rows), (false, 1, Fact.rep [] a0.Log), (false, 1, Fact.rep [] a0.Heads)]) 33 rfl rfl rfl rfl (HasL.flds (Has.s rfl))) ?_
  refine ws (Step.boxObj (ls := [(false, 1, Fact.rep [] a1.Stripe), (false, 1, Fact.rep [0] a1.Blocks), (false, 1, Fact.rep [0] a1.Dirty), (false, 1, Fact.rep [] a1.Phase), (false, 1, Fact.rep [] a1.Deals), (false, 1, Fact.rep [] a1.Seq)]) 40 rfl rfl rfl rfl (HasL.flds (Has.s rfl))) ?_
  refine ws (Step.boxObj (ls := [(false, 1, Fact.rep [] ((1 : Int) : Int))]) 47 rfl rfl rfl rfl (HasL.one (Has.s rfl) rfl (Has.s rfl))) ?_
  refine ws (Step.boxObj (ls := [(false, 1, Fact.fnv 68 [] [Fact.isv 24])]) 49 rfl rfl rfl rfl (HasL.fnv (Has.s rfl))) ?_
  refine ws (Step.allocObj (ls := [(false, 1, Fact.rep [] ((0 : Int) : Int)), (false, 1, Fact.nilv), (false, 1, Fact.nilv), (false, 1, Fact.rep [] ((0 : UInt8) : UInt8)), (false, 1, Fact.rep [] (false : Bool)), (false, 1, Fact.rep [] ((0 : UInt32) : UInt32))]) 51 rfl rfl rfl rfl zl28) ?_
  refine wo (Spec.assign Has.int) ?_
  refine Walk.nil ?_
  refine Leaf.thenN ?_
  refine CWalk.seq ?_
  refine CWalk.region ?_
  refine wo (Spec.loadObj (ls := [(false, 1, Fact.rep [] a0.Id), (false, 1, Fact.rep [] a0.Members), (false, 1, Fact.rep [] a0.Chunk), (false, 1, Fact.rep [] a0.Rows), (false, 1, Fact.rep [] a0.Log), (false, 1, Fact.rep [] a0.Heads)]) ty24 rfl rfl (Has.s rfl) rfl (HasGs.cons (HasG.s rfl) (HasGs.cons (HasG.s rfl) (HasGs.cons (HasG.s rfl) (HasGs.cons (HasG.s rfl) (HasGs.cons (HasG.s rfl) (HasGs.cons (HasG.s rfl) HasGs.nil))))))) ?_
  refine wo (Spec.loadObj (ls := [(false, 1, Fact.rep [] a1.Stripe), (false, 1, Fact.rep [0] a1.Blocks), (false, 1, Fact.rep [0] a1.Dirty), (false, 1, Fact.rep [] a1.Phase), (false, 1, Fact.rep [] a1.Deals), (false, 1, Fact.rep [] a1.Seq)]) ty28 rfl rfl (Has.s rfl) rfl (HasGs.cons (HasG.s rfl) (HasGs.cons (HasG.s rfl) (HasGs.cons (HasG.s rfl) (HasGs.cons (HasG.s rfl) (HasGs.cons (HasG.s rfl) (HasGs.cons (HasG.s rfl) HasGs.nil))))))) ?_
  refine wo (Spec.makeFunc (xs := []) (ys := [.tmp 6, .tmp 7]) rfl rfl HasF.nil (HasF.cons (Has.s rfl) (HasF.cons (Has.s rfl) HasF.nil)) (fun _ _ _ => rfl)) ?_
  refine Walk.inline (S := Int × (List (List UInt8)) × (List Bool) × UInt8 × Bool × UInt32 × Int) (fun p : Int × (List (List UInt8)) × (List Bool) × UInt8 × Bool × UInt32 × Int => [.fact 8 (.isv 51), .fact 13 (.tup2 (Fact.flds [(false, 1, Fact.rep [] p.1), (false, 1, Fact.ow [81] [82] 31 (p.2.1 : List (List UInt8))), (false, 1, Fact.ow [83] [] 4 (p.2.2.1 : List Bool)), (false, 1, Fact.rep [] p.2.2.2.1), (false, 1, Fact.rep [] p.2.2.2.2.1), (false, 1, Fact.rep [] p.2.2.2.2.2.1)]) (Fact.rep [] p.2.2.2.2.2.2)), .fact 902006 (.cst (u1 6) (Fact.isv 26)), .fact 100052 (.at 52 (.rep [] ((0 : Int) : Int))), .fact 100053 (.at 53 (.nilv)), .fact 100054 (.at 54 (.nilv)), .fact 100055 (.at 55 (.rep [] ((0 : UInt8) : UInt8))), .fact 100056 (.at 56 (.rep [] (false : Bool))), .fact 100057 (.at 57 (.rep [] ((0 : UInt32) : UInt32))), .fact 100027 (.at 27 (.rep [] ((0 : Int) : Int))), .fact 100028 (.at 28 (.nilv)), .fact 100029 (.at 29 (.nilv)), .fact 100030 (.at 30 (.rep [] ((0 : UInt8) : UInt8))), .fact 100031 (.at 31 (.rep [] (false : Bool))), .fact 100032 (.at 32 (.rep [] ((0 : UInt32) : UInt32))), .fact 100051 (.obj 51 [(false, 1), (false, 1), (false, 1), (false, 1), (false, 1), (false, 1)]), .fact 100026 (.obj 26 [(false, 1), (false, 1), (false, 1), (false, 1), (false, 1), (false, 1)])]) (fun p : Int × (List (List UInt8)) × (List Bool) × UInt8 × Bool × UInt32 × Int => head_Log_J2 p.1 p.2.1 p.2.2.1 p.2.2.2.1 p.2.2.2.2.1 p.2.2.2.2.2.1 p.2.2.2.2.2.2 = some r) (fun u2 => [.fact 100025 (.at 25 (.rep [] (a2 : UInt32))), .fact 100027 (.at 27 (.rep [] ((0 : Int) : Int))), .fact 100028 (.at 28 (.nilv)), .fact 100029 (.at 29 (.nilv)), .fact 100030 (.at 30 (.rep [] ((0 : UInt8) : UInt8))), .fact 100031 (.at 31 (.rep [] (false : Bool))), .fact 100032 (.at 32 (.rep [] ((0 : UInt32) : UInt32))), .fact 100048 (.at 48 (.rep [] ((1 : Int) : Int))), .fact 100050 (.at 50 (.fnv 68 [] [Fact.isv 24])), .fact 100052 (.at 52 (.rep [] ((0 : Int) : Int))), .fact 100053 (.at 53 (.nilv)), .fact 100054 (.at 54 (.nilv)), .fact 100055 (.at 55 (.rep [] ((0 : UInt8) : UInt8))), .fact 100056 (.at 56 (.rep [] (false : Bool))), .fact 100057 (.at 57 (.rep [] ((0 : UInt32) : UInt32))), .fact 902006 (.cst (u1 6) (Fact.isv 26)), .fact 904008 (.cst (u2 8) (Fact.isv 51)), .fact 100024 (.obj 24 [(false, 1)]), .fact 100026 (.obj 26 [(false, 1), (false, 1), (false, 1), (false, 1), (false, 1), (false, 1)]), .fact 100047 (.obj 47 [(false, 1)]), .fact 100049 (.obj 49 [(false, 1)]), .fact 100051 (.obj 51 [(false, 1), (false, 1), (false, 1), (false, 1), (false, 1), (false, 1)])]) (FA := [Fact.flds [(false, 1, Fact.rep [] a0.Id), (false, 1, Fact.rep [] a0.Members), (false, 1, Fact.rep [] a0.Chunk), (false, 1, Fact.rep [] a0.Rows), (false, 1, Fact.rep [] a0.Log), (false, 1, Fact.rep [] a0.Heads)], Fact.flds [(false, 1, Fact.rep [] a1.Stripe), (false, 1, Fact.rep [0] a1.Blocks), (false, 1, Fact.rep [0] a1.Dirty), (false, 1, Fact.rep [] a1.Phase), (false, 1, Fact.rep [] a1.Deals), (false, 1, Fact.rep [] a1.Seq)], Fact.rep [] ((0 : Int) : Int), Fact.nilv, Fact.fnv 77 [] [Fact.isv 47, Fact.isv 49]]) rfl Try.func48 rfl rfl rfl (CallOk.fn en48 (HasF.cons (Has.s rfl) (HasF.cons (Has.s rfl) (HasF.cons Has.int (HasF.cons Has.nilv (HasF.cons (Has.s rfl) HasF.nil)))))) (fun u2 => (ck (ck (ck (ck (ck (ck (ck (ck (ck (ck (ck (ck (ck (ck (ck (ck (cs 904000 8 (ck (ck (ck (ck (ck Carry.nil))))))))))))))))))))))) (fun u2 => ?_) ?_
  ·refine CWalk.seq ?_
   refine CWalk.region ?_
   refine ws (Step.boxObj (ls := [(false, 1, Fact.rep [] a0.Id), (false, 1, Fact.rep [] a0.Members), (false, 1, Fact.rep [] a0.Chunk), (false, 1, Fact.rep [] a0.Rows), (false, 1, Fact.rep [] a0.Log), (false, 1, Fact.rep [] a0.Heads)]) 58 rfl rfl rfl rfl (HasL.flds (Has.s rfl))) ?_
   refine ws (Step.boxObj (ls := [(false, 1, Fact.rep [] a1.Stripe), (false, 1, Fact.rep [0] a1.Blocks), (false, 1, Fact.rep [0] a1.Dirty), (false, 1, Fact.rep [] a1.Phase), (false, 1, Fact.rep [] a1.Deals), (false, 1, Fact.rep [] a1.Seq)]) 65 rfl rfl rfl rfl (HasL.flds (Has.s rfl))) ?_
   refine ws (Step.allocObj (ls := [(false, 1, Fact.rep [] ((0 : Int) : Int)), (false, 1, Fact.nilv), (false, 1, Fact.nilv), (false, 1, Fact.rep [] ((0 : UInt8) : UInt8)), (false, 1, Fact.rep [] (false : Bool)), (false, 1, Fact.rep [] ((0 : UInt32) : UInt32))]) 72 rfl rfl rfl rfl zl28) ?_
   refine wo (Spec.assign Has.int) ?_
   refine Walk.nil ?_
   refine Leaf.thenN ?_
   refine CWalk.seq ?_
   refine CWalk.seq ?_
   refine CWalk.region ?_
   refine wo (Spec.loadObj (ls := [(false, 1, Fact.rep [] a0.Id), (false, 1, Fact.rep [] a0.Members), (false, 1, Fact.rep [] a0.Chunk), (false, 1, Fact.rep [] a0.Rows), (false, 1, Fact.rep [] a0.Log), (false, 1, Fact.rep [] a0.Heads)]) ty24 rfl rfl (Has.s rfl) rfl (HasGs.cons (HasG.s rfl) (HasGs.cons (HasG.s rfl) (HasGs.cons (HasG.s rfl) (HasGs.cons (HasG.s rfl) (HasGs.cons (HasG.s rfl) (HasGs.cons (HasG.s rfl) HasGs.nil))))))) ?_
   refine wo (Spec.loadObj (ls := [(false, 1, Fact.rep [] a1.Stripe), (false, 1, Fact.rep [0] a1.Blocks), (false, 1, Fact.rep [0] a1.Dirty), (false, 1, Fact.rep [] a1.Phase), (false, 1, Fact.rep [] a1.Deals), (false, 1, Fact.rep [] a1.Seq)]) ty28 rfl rfl (Has.s rfl) rfl (HasGs.cons (HasG.s rfl) (HasGs.cons (HasG.s rfl) (HasGs.cons (HasG.s rfl) (HasGs.cons (HasG.s rfl) (HasGs.cons (HasG.s rfl) (HasGs.cons (HasG.s rfl) HasGs.nil))))))) ?_
   obtain ⟨x15, hx15, hm⟩ := bind_some hm
   refine wo (f := Fact.rep [] (x15 : Int)) (Spec.callE [0] 79 rfl en24 (head_Check_c a0 a1 hx15) (HasAll.cons (Has.fl (Has.cv (Has.s rfl) (Cv.trans (Cv.flds (CvL.cons Cv.fl (CvL.cons Cv.fl (CvL.cons Cv.fl (CvL.cons Cv.fl (CvL.cons Cv.fl (CvL.cons Cv.fl CvL.nil))))))) (Cv.close (T := []) (chConfig a0))))) (HasAll.cons (Has.m (Has.cv (Has.s rfl) (Cv.trans (Cv.flds (CvL.cons Cv.fl (CvL.cons (Cv.m rfl) (CvL.cons (Cv.m rfl) (CvL.cons Cv.fl (CvL.cons Cv.fl (CvL.cons Cv.fl CvL.nil))))))) (Cv.close (T := [0]) (chHead a1)))) rfl) HasAll.nil))) ?_
   refine wo (Spec.assign (Has.s rfl)) ?_
   refine Walk.nil ?_
   refine Leaf.thenN ?_
   refine CWalk.seq ?_
   refine CWalk.region ?_
   refine mv ?_
   refine wo (Spec.neqI (Has.s rfl) Has.int) ?_
   refine Walk.nil ?_
   refine Leaf.thenN ?_
   refine CWalk.cond rfl (fun hb => ?_) (fun hb => ?_)
   ·have hm := cond_t hb hm
    refine CWalk.ret ?_
    refine Leaf.thenR ?_
    exact Leaf.in2 ((0 : Int), ([] : List (List UInt8)), ([] : List Bool), (0 : UInt8), false, (0 : UInt32), x15) hm rfl rfl (HasR.cv (HasR.obj (ls := [(false, 1, Fact.rep [] ((0 : Int) : Int)), (false, 1, Fact.nilv), (false, 1, Fact.nilv), (false, 1, Fact.rep [] ((0 : UInt8) : UInt8)), (false, 1, Fact.rep [] (false : Bool)), (false, 1, Fact.rep [] ((0 : UInt32) : UInt32))]) ty28 rfl rfl (Has.s rfl) rfl (HasGs.cons (HasG.s rfl) (HasGs.cons (HasG.s rfl) (HasGs.cons (HasG.s rfl) (HasGs.cons (HasG.s rfl) (HasGs.cons (HasG.s rfl) (HasGs.cons (HasG.s rfl) HasGs.nil))))))) (Cv.flds (CvL.cons Cv.fl (CvL.cons (Cv.trans Cv.nilOw (Cv.owM (T := []) (te := []) rfl rfl)) (CvL.cons (Cv.trans Cv.nilOw (Cv.owF (T := []) (te := []) rfl)) (CvL.cons Cv.fl (CvL.cons Cv.fl (CvL.cons Cv.fl CvL.nil)))))))) (HasR.cv (HasR.tmp (Has.s rfl)) Cv.fl) (ls 904008 (Low.res (lc (lf (lg (lg (lf (lf (lf (lf (lg (lg (lf (lf (lf (lo (lo Low.nil)))))))))))))))))
   ·have hm := cond_f hb hm
    refine CWalk.skip ?_
    refine Leaf.thenN ?_
    refine CWalk.seq ?_
    refine CWalk.seq ?_
    refine CWalk.region ?_
    refine mv ?_
    refine wo (Spec.lssI (Has.s rfl) Has.int) ?_
    refine mv ?_
    refine wg rfl rfl (fun hb => Spec.move (Has.s rfl)) ?_
    refine wg rfl rfl (fun hb => Spec.fieldAddrO fd24_1 (Has.cv (Has.s rfl) (Cv.isvP rfl))) ?_
    refine wg rfl rfl (fun hb => Spec.loadF (i := 1) ty3 rfl (Has.u rfl hb) rfl (HasG.s rfl)) ?_
    refine wg rfl rfl (fun hb => Spec.subI (Has.u rfl hb) Has.int) ?_
    refine wg rfl rfl (fun hb => Spec.geqI (Has.u rfl hb) (Has.u rfl hb)) ?_
    refine wo (Spec.or (Has.s rfl) (fun h => Has.u rfl h)) ?_
    refine Walk.nil ?_
    refine Leaf.thenN ?_
    refine CWalk.cond rfl (fun hb => ?_) (fun hb => ?_)
    ·have hm := cond_t hb hm
     refine CWalk.seq ?_
     refine CWalk.region ?_
     refine wo (Spec.loadObj (ls := [(false, 1, Fact.rep [] ((0 : Int) : Int)), (false, 1, Fact.nilv), (false, 1, Fact.nilv), (false, 1, Fact.rep [] ((0 : UInt8) : UInt8)), (false, 1, Fact.rep [] (false : Bool)), (false, 1, Fact.rep [] ((0 : UInt32) : UInt32))]) ty28 rfl rfl (Has.s rfl) rfl (HasGs.cons (HasG.s rfl) (HasGs.cons (HasG.s rfl) (HasGs.cons (HasG.s rfl) (HasGs.cons (HasG.s rfl) (HasGs.cons (HasG.s rfl) (HasGs.cons (HasG.s rfl) HasGs.nil))))))) ?_
     refine ws (Step.storeObj (ls := [(false, 1, Fact.rep [] ((0 : Int) : Int)), (false, 1, Fact.nilv), (false, 1, Fact.nilv), (false, 1, Fact.rep [] ((0 : UInt8) : UInt8)), (false, 1, Fact.rep [] (false : Bool)), (false, 1, Fact.rep [] ((0 : UInt32) : UInt32))]) rfl ty28 rfl rfl (Has.s rfl) rfl (HasL.flds (Has.s rfl)) rfl) ?_
     refine wo (Spec.assign Has.int) ?_
     refine Walk.nil ?_
     refine Leaf.thenN ?_
     refine CWalk.ret ?_
     refine Leaf.thenR ?_
     exact Leaf.in2 ((0 : Int), ([] : List (List UInt8)), ([] : List Bool), (0 : UInt8), false, (0 : UInt32), (2 : Int)) hm rfl rfl (HasR.cv (HasR.obj (ls := [(false, 1, Fact.rep [] ((0 : Int) : Int)), (false, 1, Fact.nilv), (false, 1, Fact.nilv), (false, 1, Fact.rep [] ((0 : UInt8) : UInt8)), (false, 1, Fact.rep [] (false : Bool)), (false, 1, Fact.rep [] ((0 : UInt32) : UInt32))]) ty28 rfl rfl (Has.s rfl) rfl (HasGs.cons (HasG.s rfl) (HasGs.cons (HasG.s rfl) (HasGs.cons (HasG.s rfl) (HasGs.cons (HasG.s rfl) (HasGs.cons (HasG.s rfl) (HasGs.cons (HasG.s rfl) HasGs.nil))))))) (Cv.flds (CvL.cons Cv.fl (CvL.cons (Cv.trans Cv.nilOw (Cv.owM (T := []) (te := []) rfl rfl)) (CvL.cons (Cv.trans Cv.nilOw (Cv.owF (T := []) (te := []) rfl)) (CvL.cons Cv.fl (CvL.cons Cv.fl (CvL.cons Cv.fl CvL.nil)))))))) (HasR.cv (HasR.tmp (Has.s rfl)) Cv.fl) (ls 904008 (Low.res (lc (lf (lg (lg (lf (lf (lf (lf (lg (lg (lf (lf (lf (lo (lo Low.nil)))))))))))))))))
    ·have hm := cond_f hb hm
     refine CWalk.skip ?_
     refine Leaf.thenN ?_
     refine CWalk.seq ?_
     refine CWalk.seq ?_
     refine CWalk.region ?_
     refine mv ?_
     obtain ⟨x16, hx16, hm⟩ := bind_some hm
     refine wo (f := Fact.rep [] (x16 : Bool)) (Spec.callE [] 80 rfl en58 (head_odd_c ([] : List UInt8) hx16) (HasAll.cons (Has.m (Has.cv (Has.s rfl) (Cv.nil (T := []))) rfl) HasAll.nil)) ?_
     refine Walk.nil ?_
     refine Leaf.thenN ?_
     refine CWalk.cond rfl (fun hb => ?_) (fun hb => ?_)
     ·have hm := cond_t hb hm
      refine CWalk.seq ?_
      refine CWalk.region ?_
      refine wo (Spec.loadObj (ls := [(false, 1, Fact.rep [] ((0 : Int) : Int)), (false, 1, Fact.nilv), (false, 1, Fact.nilv), (false, 1, Fact.rep [] ((0 : UInt8) : UInt8)), (false, 1, Fact.rep [] (false : Bool)), (false, 1, Fact.rep [] ((0 : UInt32) : UInt32))]) ty28 rfl rfl (Has.s rfl) rfl (HasGs.cons (HasG.s rfl) (HasGs.cons (HasG.s rfl) (HasGs.cons (HasG.s rfl) (HasGs.cons (HasG.s rfl) (HasGs.cons (HasG.s rfl) (HasGs.cons (HasG.s rfl) HasGs.nil))))))) ?_
      refine ws (Step.storeObj (ls := [(false, 1, Fact.rep [] ((0 : Int) : Int)), (false, 1, Fact.nilv), (false, 1, Fact.nilv), (false, 1, Fact.rep [] ((0 : UInt8) : UInt8)), (false, 1, Fact.rep [] (false : Bool)), (false, 1, Fact.rep [] ((0 : UInt32) : UInt32))]) rfl ty28 rfl rfl (Has.s rfl) rfl (HasL.flds (Has.s rfl)) rfl) ?_
      refine wo (Spec.assign Has.int) ?_
      refine Walk.nil ?_
      refine Leaf.thenN ?_
      refine CWalk.ret ?_
      refine Leaf.thenR ?_
      exact Leaf.in2 ((0 : Int), ([] : List (List UInt8)), ([] : List Bool), (0 : UInt8), false, (0 : UInt32), (3 : Int)) hm rfl rfl (HasR.cv (HasR.obj (ls := [(false, 1, Fact.rep [] ((0 : Int) : Int)), (false, 1, Fact.nilv), (false, 1, Fact.nilv), (false, 1, Fact.rep [] ((0 : UInt8) : UInt8)), (false, 1, Fact.rep [] (false : Bool)), (false, 1, Fact.rep [] ((0 : UInt32) : UInt32))]) ty28 rfl rfl (Has.s rfl) rfl (HasGs.cons (HasG.s rfl) (HasGs.cons (HasG.s rfl) (HasGs.cons (HasG.s rfl) (HasGs.cons (HasG.s rfl) (HasGs.cons (HasG.s rfl) (HasGs.cons (HasG.s rfl) HasGs.nil))))))) (Cv.flds (CvL.cons Cv.fl (CvL.cons (Cv.trans Cv.nilOw (Cv.owM (T := []) (te := []) rfl rfl)) (CvL.cons (Cv.trans Cv.nilOw (Cv.owF (T := []) (te := []) rfl)) (CvL.cons Cv.fl (CvL.cons Cv.fl (CvL.cons Cv.fl CvL.nil)))))))) (HasR.cv (HasR.tmp (Has.s rfl)) Cv.fl) (ls 904008 (Low.res (lc (lf (lg (lg (lf (lf (lf (lf (lg (lg (lf (lf (lf (lo (lo Low.nil)))))))))))))))))
     ·have hm := cond_f hb hm
      refine CWalk.skip ?_
      refine Leaf.thenN ?_
      refine CWalk.seq ?_
      refine CWalk.region ?_
      refine wo (Spec.loadObj (ls := [(false, 1, Fact.rep [] a1.Stripe), (false, 1, Fact.rep [0] a1.Blocks), (false, 1, Fact.rep [0] a1.Dirty), (false, 1, Fact.rep [] a1.Phase), (false, 1, Fact.rep [] a1.Deals), (false, 1, Fact.rep [] a1.Seq)]) ty28 rfl rfl (Has.s rfl) rfl (HasGs.cons (HasG.s rfl) (HasGs.cons (HasG.s rfl) (HasGs.cons (HasG.s rfl) (HasGs.cons (HasG.s rfl) (HasGs.cons (HasG.s rfl) (HasGs.cons (HasG.s rfl) HasGs.nil))))))) ?_
      obtain ⟨x17, hx17, hm⟩ := bind_some hm
      refine wo (f := Fact.flds [(false, 1, Fact.rep [] x17.Stripe), (false, 1, Fact.ow [81] [82] 31 (x17.Blocks : List (List UInt8))), (false, 1, Fact.ow [83] [] 4 (x17.Dirty : List Bool)), (false, 1, Fact.rep [] x17.Phase), (false, 1, Fact.rep [] x17.Deals), (false, 1, Fact.rep [] x17.Seq)]) (Spec.callE [0] 81 rfl en23 (head_Twin_c a1 hx17) (HasAll.cons (Has.m (Has.cv (Has.s rfl) (Cv.trans (Cv.flds (CvL.cons Cv.fl (CvL.cons (Cv.m rfl) (CvL.cons (Cv.m rfl) (CvL.cons Cv.fl (CvL.cons Cv.fl (CvL.cons Cv.fl CvL.nil))))))) (Cv.close (T := [0]) (chHead a1)))) rfl) HasAll.nil)) ?_
      refine ws (Step.allocObj (ls := [(false, 1, Fact.rep [] ((0 : Int) : Int)), (false, 1, Fact.nilv), (false, 1, Fact.nilv), (false, 1, Fact.rep [] ((0 : UInt8) : UInt8)), (false, 1, Fact.rep [] (false : Bool)), (false, 1, Fact.rep [] ((0 : UInt32) : UInt32))]) 84 rfl rfl rfl rfl zl28) ?_
      refine ws (Step.storeObj (ls := [(false, 1, Fact.rep [] x17.Stripe), (false, 1, Fact.ow [81] [82] 31 (x17.Blocks : List (List UInt8))), (false, 1, Fact.ow [83] [] 4 (x17.Dirty : List Bool)), (false, 1, Fact.rep [] x17.Phase), (false, 1, Fact.rep [] x17.Deals), (false, 1, Fact.rep [] x17.Seq)]) rfl ty28 rfl rfl (Has.s rfl) rfl (HasL.flds (Has.s rfl)) rfl) ?_
      refine Walk.nil ?_
      refine Leaf.thenN ?_
      refine CWalk.seqJ (fun p : Int × Int × (List (List UInt8)) × (List Bool) × UInt8 × Bool × UInt32 => [.fact 10 (.isv 72), .fact 11 (.rep [] p.1), .fact 902006 (.cst (u1 6) (Fact.isv 26)), .fact 904008 (.cst (u2 8) (Fact.isv 51)), .fact 100073 (.at 73 (.rep [] p.2.1)), .fact 100074 (.at 74 (.ow [81] [82] 31 (p.2.2.1 : List (List UInt8)))), .fact 100075 (.at 75 (.ow [83] [] 4 (p.2.2.2.1 : List Bool))), .fact 100076 (.at 76 (.rep [] p.2.2.2.2.1)), .fact 100077 (.at 77 (.rep [] p.2.2.2.2.2.1)), .fact 100078 (.at 78 (.rep [] p.2.2.2.2.2.2)), .fact 100027 (.at 27 (.rep [] ((0 : Int) : Int))), .fact 100028 (.at 28 (.nilv)), .fact 100029 (.at 29 (.nilv)), .fact 100030 (.at 30 (.rep [] ((0 : UInt8) : UInt8))), .fact 100031 (.at 31 (.rep [] (false : Bool))), .fact 100032 (.at 32 (.rep [] ((0 : UInt32) : UInt32))), .fact 100052 (.at 52 (.rep [] ((0 : Int) : Int))), .fact 100053 (.at 53 (.nilv)), .fact 100054 (.at 54 (.nilv)), .fact 100055 (.at 55 (.rep [] ((0 : UInt8) : UInt8))), .fact 100056 (.at 56 (.rep [] (false : Bool))), .fact 100057 (.at 57 (.rep [] ((0 : UInt32) : UInt32))), .fact 100072 (.obj 72 [(false, 1), (false, 1), (false, 1), (false, 1), (false, 1), (false, 1)]), .fact 100026 (.obj 26 [(false, 1), (false, 1), (false, 1), (false, 1), (false, 1), (false, 1)]), .fact 100051 (.obj 51 [(false, 1), (false, 1), (false, 1), (false, 1), (false, 1), (false, 1)])]) (fun p : Int × Int × (List (List UInt8)) × (List Bool) × UInt8 × Bool × UInt32 => head_Log_J3 p.1 p.2.1 p.2.2.1 p.2.2.2.1 p.2.2.2.2.1 p.2.2.2.2.2.1 p.2.2.2.2.2.2 = some r) ?_ ?_
      ·rintro ⟨j18, j19, j20, j21, j22, j23, j24⟩ hm
       replace hm : head_Log_J3 j18 j19 j20 j21 j22 j23 j24 = some r := hm
       unfold head_Log_J3 at hm
       show CWalk _ [.fact 10 (.isv 72), .fact 11 (.rep [] (j18 : Int)), .fact 902006 (.cst (u1 6) (Fact.isv 26)), .fact 904008 (.cst (u2 8) (Fact.isv 51)), .fact 100073 (.at 73 (.rep [] (j19 : Int))), .fact 100074 (.at 74 (.ow [81] [82] 31 (j20 : List (List UInt8)))), .fact 100075 (.at 75 (.ow [83] [] 4 (j21 : List Bool))), .fact 100076 (.at 76 (.rep [] (j22 : UInt8))), .fact 100077 (.at 77 (.rep [] (j23 : Bool))), .fact 100078 (.at 78 (.rep [] (j24 : UInt32))), .fact 100027 (.at 27 (.rep [] ((0 : Int) : Int))), .fact 100028 (.at 28 (.nilv)), .fact 100029 (.at 29 (.nilv)), .fact 100030 (.at 30 (.rep [] ((0 : UInt8) : UInt8))), .fact 100031 (.at 31 (.rep [] (false : Bool))), .fact 100032 (.at 32 (.rep [] ((0 : UInt32) : UInt32))), .fact 100052 (.at 52 (.rep [] ((0 : Int) : Int))), .fact 100053 (.at 53 (.nilv)), .fact 100054 (.at 54 (.nilv)), .fact 100055 (.at 55 (.rep [] ((0 : UInt8) : UInt8))), .fact 100056 (.at 56 (.rep [] (false : Bool))), .fact 100057 (.at 57 (.rep [] ((0 : UInt32) : UInt32))), .fact 100072 (.obj 72 [(false, 1), (false, 1), (false, 1), (false, 1), (false, 1), (false, 1)]), .fact 100026 (.obj 26 [(false, 1), (false, 1), (false, 1), (false, 1), (false, 1), (false, 1)]), .fact 100051 (.obj 51 [(false, 1), (false, 1), (false, 1), (false, 1), (false, 1), (false, 1)])] _ _
       refine CWalk.ret ?_
       exact Leaf.in2 (j19, j20, j21, j22, j23, j24, j18) hm rfl rfl (HasR.cv (HasR.obj (ls := [(false, 1, Fact.rep [] (j19 : Int)), (false, 1, Fact.ow [81] [82] 31 (j20 : List (List UInt8))), (false, 1, Fact.ow [83] [] 4 (j21 : List Bool)), (false, 1, Fact.rep [] (j22 : UInt8)), (false, 1, Fact.rep [] (j23 : Bool)), (false, 1, Fact.rep [] (j24 : UInt32))]) ty28 rfl rfl (Has.s rfl) rfl (HasGs.cons (HasG.s rfl) (HasGs.cons (HasG.s rfl) (HasGs.cons (HasG.s rfl) (HasGs.cons (HasG.s rfl) (HasGs.cons (HasG.s rfl) (HasGs.cons (HasG.s rfl) HasGs.nil))))))) (Cv.flds (CvL.cons Cv.fl (CvL.cons (Cv.owM (T := [81]) (te := [82]) rfl rfl) (CvL.cons (Cv.owF (T := [83]) (te := []) rfl) (CvL.cons Cv.fl (CvL.cons Cv.fl (CvL.cons Cv.fl CvL.nil)))))))) (HasR.cv (HasR.tmp (Has.s rfl)) Cv.fl) (ls 904008 (Low.res (lc (lf (lg (lg (lf (lf (lf (lf (lg (lg (lf (lf (lf (lo (lo Low.nil)))))))))))))))))
      ·refine CWalk.seq ?_
       refine CWalk.region ?_
       refine mv ?_
       refine Walk.inline (S := Int × UInt8 × Bool × UInt32) (fun p : Int × UInt8 × Bool × UInt32 => [.fact 10 (.isv 72), .fact 12 (.isv 84), .fact 34 (.rep [] p.1), .fact 902006 (.cst (u1 6) (Fact.isv 26)), .fact 904008 (.cst (u2 8) (Fact.isv 51)), .fact 100073 (.at 73 (.rep [] ((0 : Int) : Int))), .fact 100074 (.at 74 (.nilv)), .fact 100075 (.at 75 (.nilv)), .fact 100076 (.at 76 (.rep [] ((0 : UInt8) : UInt8))), .fact 100077 (.at 77 (.rep [] (false : Bool))), .fact 100078 (.at 78 (.rep [] ((0 : UInt32) : UInt32))), .fact 100085 (.at 85 (.rep [] x17.Stripe)), .fact 100086 (.at 86 (.ow [81] [82] 31 (x17.Blocks : List (List UInt8)))), .fact 100087 (.at 87 (.ow [83] [] 4 (x17.Dirty : List Bool))), .fact 100088 (.at 88 (.rep [] p.2.1)), .fact 100089 (.at 89 (.rep [] p.2.2.1)), .fact 100090 (.at 90 (.rep [] p.2.2.2)), .fact 100027 (.at 27 (.rep [] ((0 : Int) : Int))), .fact 100028 (.at 28 (.nilv)), .fact 100029 (.at 29 (.nilv)), .fact 100030 (.at 30 (.rep [] ((0 : UInt8) : UInt8))), .fact 100031 (.at 31 (.rep [] (false : Bool))), .fact 100032 (.at 32 (.rep [] ((0 : UInt32) : UInt32))), .fact 100052 (.at 52 (.rep [] ((0 : Int) : Int))), .fact 100053 (.at 53 (.nilv)), .fact 100054 (.at 54 (.nilv)), .fact 100055 (.at 55 (.rep [] ((0 : UInt8) : UInt8))), .fact 100056 (.at 56 (.rep [] (false : Bool))), .fact 100057 (.at 57 (.rep [] ((0 : UInt32) : UInt32))), .fact 100072 (.obj 72 [(false, 1), (false, 1), (false, 1), (false, 1), (false, 1), (false, 1)]), .fact 100084 (.obj 84 [(false, 1), (false, 1), (false, 1), (false, 1), (false, 1), (false, 1)]), .fact 100026 (.obj 26 [(false, 1), (false, 1), (false, 1), (false, 1), (false, 1), (false, 1)]), .fact 100051 (.obj 51 [(false, 1), (false, 1), (false, 1), (false, 1), (false, 1), (false, 1)])]) (fun p : Int × UInt8 × Bool × UInt32 => head_Log_J4 x17 p.1 p.2.1 p.2.2.1 p.2.2.2 = some r) (fun u3 => [.fact 100025 (.at 25 (.rep [] (a2 : UInt32))), .fact 100027 (.at 27 (.rep [] ((0 : Int) : Int))), .fact 100028 (.at 28 (.nilv)), .fact 100029 (.at 29 (.nilv)), .fact 100030 (.at 30 (.rep [] ((0 : UInt8) : UInt8))), .fact 100031 (.at 31 (.rep [] (false : Bool))), .fact 100032 (.at 32 (.rep [] ((0 : UInt32) : UInt32))), .fact 100048 (.at 48 (.rep [] ((1 : Int) : Int))), .fact 100050 (.at 50 (.fnv 68 [] [Fact.isv 24])), .fact 100052 (.at 52 (.rep [] ((0 : Int) : Int))), .fact 100053 (.at 53 (.nilv)), .fact 100054 (.at 54 (.nilv)), .fact 100055 (.at 55 (.rep [] ((0 : UInt8) : UInt8))), .fact 100056 (.at 56 (.rep [] (false : Bool))), .fact 100057 (.at 57 (.rep [] ((0 : UInt32) : UInt32))), .fact 100073 (.at 73 (.rep [] ((0 : Int) : Int))), .fact 100074 (.at 74 (.nilv)), .fact 100075 (.at 75 (.nilv)), .fact 100076 (.at 76 (.rep [] ((0 : UInt8) : UInt8))), .fact 100077 (.at 77 (.rep [] (false : Bool))), .fact 100078 (.at 78 (.rep [] ((0 : UInt32) : UInt32))), .fact 100085 (.at 85 (.rep [] x17.Stripe)), .fact 100086 (.at 86 (.ow [81] [82] 31 (x17.Blocks : List (List UInt8)))), .fact 100087 (.at 87 (.ow [83] [] 4 (x17.Dirty : List Bool))), .fact 100088 (.at 88 (.rep [] x17.Phase)), .fact 100089 (.at 89 (.rep [] x17.Deals)), .fact 100090 (.at 90 (.rep [] x17.Seq)), .fact 902006 (.cst (u1 6) (Fact.isv 26)), .fact 904008 (.cst (u2 8) (Fact.isv 51)), .fact 906010 (.cst (u3 10) (Fact.isv 72)), .fact 906012 (.cst (u3 12) (Fact.isv 84)), .fact 100024 (.obj 24 [(false, 1)]), .fact 100026 (.obj 26 [(false, 1), (false, 1), (false, 1), (false, 1), (false, 1), (false, 1)]), .fact 100047 (.obj 47 [(false, 1)]), .fact 100049 (.obj 49 [(false, 1)]), .fact 100051 (.obj 51 [(false, 1), (false, 1), (false, 1), (false, 1), (false, 1), (false, 1)]), .fact 100072 (.obj 72 [(false, 1), (false, 1), (false, 1), (false, 1), (false, 1), (false, 1)]), .fact 100084 (.obj 84 [(false, 1), (false, 1), (false, 1), (false, 1), (false, 1), (false, 1)])]) (FA := [Fact.isv 84, Fact.isv 47, Fact.isv 49]) rfl Try.func77 rfl rfl rfl (CallOk.valE en77 (Has.s rfl) (HasF.cons (Has.s rfl) HasF.nil)) (fun u3 => (ck (ck (ck (ck (ck (ck (ck (ck (ck (ck (ck (ck (ck (ck (ck (ck (ck (ck (ck (ck (ck (ck (ck (ck (ck (ck (ck (ck (ck (cs 906000 10 (cs 906000 12 (ck (ck (ck (ck (ck (ck (ck Carry.nil))))))))))))))))))))))))))))))))))))))) (fun u3 => ?_) ?_
       ·refine CWalk.seq ?_
        refine CWalk.region ?_
        refine wo (Spec.assign Has.int) ?_
        refine Walk.nil ?_
        refine Leaf.thenN ?_
        refine CWalk.seq ?_
        refine CWalk.seq ?_
        obtain ⟨x29, hx29, hm⟩ := bind_some hm
        obtain ⟨x30, hx30, hm⟩ := bind_some hm
        refine CWalk.drawM [[], [], [1], [1, 2], [1, 2, 3], [0, 1, 2, 3, 4], [0, 1, 2, 3, 4, 5], [0, 1, 2, 3, 4, 5, 6], [0, 1, 2, 3, 4, 5, 6, 7], [0, 1, 2, 3, 4, 5, 6, 7, 8], [0, 1, 2, 3, 4, 5, 6, 7, 8, 9], [0, 1, 2, 3, 4, 5, 6, 7, 8, 9, 10], [0, 1, 2, 3, 4, 5, 6, 7, 8, 9, 10, 11], [0, 1, 2, 3, 4, 5, 6, 7, 8, 9, 10, 11, 12], [0, 1, 2, 3, 4, 5, 6, 7, 8, 9, 10, 11, 12, 13], [0, 1, 2, 3, 4, 5, 6, 7, 8, 9, 10, 11, 12, 13, 14], [0, 1, 2, 3, 4, 5, 6, 7, 8, 9, 10, 11, 12, 13, 14, 15], [0, 1, 2, 3, 4, 5, 6, 7, 8, 9, 10, 11, 12, 13, 14, 15, 16], [0, 1, 2, 3, 4, 5, 6, 7, 8, 9, 10, 11, 12, 13, 14, 15, 16, 17]] [[.fact 5 (.rep [] ((1 : Int) : Int))], [.fact 6 (.isv 84)], [.fact 7 (.isv 84)], [.fact 8 (.pto 84 3)], [.fact 9 (.rep [] x17.Phase)], [.fact 10 (.rep [] (x29 : Bool))], [.fact 11 (.rep [] ((!x29) : Bool))], [.fact 12 (.rep [] ((!x29) : Bool))], [.fact 13 (.under ((!x29) = false) (.rep [] ((1 : Int) : Int)))], [.fact 14 (.under ((!x29) = false) (.rep [] (((1 : Int) == (0 : Int)) : Bool)))], [.fact 15 (.under ((!x29) = false) (.rep [] (((1 : Int) == (0 : Int)) : Bool)))], [.fact 16 (.under (((!x29) = false) ∧ (((1 : Int) == (0 : Int)) = true)) (.isv 84))], [.fact 17 (.under (((!x29) = false) ∧ (((1 : Int) == (0 : Int)) = true)) (.isv 84))], [.fact 18 (.under (((!x29) = false) ∧ (((1 : Int) == (0 : Int)) = true)) (.pto 84 2))], [.fact 19 (.under (((!x29) = false) ∧ (((1 : Int) == (0 : Int)) = true)) (.ow [83] [] 4 (x17.Dirty : List Bool)))], [.fact 20 (.under (((!x29) = false) ∧ (((1 : Int) == (0 : Int)) = true)) (.rep [] (x30 : Bool)))], [.fact 21 (.under (((!x29) = false) ∧ (((1 : Int) == (0 : Int)) = true)) (.rep [] ((!x30) : Bool)))], [.fact 22 (.under ((!x29) = false) (.rep [] ((((1 : Int) == (0 : Int)) && (!x30)) : Bool)))], [.fact 23 (.rep [] (((!x29) || (((1 : Int) == (0 : Int)) && (!x30))) : Bool))]] mixed (by kernel_rfl) (ao (so (Spec.loadF (i := 0) ty3 rfl (Has.cv (Has.s rfl) (Cv.isvP rfl)) rfl (HasG.s rfl))) (ao (so (Spec.move (Has.s rfl))) (ao (so (Spec.nilCheckI (Has.s rfl) rfl)) (ao (so (Spec.fieldAddrO fd28_3 (Has.cv (Has.s rfl) (Cv.isvP rfl)))) (ao (so (Spec.loadF (i := 3) ty5 rfl (Has.s rfl) rfl (HasG.s rfl))) (ao (so (Spec.callE [] 91 rfl en78 (head_may_c (1 : Int) x17.Phase hx29) (HasAll.cons (Has.fl (Has.s rfl)) (HasAll.cons (Has.fl (Has.s rfl)) HasAll.nil)))) (ao (so (Spec.not (Has.s rfl))) (ao (so (Spec.move (Has.s rfl))) (ao (StepG.opg rfl rfl rfl (fun hb => Spec.loadF (i := 0) ty3 rfl (Has.cv (Has.s rfl) (Cv.isvP rfl)) rfl (HasG.s rfl))) (ao (StepG.opg rfl rfl rfl (fun hb => Spec.eqlI (Has.u rfl hb) Has.int)) (ao (StepG.opg rfl rfl rfl (fun hb => Spec.move (Has.u rfl hb))) (ao (StepG.opgu rfl rfl rfl (fun hb => Spec.move (Has.s rfl))) (ao (StepG.opgu rfl rfl rfl (fun hb => Spec.nilCheckI (Has.u rfl hb) rfl)) (ao (StepG.opgu rfl rfl rfl (fun hb => Spec.fieldAddrO fd28_2 (Has.cv (Has.u rfl hb) (Cv.isvP rfl)))) (ao (StepG.opgu rfl rfl rfl (fun hb => Spec.loadF (i := 2) ty26 rfl (Has.u rfl hb) rfl (HasG.s rfl))) (ao (StepG.opgu rfl rfl rfl (fun hb => Spec.callE [83] 92 rfl en79 (slices_Contains_bool_bool_c x17.Dirty true (gO_t hx30 (and_t (not_t hb.1) hb.2))) (HasAll.cons (Has.m (Has.cv (Has.u rfl hb) (Cv.trans Cv.owSl (Cv.slRep (T' := [83]) rfl rfl))) rfl) (HasAll.cons (Has.fl Has.bool) HasAll.nil)))) (ao (StepG.opgu rfl rfl rfl (fun hb => Spec.not (Has.u rfl hb))) (ao (StepG.opg rfl rfl rfl (fun hb => Spec.and (Has.u rfl hb) (fun h => Has.u rfl ⟨hb, h⟩))) (ao (so (Spec.or (Has.s rfl) (fun h => Has.u rfl h))) AllM.nil))))))))))))))))))) ?_
        refine Leaf.thenN ?_
        refine CWalk.cond rfl (fun hb => ?_) (fun hb => ?_)
        ·have hm := cond_t hb hm
         refine CWalk.seq ?_
         refine CWalk.region ?_
         refine wo (Spec.assign Has.int) ?_
         refine Walk.nil ?_
         refine Leaf.thenN ?_
         refine CWalk.ret ?_
         refine Leaf.thenR ?_
         exact Leaf.in1 ((6 : Int), x17.Phase, x17.Deals, x17.Seq) hm rfl rfl (HasR.cv (HasR.tmp (Has.s rfl)) Cv.fl) (ls 906010 (ls 906012 (Low.res (lc (lc (lf (lg (lg (lf (lf (lf (lf (Low.keepG (HasG.cv (HasG.s rfl) (Cv.owM (T := [81]) (te := [82]) rfl rfl)) (Low.keepG (HasG.cv (HasG.s rfl) (Cv.owF (T := [83]) (te := []) rfl)) (lf (lf (lf (lf (lg (lg (lf (lf (lf (lf (lg (lg (lf (lf (lf (lo (lo (lo (lo Low.nil)))))))))))))))))))))))))))))))))
        ·have hm := cond_f hb hm
         refine CWalk.skip ?_
         refine Leaf.thenN ?_
         refine CWalk.seq ?_
         refine CWalk.region ?_
         refine wo (Spec.loadF (α := Int) (i := 0) ty96 rfl (Has.cv (Has.s rfl) (Cv.isvP rfl)) rfl (HasG.s rfl)) ?_
         refine mv ?_
         refine Walk.inline (S := Unit) (fun p : Unit => [.fact 26 (.top), .fact 902006 (.cst (u1 6) (Fact.isv 26)), .fact 904008 (.cst (u2 8) (Fact.isv 51)), .fact 906010 (.cst (u3 10) (Fact.isv 72)), .fact 906012 (.cst (u3 12) (Fact.isv 84)), .fact 100027 (.at 27 (.rep [] ((0 : Int) : Int))), .fact 100028 (.at 28 (.nilv)), .fact 100029 (.at 29 (.nilv)), .fact 100030 (.at 30 (.rep [] ((0 : UInt8) : UInt8))), .fact 100031 (.at 31 (.rep [] (false : Bool))), .fact 100032 (.at 32 (.rep [] ((0 : UInt32) : UInt32))), .fact 100052 (.at 52 (.rep [] ((0 : Int) : Int))), .fact 100053 (.at 53 (.nilv)), .fact 100054 (.at 54 (.nilv)), .fact 100055 (.at 55 (.rep [] ((0 : UInt8) : UInt8))), .fact 100056 (.at 56 (.rep [] (false : Bool))), .fact 100057 (.at 57 (.rep [] ((0 : UInt32) : UInt32))), .fact 100073 (.at 73 (.rep [] ((0 : Int) : Int))), .fact 100074 (.at 74 (.nilv)), .fact 100075 (.at 75 (.nilv)), .fact 100076 (.at 76 (.rep [] ((0 : UInt8) : UInt8))), .fact 100077 (.at 77 (.rep [] (false : Bool))), .fact 100078 (.at 78 (.rep [] ((0 : UInt32) : UInt32))), .fact 100085 (.at 85 (.rep [] x17.Stripe)), .fact 100086 (.at 86 (.ow [81] [82] 31 (x17.Blocks : List (List UInt8)))), .fact 100087 (.at 87 (.ow [83] [] 4 (x17.Dirty : List Bool))), .fact 100088 (.at 88 (.rep [] ((2 : UInt8) : UInt8))), .fact 100089 (.at 89 (.rep [] (false : Bool))), .fact 100090 (.at 90 (.rep [] (a2 : UInt32))), .fact 100026 (.obj 26 [(false, 1), (false, 1), (false, 1), (false, 1), (false, 1), (false, 1)]), .fact 100051 (.obj 51 [(false, 1), (false, 1), (false, 1), (false, 1), (false, 1), (false, 1)]), .fact 100072 (.obj 72 [(false, 1), (false, 1), (false, 1), (false, 1), (false, 1), (false, 1)]), .fact 100084 (.obj 84 [(false, 1), (false, 1), (false, 1), (false, 1), (false, 1), (false, 1)])]) (fun p : Unit => head_Log_J5 a2 x17 = some r) (fun u4 => [.fact 100025 (.at 25 (.rep [] (a2 : UInt32))), .fact 100027 (.at 27 (.rep [] ((0 : Int) : Int))), .fact 100028 (.at 28 (.nilv)), .fact 100029 (.at 29 (.nilv)), .fact 100030 (.at 30 (.rep [] ((0 : UInt8) : UInt8))), .fact 100031 (.at 31 (.rep [] (false : Bool))), .fact 100032 (.at 32 (.rep [] ((0 : UInt32) : UInt32))), .fact 100052 (.at 52 (.rep [] ((0 : Int) : Int))), .fact 100053 (.at 53 (.nilv)), .fact 100054 (.at 54 (.nilv)), .fact 100055 (.at 55 (.rep [] ((0 : UInt8) : UInt8))), .fact 100056 (.at 56 (.rep [] (false : Bool))), .fact 100057 (.at 57 (.rep [] ((0 : UInt32) : UInt32))), .fact 100073 (.at 73 (.rep [] ((0 : Int) : Int))), .fact 100074 (.at 74 (.nilv)), .fact 100075 (.at 75 (.nilv)), .fact 100076 (.at 76 (.rep [] ((0 : UInt8) : UInt8))), .fact 100077 (.at 77 (.rep [] (false : Bool))), .fact 100078 (.at 78 (.rep [] ((0 : UInt32) : UInt32))), .fact 100085 (.at 85 (.rep [] x17.Stripe)), .fact 100086 (.at 86 (.ow [81] [82] 31 (x17.Blocks : List (List UInt8)))), .fact 100087 (.at 87 (.ow [83] [] 4 (x17.Dirty : List Bool))), .fact 100088 (.at 88 (.rep [] x17.Phase)), .fact 100089 (.at 89 (.rep [] x17.Deals)), .fact 100090 (.at 90 (.rep [] x17.Seq)), .fact 902006 (.cst (u1 6) (Fact.isv 26)), .fact 904008 (.cst (u2 8) (Fact.isv 51)), .fact 906010 (.cst (u3 10) (Fact.isv 72)), .fact 906012 (.cst (u3 12) (Fact.isv 84)), .fact 100024 (.obj 24 [(false, 1)]), .fact 100026 (.obj 26 [(false, 1), (false, 1), (false, 1), (false, 1), (false, 1), (false, 1)]), .fact 100051 (.obj 51 [(false, 1), (false, 1), (false, 1), (false, 1), (false, 1), (false, 1)]), .fact 100072 (.obj 72 [(false, 1), (false, 1), (false, 1), (false, 1), (false, 1), (false, 1)]), .fact 100084 (.obj 84 [(false, 1), (false, 1), (false, 1), (false, 1), (false, 1), (false, 1)])]) (FA := [Fact.isv 84, Fact.isv 24]) rfl Try.func68 rfl rfl rfl (CallOk.valE en68 (Has.s rfl) (HasF.cons (Has.s rfl) HasF.nil)) (fun u4 => (ck (ck (ck (ck (ck (ck (ck (ck (ck (ck (ck (ck (ck (ck (ck (ck (ck (ck (ck (ck (ck (ck (ck (ck (ck (ck (ck (ck (ck (ck (ck (ck (ck (ck Carry.nil))))))))))))))))))))))))))))))))))) (fun u4 => ?_) ?_
         ·refine CWalk.drawM [[], [], [], [], [0], [0, 4], [0, 4, 5], [0, 1, 3, 4, 5, 6], [0, 1, 3, 4, 5, 6, 7], [0, 1, 3, 4, 5, 6, 7, 8], [0, 1, 2, 3, 4, 5, 6, 7, 8, 9], [0, 1, 2, 3, 4, 5, 6, 7, 8, 9, 10], [0, 1, 2, 3, 4, 5, 6, 7, 8, 9, 10, 11]] [[.fact 3 (.isv 84)], [.fact 4 (.isv 84)], [.fact 5 (.isv 84)], [.fact 6 (.rep [] (a2 : UInt32))], [.fact 7 (.isv 84)], [.fact 8 (.pto 84 3)], [.fact 100088 (.at 88 (.rep [] ((2 : UInt8) : UInt8))), .fact 100084 (.obj 84 [(false, 1), (false, 1), (false, 1), (false, 1), (false, 1), (false, 1)]), .kill 84, .killId 88], [.fact 9 (.isv 84)], [.fact 10 (.pto 84 5)], [.fact 100090 (.at 90 (.rep [] (a2 : UInt32))), .fact 100084 (.obj 84 [(false, 1), (false, 1), (false, 1), (false, 1), (false, 1), (false, 1)]), .kill 84, .killId 90], [.fact 11 (.isv 84)], [.fact 12 (.pto 84 4)], [.fact 100089 (.at 89 (.rep [] (false : Bool))), .fact 100084 (.obj 84 [(false, 1), (false, 1), (false, 1), (false, 1), (false, 1), (false, 1)]), .kill 84, .killId 89]] mixed (by kernel_rfl) (ao (so (Spec.move (Has.s rfl))) (ao (so (Spec.move (Has.s rfl))) (ao (so (Spec.move (Has.s rfl))) (ao (so (Spec.loadF (i := 0) ty22 rfl (Has.cv (Has.s rfl) (Cv.isvP rfl)) rfl (HasG.s rfl))) (ao (so (Spec.nilCheckI (Has.s rfl) rfl)) (ao (so (Spec.fieldAddrO fd28_3 (Has.cv (Has.s rfl) (Cv.isvP rfl)))) (ao (StepG.stE (Step.storeF (i := 3) (f := Fact.rep [] ((2 : UInt8) : UInt8)) rfl ty5 rfl (Has.s rfl) rfl (Has.u8 2 rfl) (Has.u8 2 rfl) rfl)) (ao (so (Spec.nilCheckI (Has.s rfl) rfl)) (ao (so (Spec.fieldAddrO fd28_5 (Has.cv (Has.s rfl) (Cv.isvP rfl)))) (ao (StepG.stE (Step.storeF (i := 5) (f := Fact.rep [] (a2 : UInt32)) rfl ty22 rfl (Has.s rfl) rfl (Has.s rfl) (Has.s rfl) rfl)) (ao (so (Spec.nilCheckI (Has.s rfl) rfl)) (ao (so (Spec.fieldAddrO fd28_4 (Has.cv (Has.s rfl) (Cv.isvP rfl)))) (ao (StepG.stE (Step.storeF (i := 4) (f := Fact.rep [] (false : Bool)) rfl ty4 rfl (Has.s rfl) rfl Has.bool Has.bool rfl)) AllM.nil))))))))))))) ?_
          exact Leaf.inN (Leaf.in0 (f0 := Fact.top) () hm rfl rfl (fun _ _ => trivial) (Low.res (lc (lc (lc (lc (lf (lg (lg (lf (lf (lf (lf (lg (lg (lf (lf (lf (lf (lg (lg (lf (lf (lf (lf (Low.keepG (HasG.cv (HasG.s rfl) (Cv.owM (T := [81]) (te := [82]) rfl rfl)) (Low.keepG (HasG.cv (HasG.s rfl) (Cv.owF (T := [83]) (te := []) rfl)) (lf (lf (lf (lo (lo (lo (lo Low.nil))))))))))))))))))))))))))))))))))
         ·rintro _ hm
          replace hm : head_Log_J5 a2 x17 = some r := hm
          unfold head_Log_J5 at hm
          show Walk _ _ _ [.fact 26 (.top), .fact 902006 (.cst (u1 6) (Fact.isv 26)), .fact 904008 (.cst (u2 8) (Fact.isv 51)), .fact 906010 (.cst (u3 10) (Fact.isv 72)), .fact 906012 (.cst (u3 12) (Fact.isv 84)), .fact 100027 (.at 27 (.rep [] ((0 : Int) : Int))), .fact 100028 (.at 28 (.nilv)), .fact 100029 (.at 29 (.nilv)), .fact 100030 (.at 30 (.rep [] ((0 : UInt8) : UInt8))), .fact 100031 (.at 31 (.rep [] (false : Bool))), .fact 100032 (.at 32 (.rep [] ((0 : UInt32) : UInt32))), .fact 100052 (.at 52 (.rep [] ((0 : Int) : Int))), .fact 100053 (.at 53 (.nilv)), .fact 100054 (.at 54 (.nilv)), .fact 100055 (.at 55 (.rep [] ((0 : UInt8) : UInt8))), .fact 100056 (.at 56 (.rep [] (false : Bool))), .fact 100057 (.at 57 (.rep [] ((0 : UInt32) : UInt32))), .fact 100073 (.at 73 (.rep [] ((0 : Int) : Int))), .fact 100074 (.at 74 (.nilv)), .fact 100075 (.at 75 (.nilv)), .fact 100076 (.at 76 (.rep [] ((0 : UInt8) : UInt8))), .fact 100077 (.at 77 (.rep [] (false : Bool))), .fact 100078 (.at 78 (.rep [] ((0 : UInt32) : UInt32))), .fact 100085 (.at 85 (.rep [] x17.Stripe)), .fact 100086 (.at 86 (.ow [81] [82] 31 (x17.Blocks : List (List UInt8)))), .fact 100087 (.at 87 (.ow [83] [] 4 (x17.Dirty : List Bool))), .fact 100088 (.at 88 (.rep [] ((2 : UInt8) : UInt8))), .fact 100089 (.at 89 (.rep [] (false : Bool))), .fact 100090 (.at 90 (.rep [] (a2 : UInt32))), .fact 100026 (.obj 26 [(false, 1), (false, 1), (false, 1), (false, 1), (false, 1), (false, 1)]), .fact 100051 (.obj 51 [(false, 1), (false, 1), (false, 1), (false, 1), (false, 1), (false, 1)]), .fact 100072 (.obj 72 [(false, 1), (false, 1), (false, 1), (false, 1), (false, 1), (false, 1)]), .fact 100084 (.obj 84 [(false, 1), (false, 1), (false, 1), (false, 1), (false, 1), (false, 1)])] _
          refine Walk.nil ?_
          refine Leaf.thenN ?_
          refine CWalk.seq ?_
          refine CWalk.region ?_
          refine wo (Spec.assign Has.int) ?_
          refine Walk.nil ?_
          refine Leaf.thenN ?_
          refine CWalk.ret ?_
          exact Leaf.in1 ((0 : Int), (2 : UInt8), false, a2) hm rfl rfl (HasR.cv (HasR.tmp (Has.s rfl)) Cv.fl) (ls 906010 (ls 906012 (Low.res (lc (lc (lf (lg (lg (lf (lf (lf (lf (Low.keepG (HasG.cv (HasG.s rfl) (Cv.owM (T := [81]) (te := [82]) rfl rfl)) (Low.keepG (HasG.cv (HasG.s rfl) (Cv.owF (T := [83]) (te := []) rfl)) (lf (lf (lf (lf (lg (lg (lf (lf (lf (lf (lg (lg (lf (lf (lf (lo (lo (lo (lo Low.nil)))))))))))))))))))))))))))))))))
       ·rintro ⟨j25, j26, j27, j28⟩ hm
        replace hm : head_Log_J4 x17 j25 j26 j27 j28 = some r := hm
        unfold head_Log_J4 at hm
        show Walk _ _ _ [.fact 10 (.isv 72), .fact 12 (.isv 84), .fact 34 (.rep [] (j25 : Int)), .fact 902006 (.cst (u1 6) (Fact.isv 26)), .fact 904008 (.cst (u2 8) (Fact.isv 51)), .fact 100073 (.at 73 (.rep [] ((0 : Int) : Int))), .fact 100074 (.at 74 (.nilv)), .fact 100075 (.at 75 (.nilv)), .fact 100076 (.at 76 (.rep [] ((0 : UInt8) : UInt8))), .fact 100077 (.at 77 (.rep [] (false : Bool))), .fact 100078 (.at 78 (.rep [] ((0 : UInt32) : UInt32))), .fact 100085 (.at 85 (.rep [] x17.Stripe)), .fact 100086 (.at 86 (.ow [81] [82] 31 (x17.Blocks : List (List UInt8)))), .fact 100087 (.at 87 (.ow [83] [] 4 (x17.Dirty : List Bool))), .fact 100088 (.at 88 (.rep [] (j26 : UInt8))), .fact 100089 (.at 89 (.rep [] (j27 : Bool))), .fact 100090 (.at 90 (.rep [] (j28 : UInt32))), .fact 100027 (.at 27 (.rep [] ((0 : Int) : Int))), .fact 100028 (.at 28 (.nilv)), .fact 100029 (.at 29 (.nilv)), .fact 100030 (.at 30 (.rep [] ((0 : UInt8) : UInt8))), .fact 100031 (.at 31 (.rep [] (false : Bool))), .fact 100032 (.at 32 (.rep [] ((0 : UInt32) : UInt32))), .fact 100052 (.at 52 (.rep [] ((0 : Int) : Int))), .fact 100053 (.at 53 (.nilv)), .fact 100054 (.at 54 (.nilv)), .fact 100055 (.at 55 (.rep [] ((0 : UInt8) : UInt8))), .fact 100056 (.at 56 (.rep [] (false : Bool))), .fact 100057 (.at 57 (.rep [] ((0 : UInt32) : UInt32))), .fact 100072 (.obj 72 [(false, 1), (false, 1), (false, 1), (false, 1), (false, 1), (false, 1)]), .fact 100084 (.obj 84 [(false, 1), (false, 1), (false, 1), (false, 1), (false, 1), (false, 1)]), .fact 100026 (.obj 26 [(false, 1), (false, 1), (false, 1), (false, 1), (false, 1), (false, 1)]), .fact 100051 (.obj 51 [(false, 1), (false, 1), (false, 1), (false, 1), (false, 1), (false, 1)])] _
        refine wo (Spec.assign (Has.s rfl)) ?_
        refine Walk.nil ?_
        refine Leaf.thenN ?_
        refine CWalk.seq ?_
        refine CWalk.region ?_
        refine mv ?_
        refine wo (Spec.eqlI (Has.s rfl) Has.int) ?_
        refine Walk.nil ?_
        refine Leaf.thenN ?_
        refine CWalk.cond rfl (fun hb => ?_) (fun hb => ?_)
        ·have hm := cond_t hb hm
         refine CWalk.region ?_
         refine wo (Spec.loadObj (ls := [(false, 1, Fact.rep [] x17.Stripe), (false, 1, Fact.ow [81] [82] 31 (x17.Blocks : List (List UInt8))), (false, 1, Fact.ow [83] [] 4 (x17.Dirty : List Bool)), (false, 1, Fact.rep [] (j26 : UInt8)), (false, 1, Fact.rep [] (j27 : Bool)), (false, 1, Fact.rep [] (j28 : UInt32))]) ty28 rfl rfl (Has.s rfl) rfl (HasGs.cons (HasG.s rfl) (HasGs.cons (HasG.s rfl) (HasGs.cons (HasG.s rfl) (HasGs.cons (HasG.s rfl) (HasGs.cons (HasG.s rfl) (HasGs.cons (HasG.s rfl) HasGs.nil))))))) ?_
         refine ws (Step.storeObj (ls := [(false, 1, Fact.rep [] x17.Stripe), (false, 1, Fact.ow [81] [82] 31 (x17.Blocks : List (List UInt8))), (false, 1, Fact.ow [83] [] 4 (x17.Dirty : List Bool)), (false, 1, Fact.rep [] (j26 : UInt8)), (false, 1, Fact.rep [] (j27 : Bool)), (false, 1, Fact.rep [] (j28 : UInt32))]) rfl ty28 rfl rfl (Has.s rfl) rfl (HasL.flds (Has.s rfl)) rfl) ?_
         refine Walk.nil ?_
         exact Leaf.join (j25, x17.Stripe, x17.Blocks, x17.Dirty, j26, j27, j28) hm (sn (st (sc (sc (sf (Sub.cons (Has.at (HasG.cv (HasG.s rfl) (Cv.owM (T := [81]) (te := [82]) rfl rfl))) (Sub.cons (Has.at (HasG.cv (HasG.s rfl) (Cv.owF (T := [83]) (te := []) rfl))) (sf (sf (sf (sf (sg (sg (sf (sf (sf (sf (sg (sg (sf (sf (sf (sn (sn (sn Sub.nil)))))))))))))))))))))))))
        ·have hm := cond_f hb hm
         refine CWalk.skip ?_
         exact Leaf.join (j25, (0 : Int), ([] : List (List UInt8)), ([] : List Bool), (0 : UInt8), false, (0 : UInt32)) hm (sn (st (sc (sc (sf (Sub.cons (Has.at (HasG.cv (HasG.s rfl) (Cv.trans Cv.nilOw (Cv.owM (T := []) (te := []) rfl rfl)))) (Sub.cons (Has.at (HasG.cv (HasG.s rfl) (Cv.trans Cv.nilOw (Cv.owF (T := []) (te := []) rfl)))) (sf (sf (sf (sf (sg (sg (sf (sf (sf (sf (sg (sg (sf (sf (sf (sn (sn (sn Sub.nil)))))))))))))))))))))))))
  ·rintro ⟨j8, j9, j10, j11, j12, j13, j14⟩ hm
   replace hm : head_Log_J2 j8 j9 j10 j11 j12 j13 j14 = some r := hm
   unfold head_Log_J2 at hm
   show Walk _ _ _ [.fact 8 (.isv 51), .fact 13 (.tup2 (Fact.flds [(false, 1, Fact.rep [] (j8 : Int)), (false, 1, Fact.ow [81] [82] 31 (j9 : List (List UInt8))), (false, 1, Fact.ow [83] [] 4 (j10 : List Bool)), (false, 1, Fact.rep [] (j11 : UInt8)), (false, 1, Fact.rep [] (j12 : Bool)), (false, 1, Fact.rep [] (j13 : UInt32))]) (Fact.rep [] (j14 : Int))), .fact 902006 (.cst (u1 6) (Fact.isv 26)), .fact 100052 (.at 52 (.rep [] ((0 : Int) : Int))), .fact 100053 (.at 53 (.nilv)), .fact 100054 (.at 54 (.nilv)), .fact 100055 (.at 55 (.rep [] ((0 : UInt8) : UInt8))), .fact 100056 (.at 56 (.rep [] (false : Bool))), .fact 100057 (.at 57 (.rep [] ((0 : UInt32) : UInt32))), .fact 100027 (.at 27 (.rep [] ((0 : Int) : Int))), .fact 100028 (.at 28 (.nilv)), .fact 100029 (.at 29 (.nilv)), .fact 100030 (.at 30 (.rep [] ((0 : UInt8) : UInt8))), .fact 100031 (.at 31 (.rep [] (false : Bool))), .fact 100032 (.at 32 (.rep [] ((0 : UInt32) : UInt32))), .fact 100051 (.obj 51 [(false, 1), (false, 1), (false, 1), (false, 1), (false, 1), (false, 1)]), .fact 100026 (.obj 26 [(false, 1), (false, 1), (false, 1), (false, 1), (false, 1), (false, 1)])] _
   refine wo (Spec.ext0 (Has.s rfl)) ?_
   refine wo (Spec.ext1 (Has.s rfl)) ?_
   refine ws (Step.storeObj (ls := [(false, 1, Fact.rep [] (j8 : Int)), (false, 1, Fact.ow [81] [82] 31 (j9 : List (List UInt8))), (false, 1, Fact.ow [83] [] 4 (j10 : List Bool)), (false, 1, Fact.rep [] (j11 : UInt8)), (false, 1, Fact.rep [] (j12 : Bool)), (false, 1, Fact.rep [] (j13 : UInt32))]) rfl ty28 rfl rfl (Has.s rfl) rfl (HasL.flds (Has.s rfl)) rfl) ?_
   refine wo (Spec.assign (Has.s rfl)) ?_
   refine Walk.nil ?_
   refine Leaf.thenN ?_
   refine CWalk.ret ?_
   exact Leaf.in2 (j8, j9, j10, j11, j12, j13, j14) hm rfl rfl (HasR.cv (HasR.obj (ls := [(false, 1, Fact.rep [] (j8 : Int)), (false, 1, Fact.ow [81] [82] 31 (j9 : List (List UInt8))), (false, 1, Fact.ow [83] [] 4 (j10 : List Bool)), (false, 1, Fact.rep [] (j11 : UInt8)), (false, 1, Fact.rep [] (j12 : Bool)), (false, 1, Fact.rep [] (j13 : UInt32))]) ty28 rfl rfl (Has.s rfl) rfl (HasGs.cons (HasG.s rfl) (HasGs.cons (HasG.s rfl) (HasGs.cons (HasG.s rfl) (HasGs.cons (HasG.s rfl) (HasGs.cons (HasG.s rfl) (HasGs.cons (HasG.s rfl) HasGs.nil))))))) (Cv.flds (CvL.cons Cv.fl (CvL.cons (Cv.owM (T := [81]) (te := [82]) rfl rfl) (CvL.cons (Cv.owF (T := [83]) (te := []) rfl) (CvL.cons Cv.fl (CvL.cons Cv.fl (CvL.cons Cv.fl CvL.nil)))))))) (HasR.cv (HasR.tmp (Has.s rfl)) Cv.fl) (ls 902006 (Low.res (lf (lg (lg (lf (lf (lf (lo Low.nil)))))))))
 ·rintro ⟨j1, j2, j3, j4, j5, j6, j7⟩ hm
  replace hm : head_Log_J1 j1 j2 j3 j4 j5 j6 j7 = some r := hm
  unfold head_Log_J1 at hm
  show Walk _ _ _ [.fact 6 (.isv 26), .fact 11 (.tup2 (Fact.flds [(false, 1, Fact.rep [] (j1 : Int)), (false, 1, Fact.ow [81] [82] 31 (j2 : List (List UInt8))), (false, 1, Fact.ow [83] [] 4 (j3 : List Bool)), (false, 1, Fact.rep [] (j4 : UInt8)), (false, 1, Fact.rep [] (j5 : Bool)), (false, 1, Fact.rep [] (j6 : UInt32))]) (Fact.rep [] (j7 : Int))), .fact 100027 (.at 27 (.rep [] ((0 : Int) : Int))), .fact 100028 (.at 28 (.nilv)), .fact 100029 (.at 29 (.nilv)), .fact 100030 (.at 30 (.rep [] ((0 : UInt8) : UInt8))), .fact 100031 (.at 31 (.rep [] (false : Bool))), .fact 100032 (.at 32 (.rep [] ((0 : UInt32) : UInt32))), .fact 100026 (.obj 26 [(false, 1), (false, 1), (false, 1), (false, 1), (false, 1), (false, 1)])] _
  refine wo (Spec.ext0 (Has.s rfl)) ?_
  refine wo (Spec.ext1 (Has.s rfl)) ?_
  refine ws (Step.storeObj (ls := [(false, 1, Fact.rep [] (j1 : Int)), (false, 1, Fact.ow [81] [82] 31 (j2 : List (List UInt8))), (false, 1, Fact.ow [83] [] 4 (j3 : List Bool)), (false, 1, Fact.rep [] (j4 : UInt8)), (false, 1, Fact.rep [] (j5 : Bool)), (false, 1, Fact.rep [] (j6 : UInt32))]) rfl ty28 rfl rfl (Has.s rfl) rfl (HasL.flds (Has.s rfl)) rfl) ?_
  refine wo (Spec.assign (Has.s rfl)) ?_
  refine Walk.nil ?_
  refine Leaf.thenN ?_
  refine CWalk.ret ?_
  obtain rfl := Option.some.inj hm
  exact Leaf.retC2 rfl (HasR.cv (HasR.obj (ls := [(false, 1, Fact.rep [] (j1 : Int)), (false, 1, Fact.ow [81] [82] 31 (j2 : List (List UInt8))), (false, 1, Fact.ow [83] [] 4 (j3 : List Bool)), (false, 1, Fact.rep [] (j4 : UInt8)), (false, 1, Fact.rep [] (j5 : Bool)), (false, 1, Fact.rep [] (j6 : UInt32))]) ty28 rfl rfl (Has.s rfl) rfl (HasGs.cons (HasG.s rfl) (HasGs.cons (HasG.s rfl) (HasGs.cons (HasG.s rfl) (HasGs.cons (HasG.s rfl) (HasGs.cons (HasG.s rfl) (HasGs.cons (HasG.s rfl) HasGs.nil))))))) (Cv.flds (CvL.cons Cv.fl (CvL.cons (Cv.owM (T := [81]) (te := [82]) rfl rfl) (CvL.cons (Cv.owF (T := [83]) (te := []) rfl) (CvL.cons Cv.fl (CvL.cons Cv.fl (CvL.cons Cv.fl CvL.nil)))))))) (HasR.cv (HasR.tmp (Has.s rfl)) Cv.fl)

/-- freeboard/freeboardref16.Log -/
def ref16_Log (a0 : Config) (a1 : Head) (a2 : UInt32) : Option (Head × Int) :=
  Option.bind (ref16_from a0 a1 (1 : UInt8) (1 : UInt8) (2 : UInt8)) (fun x1 => (bif (x1.2 != (0 : Int)) then some ((Head.mk (0 : Int) ([] : List (List UInt8)) ([] : List Bool) (0 : UInt8) false (0 : UInt32)), x1.2) else some ((Head.mk x1.1.Stripe x1.1.Blocks x1.1.Dirty x1.1.Phase false a2), (0 : Int))))
set_option maxRecDepth 100000 in
set_option maxHeartbeats 2000000 in
theorem ref16_Log_c (a0 : Config) (a1 : Head) (a2 : UInt32) {r : Head × Int} (hm : ref16_Log a0 a1 a2 = some r) : Ctr Try.prog 31 [.rep 0 a0, .rep 0 a1, .rep 0 a2] (.tup2 (.flds [(false, 1, (.fl r.1.Stripe)), (false, 1, (.own 0 (some 1) 31 r.1.Blocks)), (false, 1, (.own 2 none 4 r.1.Dirty)), (false, 1, (.fl r.1.Phase)), (false, 1, (.fl r.1.Deals)), (false, 1, (.fl r.1.Seq))]) (.fl r.2)) [] := by
 refine ctr_of_walk [[31], [32], [33]] 24 Try.func31 rfl rfl rfl rfl (fun w0 om => ?_)
 unfold ref16_Log at hm
 refine CWalk.sub (G' := [.fact 0 (.rep [] (a0 : Config)), .fact 1 (.rep [0] (a1 : Head)), .fact 2 (.rep [] (a2 : UInt32))]) (Sub.cons (Has.fl (Has.s rfl)) (sn (Sub.cons (Has.fl (Has.s rfl)) Sub.nil))) ?_
 refine CWalk.seq ?_
 refine CWalk.region ?_
 refine ws (Step.boxObj (ls := [(false, 1, Fact.rep [] a0.Id), (false, 1, Fact.rep [] a0.Members), (false, 1, Fact.rep [] a0.Chunk), (false, 1, Fact.rep [] a0.Rows), (false, 1, Fact.rep [] a0.Log), (false, 1, Fact.rep [] a0.Heads)]) 10 rfl rfl rfl rfl (HasL.flds (Has.cv (Has.s rfl) (Cv.trans (Cv.opens (chConfig a0)) (Cv.flds (CvL.cons Cv.fl (CvL.cons Cv.fl (CvL.cons Cv.fl (CvL.cons Cv.fl (CvL.cons Cv.fl (CvL.cons Cv.fl CvL.nil))))))))))) ?_
 refine ws (Step.boxObj (ls := [(false, 1, Fact.rep [] a1.Stripe), (false, 1, Fact.rep [0] a1.Blocks), (false, 1, Fact.rep [0] a1.Dirty), (false, 1, Fact.rep [] a1.Phase), (false, 1, Fact.rep [] a1.Deals), (false, 1, Fact.rep [] a1.Seq)]) 17 rfl rfl rfl rfl (HasL.flds (Has.cv (Has.s rfl) (Cv.trans (Cv.opens (chHead a1)) (Cv.flds (CvL.cons Cv.fl (CvL.cons Cv.refl (CvL.cons Cv.refl (CvL.cons Cv.fl (CvL.cons Cv.fl (CvL.cons Cv.fl CvL.nil))))))))))) ?_
 refine ws (Step.allocObj (ls := [(false, 1, Fact.rep [] ((0 : Int) : Int)), (false, 1, Fact.nilv), (false, 1, Fact.nilv), (false, 1, Fact.rep [] ((0 : UInt8) : UInt8)), (false, 1, Fact.rep [] (false : Bool)), (false, 1, Fact.rep [] ((0 : UInt32) : UInt32))]) 24 rfl rfl rfl rfl zl28) ?_
 refine wo (Spec.assign Has.int) ?_
 refine Walk.nil ?_
 refine Leaf.thenN ?_
 refine CWalk.seq ?_
 refine CWalk.region ?_
 refine wo (Spec.loadObj (ls := [(false, 1, Fact.rep [] a0.Id), (false, 1, Fact.rep [] a0.Members), (false, 1, Fact.rep [] a0.Chunk), (false, 1, Fact.rep [] a0.Rows), (false, 1, Fact.rep [] a0.Log), (false, 1, Fact.rep [] a0.Heads)]) ty24 rfl rfl (Has.s rfl) rfl (HasGs.cons (HasG.s rfl) (HasGs.cons (HasG.s rfl) (HasGs.cons (HasG.s rfl) (HasGs.cons (HasG.s rfl) (HasGs.cons (HasG.s rfl) (HasGs.cons (HasG.s rfl) HasGs.nil))))))) ?_
 refine wo (Spec.loadObj (ls := [(false, 1, Fact.rep [] a1.Stripe), (false, 1, Fact.rep [0] a1.Blocks), (false, 1, Fact.rep [0] a1.Dirty), (false, 1, Fact.rep [] a1.Phase), (false, 1, Fact.rep [] a1.Deals), (false, 1, Fact.rep [] a1.Seq)]) ty28 rfl rfl (Has.s rfl) rfl (HasGs.cons (HasG.s rfl) (HasGs.cons (HasG.s rfl) (HasGs.cons (HasG.s rfl) (HasGs.cons (HasG.s rfl) (HasGs.cons (HasG.s rfl) (HasGs.cons (HasG.s rfl) HasGs.nil))))))) ?_
 obtain ⟨x1, hx1, hm⟩ := bind_some hm
 refine wo (f := Fact.tup2 (Fact.flds [(false, 1, Fact.rep [] x1.1.Stripe), (false, 1, Fact.ow [31] [32] 31 (x1.1.Blocks : List (List UInt8))), (false, 1, Fact.ow [33] [] 4 (x1.1.Dirty : List Bool)), (false, 1, Fact.rep [] x1.1.Phase), (false, 1, Fact.rep [] x1.1.Deals), (false, 1, Fact.rep [] x1.1.Seq)]) (Fact.rep [] x1.2)) (Spec.callE [0] 31 rfl en67 (ref16_from_c a0 a1 (1 : UInt8) (1 : UInt8) (2 : UInt8) hx1) (HasAll.cons (Has.fl (Has.cv (Has.s rfl) (Cv.trans (Cv.flds (CvL.cons Cv.fl (CvL.cons Cv.fl (CvL.cons Cv.fl (CvL.cons Cv.fl (CvL.cons Cv.fl (CvL.cons Cv.fl CvL.nil))))))) (Cv.close (T := []) (chConfig a0))))) (HasAll.cons (Has.m (Has.cv (Has.s rfl) (Cv.trans (Cv.flds (CvL.cons Cv.fl (CvL.cons (Cv.m rfl) (CvL.cons (Cv.m rfl) (CvL.cons Cv.fl (CvL.cons Cv.fl (CvL.cons Cv.fl CvL.nil))))))) (Cv.close (T := [0]) (chHead a1)))) rfl) (HasAll.cons (Has.fl (Has.u8 1 rfl)) (HasAll.cons (Has.fl (Has.u8 1 rfl)) (HasAll.cons (Has.fl (Has.u8 2 rfl)) HasAll.nil)))))) ?_
 refine mv ?_
 refine wo (Spec.ext0 (Has.s rfl)) ?_
 refine wo (Spec.ext1 (Has.s rfl)) ?_
 refine ws (Step.allocObj (ls := [(false, 1, Fact.rep [] ((0 : Int) : Int)), (false, 1, Fact.nilv), (false, 1, Fact.nilv), (false, 1, Fact.rep [] ((0 : UInt8) : UInt8)), (false, 1, Fact.rep [] (false : Bool)), (false, 1, Fact.rep [] ((0 : UInt32) : UInt32))]) 34 rfl rfl rfl rfl zl28) ?_
 refine ws (Step.storeObj (ls := [(false, 1, Fact.rep [] x1.1.Stripe), (false, 1, Fact.ow [31] [32] 31 (x1.1.Blocks : List (List UInt8))), (false, 1, Fact.ow [33] [] 4 (x1.1.Dirty : List Bool)), (false, 1, Fact.rep [] x1.1.Phase), (false, 1, Fact.rep [] x1.1.Deals), (false, 1, Fact.rep [] x1.1.Seq)]) rfl ty28 rfl rfl (Has.s rfl) rfl (HasL.flds (Has.s rfl)) rfl) ?_
 refine wo (Spec.assign (Has.s rfl)) ?_
 refine Walk.nil ?_
 refine Leaf.thenN ?_
 refine CWalk.seq ?_
 refine CWalk.seq ?_
 refine CWalk.region ?_
 refine mv ?_
 refine wo (Spec.neqI (Has.s rfl) Has.int) ?_
 refine Walk.nil ?_
 refine Leaf.thenN ?_
 refine CWalk.cond rfl (fun hb => ?_) (fun hb => ?_)
 ·have hm := cond_t hb hm
  refine CWalk.seq ?_
  refine CWalk.region ?_
  refine wo (Spec.build (us := []) (ls' := [(false, 1, Fact.rep [] ((0 : Int) : Int)), (false, 1, Fact.nilv), (false, 1, Fact.nilv), (false, 1, Fact.rep [] ((0 : UInt8) : UInt8)), (false, 1, Fact.rep [] (false : Bool)), (false, 1, Fact.rep [] ((0 : UInt32) : UInt32))]) bd28 rfl BP.nil) ?_
  refine mv ?_
  refine ws (Step.storeObj (ls := [(false, 1, Fact.rep [] ((0 : Int) : Int)), (false, 1, Fact.nilv), (false, 1, Fact.nilv), (false, 1, Fact.rep [] ((0 : UInt8) : UInt8)), (false, 1, Fact.rep [] (false : Bool)), (false, 1, Fact.rep [] ((0 : UInt32) : UInt32))]) rfl ty28 rfl rfl (Has.s rfl) rfl (HasL.flds (Has.s rfl)) rfl) ?_
  refine wo (Spec.assign (Has.s rfl)) ?_
  refine Walk.nil ?_
  refine Leaf.thenN ?_
  refine CWalk.ret ?_
  refine Leaf.thenR ?_
  obtain rfl := Option.some.inj hm
  exact Leaf.retC2 rfl (HasR.cv (HasR.obj (ls := [(false, 1, Fact.rep [] ((0 : Int) : Int)), (false, 1, Fact.nilv), (false, 1, Fact.nilv), (false, 1, Fact.rep [] ((0 : UInt8) : UInt8)), (false, 1, Fact.rep [] (false : Bool)), (false, 1, Fact.rep [] ((0 : UInt32) : UInt32))]) ty28 rfl rfl (Has.s rfl) rfl (HasGs.cons (HasG.s rfl) (HasGs.cons (HasG.s rfl) (HasGs.cons (HasG.s rfl) (HasGs.cons (HasG.s rfl) (HasGs.cons (HasG.s rfl) (HasGs.cons (HasG.s rfl) HasGs.nil))))))) (Cv.flds (CvL.cons Cv.fl (CvL.cons (Cv.trans Cv.nilOw (Cv.owM (T := []) (te := []) rfl rfl)) (CvL.cons (Cv.trans Cv.nilOw (Cv.owF (T := []) (te := []) rfl)) (CvL.cons Cv.fl (CvL.cons Cv.fl (CvL.cons Cv.fl CvL.nil)))))))) (HasR.cv (HasR.tmp (Has.s rfl)) Cv.fl)
 ·have hm := cond_f hb hm
  refine CWalk.skip ?_
  refine Leaf.thenN ?_
  refine CWalk.seq ?_
  refine CWalk.region ?_
  refine mv ?_
  refine wo (Spec.fieldAddrO fd28_5 (Has.cv (Has.s rfl) (Cv.isvP rfl))) ?_
  refine ws (Step.storeF (i := 5) (f := Fact.rep [] (a2 : UInt32)) rfl ty22 rfl (Has.s rfl) rfl (Has.s rfl) (Has.s rfl) rfl) ?_
  refine Walk.nil ?_
  refine Leaf.thenN ?_
  refine CWalk.seq ?_
  refine CWalk.region ?_
  refine wo (Spec.fieldAddrO fd28_4 (Has.cv (Has.s rfl) (Cv.isvP rfl))) ?_
  refine ws (Step.storeF (i := 4) (f := Fact.rep [] (false : Bool)) rfl ty4 rfl (Has.s rfl) rfl Has.bool Has.bool rfl) ?_
  refine Walk.nil ?_
  refine Leaf.thenN ?_
  refine CWalk.seq ?_
  refine CWalk.region ?_
  refine wo (Spec.loadObj (ls := [(false, 1, Fact.rep [] x1.1.Stripe), (false, 1, Fact.ow [31] [32] 31 (x1.1.Blocks : List (List UInt8))), (false, 1, Fact.ow [33] [] 4 (x1.1.Dirty : List Bool)), (false, 1, Fact.rep [] x1.1.Phase), (false, 1, Fact.rep [] (false : Bool)), (false, 1, Fact.rep [] (a2 : UInt32))]) ty28 rfl rfl (Has.s rfl) rfl (HasGs.cons (HasG.s rfl) (HasGs.cons (HasG.s rfl) (HasGs.cons (HasG.s rfl) (HasGs.cons (HasG.s rfl) (HasGs.cons (HasG.s rfl) (HasGs.cons (HasG.s rfl) HasGs.nil))))))) ?_
  refine ws (Step.storeObj (ls := [(false, 1, Fact.rep [] x1.1.Stripe), (false, 1, Fact.ow [31] [32] 31 (x1.1.Blocks : List (List UInt8))), (false, 1, Fact.ow [33] [] 4 (x1.1.Dirty : List Bool)), (false, 1, Fact.rep [] x1.1.Phase), (false, 1, Fact.rep [] (false : Bool)), (false, 1, Fact.rep [] (a2 : UInt32))]) rfl ty28 rfl rfl (Has.s rfl) rfl (HasL.flds (Has.s rfl)) rfl) ?_
  refine wo (Spec.assign Has.int) ?_
  refine Walk.nil ?_
  refine Leaf.thenN ?_
  refine CWalk.ret ?_
  obtain rfl := Option.some.inj hm
  exact Leaf.retC2 rfl (HasR.cv (HasR.obj (ls := [(false, 1, Fact.rep [] x1.1.Stripe), (false, 1, Fact.ow [31] [32] 31 (x1.1.Blocks : List (List UInt8))), (false, 1, Fact.ow [33] [] 4 (x1.1.Dirty : List Bool)), (false, 1, Fact.rep [] x1.1.Phase), (false, 1, Fact.rep [] (false : Bool)), (false, 1, Fact.rep [] (a2 : UInt32))]) ty28 rfl rfl (Has.s rfl) rfl (HasGs.cons (HasG.s rfl) (HasGs.cons (HasG.s rfl) (HasGs.cons (HasG.s rfl) (HasGs.cons (HasG.s rfl) (HasGs.cons (HasG.s rfl) (HasGs.cons (HasG.s rfl) HasGs.nil))))))) (Cv.flds (CvL.cons Cv.fl (CvL.cons (Cv.owM (T := [31]) (te := [32]) rfl rfl) (CvL.cons (Cv.owF (T := [33]) (te := []) rfl) (CvL.cons Cv.fl (CvL.cons Cv.fl (CvL.cons Cv.fl CvL.nil)))))))) (HasR.cv (HasR.tmp (Has.s rfl)) Cv.fl)

def head_Sure_J1 (j1 : Int) (j2 : List (List UInt8)) (j3 : List Bool) (j4 : UInt8) (j5 : Bool) (j6 : UInt32) (j7 : Int) : Option (Head × Int) :=
  some ((Head.mk j1 j2 j3 j4 j5 j6), j7)
def head_Sure_J2 (j8 : Int) (j9 : List (List UInt8)) (j10 : List Bool) (j11 : UInt8) (j12 : Bool) (j13 : UInt32) (j14 : Int) : Option (Head × Int) :=
  (head_Sure_J1 j8 j9 j10 j11 j12 j13 j14)
def head_Sure_J3 (j18 : Int) (j19 : Int) (j20 : List (List UInt8)) (j21 : List Bool) (j22 : UInt8) (j23 : Bool) (j24 : UInt32) : Option (Head × Int) :=
  (head_Sure_J2 j19 j20 j21 j22 j23 j24 j18)
def head_Sure_J4 (x17 : Head) (j25 : Int) (j26 : UInt8) : Option (Head × Int) :=
  (bif (j25 == (0 : Int)) then (head_Sure_J3 j25 x17.Stripe x17.Blocks x17.Dirty j26 x17.Deals x17.Seq) else (head_Sure_J3 j25 (0 : Int) ([] : List (List UInt8)) ([] : List Bool) (0 : UInt8) false (0 : UInt32)))
def head_Sure_J5 (x17 : Head) : Option (Head × Int) :=
  (head_Sure_J4 x17 (0 : Int) (3 : UInt8))
/-- freeboard/head.Sure -/
def head_Sure (a0 : Config) (a1 : Head) : Option (Head × Int) :=
  Option.bind (head_Check a0 a1) (fun x15 => (bif (x15 != (0 : Int)) then (head_Sure_J2 (0 : Int) ([] : List (List UInt8)) ([] : List Bool) (0 : UInt8) false (0 : UInt32) x15) else (bif ((decide ((0 : Int) < (0 : Int))) || (decide ((0 : Int) ≥ (wI (a0.Members - (1 : Int)))))) then (head_Sure_J2 (0 : Int) ([] : List (List UInt8)) ([] : List Bool) (0 : UInt8) false (0 : UInt32) (2 : Int)) else Option.bind (head_odd ([] : List UInt8)) (fun x16 => (bif x16 then (head_Sure_J2 (0 : Int) ([] : List (List UInt8)) ([] : List Bool) (0 : UInt8) false (0 : UInt32) (3 : Int)) else Option.bind (head_Twin a1) (fun x17 => Option.bind (head_may (2 : Int) x17.Phase) (fun x27 => Option.bind (gO ((!(!x27)) && (((2 : Int) == (0 : Int)))) (slices_Contains_bool_bool x17.Dirty true)) (fun x28 => (bif ((!x27) || (((2 : Int) == (0 : Int)) && (!x28))) then (head_Sure_J4 x17 (6 : Int) x17.Phase) else (head_Sure_J5 x17))))))))))
set_option maxRecDepth 100000 in
set_option maxHeartbeats 2000000 in
theorem head_Sure_c (a0 : Config) (a1 : Head) {r : Head × Int} (hm : head_Sure a0 a1 = some r) : Ctr Try.prog 32 [.rep 0 a0, .rep 0 a1] (.tup2 (.flds [(false, 1, (.fl r.1.Stripe)), (false, 1, (.own 0 (some 1) 31 r.1.Blocks)), (false, 1, (.own 2 none 4 r.1.Dirty)), (false, 1, (.fl r.1.Phase)), (false, 1, (.fl r.1.Deals)), (false, 1, (.fl r.1.Seq))]) (.fl r.2)) [] := by
 refine ctr_of_walk [[79], [80], [81]] 11 Try.func32 rfl rfl rfl rfl (fun w0 om => ?_)
 unfold head_Sure at hm
 refine CWalk.sub (G' := [.fact 0 (.rep [] (a0 : Config)), .fact 1 (.rep [0] (a1 : Head))]) (Sub.cons (Has.fl (Has.s rfl)) (sn Sub.nil)) ?_
 refine CWalk.seq ?_
 refine CWalk.region ?_
 refine ws (Step.boxObj (ls := [(false, 1, Fact.rep [] a0.Id), (false, 1, Fact.rep [] a0.Members), (false, 1, Fact.rep [] a0.Chunk), (false, 1, Fact.rep [] a0.Rows), (false, 1, Fact.rep [] a0.Log), (false, 1, Fact.rep [] a0.Heads)]) 10 rfl rfl rfl rfl (HasL.flds (Has.cv (Has.s rfl) (Cv.trans (Cv.opens (chConfig a0)) (Cv.flds (CvL.cons Cv.fl (CvL.cons Cv.fl (CvL.cons Cv.fl (CvL.cons Cv.fl (CvL.cons Cv.fl (CvL.cons Cv.fl CvL.nil))))))))))) ?_
 refine ws (Step.boxObj (ls := [(false, 1, Fact.rep [] a1.Stripe), (false, 1, Fact.rep [0] a1.Blocks), (false, 1, Fact.rep [0] a1.Dirty), (false, 1, Fact.rep [] a1.Phase), (false, 1, Fact.rep [] a1.Deals), (false, 1, Fact.rep [] a1.Seq)]) 17 rfl rfl rfl rfl (HasL.flds (Has.cv (Has.s rfl) (Cv.trans (Cv.opens (chHead a1)) (Cv.flds (CvL.cons Cv.fl (CvL.cons Cv.refl (CvL.cons Cv.refl (CvL.cons Cv.fl (CvL.cons Cv.fl (CvL.cons Cv.fl CvL.nil))))))))))) ?_
 refine ws (Step.allocObj (ls := [(false, 1, Fact.rep [] ((0 : Int) : Int)), (false, 1, Fact.nilv), (false, 1, Fact.nilv), (false, 1, Fact.rep [] ((0 : UInt8) : UInt8)), (false, 1, Fact.rep [] (false : Bool)), (false, 1, Fact.rep [] ((0 : UInt32) : UInt32))]) 24 rfl rfl rfl rfl zl28) ?_
 refine wo (Spec.assign Has.int) ?_
 refine Walk.nil ?_
 refine Leaf.thenN ?_
 refine CWalk.seq ?_
 refine CWalk.region ?_
 refine wo (Spec.loadObj (ls := [(false, 1, Fact.rep [] a0.Id), (false, 1, Fact.rep [] a0.Members), (false, 1, Fact.rep [] a0.Chunk), (false, 1, Fact.rep [] a0.Rows), (false, 1, Fact.rep [] a0.Log), (false, 1, Fact.rep [] a0.Heads)]) ty24 rfl rfl (Has.s rfl) rfl (HasGs.cons (HasG.s rfl) (HasGs.cons (HasG.s rfl) (HasGs.cons (HasG.s rfl) (HasGs.cons (HasG.s rfl) (HasGs.cons (HasG.s rfl) (HasGs.cons (HasG.s rfl) HasGs.nil))))))) ?_
 refine wo (Spec.loadObj (ls := [(false, 1, Fact.rep [] a1.Stripe), (false, 1, Fact.rep [0] a1.Blocks), (false, 1, Fact.rep [0] a1.Dirty), (false, 1, Fact.rep [] a1.Phase), (false, 1, Fact.rep [] a1.Deals), (false, 1, Fact.rep [] a1.Seq)]) ty28 rfl rfl (Has.s rfl) rfl (HasGs.cons (HasG.s rfl) (HasGs.cons (HasG.s rfl) (HasGs.cons (HasG.s rfl) (HasGs.cons (HasG.s rfl) (HasGs.cons (HasG.s rfl) (HasGs.cons (HasG.s rfl) HasGs.nil))))))) ?_
 refine Walk.inline (S := Int × (List (List UInt8)) × (List Bool) × UInt8 × Bool × UInt32 × Int) (fun p : Int × (List (List UInt8)) × (List Bool) × UInt8 × Bool × UInt32 × Int => [.fact 4 (.isv 24), .fact 8 (.tup2 (Fact.flds [(false, 1, Fact.rep [] p.1), (false, 1, Fact.ow [79] [80] 31 (p.2.1 : List (List UInt8))), (false, 1, Fact.ow [81] [] 4 (p.2.2.1 : List Bool)), (false, 1, Fact.rep [] p.2.2.2.1), (false, 1, Fact.rep [] p.2.2.2.2.1), (false, 1, Fact.rep [] p.2.2.2.2.2.1)]) (Fact.rep [] p.2.2.2.2.2.2)), .fact 100025 (.at 25 (.rep [] ((0 : Int) : Int))), .fact 100026 (.at 26 (.nilv)), .fact 100027 (.at 27 (.nilv)), .fact 100028 (.at 28 (.rep [] ((0 : UInt8) : UInt8))), .fact 100029 (.at 29 (.rep [] (false : Bool))), .fact 100030 (.at 30 (.rep [] ((0 : UInt32) : UInt32))), .fact 100024 (.obj 24 [(false, 1), (false, 1), (false, 1), (false, 1), (false, 1), (false, 1)])]) (fun p : Int × (List (List UInt8)) × (List Bool) × UInt8 × Bool × UInt32 × Int => head_Sure_J1 p.1 p.2.1 p.2.2.1 p.2.2.2.1 p.2.2.2.2.1 p.2.2.2.2.2.1 p.2.2.2.2.2.2 = some r) (fun u1 => [.fact 100025 (.at 25 (.rep [] ((0 : Int) : Int))), .fact 100026 (.at 26 (.nilv)), .fact 100027 (.at 27 (.nilv)), .fact 100028 (.at 28 (.rep [] ((0 : UInt8) : UInt8))), .fact 100029 (.at 29 (.rep [] (false : Bool))), .fact 100030 (.at 30 (.rep [] ((0 : UInt32) : UInt32))), .fact 902004 (.cst (u1 4) (Fact.isv 24)), .fact 100024 (.obj 24 [(false, 1), (false, 1), (false, 1), (false, 1), (false, 1), (false, 1)])]) (FA := [Fact.flds [(false, 1, Fact.rep [] a0.Id), (false, 1, Fact.rep [] a0.Members), (false, 1, Fact.rep [] a0.Chunk), (false, 1, Fact.rep [] a0.Rows), (false, 1, Fact.rep [] a0.Log), (false, 1, Fact.rep [] a0.Heads)], Fact.flds [(false, 1, Fact.rep [] a1.Stripe), (false, 1, Fact.rep [0] a1.Blocks), (false, 1, Fact.rep [0] a1.Dirty), (false, 1, Fact.rep [] a1.Phase), (false, 1, Fact.rep [] a1.Deals), (false, 1, Fact.rep [] a1.Seq)], Fact.rep [] ((2 : Int) : Int), Fact.fnv 69 [] []]) rfl Try.func63 rfl rfl rfl (CallOk.fn en63 (HasF.cons (Has.s rfl) (HasF.cons (Has.s rfl) (HasF.cons Has.int (HasF.cons Has.func HasF.nil))))) (fun u1 => (ck (ck (ck (ck (ck (ck (cs 902000 4 (ck Carry.nil))))))))) (fun u1 => ?_) ?_
 ·refine CWalk.seq ?_
  refine CWalk.region ?_
  refine ws (Step.boxObj (ls := [(false, 1, Fact.rep [] a0.Id), (false, 1, Fact.rep [] a0.Members), (false, 1, Fact.rep [] a0.Chunk), (false, 1, Fact.rep [] a0.Rows), (false, 1, Fact.rep [] a0.Log), (false, 1, Fact.rep [] a0.Heads)]) 31 rfl rfl rfl rfl (HasL.flds (Has.s rfl))) ?_
  refine ws (Step.boxObj (ls := [(false, 1, Fact.rep [] a1.Stripe), (false, 1, Fact.rep [0] a1.Blocks), (false, 1, Fact.rep [0] a1.Dirty), (false, 1, Fact.rep [] a1.Phase), (false, 1, Fact.rep [] a1.Deals), (false, 1, Fact.rep [] a1.Seq)]) 38 rfl rfl rfl rfl (HasL.flds (Has.s rfl))) ?_
  refine ws (Step.boxObj (ls := [(false, 1, Fact.rep [] ((2 : Int) : Int))]) 45 rfl rfl rfl rfl (HasL.one (Has.s rfl) rfl (Has.s rfl))) ?_
  refine ws (Step.boxObj (ls := [(false, 1, Fact.fnv 69 [] [])]) 47 rfl rfl rfl rfl (HasL.fnv (Has.s rfl))) ?_
  refine ws (Step.allocObj (ls := [(false, 1, Fact.rep [] ((0 : Int) : Int)), (false, 1, Fact.nilv), (false, 1, Fact.nilv), (false, 1, Fact.rep [] ((0 : UInt8) : UInt8)), (false, 1, Fact.rep [] (false : Bool)), (false, 1, Fact.rep [] ((0 : UInt32) : UInt32))]) 49 rfl rfl rfl rfl zl28) ?_
  refine wo (Spec.assign Has.int) ?_
  refine Walk.nil ?_
  refine Leaf.thenN ?_
  refine CWalk.seq ?_
  refine CWalk.region ?_
  refine wo (Spec.loadObj (ls := [(false, 1, Fact.rep [] a0.Id), (false, 1, Fact.rep [] a0.Members), (false, 1, Fact.rep [] a0.Chunk), (false, 1, Fact.rep [] a0.Rows), (false, 1, Fact.rep [] a0.Log), (false, 1, Fact.rep [] a0.Heads)]) ty24 rfl rfl (Has.s rfl) rfl (HasGs.cons (HasG.s rfl) (HasGs.cons (HasG.s rfl) (HasGs.cons (HasG.s rfl) (HasGs.cons (HasG.s rfl) (HasGs.cons (HasG.s rfl) (HasGs.cons (HasG.s rfl) HasGs.nil))))))) ?_
  refine wo (Spec.loadObj (ls := [(false, 1, Fact.rep [] a1.Stripe), (false, 1, Fact.rep [0] a1.Blocks), (false, 1, Fact.rep [0] a1.Dirty), (false, 1, Fact.rep [] a1.Phase), (false, 1, Fact.rep [] a1.Deals), (false, 1, Fact.rep [] a1.Seq)]) ty28 rfl rfl (Has.s rfl) rfl (HasGs.cons (HasG.s rfl) (HasGs.cons (HasG.s rfl) (HasGs.cons (HasG.s rfl) (HasGs.cons (HasG.s rfl) (HasGs.cons (HasG.s rfl) (HasGs.cons (HasG.s rfl) HasGs.nil))))))) ?_
  refine wo (Spec.makeFunc (xs := []) (ys := [.tmp 6, .tmp 7]) rfl rfl HasF.nil (HasF.cons (Has.s rfl) (HasF.cons (Has.s rfl) HasF.nil)) (fun _ _ _ => rfl)) ?_
  refine Walk.inline (S := Int × (List (List UInt8)) × (List Bool) × UInt8 × Bool × UInt32 × Int) (fun p : Int × (List (List UInt8)) × (List Bool) × UInt8 × Bool × UInt32 × Int => [.fact 8 (.isv 49), .fact 13 (.tup2 (Fact.flds [(false, 1, Fact.rep [] p.1), (false, 1, Fact.ow [79] [80] 31 (p.2.1 : List (List UInt8))), (false, 1, Fact.ow [81] [] 4 (p.2.2.1 : List Bool)), (false, 1, Fact.rep [] p.2.2.2.1), (false, 1, Fact.rep [] p.2.2.2.2.1), (false, 1, Fact.rep [] p.2.2.2.2.2.1)]) (Fact.rep [] p.2.2.2.2.2.2)), .fact 902004 (.cst (u1 4) (Fact.isv 24)), .fact 100050 (.at 50 (.rep [] ((0 : Int) : Int))), .fact 100051 (.at 51 (.nilv)), .fact 100052 (.at 52 (.nilv)), .fact 100053 (.at 53 (.rep [] ((0 : UInt8) : UInt8))), .fact 100054 (.at 54 (.rep [] (false : Bool))), .fact 100055 (.at 55 (.rep [] ((0 : UInt32) : UInt32))), .fact 100025 (.at 25 (.rep [] ((0 : Int) : Int))), .fact 100026 (.at 26 (.nilv)), .fact 100027 (.at 27 (.nilv)), .fact 100028 (.at 28 (.rep [] ((0 : UInt8) : UInt8))), .fact 100029 (.at 29 (.rep [] (false : Bool))), .fact 100030 (.at 30 (.rep [] ((0 : UInt32) : UInt32))), .fact 100049 (.obj 49 [(false, 1), (false, 1), (false, 1), (false, 1), (false, 1), (false, 1)]), .fact 100024 (.obj 24 [(false, 1), (false, 1), (false, 1), (false, 1), (false, 1), (false, 1)])]) (fun p : Int × (List (List UInt8)) × (List Bool) × UInt8 × Bool × UInt32 × Int => head_Sure_J2 p.1 p.2.1 p.2.2.1 p.2.2.2.1 p.2.2.2.2.1 p.2.2.2.2.2.1 p.2.2.2.2.2.2 = some r) (fun u2 => [.fact 100025 (.at 25 (.rep [] ((0 : Int) : Int))), .fact 100026 (.at 26 (.nilv)), .fact 100027 (.at 27 (.nilv)), .fact 100028 (.at 28 (.rep [] ((0 : UInt8) : UInt8))), .fact 100029 (.at 29 (.rep [] (false : Bool))), .fact 100030 (.at 30 (.rep [] ((0 : UInt32) : UInt32))), .fact 100046 (.at 46 (.rep [] ((2 : Int) : Int))), .fact 100048 (.at 48 (.fnv 69 [] [])), .fact 100050 (.at 50 (.rep [] ((0 : Int) : Int))), .fact 100051 (.at 51 (.nilv)), .fact 100052 (.at 52 (.nilv)), .fact 100053 (.at 53 (.rep [] ((0 : UInt8) : UInt8))), .fact 100054 (.at 54 (.rep [] (false : Bool))), .fact 100055 (.at 55 (.rep [] ((0 : UInt32) : UInt32))), .fact 902004 (.cst (u1 4) (Fact.isv 24)), .fact 904008 (.cst (u2 8) (Fact.isv 49)), .fact 100024 (.obj 24 [(false, 1), (false, 1), (false, 1), (false, 1), (false, 1), (false, 1)]), .fact 100045 (.obj 45 [(false, 1)]), .fact 100047 (.obj 47 [(false, 1)]), .fact 100049 (.obj 49 [(false, 1), (false, 1), (false, 1), (false, 1), (false, 1), (false, 1)])]) (FA := [Fact.flds [(false, 1, Fact.rep [] a0.Id), (false, 1, Fact.rep [] a0.Members), (false, 1, Fact.rep [] a0.Chunk), (false, 1, Fact.rep [] a0.Rows), (false, 1, Fact.rep [] a0.Log), (false, 1, Fact.rep [] a0.Heads)], Fact.flds [(false, 1, Fact.rep [] a1.Stripe), (false, 1, Fact.rep [0] a1.Blocks), (false, 1, Fact.rep [0] a1.Dirty), (false, 1, Fact.rep [] a1.Phase), (false, 1, Fact.rep [] a1.Deals), (false, 1, Fact.rep [] a1.Seq)], Fact.rep [] ((0 : Int) : Int), Fact.nilv, Fact.fnv 77 [] [Fact.isv 45, Fact.isv 47]]) rfl Try.func48 rfl rfl rfl (CallOk.fn en48 (HasF.cons (Has.s rfl) (HasF.cons (Has.s rfl) (HasF.cons Has.int (HasF.cons Has.nilv (HasF.cons (Has.s rfl) HasF.nil)))))) (fun u2 => (ck (ck (ck (ck (ck (ck (ck (ck (ck (ck (ck (ck (ck (ck (ck (cs 904000 8 (ck (ck (ck (ck Carry.nil))))))))))))))))))))) (fun u2 => ?_) ?_
  ·refine CWalk.seq ?_
   refine CWalk.region ?_
   refine ws (Step.boxObj (ls := [(false, 1, Fact.rep [] a0.Id), (false, 1, Fact.rep [] a0.Members), (false, 1, Fact.rep [] a0.Chunk), (false, 1, Fact.rep [] a0.Rows), (false, 1, Fact.rep [] a0.Log), (false, 1, Fact.rep [] a0.Heads)]) 56 rfl rfl rfl rfl (HasL.flds (Has.s rfl))) ?_
   refine ws (Step.boxObj (ls := [(false, 1, Fact.rep [] a1.Stripe), (false, 1, Fact.rep [0] a1.Blocks), (false, 1, Fact.rep [0] a1.Dirty), (false, 1, Fact.rep [] a1.Phase), (false, 1, Fact.rep [] a1.Deals), (false, 1, Fact.rep [] a1.Seq)]) 63 rfl rfl rfl rfl (HasL.flds (Has.s rfl))) ?_
   refine ws (Step.allocObj (ls := [(false, 1, Fact.rep [] ((0 : Int) : Int)), (false, 1, Fact.nilv), (false, 1, Fact.nilv), (false, 1, Fact.rep [] ((0 : UInt8) : UInt8)), (false, 1, Fact.rep [] (false : Bool)), (false, 1, Fact.rep [] ((0 : UInt32) : UInt32))]) 70 rfl rfl rfl rfl zl28) ?_
   refine wo (Spec.assign Has.int) ?_
   refine Walk.nil ?_
   refine Leaf.thenN ?_
   refine CWalk.seq ?_
   refine CWalk.seq ?_
   refine CWalk.region ?_
   refine wo (Spec.loadObj (ls := [(false, 1, Fact.rep [] a0.Id), (false, 1, Fact.rep [] a0.Members), (false, 1, Fact.rep [] a0.Chunk), (false, 1, Fact.rep [] a0.Rows), (false, 1, Fact.rep [] a0.Log), (false, 1, Fact.rep [] a0.Heads)]) ty24 rfl rfl (Has.s rfl) rfl (HasGs.cons (HasG.s rfl) (HasGs.cons (HasG.s rfl) (HasGs.cons (HasG.s rfl) (HasGs.cons (HasG.s rfl) (HasGs.cons (HasG.s rfl) (HasGs.cons (HasG.s rfl) HasGs.nil))))))) ?_
   refine wo (Spec.loadObj (ls := [(false, 1, Fact.rep [] a1.Stripe), (false, 1, Fact.rep [0] a1.Blocks), (false, 1, Fact.rep [0] a1.Dirty), (false, 1, Fact.rep [] a1.Phase), (false, 1, Fact.rep [] a1.Deals), (false, 1, Fact.rep [] a1.Seq)]) ty28 rfl rfl (Has.s rfl) rfl (HasGs.cons (HasG.s rfl) (HasGs.cons (HasG.s rfl) (HasGs.cons (HasG.s rfl) (HasGs.cons (HasG.s rfl) (HasGs.cons (HasG.s rfl) (HasGs.cons (HasG.s rfl) HasGs.nil))))))) ?_
   obtain ⟨x15, hx15, hm⟩ := bind_some hm
   refine wo (f := Fact.rep [] (x15 : Int)) (Spec.callE [0] 77 rfl en24 (head_Check_c a0 a1 hx15) (HasAll.cons (Has.fl (Has.cv (Has.s rfl) (Cv.trans (Cv.flds (CvL.cons Cv.fl (CvL.cons Cv.fl (CvL.cons Cv.fl (CvL.cons Cv.fl (CvL.cons Cv.fl (CvL.cons Cv.fl CvL.nil))))))) (Cv.close (T := []) (chConfig a0))))) (HasAll.cons (Has.m (Has.cv (Has.s rfl) (Cv.trans (Cv.flds (CvL.cons Cv.fl (CvL.cons (Cv.m rfl) (CvL.cons (Cv.m rfl) (CvL.cons Cv.fl (CvL.cons Cv.fl (CvL.cons Cv.fl CvL.nil))))))) (Cv.close (T := [0]) (chHead a1)))) rfl) HasAll.nil))) ?_
   refine wo (Spec.assign (Has.s rfl)) ?_
   refine Walk.nil ?_
   refine Leaf.thenN ?_
   refine CWalk.seq ?_
   refine CWalk.region ?_
   refine mv ?_
   refine wo (Spec.neqI (Has.s rfl) Has.int) ?_
   refine Walk.nil ?_
   refine Leaf.thenN ?_
   refine CWalk.cond rfl (fun hb => ?_) (fun hb => ?_)
   ·have hm := cond_t hb hm
    refine CWalk.ret ?_
    refine Leaf.thenR ?_
    exact Leaf.in2 ((0 : Int), ([] : List (List UInt8)), ([] : List Bool), (0 : UInt8), false, (0 : UInt32), x15) hm rfl rfl (HasR.cv (HasR.obj (ls := [(false, 1, Fact.rep [] ((0 : Int) : Int)), (false, 1, Fact.nilv), (false, 1, Fact.nilv), (false, 1, Fact.rep [] ((0 : UInt8) : UInt8)), (false, 1, Fact.rep [] (false : Bool)), (false, 1, Fact.rep [] ((0 : UInt32) : UInt32))]) ty28 rfl rfl (Has.s rfl) rfl (HasGs.cons (HasG.s rfl) (HasGs.cons (HasG.s rfl) (HasGs.cons (HasG.s rfl) (HasGs.cons (HasG.s rfl) (HasGs.cons (HasG.s rfl) (HasGs.cons (HasG.s rfl) HasGs.nil))))))) (Cv.flds (CvL.cons Cv.fl (CvL.cons (Cv.trans Cv.nilOw (Cv.owM (T := []) (te := []) rfl rfl)) (CvL.cons (Cv.trans Cv.nilOw (Cv.owF (T := []) (te := []) rfl)) (CvL.cons Cv.fl (CvL.cons Cv.fl (CvL.cons Cv.fl CvL.nil)))))))) (HasR.cv (HasR.tmp (Has.s rfl)) Cv.fl) (ls 904008 (Low.res (lc (lf (lg (lg (lf (lf (lf (lf (lg (lg (lf (lf (lf (lo (lo Low.nil)))))))))))))))))
   ·have hm := cond_f hb hm
    refine CWalk.skip ?_
    refine Leaf.thenN ?_
    refine CWalk.seq ?_
    refine CWalk.seq ?_
    refine CWalk.region ?_
    refine mv ?_
    refine wo (Spec.lssI (Has.s rfl) Has.int) ?_
    refine mv ?_
    refine wg rfl rfl (fun hb => Spec.move (Has.s rfl)) ?_
    refine wg rfl rfl (fun hb => Spec.fieldAddrO fd24_1 (Has.cv (Has.s rfl) (Cv.isvP rfl))) ?_
    refine wg rfl rfl (fun hb => Spec.loadF (i := 1) ty3 rfl (Has.u rfl hb) rfl (HasG.s rfl)) ?_
    refine wg rfl rfl (fun hb => Spec.subI (Has.u rfl hb) Has.int) ?_
    refine wg rfl rfl (fun hb => Spec.geqI (Has.u rfl hb) (Has.u rfl hb)) ?_
    refine wo (Spec.or (Has.s rfl) (fun h => Has.u rfl h)) ?_
    refine Walk.nil ?_
    refine Leaf.thenN ?_
    refine CWalk.cond rfl (fun hb => ?_) (fun hb => ?_)
    ·have hm := cond_t hb hm
     refine CWalk.seq ?_
     refine CWalk.region ?_
     refine wo (Spec.loadObj (ls := [(false, 1, Fact.rep [] ((0 : Int) : Int)), (false, 1, Fact.nilv), (false, 1, Fact.nilv), (false, 1, Fact.rep [] ((0 : UInt8) : UInt8)), (false, 1, Fact.rep [] (false : Bool)), (false, 1, Fact.rep [] ((0 : UInt32) : UInt32))]) ty28 rfl rfl (Has.s rfl) rfl (HasGs.cons (HasG.s rfl) (HasGs.cons (HasG.s rfl) (HasGs.cons (HasG.s rfl) (HasGs.cons (HasG.s rfl) (HasGs.cons (HasG.s rfl) (HasGs.cons (HasG.s rfl) HasGs.nil))))))) ?_
     refine ws (Step.storeObj (ls := [(false, 1, Fact.rep [] ((0 : Int) : Int)), (false, 1, Fact.nilv), (false, 1, Fact.nilv), (false, 1, Fact.rep [] ((0 : UInt8) : UInt8)), (false, 1, Fact.rep [] (false : Bool)), (false, 1, Fact.rep [] ((0 : UInt32) : UInt32))]) rfl ty28 rfl rfl (Has.s rfl) rfl (HasL.flds (Has.s rfl)) rfl) ?_
     refine wo (Spec.assign Has.int) ?_
     refine Walk.nil ?_
     refine Leaf.thenN ?_
     refine CWalk.ret ?_
     refine Leaf.thenR ?_
     exact Leaf.in2 ((0 : Int), ([] : List (List UInt8)), ([] : List Bool), (0 : UInt8), false, (0 : UInt32), (2 : Int)) hm rfl rfl (HasR.cv (HasR.obj (ls := [(false, 1, Fact.rep [] ((0 : Int) : Int)), (false, 1, Fact.nilv), (false, 1, Fact.nilv), (false, 1, Fact.rep [] ((0 : UInt8) : UInt8)), (false, 1, Fact.rep [] (false : Bool)), (false, 1, Fact.rep [] ((0 : UInt32) : UInt32))]) ty28 rfl rfl (Has.s rfl) rfl (HasGs.cons (HasG.s rfl) (HasGs.cons (HasG.s rfl) (HasGs.cons (HasG.s rfl) (HasGs.cons (HasG.s rfl) (HasGs.cons (HasG.s rfl) (HasGs.cons (HasG.s rfl) HasGs.nil))))))) (Cv.flds (CvL.cons Cv.fl (CvL.cons (Cv.trans Cv.nilOw (Cv.owM (T := []) (te := []) rfl rfl)) (CvL.cons (Cv.trans Cv.nilOw (Cv.owF (T := []) (te := []) rfl)) (CvL.cons Cv.fl (CvL.cons Cv.fl (CvL.cons Cv.fl CvL.nil)))))))) (HasR.cv (HasR.tmp (Has.s rfl)) Cv.fl) (ls 904008 (Low.res (lc (lf (lg (lg (lf (lf (lf (lf (lg (lg (lf (lf (lf (lo (lo Low.nil)))))))))))))))))
    ·have hm := cond_f hb hm
     refine CWalk.skip ?_
     refine Leaf.thenN ?_
     refine CWalk.seq ?_
     refine CWalk.seq ?_
     refine CWalk.region ?_
     refine mv ?_
     obtain ⟨x16, hx16, hm⟩ := bind_some hm
     refine wo (f := Fact.rep [] (x16 : Bool)) (Spec.callE [] 78 rfl en58 (head_odd_c ([] : List UInt8) hx16) (HasAll.cons (Has.m (Has.cv (Has.s rfl) (Cv.nil (T := []))) rfl) HasAll.nil)) ?_
     refine Walk.nil ?_
     refine Leaf.thenN ?_
     refine CWalk.cond rfl (fun hb => ?_) (fun hb => ?_)
     ·have hm := cond_t hb hm
      refine CWalk.seq ?_
      refine CWalk.region ?_
      refine wo (Spec.loadObj (ls := [(false, 1, Fact.rep [] ((0 : Int) : Int)), (false, 1, Fact.nilv), (false, 1, Fact.nilv), (false, 1, Fact.rep [] ((0 : UInt8) : UInt8)), (false, 1, Fact.rep [] (false : Bool)), (false, 1, Fact.rep [] ((0 : UInt32) : UInt32))]) ty28 rfl rfl (Has.s rfl) rfl (HasGs.cons (HasG.s rfl) (HasGs.cons (HasG.s rfl) (HasGs.cons (HasG.s rfl) (HasGs.cons (HasG.s rfl) (HasGs.cons (HasG.s rfl) (HasGs.cons (HasG.s rfl) HasGs.nil))))))) ?_
      refine ws (Step.storeObj (ls := [(false, 1, Fact.rep [] ((0 : Int) : Int)), (false, 1, Fact.nilv), (false, 1, Fact.nilv), (false, 1, Fact.rep [] ((0 : UInt8) : UInt8)), (false, 1, Fact.rep [] (false : Bool)), (false, 1, Fact.rep [] ((0 : UInt32) : UInt32))]) rfl ty28 rfl rfl (Has.s rfl) rfl (HasL.flds (Has.s rfl)) rfl) ?_
      refine wo (Spec.assign Has.int) ?_
      refine Walk.nil ?_
      refine Leaf.thenN ?_
      refine CWalk.ret ?_
      refine Leaf.thenR ?_
      exact Leaf.in2 ((0 : Int), ([] : List (List UInt8)), ([] : List Bool), (0 : UInt8), false, (0 : UInt32), (3 : Int)) hm rfl rfl (HasR.cv (HasR.obj (ls := [(false, 1, Fact.rep [] ((0 : Int) : Int)), (false, 1, Fact.nilv), (false, 1, Fact.nilv), (false, 1, Fact.rep [] ((0 : UInt8) : UInt8)), (false, 1, Fact.rep [] (false : Bool)), (false, 1, Fact.rep [] ((0 : UInt32) : UInt32))]) ty28 rfl rfl (Has.s rfl) rfl (HasGs.cons (HasG.s rfl) (HasGs.cons (HasG.s rfl) (HasGs.cons (HasG.s rfl) (HasGs.cons (HasG.s rfl) (HasGs.cons (HasG.s rfl) (HasGs.cons (HasG.s rfl) HasGs.nil))))))) (Cv.flds (CvL.cons Cv.fl (CvL.cons (Cv.trans Cv.nilOw (Cv.owM (T := []) (te := []) rfl rfl)) (CvL.cons (Cv.trans Cv.nilOw (Cv.owF (T := []) (te := []) rfl)) (CvL.cons Cv.fl (CvL.cons Cv.fl (CvL.cons Cv.fl CvL.nil)))))))) (HasR.cv (HasR.tmp (Has.s rfl)) Cv.fl) (ls 904008 (Low.res (lc (lf (lg (lg (lf (lf (lf (lf (lg (lg (lf (lf (lf (lo (lo Low.nil)))))))))))))))))
     ·have hm := cond_f hb hm
      refine CWalk.skip ?_
      refine Leaf.thenN ?_
      refine CWalk.seq ?_
      refine CWalk.region ?_
      refine wo (Spec.loadObj (ls := [(false, 1, Fact.rep [] a1.Stripe), (false, 1, Fact.rep [0] a1.Blocks), (false, 1, Fact.rep [0] a1.Dirty), (false, 1, Fact.rep [] a1.Phase), (false, 1, Fact.rep [] a1.Deals), (false, 1, Fact.rep [] a1.Seq)]) ty28 rfl rfl (Has.s rfl) rfl (HasGs.cons (HasG.s rfl) (HasGs.cons (HasG.s rfl) (HasGs.cons (HasG.s rfl) (HasGs.cons (HasG.s rfl) (HasGs.cons (HasG.s rfl) (HasGs.cons (HasG.s rfl) HasGs.nil))))))) ?_
      obtain ⟨x17, hx17, hm⟩ := bind_some hm
      refine wo (f := Fact.flds [(false, 1, Fact.rep [] x17.Stripe), (false, 1, Fact.ow [79] [80] 31 (x17.Blocks : List (List UInt8))), (false, 1, Fact.ow [81] [] 4 (x17.Dirty : List Bool)), (false, 1, Fact.rep [] x17.Phase), (false, 1, Fact.rep [] x17.Deals), (false, 1, Fact.rep [] x17.Seq)]) (Spec.callE [0] 79 rfl en23 (head_Twin_c a1 hx17) (HasAll.cons (Has.m (Has.cv (Has.s rfl) (Cv.trans (Cv.flds (CvL.cons Cv.fl (CvL.cons (Cv.m rfl) (CvL.cons (Cv.m rfl) (CvL.cons Cv.fl (CvL.cons Cv.fl (CvL.cons Cv.fl CvL.nil))))))) (Cv.close (T := [0]) (chHead a1)))) rfl) HasAll.nil)) ?_
      refine ws (Step.allocObj (ls := [(false, 1, Fact.rep [] ((0 : Int) : Int)), (false, 1, Fact.nilv), (false, 1, Fact.nilv), (false, 1, Fact.rep [] ((0 : UInt8) : UInt8)), (false, 1, Fact.rep [] (false : Bool)), (false, 1, Fact.rep [] ((0 : UInt32) : UInt32))]) 82 rfl rfl rfl rfl zl28) ?_
      refine ws (Step.storeObj (ls := [(false, 1, Fact.rep [] x17.Stripe), (false, 1, Fact.ow [79] [80] 31 (x17.Blocks : List (List UInt8))), (false, 1, Fact.ow [81] [] 4 (x17.Dirty : List Bool)), (false, 1, Fact.rep [] x17.Phase), (false, 1, Fact.rep [] x17.Deals), (false, 1, Fact.rep [] x17.Seq)]) rfl ty28 rfl rfl (Has.s rfl) rfl (HasL.flds (Has.s rfl)) rfl) ?_
      refine Walk.nil ?_
      refine Leaf.thenN ?_
      refine CWalk.seqJ (fun p : Int × Int × (List (List UInt8)) × (List Bool) × UInt8 × Bool × UInt32 => [.fact 10 (.isv 70), .fact 11 (.rep [] p.1), .fact 902004 (.cst (u1 4) (Fact.isv 24)), .fact 904008 (.cst (u2 8) (Fact.isv 49)), .fact 100071 (.at 71 (.rep [] p.2.1)), .fact 100072 (.at 72 (.ow [79] [80] 31 (p.2.2.1 : List (List UInt8)))), .fact 100073 (.at 73 (.ow [81] [] 4 (p.2.2.2.1 : List Bool))), .fact 100074 (.at 74 (.rep [] p.2.2.2.2.1)), .fact 100075 (.at 75 (.rep [] p.2.2.2.2.2.1)), .fact 100076 (.at 76 (.rep [] p.2.2.2.2.2.2)), .fact 100025 (.at 25 (.rep [] ((0 : Int) : Int))), .fact 100026 (.at 26 (.nilv)), .fact 100027 (.at 27 (.nilv)), .fact 100028 (.at 28 (.rep [] ((0 : UInt8) : UInt8))), .fact 100029 (.at 29 (.rep [] (false : Bool))), .fact 100030 (.at 30 (.rep [] ((0 : UInt32) : UInt32))), .fact 100050 (.at 50 (.rep [] ((0 : Int) : Int))), .fact 100051 (.at 51 (.nilv)), .fact 100052 (.at 52 (.nilv)), .fact 100053 (.at 53 (.rep [] ((0 : UInt8) : UInt8))), .fact 100054 (.at 54 (.rep [] (false : Bool))), .fact 100055 (.at 55 (.rep [] ((0 : UInt32) : UInt32))), .fact 100070 (.obj 70 [(false, 1), (false, 1), (false, 1), (false, 1), (false, 1), (false, 1)]), .fact 100024 (.obj 24 [(false, 1), (false, 1), (false, 1), (false, 1), (false, 1), (false, 1)]), .fact 100049 (.obj 49 [(false, 1), (false, 1), (false, 1), (false, 1), (false, 1), (false, 1)])]) (fun p : Int × Int × (List (List UInt8)) × (List Bool) × UInt8 × Bool × UInt32 => head_Sure_J3 p.1 p.2.1 p.2.2.1 p.2.2.2.1 p.2.2.2.2.1 p.2.2.2.2.2.1 p.2.2.2.2.2.2 = some r) ?_ ?_
      ·rintro ⟨j18, j19, j20, j21, j22, j23, j24⟩ hm
       replace hm : head_Sure_J3 j18 j19 j20 j21 j22 j23 j24 = some r := hm
       unfold head_Sure_J3 at hm
       show CWalk _ [.fact 10 (.isv 70), .fact 11 (.rep [] (j18 : Int)), .fact 902004 (.cst (u1 4) (Fact.isv 24)), .fact 904008 (.cst (u2 8) (Fact.isv 49)), .fact 100071 (.at 71 (.rep [] (j19 : Int))), .fact 100072 (.at 72 (.ow [79] [80] 31 (j20 : List (List UInt8)))), .fact 100073 (.at 73 (.ow [81] [] 4 (j21 : List Bool))), .fact 100074 (.at 74 (.rep [] (j22 : UInt8))), .fact 100075 (.at 75 (.rep [] (j23 : Bool))), .fact 100076 (.at 76 (.rep [] (j24 : UInt32))), .fact 100025 (.at 25 (.rep [] ((0 : Int) : Int))), .fact 100026 (.at 26 (.nilv)), .fact 100027 (.at 27 (.nilv)), .fact 100028 (.at 28 (.rep [] ((0 : UInt8) : UInt8))), .fact 100029 (.at 29 (.rep [] (false : Bool))), .fact 100030 (.at 30 (.rep [] ((0 : UInt32) : UInt32))), .fact 100050 (.at 50 (.rep [] ((0 : Int) : Int))), .fact 100051 (.at 51 (.nilv)), .fact 100052 (.at 52 (.nilv)), .fact 100053 (.at 53 (.rep [] ((0 : UInt8) : UInt8))), .fact 100054 (.at 54 (.rep [] (false : Bool))), .fact 100055 (.at 55 (.rep [] ((0 : UInt32) : UInt32))), .fact 100070 (.obj 70 [(false, 1), (false, 1), (false, 1), (false, 1), (false, 1), (false, 1)]), .fact 100024 (.obj 24 [(false, 1), (false, 1), (false, 1), (false, 1), (false, 1), (false, 1)]), .fact 100049 (.obj 49 [(false, 1), (false, 1), (false, 1), (false, 1), (false, 1), (false, 1)])] _ _
       refine CWalk.ret ?_
       exact Leaf.in2 (j19, j20, j21, j22, j23, j24, j18) hm rfl rfl (HasR.cv (HasR.obj (ls := [(false, 1, Fact.rep [] (j19 : Int)), (false, 1, Fact.ow [79] [80] 31 (j20 : List (List UInt8))), (false, 1, Fact.ow [81] [] 4 (j21 : List Bool)), (false, 1, Fact.rep [] (j22 : UInt8)), (false, 1, Fact.rep [] (j23 : Bool)), (false, 1, Fact.rep [] (j24 : UInt32))]) ty28 rfl rfl (Has.s rfl) rfl (HasGs.cons (HasG.s rfl) (HasGs.cons (HasG.s rfl) (HasGs.cons (HasG.s rfl) (HasGs.cons (HasG.s rfl) (HasGs.cons (HasG.s rfl) (HasGs.cons (HasG.s rfl) HasGs.nil))))))) (Cv.flds (CvL.cons Cv.fl (CvL.cons (Cv.owM (T := [79]) (te := [80]) rfl rfl) (CvL.cons (Cv.owF (T := [81]) (te := []) rfl) (CvL.cons Cv.fl (CvL.cons Cv.fl (CvL.cons Cv.fl CvL.nil)))))))) (HasR.cv (HasR.tmp (Has.s rfl)) Cv.fl) (ls 904008 (Low.res (lc (lf (lg (lg (lf (lf (lf (lf (lg (lg (lf (lf (lf (lo (lo Low.nil)))))))))))))))))
      ·refine CWalk.seq ?_
       refine CWalk.region ?_
       refine mv ?_
       refine Walk.inline (S := Int × UInt8) (fun p : Int × UInt8 => [.fact 10 (.isv 70), .fact 12 (.isv 82), .fact 34 (.rep [] p.1), .fact 902004 (.cst (u1 4) (Fact.isv 24)), .fact 904008 (.cst (u2 8) (Fact.isv 49)), .fact 100071 (.at 71 (.rep [] ((0 : Int) : Int))), .fact 100072 (.at 72 (.nilv)), .fact 100073 (.at 73 (.nilv)), .fact 100074 (.at 74 (.rep [] ((0 : UInt8) : UInt8))), .fact 100075 (.at 75 (.rep [] (false : Bool))), .fact 100076 (.at 76 (.rep [] ((0 : UInt32) : UInt32))), .fact 100083 (.at 83 (.rep [] x17.Stripe)), .fact 100084 (.at 84 (.ow [79] [80] 31 (x17.Blocks : List (List UInt8)))), .fact 100085 (.at 85 (.ow [81] [] 4 (x17.Dirty : List Bool))), .fact 100086 (.at 86 (.rep [] p.2)), .fact 100087 (.at 87 (.rep [] x17.Deals)), .fact 100088 (.at 88 (.rep [] x17.Seq)), .fact 100025 (.at 25 (.rep [] ((0 : Int) : Int))), .fact 100026 (.at 26 (.nilv)), .fact 100027 (.at 27 (.nilv)), .fact 100028 (.at 28 (.rep [] ((0 : UInt8) : UInt8))), .fact 100029 (.at 29 (.rep [] (false : Bool))), .fact 100030 (.at 30 (.rep [] ((0 : UInt32) : UInt32))), .fact 100050 (.at 50 (.rep [] ((0 : Int) : Int))), .fact 100051 (.at 51 (.nilv)), .fact 100052 (.at 52 (.nilv)), .fact 100053 (.at 53 (.rep [] ((0 : UInt8) : UInt8))), .fact 100054 (.at 54 (.rep [] (false : Bool))), .fact 100055 (.at 55 (.rep [] ((0 : UInt32) : UInt32))), .fact 100070 (.obj 70 [(false, 1), (false, 1), (false, 1), (false, 1), (false, 1), (false, 1)]), .fact 100082 (.obj 82 [(false, 1), (false, 1), (false, 1), (false, 1), (false, 1), (false, 1)]), .fact 100024 (.obj 24 [(false, 1), (false, 1), (false, 1), (false, 1), (false, 1), (false, 1)]), .fact 100049 (.obj 49 [(false, 1), (false, 1), (false, 1), (false, 1), (false, 1), (false, 1)])]) (fun p : Int × UInt8 => head_Sure_J4 x17 p.1 p.2 = some r) (fun u3 => [.fact 100025 (.at 25 (.rep [] ((0 : Int) : Int))), .fact 100026 (.at 26 (.nilv)), .fact 100027 (.at 27 (.nilv)), .fact 100028 (.at 28 (.rep [] ((0 : UInt8) : UInt8))), .fact 100029 (.at 29 (.rep [] (false : Bool))), .fact 100030 (.at 30 (.rep [] ((0 : UInt32) : UInt32))), .fact 100046 (.at 46 (.rep [] ((2 : Int) : Int))), .fact 100048 (.at 48 (.fnv 69 [] [])), .fact 100050 (.at 50 (.rep [] ((0 : Int) : Int))), .fact 100051 (.at 51 (.nilv)), .fact 100052 (.at 52 (.nilv)), .fact 100053 (.at 53 (.rep [] ((0 : UInt8) : UInt8))), .fact 100054 (.at 54 (.rep [] (false : Bool))), .fact 100055 (.at 55 (.rep [] ((0 : UInt32) : UInt32))), .fact 100071 (.at 71 (.rep [] ((0 : Int) : Int))), .fact 100072 (.at 72 (.nilv)), .fact 100073 (.at 73 (.nilv)), .fact 100074 (.at 74 (.rep [] ((0 : UInt8) : UInt8))), .fact 100075 (.at 75 (.rep [] (false : Bool))), .fact 100076 (.at 76 (.rep [] ((0 : UInt32) : UInt32))), .fact 100083 (.at 83 (.rep [] x17.Stripe)), .fact 100084 (.at 84 (.ow [79] [80] 31 (x17.Blocks : List (List UInt8)))), .fact 100085 (.at 85 (.ow [81] [] 4 (x17.Dirty : List Bool))), .fact 100086 (.at 86 (.rep [] x17.Phase)), .fact 100087 (.at 87 (.rep [] x17.Deals)), .fact 100088 (.at 88 (.rep [] x17.Seq)), .fact 902004 (.cst (u1 4) (Fact.isv 24)), .fact 904008 (.cst (u2 8) (Fact.isv 49)), .fact 906010 (.cst (u3 10) (Fact.isv 70)), .fact 906012 (.cst (u3 12) (Fact.isv 82)), .fact 100024 (.obj 24 [(false, 1), (false, 1), (false, 1), (false, 1), (false, 1), (false, 1)]), .fact 100045 (.obj 45 [(false, 1)]), .fact 100047 (.obj 47 [(false, 1)]), .fact 100049 (.obj 49 [(false, 1), (false, 1), (false, 1), (false, 1), (false, 1), (false, 1)]), .fact 100070 (.obj 70 [(false, 1), (false, 1), (false, 1), (false, 1), (false, 1), (false, 1)]), .fact 100082 (.obj 82 [(false, 1), (false, 1), (false, 1), (false, 1), (false, 1), (false, 1)])]) (FA := [Fact.isv 82, Fact.isv 45, Fact.isv 47]) rfl Try.func77 rfl rfl rfl (CallOk.valE en77 (Has.s rfl) (HasF.cons (Has.s rfl) HasF.nil)) (fun u3 => (ck (ck (ck (ck (ck (ck (ck (ck (ck (ck (ck (ck (ck (ck (ck (ck (ck (ck (ck (ck (ck (ck (ck (ck (ck (ck (ck (ck (cs 906000 10 (cs 906000 12 (ck (ck (ck (ck (ck (ck Carry.nil))))))))))))))))))))))))))))))))))))) (fun u3 => ?_) ?_
       ·refine CWalk.seq ?_
        refine CWalk.region ?_
        refine wo (Spec.assign Has.int) ?_
        refine Walk.nil ?_
        refine Leaf.thenN ?_
        refine CWalk.seq ?_
        refine CWalk.seq ?_
        obtain ⟨x27, hx27, hm⟩ := bind_some hm
        obtain ⟨x28, hx28, hm⟩ := bind_some hm
        refine CWalk.drawM [[], [], [1], [1, 2], [1, 2, 3], [0, 1, 2, 3, 4], [0, 1, 2, 3, 4, 5], [0, 1, 2, 3, 4, 5, 6], [0, 1, 2, 3, 4, 5, 6, 7], [0, 1, 2, 3, 4, 5, 6, 7, 8], [0, 1, 2, 3, 4, 5, 6, 7, 8, 9], [0, 1, 2, 3, 4, 5, 6, 7, 8, 9, 10], [0, 1, 2, 3, 4, 5, 6, 7, 8, 9, 10, 11], [0, 1, 2, 3, 4, 5, 6, 7, 8, 9, 10, 11, 12], [0, 1, 2, 3, 4, 5, 6, 7, 8, 9, 10, 11, 12, 13], [0, 1, 2, 3, 4, 5, 6, 7, 8, 9, 10, 11, 12, 13, 14], [0, 1, 2, 3, 4, 5, 6, 7, 8, 9, 10, 11, 12, 13, 14, 15], [0, 1, 2, 3, 4, 5, 6, 7, 8, 9, 10, 11, 12, 13, 14, 15, 16], [0, 1, 2, 3, 4, 5, 6, 7, 8, 9, 10, 11, 12, 13, 14, 15, 16, 17]] [[.fact 5 (.rep [] ((2 : Int) : Int))], [.fact 6 (.isv 82)], [.fact 7 (.isv 82)], [.fact 8 (.pto 82 3)], [.fact 9 (.rep [] x17.Phase)], [.fact 10 (.rep [] (x27 : Bool))], [.fact 11 (.rep [] ((!x27) : Bool))], [.fact 12 (.rep [] ((!x27) : Bool))], [.fact 13 (.under ((!x27) = false) (.rep [] ((2 : Int) : Int)))], [.fact 14 (.under ((!x27) = false) (.rep [] (((2 : Int) == (0 : Int)) : Bool)))], [.fact 15 (.under ((!x27) = false) (.rep [] (((2 : Int) == (0 : Int)) : Bool)))], [.fact 16 (.under (((!x27) = false) ∧ (((2 : Int) == (0 : Int)) = true)) (.isv 82))], [.fact 17 (.under (((!x27) = false) ∧ (((2 : Int) == (0 : Int)) = true)) (.isv 82))], [.fact 18 (.under (((!x27) = false) ∧ (((2 : Int) == (0 : Int)) = true)) (.pto 82 2))], [.fact 19 (.under (((!x27) = false) ∧ (((2 : Int) == (0 : Int)) = true)) (.ow [81] [] 4 (x17.Dirty : List Bool)))], [.fact 20 (.under (((!x27) = false) ∧ (((2 : Int) == (0 : Int)) = true)) (.rep [] (x28 : Bool)))], [.fact 21 (.under (((!x27) = false) ∧ (((2 : Int) == (0 : Int)) = true)) (.rep [] ((!x28) : Bool)))], [.fact 22 (.under ((!x27) = false) (.rep [] ((((2 : Int) == (0 : Int)) && (!x28)) : Bool)))], [.fact 23 (.rep [] (((!x27) || (((2 : Int) == (0 : Int)) && (!x28))) : Bool))]] mixed (by kernel_rfl) (ao (so (Spec.loadF (i := 0) ty3 rfl (Has.cv (Has.s rfl) (Cv.isvP rfl)) rfl (HasG.s rfl))) (ao (so (Spec.move (Has.s rfl))) (ao (so (Spec.nilCheckI (Has.s rfl) rfl)) (ao (so (Spec.fieldAddrO fd28_3 (Has.cv (Has.s rfl) (Cv.isvP rfl)))) (ao (so (Spec.loadF (i := 3) ty5 rfl (Has.s rfl) rfl (HasG.s rfl))) (ao (so (Spec.callE [] 89 rfl en78 (head_may_c (2 : Int) x17.Phase hx27) (HasAll.cons (Has.fl (Has.s rfl)) (HasAll.cons (Has.fl (Has.s rfl)) HasAll.nil)))) (ao (so (Spec.not (Has.s rfl))) (ao (so (Spec.move (Has.s rfl))) (ao (StepG.opg rfl rfl rfl (fun hb => Spec.loadF (i := 0) ty3 rfl (Has.cv (Has.s rfl) (Cv.isvP rfl)) rfl (HasG.s rfl))) (ao (StepG.opg rfl rfl rfl (fun hb => Spec.eqlI (Has.u rfl hb) Has.int)) (ao (StepG.opg rfl rfl rfl (fun hb => Spec.move (Has.u rfl hb))) (ao (StepG.opgu rfl rfl rfl (fun hb => Spec.move (Has.s rfl))) (ao (StepG.opgu rfl rfl rfl (fun hb => Spec.nilCheckI (Has.u rfl hb) rfl)) (ao (StepG.opgu rfl rfl rfl (fun hb => Spec.fieldAddrO fd28_2 (Has.cv (Has.u rfl hb) (Cv.isvP rfl)))) (ao (StepG.opgu rfl rfl rfl (fun hb => Spec.loadF (i := 2) ty26 rfl (Has.u rfl hb) rfl (HasG.s rfl))) (ao (StepG.opgu rfl rfl rfl (fun hb => Spec.callE [81] 90 rfl en79 (slices_Contains_bool_bool_c x17.Dirty true (gO_t hx28 (and_t (not_t hb.1) hb.2))) (HasAll.cons (Has.m (Has.cv (Has.u rfl hb) (Cv.trans Cv.owSl (Cv.slRep (T' := [81]) rfl rfl))) rfl) (HasAll.cons (Has.fl Has.bool) HasAll.nil)))) (ao (StepG.opgu rfl rfl rfl (fun hb => Spec.not (Has.u rfl hb))) (ao (StepG.opg rfl rfl rfl (fun hb => Spec.and (Has.u rfl hb) (fun h => Has.u rfl ⟨hb, h⟩))) (ao (so (Spec.or (Has.s rfl) (fun h => Has.u rfl h))) AllM.nil))))))))))))))))))) ?_
        refine Leaf.thenN ?_
        refine CWalk.cond rfl (fun hb => ?_) (fun hb => ?_)
        ·have hm := cond_t hb hm
         refine CWalk.seq ?_
         refine CWalk.region ?_
         refine wo (Spec.assign Has.int) ?_
         refine Walk.nil ?_
         refine Leaf.thenN ?_
         refine CWalk.ret ?_
         refine Leaf.thenR ?_
         exact Leaf.in1 ((6 : Int), x17.Phase) hm rfl rfl (HasR.cv (HasR.tmp (Has.s rfl)) Cv.fl) (ls 906010 (ls 906012 (Low.res (lc (lc (lf (lg (lg (lf (lf (lf (lf (Low.keepG (HasG.cv (HasG.s rfl) (Cv.owM (T := [79]) (te := [80]) rfl rfl)) (Low.keepG (HasG.cv (HasG.s rfl) (Cv.owF (T := [81]) (te := []) rfl)) (lf (lf (lf (lf (lg (lg (lf (lf (lf (lf (lg (lg (lf (lf (lf (lo (lo (lo (lo Low.nil)))))))))))))))))))))))))))))))))
        ·have hm := cond_f hb hm
         refine CWalk.skip ?_
         refine Leaf.thenN ?_
         refine CWalk.seq ?_
         refine CWalk.region ?_
         refine wo (Spec.loadF (α := Int) (i := 0) ty96 rfl (Has.cv (Has.s rfl) (Cv.isvP rfl)) rfl (HasG.s rfl)) ?_
         refine mv ?_
         refine Walk.inline (S := Unit) (fun p : Unit => [.fact 26 (.top), .fact 902004 (.cst (u1 4) (Fact.isv 24)), .fact 904008 (.cst (u2 8) (Fact.isv 49)), .fact 906010 (.cst (u3 10) (Fact.isv 70)), .fact 906012 (.cst (u3 12) (Fact.isv 82)), .fact 100025 (.at 25 (.rep [] ((0 : Int) : Int))), .fact 100026 (.at 26 (.nilv)), .fact 100027 (.at 27 (.nilv)), .fact 100028 (.at 28 (.rep [] ((0 : UInt8) : UInt8))), .fact 100029 (.at 29 (.rep [] (false : Bool))), .fact 100030 (.at 30 (.rep [] ((0 : UInt32) : UInt32))), .fact 100050 (.at 50 (.rep [] ((0 : Int) : Int))), .fact 100051 (.at 51 (.nilv)), .fact 100052 (.at 52 (.nilv)), .fact 100053 (.at 53 (.rep [] ((0 : UInt8) : UInt8))), .fact 100054 (.at 54 (.rep [] (false : Bool))), .fact 100055 (.at 55 (.rep [] ((0 : UInt32) : UInt32))), .fact 100071 (.at 71 (.rep [] ((0 : Int) : Int))), .fact 100072 (.at 72 (.nilv)), .fact 100073 (.at 73 (.nilv)), .fact 100074 (.at 74 (.rep [] ((0 : UInt8) : UInt8))), .fact 100075 (.at 75 (.rep [] (false : Bool))), .fact 100076 (.at 76 (.rep [] ((0 : UInt32) : UInt32))), .fact 100083 (.at 83 (.rep [] x17.Stripe)), .fact 100084 (.at 84 (.ow [79] [80] 31 (x17.Blocks : List (List UInt8)))), .fact 100085 (.at 85 (.ow [81] [] 4 (x17.Dirty : List Bool))), .fact 100086 (.at 86 (.rep [] ((3 : UInt8) : UInt8))), .fact 100087 (.at 87 (.rep [] x17.Deals)), .fact 100088 (.at 88 (.rep [] x17.Seq)), .fact 100024 (.obj 24 [(false, 1), (false, 1), (false, 1), (false, 1), (false, 1), (false, 1)]), .fact 100049 (.obj 49 [(false, 1), (false, 1), (false, 1), (false, 1), (false, 1), (false, 1)]), .fact 100070 (.obj 70 [(false, 1), (false, 1), (false, 1), (false, 1), (false, 1), (false, 1)]), .fact 100082 (.obj 82 [(false, 1), (false, 1), (false, 1), (false, 1), (false, 1), (false, 1)])]) (fun p : Unit => head_Sure_J5 x17 = some r) (fun u4 => [.fact 100025 (.at 25 (.rep [] ((0 : Int) : Int))), .fact 100026 (.at 26 (.nilv)), .fact 100027 (.at 27 (.nilv)), .fact 100028 (.at 28 (.rep [] ((0 : UInt8) : UInt8))), .fact 100029 (.at 29 (.rep [] (false : Bool))), .fact 100030 (.at 30 (.rep [] ((0 : UInt32) : UInt32))), .fact 100050 (.at 50 (.rep [] ((0 : Int) : Int))), .fact 100051 (.at 51 (.nilv)), .fact 100052 (.at 52 (.nilv)), .fact 100053 (.at 53 (.rep [] ((0 : UInt8) : UInt8))), .fact 100054 (.at 54 (.rep [] (false : Bool))), .fact 100055 (.at 55 (.rep [] ((0 : UInt32) : UInt32))), .fact 100071 (.at 71 (.rep [] ((0 : Int) : Int))), .fact 100072 (.at 72 (.nilv)), .fact 100073 (.at 73 (.nilv)), .fact 100074 (.at 74 (.rep [] ((0 : UInt8) : UInt8))), .fact 100075 (.at 75 (.rep [] (false : Bool))), .fact 100076 (.at 76 (.rep [] ((0 : UInt32) : UInt32))), .fact 100083 (.at 83 (.rep [] x17.Stripe)), .fact 100084 (.at 84 (.ow [79] [80] 31 (x17.Blocks : List (List UInt8)))), .fact 100085 (.at 85 (.ow [81] [] 4 (x17.Dirty : List Bool))), .fact 100086 (.at 86 (.rep [] x17.Phase)), .fact 100087 (.at 87 (.rep [] x17.Deals)), .fact 100088 (.at 88 (.rep [] x17.Seq)), .fact 902004 (.cst (u1 4) (Fact.isv 24)), .fact 904008 (.cst (u2 8) (Fact.isv 49)), .fact 906010 (.cst (u3 10) (Fact.isv 70)), .fact 906012 (.cst (u3 12) (Fact.isv 82)), .fact 100024 (.obj 24 [(false, 1), (false, 1), (false, 1), (false, 1), (false, 1), (false, 1)]), .fact 100049 (.obj 49 [(false, 1), (false, 1), (false, 1), (false, 1), (false, 1), (false, 1)]), .fact 100070 (.obj 70 [(false, 1), (false, 1), (false, 1), (false, 1), (false, 1), (false, 1)]), .fact 100082 (.obj 82 [(false, 1), (false, 1), (false, 1), (false, 1), (false, 1), (false, 1)])]) (FA := [Fact.isv 82]) rfl Try.func69 rfl rfl rfl (CallOk.valE en69 (Has.s rfl) (HasF.cons (Has.s rfl) HasF.nil)) (fun u4 => (ck (ck (ck (ck (ck (ck (ck (ck (ck (ck (ck (ck (ck (ck (ck (ck (ck (ck (ck (ck (ck (ck (ck (ck (ck (ck (ck (ck (ck (ck (ck (ck Carry.nil))))))))))))))))))))))))))))))))) (fun u4 => ?_) ?_
         ·refine CWalk.region ?_
          refine mv ?_
          refine wo (Spec.nilCheckI (Has.s rfl) rfl) ?_
          refine wo (Spec.fieldAddrO fd28_3 (Has.cv (Has.s rfl) (Cv.isvP rfl))) ?_
          refine ws (Step.storeF (i := 3) (f := Fact.rep [] ((3 : UInt8) : UInt8)) rfl ty5 rfl (Has.s rfl) rfl (Has.u8 3 rfl) (Has.u8 3 rfl) rfl) ?_
          refine Walk.nil ?_
          exact Leaf.inN (Leaf.in0 (f0 := Fact.top) () hm rfl rfl (fun _ _ => trivial) (Low.res (lc (lc (lc (lc (lf (lg (lg (lf (lf (lf (lf (lg (lg (lf (lf (lf (lf (lg (lg (lf (lf (lf (lf (Low.keepG (HasG.cv (HasG.s rfl) (Cv.owM (T := [79]) (te := [80]) rfl rfl)) (Low.keepG (HasG.cv (HasG.s rfl) (Cv.owF (T := [81]) (te := []) rfl)) (lf (lf (lf (lo (lo (lo (lo Low.nil))))))))))))))))))))))))))))))))))
         ·rintro _ hm
          replace hm : head_Sure_J5 x17 = some r := hm
          unfold head_Sure_J5 at hm
          show Walk _ _ _ [.fact 26 (.top), .fact 902004 (.cst (u1 4) (Fact.isv 24)), .fact 904008 (.cst (u2 8) (Fact.isv 49)), .fact 906010 (.cst (u3 10) (Fact.isv 70)), .fact 906012 (.cst (u3 12) (Fact.isv 82)), .fact 100025 (.at 25 (.rep [] ((0 : Int) : Int))), .fact 100026 (.at 26 (.nilv)), .fact 100027 (.at 27 (.nilv)), .fact 100028 (.at 28 (.rep [] ((0 : UInt8) : UInt8))), .fact 100029 (.at 29 (.rep [] (false : Bool))), .fact 100030 (.at 30 (.rep [] ((0 : UInt32) : UInt32))), .fact 100050 (.at 50 (.rep [] ((0 : Int) : Int))), .fact 100051 (.at 51 (.nilv)), .fact 100052 (.at 52 (.nilv)), .fact 100053 (.at 53 (.rep [] ((0 : UInt8) : UInt8))), .fact 100054 (.at 54 (.rep [] (false : Bool))), .fact 100055 (.at 55 (.rep [] ((0 : UInt32) : UInt32))), .fact 100071 (.at 71 (.rep [] ((0 : Int) : Int))), .fact 100072 (.at 72 (.nilv)), .fact 100073 (.at 73 (.nilv)), .fact 100074 (.at 74 (.rep [] ((0 : UInt8) : UInt8))), .fact 100075 (.at 75 (.rep [] (false : Bool))), .fact 100076 (.at 76 (.rep [] ((0 : UInt32) : UInt32))), .fact 100083 (.at 83 (.rep [] x17.Stripe)), .fact 100084 (.at 84 (.ow [79] [80] 31 (x17.Blocks : List (List UInt8)))), .fact 100085 (.at 85 (.ow [81] [] 4 (x17.Dirty : List Bool))), .fact 100086 (.at 86 (.rep [] ((3 : UInt8) : UInt8))), .fact 100087 (.at 87 (.rep [] x17.Deals)), .fact 100088 (.at 88 (.rep [] x17.Seq)), .fact 100024 (.obj 24 [(false, 1), (false, 1), (false, 1), (false, 1), (false, 1), (false, 1)]), .fact 100049 (.obj 49 [(false, 1), (false, 1), (false, 1), (false, 1), (false, 1), (false, 1)]), .fact 100070 (.obj 70 [(false, 1), (false, 1), (false, 1), (false, 1), (false, 1), (false, 1)]), .fact 100082 (.obj 82 [(false, 1), (false, 1), (false, 1), (false, 1), (false, 1), (false, 1)])] _
          refine Walk.nil ?_
          refine Leaf.thenN ?_
          refine CWalk.seq ?_
          refine CWalk.region ?_
          refine wo (Spec.assign Has.int) ?_
          refine Walk.nil ?_
          refine Leaf.thenN ?_
          refine CWalk.ret ?_
          exact Leaf.in1 ((0 : Int), (3 : UInt8)) hm rfl rfl (HasR.cv (HasR.tmp (Has.s rfl)) Cv.fl) (ls 906010 (ls 906012 (Low.res (lc (lc (lf (lg (lg (lf (lf (lf (lf (Low.keepG (HasG.cv (HasG.s rfl) (Cv.owM (T := [79]) (te := [80]) rfl rfl)) (Low.keepG (HasG.cv (HasG.s rfl) (Cv.owF (T := [81]) (te := []) rfl)) (lf (lf (lf (lf (lg (lg (lf (lf (lf (lf (lg (lg (lf (lf (lf (lo (lo (lo (lo Low.nil)))))))))))))))))))))))))))))))))
       ·rintro ⟨j25, j26⟩ hm
        replace hm : head_Sure_J4 x17 j25 j26 = some r := hm
        unfold head_Sure_J4 at hm
        show Walk _ _ _ [.fact 10 (.isv 70), .fact 12 (.isv 82), .fact 34 (.rep [] (j25 : Int)), .fact 902004 (.cst (u1 4) (Fact.isv 24)), .fact 904008 (.cst (u2 8) (Fact.isv 49)), .fact 100071 (.at 71 (.rep [] ((0 : Int) : Int))), .fact 100072 (.at 72 (.nilv)), .fact 100073 (.at 73 (.nilv)), .fact 100074 (.at 74 (.rep [] ((0 : UInt8) : UInt8))), .fact 100075 (.at 75 (.rep [] (false : Bool))), .fact 100076 (.at 76 (.rep [] ((0 : UInt32) : UInt32))), .fact 100083 (.at 83 (.rep [] x17.Stripe)), .fact 100084 (.at 84 (.ow [79] [80] 31 (x17.Blocks : List (List UInt8)))), .fact 100085 (.at 85 (.ow [81] [] 4 (x17.Dirty : List Bool))), .fact 100086 (.at 86 (.rep [] (j26 : UInt8))), .fact 100087 (.at 87 (.rep [] x17.Deals)), .fact 100088 (.at 88 (.rep [] x17.Seq)), .fact 100025 (.at 25 (.rep [] ((0 : Int) : Int))), .fact 100026 (.at 26 (.nilv)), .fact 100027 (.at 27 (.nilv)), .fact 100028 (.at 28 (.rep [] ((0 : UInt8) : UInt8))), .fact 100029 (.at 29 (.rep [] (false : Bool))), .fact 100030 (.at 30 (.rep [] ((0 : UInt32) : UInt32))), .fact 100050 (.at 50 (.rep [] ((0 : Int) : Int))), .fact 100051 (.at 51 (.nilv)), .fact 100052 (.at 52 (.nilv)), .fact 100053 (.at 53 (.rep [] ((0 : UInt8) : UInt8))), .fact 100054 (.at 54 (.rep [] (false : Bool))), .fact 100055 (.at 55 (.rep [] ((0 : UInt32) : UInt32))), .fact 100070 (.obj 70 [(false, 1), (false, 1), (false, 1), (false, 1), (false, 1), (false, 1)]), .fact 100082 (.obj 82 [(false, 1), (false, 1), (false, 1), (false, 1), (false, 1), (false, 1)]), .fact 100024 (.obj 24 [(false, 1), (false, 1), (false, 1), (false, 1), (false, 1), (false, 1)]), .fact 100049 (.obj 49 [(false, 1), (false, 1), (false, 1), (false, 1), (false, 1), (false, 1)])] _
        refine wo (Spec.assign (Has.s rfl)) ?_
        refine Walk.nil ?_
        refine Leaf.thenN ?_
        refine CWalk.seq ?_
        refine CWalk.region ?_
        refine mv ?_
        refine wo (Spec.eqlI (Has.s rfl) Has.int) ?_
        refine Walk.nil ?_
        refine Leaf.thenN ?_
        refine CWalk.cond rfl (fun hb => ?_) (fun hb => ?_)
        ·have hm := cond_t hb hm
         refine CWalk.region ?_
         refine wo (Spec.loadObj (ls := [(false, 1, Fact.rep [] x17.Stripe), (false, 1, Fact.ow [79] [80] 31 (x17.Blocks : List (List UInt8))), (false, 1, Fact.ow [81] [] 4 (x17.Dirty : List Bool)), (false, 1, Fact.rep [] (j26 : UInt8)), (false, 1, Fact.rep [] x17.Deals), (false, 1, Fact.rep [] x17.Seq)]) ty28 rfl rfl (Has.s rfl) rfl (HasGs.cons (HasG.s rfl) (HasGs.cons (HasG.s rfl) (HasGs.cons (HasG.s rfl) (HasGs.cons (HasG.s rfl) (HasGs.cons (HasG.s rfl) (HasGs.cons (HasG.s rfl) HasGs.nil))))))) ?_
         refine ws (Step.storeObj (ls := [(false, 1, Fact.rep [] x17.Stripe), (false, 1, Fact.ow [79] [80] 31 (x17.Blocks : List (List UInt8))), (false, 1, Fact.ow [81] [] 4 (x17.Dirty : List Bool)), (false, 1, Fact.rep [] (j26 : UInt8)), (false, 1, Fact.rep [] x17.Deals), (false, 1, Fact.rep [] x17.Seq)]) rfl ty28 rfl rfl (Has.s rfl) rfl (HasL.flds (Has.s rfl)) rfl) ?_
         refine Walk.nil ?_
         exact Leaf.join (j25, x17.Stripe, x17.Blocks, x17.Dirty, j26, x17.Deals, x17.Seq) hm (sn (st (sc (sc (sf (Sub.cons (Has.at (HasG.cv (HasG.s rfl) (Cv.owM (T := [79]) (te := [80]) rfl rfl))) (Sub.cons (Has.at (HasG.cv (HasG.s rfl) (Cv.owF (T := [81]) (te := []) rfl))) (sf (sf (sf (sf (sg (sg (sf (sf (sf (sf (sg (sg (sf (sf (sf (sn (sn (sn Sub.nil)))))))))))))))))))))))))
        ·have hm := cond_f hb hm
         refine CWalk.skip ?_
         exact Leaf.join (j25, (0 : Int), ([] : List (List UInt8)), ([] : List Bool), (0 : UInt8), false, (0 : UInt32)) hm (sn (st (sc (sc (sf (Sub.cons (Has.at (HasG.cv (HasG.s rfl) (Cv.trans Cv.nilOw (Cv.owM (T := []) (te := []) rfl rfl)))) (Sub.cons (Has.at (HasG.cv (HasG.s rfl) (Cv.trans Cv.nilOw (Cv.owF (T := []) (te := []) rfl)))) (sf (sf (sf (sf (sg (sg (sf (sf (sf (sf (sg (sg (sf (sf (sf (sn (sn (sn Sub.nil)))))))))))))))))))))))))
  ·rintro ⟨j8, j9, j10, j11, j12, j13, j14⟩ hm
   replace hm : head_Sure_J2 j8 j9 j10 j11 j12 j13 j14 = some r := hm
   unfold head_Sure_J2 at hm
   show Walk _ _ _ [.fact 8 (.isv 49), .fact 13 (.tup2 (Fact.flds [(false, 1, Fact.rep [] (j8 : Int)), (false, 1, Fact.ow [79] [80] 31 (j9 : List (List UInt8))), (false, 1, Fact.ow [81] [] 4 (j10 : List Bool)), (false, 1, Fact.rep [] (j11 : UInt8)), (false, 1, Fact.rep [] (j12 : Bool)), (false, 1, Fact.rep [] (j13 : UInt32))]) (Fact.rep [] (j14 : Int))), .fact 902004 (.cst (u1 4) (Fact.isv 24)), .fact 100050 (.at 50 (.rep [] ((0 : Int) : Int))), .fact 100051 (.at 51 (.nilv)), .fact 100052 (.at 52 (.nilv)), .fact 100053 (.at 53 (.rep [] ((0 : UInt8) : UInt8))), .fact 100054 (.at 54 (.rep [] (false : Bool))), .fact 100055 (.at 55 (.rep [] ((0 : UInt32) : UInt32))), .fact 100025 (.at 25 (.rep [] ((0 : Int) : Int))), .fact 100026 (.at 26 (.nilv)), .fact 100027 (.at 27 (.nilv)), .fact 100028 (.at 28 (.rep [] ((0 : UInt8) : UInt8))), .fact 100029 (.at 29 (.rep [] (false : Bool))), .fact 100030 (.at 30 (.rep [] ((0 : UInt32) : UInt32))), .fact 100049 (.obj 49 [(false, 1), (false, 1), (false, 1), (false, 1), (false, 1), (false, 1)]), .fact 100024 (.obj 24 [(false, 1), (false, 1), (false, 1), (false, 1), (false, 1), (false, 1)])] _
   refine wo (Spec.ext0 (Has.s rfl)) ?_
   refine wo (Spec.ext1 (Has.s rfl)) ?_
   refine ws (Step.storeObj (ls := [(false, 1, Fact.rep [] (j8 : Int)), (false, 1, Fact.ow [79] [80] 31 (j9 : List (List UInt8))), (false, 1, Fact.ow [81] [] 4 (j10 : List Bool)), (false, 1, Fact.rep [] (j11 : UInt8)), (false, 1, Fact.rep [] (j12 : Bool)), (false, 1, Fact.rep [] (j13 : UInt32))]) rfl ty28 rfl rfl (Has.s rfl) rfl (HasL.flds (Has.s rfl)) rfl) ?_
   refine wo (Spec.assign (Has.s rfl)) ?_
   refine Walk.nil ?_
   refine Leaf.thenN ?_
   refine CWalk.ret ?_
   exact Leaf.in2 (j8, j9, j10, j11, j12, j13, j14) hm rfl rfl (HasR.cv (HasR.obj (ls := [(false, 1, Fact.rep [] (j8 : Int)), (false, 1, Fact.ow [79] [80] 31 (j9 : List (List UInt8))), (false, 1, Fact.ow [81] [] 4 (j10 : List Bool)), (false, 1, Fact.rep [] (j11 : UInt8)), (false, 1, Fact.rep [] (j12 : Bool)), (false, 1, Fact.rep [] (j13 : UInt32))]) ty28 rfl rfl (Has.s rfl) rfl (HasGs.cons (HasG.s rfl) (HasGs.cons (HasG.s rfl) (HasGs.cons (HasG.s rfl) (HasGs.cons (HasG.s rfl) (HasGs.cons (HasG.s rfl) (HasGs.cons (HasG.s rfl) HasGs.nil))))))) (Cv.flds (CvL.cons Cv.fl (CvL.cons (Cv.owM (T := [79]) (te := [80]) rfl rfl) (CvL.cons (Cv.owF (T := [81]) (te := []) rfl) (CvL.cons Cv.fl (CvL.cons Cv.fl (CvL.cons Cv.fl CvL.nil)))))))) (HasR.cv (HasR.tmp (Has.s rfl)) Cv.fl) (ls 902004 (Low.res (lf (lg (lg (lf (lf (lf (lo Low.nil)))))))))
 ·rintro ⟨j1, j2, j3, j4, j5, j6, j7⟩ hm
  replace hm : head_Sure_J1 j1 j2 j3 j4 j5 j6 j7 = some r := hm
  unfold head_Sure_J1 at hm
  show Walk _ _ _ [.fact 4 (.isv 24), .fact 8 (.tup2 (Fact.flds [(false, 1, Fact.rep [] (j1 : Int)), (false, 1, Fact.ow [79] [80] 31 (j2 : List (List UInt8))), (false, 1, Fact.ow [81] [] 4 (j3 : List Bool)), (false, 1, Fact.rep [] (j4 : UInt8)), (false, 1, Fact.rep [] (j5 : Bool)), (false, 1, Fact.rep [] (j6 : UInt32))]) (Fact.rep [] (j7 : Int))), .fact 100025 (.at 25 (.rep [] ((0 : Int) : Int))), .fact 100026 (.at 26 (.nilv)), .fact 100027 (.at 27 (.nilv)), .fact 100028 (.at 28 (.rep [] ((0 : UInt8) : UInt8))), .fact 100029 (.at 29 (.rep [] (false : Bool))), .fact 100030 (.at 30 (.rep [] ((0 : UInt32) : UInt32))), .fact 100024 (.obj 24 [(false, 1), (false, 1), (false, 1), (false, 1), (false, 1), (false, 1)])] _
  refine wo (Spec.ext0 (Has.s rfl)) ?_
  refine wo (Spec.ext1 (Has.s rfl)) ?_
  refine ws (Step.storeObj (ls := [(false, 1, Fact.rep [] (j1 : Int)), (false, 1, Fact.ow [79] [80] 31 (j2 : List (List UInt8))), (false, 1, Fact.ow [81] [] 4 (j3 : List Bool)), (false, 1, Fact.rep [] (j4 : UInt8)), (false, 1, Fact.rep [] (j5 : Bool)), (false, 1, Fact.rep [] (j6 : UInt32))]) rfl ty28 rfl rfl (Has.s rfl) rfl (HasL.flds (Has.s rfl)) rfl) ?_
  refine wo (Spec.assign (Has.s rfl)) ?_
  refine Walk.nil ?_
  refine Leaf.thenN ?_
  refine CWalk.ret ?_
  obtain rfl := Option.some.inj hm
  exact Leaf.retC2 rfl (HasR.cv (HasR.obj (ls := [(false, 1, Fact.rep [] (j1 : Int)), (false, 1, Fact.ow [79] [80] 31 (j2 : List (List UInt8))), (false, 1, Fact.ow [81] [] 4 (j3 : List Bool)), (false, 1, Fact.rep [] (j4 : UInt8)), (false, 1, Fact.rep [] (j5 : Bool)), (false, 1, Fact.rep [] (j6 : UInt32))]) ty28 rfl rfl (Has.s rfl) rfl (HasGs.cons (HasG.s rfl) (HasGs.cons (HasG.s rfl) (HasGs.cons (HasG.s rfl) (HasGs.cons (HasG.s rfl) (HasGs.cons (HasG.s rfl) (HasGs.cons (HasG.s rfl) HasGs.nil))))))) (Cv.flds (CvL.cons Cv.fl (CvL.cons (Cv.owM (T := [79]) (te := [80]) rfl rfl) (CvL.cons (Cv.owF (T := [81]) (te := []) rfl) (CvL.cons Cv.fl (CvL.cons Cv.fl (CvL.cons Cv.fl CvL.nil)))))))) (HasR.cv (HasR.tmp (Has.s rfl)) Cv.fl)

/-- freeboard/freeboardref16.Sure -/
def ref16_Sure (a0 : Config) (a1 : Head) : Option (Head × Int) :=
  Option.bind (ref16_from a0 a1 (2 : UInt8) (2 : UInt8) (3 : UInt8)) (fun x1 => some (x1.1, x1.2))
set_option maxRecDepth 100000 in
set_option maxHeartbeats 2000000 in
theorem ref16_Sure_c (a0 : Config) (a1 : Head) {r : Head × Int} (hm : ref16_Sure a0 a1 = some r) : Ctr Try.prog 33 [.rep 0 a0, .rep 0 a1] (.tup2 (.flds [(false, 1, (.fl r.1.Stripe)), (false, 1, (.own 0 (some 1) 31 r.1.Blocks)), (false, 1, (.own 2 none 4 r.1.Dirty)), (false, 1, (.fl r.1.Phase)), (false, 1, (.fl r.1.Deals)), (false, 1, (.fl r.1.Seq))]) (.fl r.2)) [] := by
 refine ctr_of_walk [[31], [32], [33]] 11 Try.func33 rfl rfl rfl rfl (fun w0 om => ?_)
 unfold ref16_Sure at hm
 refine CWalk.sub (G' := [.fact 0 (.rep [] (a0 : Config)), .fact 1 (.rep [0] (a1 : Head))]) (Sub.cons (Has.fl (Has.s rfl)) (sn Sub.nil)) ?_
 refine CWalk.seq ?_
 refine CWalk.region ?_
 refine ws (Step.boxObj (ls := [(false, 1, Fact.rep [] a0.Id), (false, 1, Fact.rep [] a0.Members), (false, 1, Fact.rep [] a0.Chunk), (false, 1, Fact.rep [] a0.Rows), (false, 1, Fact.rep [] a0.Log), (false, 1, Fact.rep [] a0.Heads)]) 10 rfl rfl rfl rfl (HasL.flds (Has.cv (Has.s rfl) (Cv.trans (Cv.opens (chConfig a0)) (Cv.flds (CvL.cons Cv.fl (CvL.cons Cv.fl (CvL.cons Cv.fl (CvL.cons Cv.fl (CvL.cons Cv.fl (CvL.cons Cv.fl CvL.nil))))))))))) ?_
 refine ws (Step.boxObj (ls := [(false, 1, Fact.rep [] a1.Stripe), (false, 1, Fact.rep [0] a1.Blocks), (false, 1, Fact.rep [0] a1.Dirty), (false, 1, Fact.rep [] a1.Phase), (false, 1, Fact.rep [] a1.Deals), (false, 1, Fact.rep [] a1.Seq)]) 17 rfl rfl rfl rfl (HasL.flds (Has.cv (Has.s rfl) (Cv.trans (Cv.opens (chHead a1)) (Cv.flds (CvL.cons Cv.fl (CvL.cons Cv.refl (CvL.cons Cv.refl (CvL.cons Cv.fl (CvL.cons Cv.fl (CvL.cons Cv.fl CvL.nil))))))))))) ?_
 refine ws (Step.allocObj (ls := [(false, 1, Fact.rep [] ((0 : Int) : Int)), (false, 1, Fact.nilv), (false, 1, Fact.nilv), (false, 1, Fact.rep [] ((0 : UInt8) : UInt8)), (false, 1, Fact.rep [] (false : Bool)), (false, 1, Fact.rep [] ((0 : UInt32) : UInt32))]) 24 rfl rfl rfl rfl zl28) ?_
 refine wo (Spec.assign Has.int) ?_
 refine Walk.nil ?_
 refine Leaf.thenN ?_
 refine CWalk.seq ?_
 refine CWalk.region ?_
 refine wo (Spec.loadObj (ls := [(false, 1, Fact.rep [] a0.Id), (false, 1, Fact.rep [] a0.Members), (false, 1, Fact.rep [] a0.Chunk), (false, 1, Fact.rep [] a0.Rows), (false, 1, Fact.rep [] a0.Log), (false, 1, Fact.rep [] a0.Heads)]) ty24 rfl rfl (Has.s rfl) rfl (HasGs.cons (HasG.s rfl) (HasGs.cons (HasG.s rfl) (HasGs.cons (HasG.s rfl) (HasGs.cons (HasG.s rfl) (HasGs.cons (HasG.s rfl) (HasGs.cons (HasG.s rfl) HasGs.nil))))))) ?_
 refine wo (Spec.loadObj (ls := [(false, 1, Fact.rep [] a1.Stripe), (false, 1, Fact.rep [0] a1.Blocks), (false, 1, Fact.rep [0] a1.Dirty), (false, 1, Fact.rep [] a1.Phase), (false, 1, Fact.rep [] a1.Deals), (false, 1, Fact.rep [] a1.Seq)]) ty28 rfl rfl (Has.s rfl) rfl (HasGs.cons (HasG.s rfl) (HasGs.cons (HasG.s rfl) (HasGs.cons (HasG.s rfl) (HasGs.cons (HasG.s rfl) (HasGs.cons (HasG.s rfl) (HasGs.cons (HasG.s rfl) HasGs.nil))))))) ?_
 obtain ⟨x1, hx1, hm⟩ := bind_some hm
 refine wo (f := Fact.tup2 (Fact.flds [(false, 1, Fact.rep [] x1.1.Stripe), (false, 1, Fact.ow [31] [32] 31 (x1.1.Blocks : List (List UInt8))), (false, 1, Fact.ow [33] [] 4 (x1.1.Dirty : List Bool)), (false, 1, Fact.rep [] x1.1.Phase), (false, 1, Fact.rep [] x1.1.Deals), (false, 1, Fact.rep [] x1.1.Seq)]) (Fact.rep [] x1.2)) (Spec.callE [0] 31 rfl en67 (ref16_from_c a0 a1 (2 : UInt8) (2 : UInt8) (3 : UInt8) hx1) (HasAll.cons (Has.fl (Has.cv (Has.s rfl) (Cv.trans (Cv.flds (CvL.cons Cv.fl (CvL.cons Cv.fl (CvL.cons Cv.fl (CvL.cons Cv.fl (CvL.cons Cv.fl (CvL.cons Cv.fl CvL.nil))))))) (Cv.close (T := []) (chConfig a0))))) (HasAll.cons (Has.m (Has.cv (Has.s rfl) (Cv.trans (Cv.flds (CvL.cons Cv.fl (CvL.cons (Cv.m rfl) (CvL.cons (Cv.m rfl) (CvL.cons Cv.fl (CvL.cons Cv.fl (CvL.cons Cv.fl CvL.nil))))))) (Cv.close (T := [0]) (chHead a1)))) rfl) (HasAll.cons (Has.fl (Has.u8 2 rfl)) (HasAll.cons (Has.fl (Has.u8 2 rfl)) (HasAll.cons (Has.fl (Has.u8 3 rfl)) HasAll.nil)))))) ?_
 refine wo (Spec.ext0 (Has.s rfl)) ?_
 refine wo (Spec.ext1 (Has.s rfl)) ?_
 refine ws (Step.storeObj (ls := [(false, 1, Fact.rep [] x1.1.Stripe), (false, 1, Fact.ow [31] [32] 31 (x1.1.Blocks : List (List UInt8))), (false, 1, Fact.ow [33] [] 4 (x1.1.Dirty : List Bool)), (false, 1, Fact.rep [] x1.1.Phase), (false, 1, Fact.rep [] x1.1.Deals), (false, 1, Fact.rep [] x1.1.Seq)]) rfl ty28 rfl rfl (Has.s rfl) rfl (HasL.flds (Has.s rfl)) rfl) ?_
 refine wo (Spec.assign (Has.s rfl)) ?_
 refine Walk.nil ?_
 refine Leaf.thenN ?_
 refine CWalk.ret ?_
 obtain rfl := Option.some.inj hm
 exact Leaf.retC2 rfl (HasR.cv (HasR.obj (ls := [(false, 1, Fact.rep [] x1.1.Stripe), (false, 1, Fact.ow [31] [32] 31 (x1.1.Blocks : List (List UInt8))), (false, 1, Fact.ow [33] [] 4 (x1.1.Dirty : List Bool)), (false, 1, Fact.rep [] x1.1.Phase), (false, 1, Fact.rep [] x1.1.Deals), (false, 1, Fact.rep [] x1.1.Seq)]) ty28 rfl rfl (Has.s rfl) rfl (HasGs.cons (HasG.s rfl) (HasGs.cons (HasG.s rfl) (HasGs.cons (HasG.s rfl) (HasGs.cons (HasG.s rfl) (HasGs.cons (HasG.s rfl) (HasGs.cons (HasG.s rfl) HasGs.nil))))))) (Cv.flds (CvL.cons Cv.fl (CvL.cons (Cv.owM (T := [31]) (te := [32]) rfl rfl) (CvL.cons (Cv.owF (T := [33]) (te := []) rfl) (CvL.cons Cv.fl (CvL.cons Cv.fl (CvL.cons Cv.fl CvL.nil)))))))) (HasR.cv (HasR.tmp (Has.s rfl)) Cv.fl)

def head_Lay_J1 (j1 : Int) (j2 : List (List UInt8)) (j3 : List Bool) (j4 : UInt8) (j5 : Bool) (j6 : UInt32) (j7 : Int) : Option (Head × Int) :=
  some ((Head.mk j1 j2 j3 j4 j5 j6), j7)
def head_Lay_J2 (j8 : Int) (j9 : List (List UInt8)) (j10 : List Bool) (j11 : UInt8) (j12 : Bool) (j13 : UInt32) (j14 : Int) : Option (Head × Int) :=
  (head_Lay_J1 j8 j9 j10 j11 j12 j13 j14)
def head_Lay_J3 (j18 : Int) (j19 : Int) (j20 : List (List UInt8)) (j21 : List Bool) (j22 : UInt8) (j23 : Bool) (j24 : UInt32) : Option (Head × Int) :=
  (head_Lay_J2 j19 j20 j21 j22 j23 j24 j18)
def head_Lay_J4 (x17 : Head) (j25 : Int) (j26 : UInt8) (j27 : Bool) : Option (Head × Int) :=
  (bif (j25 == (0 : Int)) then (head_Lay_J3 j25 x17.Stripe x17.Blocks x17.Dirty j26 j27 x17.Seq) else (head_Lay_J3 j25 (0 : Int) ([] : List (List UInt8)) ([] : List Bool) (0 : UInt8) false (0 : UInt32)))
def head_Lay_J5 (x17 : Head) : Option (Head × Int) :=
  (head_Lay_J4 x17 (0 : Int) (4 : UInt8) false)
/-- freeboard/head.Lay -/
def head_Lay (a0 : Config) (a1 : Head) : Option (Head × Int) :=
  Option.bind (head_Check a0 a1) (fun x15 => (bif (x15 != (0 : Int)) then (head_Lay_J2 (0 : Int) ([] : List (List UInt8)) ([] : List Bool) (0 : UInt8) false (0 : UInt32) x15) else (bif ((decide ((0 : Int) < (0 : Int))) || (decide ((0 : Int) ≥ (wI (a0.Members - (1 : Int)))))) then (head_Lay_J2 (0 : Int) ([] : List (List UInt8)) ([] : List Bool) (0 : UInt8) false (0 : UInt32) (2 : Int)) else Option.bind (head_odd ([] : List UInt8)) (fun x16 => (bif x16 then (head_Lay_J2 (0 : Int) ([] : List (List UInt8)) ([] : List Bool) (0 : UInt8) false (0 : UInt32) (3 : Int)) else Option.bind (head_Twin a1) (fun x17 => Option.bind (head_may (3 : Int) x17.Phase) (fun x28 => Option.bind (gO ((!(!x28)) && (((3 : Int) == (0 : Int)))) (slices_Contains_bool_bool x17.Dirty true)) (fun x29 => (bif ((!x28) || (((3 : Int) == (0 : Int)) && (!x29))) then (head_Lay_J4 x17 (6 : Int) x17.Phase x17.Deals) else (head_Lay_J5 x17))))))))))
set_option maxRecDepth 100000 in
set_option maxHeartbeats 2000000 in
theorem head_Lay_c (a0 : Config) (a1 : Head) {r : Head × Int} (hm : head_Lay a0 a1 = some r) : Ctr Try.prog 34 [.rep 0 a0, .rep 0 a1] (.tup2 (.flds [(false, 1, (.fl r.1.Stripe)), (false, 1, (.own 0 (some 1) 31 r.1.Blocks)), (false, 1, (.own 2 none 4 r.1.Dirty)), (false, 1, (.fl r.1.Phase)), (false, 1, (.fl r.1.Deals)), (false, 1, (.fl r.1.Seq))]) (.fl r.2)) [] := by
 refine ctr_of_walk [[79], [80], [81]] 11 Try.func34 rfl rfl rfl rfl (fun w0 om => ?_)
 unfold head_Lay at hm
 refine CWalk.sub (G' := [.fact 0 (.rep [] (a0 : Config)), .fact 1 (.rep [0] (a1 : Head))]) (Sub.cons (Has.fl (Has.s rfl)) (sn Sub.nil)) ?_
 refine CWalk.seq ?_
 refine CWalk.region ?_
 refine ws (Step.boxObj (ls := [(false, 1, Fact.rep [] a0.Id), (false, 1, Fact.rep [] a0.Members), (false, 1, Fact.rep [] a0.Chunk), (false, 1, Fact.rep [] a0.Rows), (false, 1, Fact.rep [] a0.Log), (false, 1, Fact.rep [] a0.Heads)]) 10 rfl rfl rfl rfl (HasL.flds (Has.cv (Has.s rfl) (Cv.trans (Cv.opens (chConfig a0)) (Cv.flds (CvL.cons Cv.fl (CvL.cons Cv.fl (CvL.cons Cv.fl (CvL.cons Cv.fl (CvL.cons Cv.fl (CvL.cons Cv.fl CvL.nil))))))))))) ?_
 refine ws (Step.boxObj (ls := [(false, 1, Fact.rep [] a1.Stripe), (false, 1, Fact.rep [0] a1.Blocks), (false, 1, Fact.rep [0] a1.Dirty), (false, 1, Fact.rep [] a1.Phase), (false, 1, Fact.rep [] a1.Deals), (false, 1, Fact.rep [] a1.Seq)]) 17 rfl rfl rfl rfl (HasL.flds (Has.cv (Has.s rfl) (Cv.trans (Cv.opens (chHead a1)) (Cv.flds (CvL.cons Cv.fl (CvL.cons Cv.refl (CvL.cons Cv.refl (CvL.cons Cv.fl (CvL.cons Cv.fl (CvL.cons Cv.fl CvL.nil))))))))))) ?_
 refine ws (Step.allocObj (ls := [(false, 1, Fact.rep [] ((0 : Int) : Int)), (false, 1, Fact.nilv), (false, 1, Fact.nilv), (false, 1, Fact.rep [] ((0 : UInt8) : UInt8)), (false, 1, Fact.rep [] (false : Bool)), (false, 1, Fact.rep [] ((0 : UInt32) : UInt32))]) 24 rfl rfl rfl rfl zl28) ?_
 refine wo (Spec.assign Has.int) ?_
 refine Walk.nil ?_
 refine Leaf.thenN ?_
 refine CWalk.seq ?_
 refine CWalk.region ?_
 refine wo (Spec.loadObj (ls := [(false, 1, Fact.rep [] a0.Id), (false, 1, Fact.rep [] a0.Members), (false, 1, Fact.rep [] a0.Chunk), (false, 1, Fact.rep [] a0.Rows), (false, 1, Fact.rep [] a0.Log), (false, 1, Fact.rep [] a0.Heads)]) ty24 rfl rfl (Has.s rfl) rfl (HasGs.cons (HasG.s rfl) (HasGs.cons (HasG.s rfl) (HasGs.cons (HasG.s rfl) (HasGs.cons (HasG.s rfl) (HasGs.cons (HasG.s rfl) (HasGs.cons (HasG.s rfl) HasGs.nil))))))) ?_
 refine wo (Spec.loadObj (ls := [(false, 1, Fact.rep [] a1.Stripe), (false, 1, Fact.rep [0] a1.Blocks), (false, 1, Fact.rep [0] a1.Dirty), (false, 1, Fact.rep [] a1.Phase), (false, 1, Fact.rep [] a1.Deals), (false, 1, Fact.rep [] a1.Seq)]) ty28 rfl rfl (Has.s rfl) rfl (HasGs.cons (HasG.s rfl) (HasGs.cons (HasG.s rfl) (HasGs.cons (HasG.s rfl) (HasGs.cons (HasG.s rfl) (HasGs.cons (HasG.s rfl) (HasGs.cons (HasG.s rfl) HasGs.nil))))))) ?_
 refine Walk.inline (S := Int × (List (List UInt8)) × (List Bool) × UInt8 × Bool × UInt32 × Int) (fun p : Int × (List (List UInt8)) × (List Bool) × UInt8 × Bool × UInt32 × Int => [.fact 4 (.isv 24), .fact 8 (.tup2 (Fact.flds [(false, 1, Fact.rep [] p.1), (false, 1, Fact.ow [79] [80] 31 (p.2.1 : List (List UInt8))), (false, 1, Fact.ow [81] [] 4 (p.2.2.1 : List Bool)), (false, 1, Fact.rep [] p.2.2.2.1), (false, 1, Fact.rep [] p.2.2.2.2.1), (false, 1, Fact.rep [] p.2.2.2.2.2.1)]) (Fact.rep [] p.2.2.2.2.2.2)), .fact 100025 (.at 25 (.rep [] ((0 : Int) : Int))), .fact 100026 (.at 26 (.nilv)), .fact 100027 (.at 27 (.nilv)), .fact 100028 (.at 28 (.rep [] ((0 : UInt8) : UInt8))), .fact 100029 (.at 29 (.rep [] (false : Bool))), .fact 100030 (.at 30 (.rep [] ((0 : UInt32) : UInt32))), .fact 100024 (.obj 24 [(false, 1), (false, 1), (false, 1), (false, 1), (false, 1), (false, 1)])]) (fun p : Int × (List (List UInt8)) × (List Bool) × UInt8 × Bool × UInt32 × Int => head_Lay_J1 p.1 p.2.1 p.2.2.1 p.2.2.2.1 p.2.2.2.2.1 p.2.2.2.2.2.1 p.2.2.2.2.2.2 = some r) (fun u1 => [.fact 100025 (.at 25 (.rep [] ((0 : Int) : Int))), .fact 100026 (.at 26 (.nilv)), .fact 100027 (.at 27 (.nilv)), .fact 100028 (.at 28 (.rep [] ((0 : UInt8) : UInt8))), .fact 100029 (.at 29 (.rep [] (false : Bool))), .fact 100030 (.at 30 (.rep [] ((0 : UInt32) : UInt32))), .fact 902004 (.cst (u1 4) (Fact.isv 24)), .fact 100024 (.obj 24 [(false, 1), (false, 1), (false, 1), (false, 1), (false, 1), (false, 1)])]) (FA := [Fact.flds [(false, 1, Fact.rep [] a0.Id), (false, 1, Fact.rep [] a0.Members), (false, 1, Fact.rep [] a0.Chunk), (false, 1, Fact.rep [] a0.Rows), (false, 1, Fact.rep [] a0.Log), (false, 1, Fact.rep [] a0.Heads)], Fact.flds [(false, 1, Fact.rep [] a1.Stripe), (false, 1, Fact.rep [0] a1.Blocks), (false, 1, Fact.rep [0] a1.Dirty), (false, 1, Fact.rep [] a1.Phase), (false, 1, Fact.rep [] a1.Deals), (false, 1, Fact.rep [] a1.Seq)], Fact.rep [] ((3 : Int) : Int), Fact.fnv 70 [] []]) rfl Try.func63 rfl rfl rfl (CallOk.fn en63 (HasF.cons (Has.s rfl) (HasF.cons (Has.s rfl) (HasF.cons Has.int (HasF.cons Has.func HasF.nil))))) (fun u1 => (ck (ck (ck (ck (ck (ck (cs 902000 4 (ck Carry.nil))))))))) (fun u1 => ?_) ?_
 ·refine CWalk.seq ?_
  refine CWalk.region ?_
  refine ws (Step.boxObj (ls := [(false, 1, Fact.rep [] a0.Id), (false, 1, Fact.rep [] a0.Members), (false, 1, Fact.rep [] a0.Chunk), (false, 1, Fact.rep [] a0.Rows), (false, 1, Fact.rep [] a0.Log), (false, 1, Fact.rep [] a0.Heads)]) 31 rfl rfl rfl rfl (HasL.flds (Has.s rfl))) ?_
  refine ws (Step.boxObj (ls := [(false, 1, Fact.rep [] a1.Stripe), (false, 1, Fact.rep [0] a1.Blocks), (false, 1, Fact.rep [0] a1.Dirty), (false, 1, Fact.rep [] a1.Phase), (false, 1, Fact.rep [] a1.Deals), (false, 1, Fact.rep [] a1.Seq)]) 38 rfl rfl rfl rfl (HasL.flds (Has.s rfl))) ?_
  refine ws (Step.boxObj (ls := [(false, 1, Fact.rep [] ((3 : Int) : Int))]) 45 rfl rfl rfl rfl (HasL.one (Has.s rfl) rfl (Has.s rfl))) ?_
  refine ws (Step.boxObj (ls := [(false, 1, Fact.fnv 70 [] [])]) 47 rfl rfl rfl rfl (HasL.fnv (Has.s rfl))) ?_
  refine ws (Step.allocObj (ls := [(false, 1, Fact.rep [] ((0 : Int) : Int)), (false, 1, Fact.nilv), (false, 1, Fact.nilv), (false, 1, Fact.rep [] ((0 : UInt8) : UInt8)), (false, 1, Fact.rep [] (false : Bool)), (false, 1, Fact.rep [] ((0 : UInt32) : UInt32))]) 49 rfl rfl rfl rfl zl28) ?_
  refine wo (Spec.assign Has.int) ?_
  refine Walk.nil ?_
  refine Leaf.thenN ?_
  refine CWalk.seq ?_
  refine CWalk.region ?_
  refine wo (Spec.loadObj (ls := [(false, 1, Fact.rep [] a0.Id), (false, 1, Fact.rep [] a0.Members), (false, 1, Fact.rep [] a0.Chunk), (false, 1, Fact.rep [] a0.Rows), (false, 1, Fact.rep [] a0.Log), (false, 1, Fact.rep [] a0.Heads)]) ty24 rfl rfl (Has.s rfl) rfl (HasGs.cons (HasG.s rfl) (HasGs.cons (HasG.s rfl) (HasGs.cons (HasG.s rfl) (HasGs.cons (HasG.s rfl) (HasGs.cons (HasG.s rfl) (HasGs.cons (HasG.s rfl) HasGs.nil))))))) ?_
  refine wo (Spec.loadObj (ls := [(false, 1, Fact.rep [] a1.Stripe), (false, 1, Fact.rep [0] a1.Blocks), (false, 1, Fact.rep [0] a1.Dirty), (false, 1, Fact.rep [] a1.Phase), (false, 1, Fact.rep [] a1.Deals), (false, 1, Fact.rep [] a1.Seq)]) ty28 rfl rfl (Has.s rfl) rfl (HasGs.cons (HasG.s rfl) (HasGs.cons (HasG.s rfl) (HasGs.cons (HasG.s rfl) (HasGs.cons (HasG.s rfl) (HasGs.cons (HasG.s rfl) (HasGs.cons (HasG.s rfl) HasGs.nil))))))) ?_
  refine wo (Spec.makeFunc (xs := []) (ys := [.tmp 6, .tmp 7]) rfl rfl HasF.nil (HasF.cons (Has.s rfl) (HasF.cons (Has.s rfl) HasF.nil)) (fun _ _ _ => rfl)) ?_
  refine Walk.inline (S := Int × (List (List UInt8)) × (List Bool) × UInt8 × Bool × UInt32 × Int) (fun p : Int × (List (List UInt8)) × (List Bool) × UInt8 × Bool × UInt32 × Int => [.fact 8 (.isv 49), .fact 13 (.tup2 (Fact.flds [(false, 1, Fact.rep [] p.1), (false, 1, Fact.ow [79] [80] 31 (p.2.1 : List (List UInt8))), (false, 1, Fact.ow [81] [] 4 (p.2.2.1 : List Bool)), (false, 1, Fact.rep [] p.2.2.2.1), (false, 1, Fact.rep [] p.2.2.2.2.1), (false, 1, Fact.rep [] p.2.2.2.2.2.1)]) (Fact.rep [] p.2.2.2.2.2.2)), .fact 902004 (.cst (u1 4) (Fact.isv 24)), .fact 100050 (.at 50 (.rep [] ((0 : Int) : Int))), .fact 100051 (.at 51 (.nilv)), .fact 100052 (.at 52 (.nilv)), .fact 100053 (.at 53 (.rep [] ((0 : UInt8) : UInt8))), .fact 100054 (.at 54 (.rep [] (false : Bool))), .fact 100055 (.at 55 (.rep [] ((0 : UInt32) : UInt32))), .fact 100025 (.at 25 (.rep [] ((0 : Int) : Int))), .fact 100026 (.at 26 (.nilv)), .fact 100027 (.at 27 (.nilv)), .fact 100028 (.at 28 (.rep [] ((0 : UInt8) : UInt8))), .fact 100029 (.at 29 (.rep [] (false : Bool))), .fact 100030 (.at 30 (.rep [] ((0 : UInt32) : UInt32))), .fact 100049 (.obj 49 [(false, 1), (false, 1), (false, 1), (false, 1), (false, 1), (false, 1)]), .fact 100024 (.obj 24 [(false, 1), (false, 1), (false, 1), (false, 1), (false, 1), (false, 1)])]) (fun p : Int × (List (List UInt8)) × (List Bool) × UInt8 × Bool × UInt32 × Int => head_Lay_J2 p.1 p.2.1 p.2.2.1 p.2.2.2.1 p.2.2.2.2.1 p.2.2.2.2.2.1 p.2.2.2.2.2.2 = some r) (fun u2 => [.fact 100025 (.at 25 (.rep [] ((0 : Int) : Int))), .fact 100026 (.at 26 (.nilv)), .fact 100027 (.at 27 (.nilv)), .fact 100028 (.at 28 (.rep [] ((0 : UInt8) : UInt8))), .fact 100029 (.at 29 (.rep [] (false : Bool))), .fact 100030 (.at 30 (.rep [] ((0 : UInt32) : UInt32))), .fact 100046 (.at 46 (.rep [] ((3 : Int) : Int))), .fact 100048 (.at 48 (.fnv 70 [] [])), .fact 100050 (.at 50 (.rep [] ((0 : Int) : Int))), .fact 100051 (.at 51 (.nilv)), .fact 100052 (.at 52 (.nilv)), .fact 100053 (.at 53 (.rep [] ((0 : UInt8) : UInt8))), .fact 100054 (.at 54 (.rep [] (false : Bool))), .fact 100055 (.at 55 (.rep [] ((0 : UInt32) : UInt32))), .fact 902004 (.cst (u1 4) (Fact.isv 24)), .fact 904008 (.cst (u2 8) (Fact.isv 49)), .fact 100024 (.obj 24 [(false, 1), (false, 1), (false, 1), (false, 1), (false, 1), (false, 1)]), .fact 100045 (.obj 45 [(false, 1)]), .fact 100047 (.obj 47 [(false, 1)]), .fact 100049 (.obj 49 [(false, 1), (false, 1), (false, 1), (false, 1), (false, 1), (false, 1)])]) (FA := [Fact.flds [(false, 1, Fact.rep [] a0.Id), (false, 1, Fact.rep [] a0.Members), (false, 1, Fact.rep [] a0.Chunk), (false, 1, Fact.rep [] a0.Rows), (false, 1, Fact.rep [] a0.Log), (false, 1, Fact.rep [] a0.Heads)], Fact.flds [(false, 1, Fact.rep [] a1.Stripe), (false, 1, Fact.rep [0] a1.Blocks), (false, 1, Fact.rep [0] a1.Dirty), (false, 1, Fact.rep [] a1.Phase), (false, 1, Fact.rep [] a1.Deals), (false, 1, Fact.rep [] a1.Seq)], Fact.rep [] ((0 : Int) : Int), Fact.nilv, Fact.fnv 77 [] [Fact.isv 45, Fact.isv 47]]) rfl Try.func48 rfl rfl rfl (CallOk.fn en48 (HasF.cons (Has.s rfl) (HasF.cons (Has.s rfl) (HasF.cons Has.int (HasF.cons Has.nilv (HasF.cons (Has.s rfl) HasF.nil)))))) (fun u2 => (ck (ck (ck (ck (ck (ck (ck (ck (ck (ck (ck (ck (ck (ck (ck (cs 904000 8 (ck (ck (ck (ck Carry.nil))))))))))))))))))))) (fun u2 => ?_) ?_
  ·refine CWalk.seq ?_
   refine CWalk.region ?_
   refine ws (Step.boxObj (ls := [(false, 1, Fact.rep [] a0.Id), (false, 1, Fact.rep [] a0.Members), (false, 1, Fact.rep [] a0.Chunk), (false, 1, Fact.rep [] a0.Rows), (false, 1, Fact.rep [] a0.Log), (false, 1, Fact.rep [] a0.Heads)]) 56 rfl rfl rfl rfl (HasL.flds (Has.s rfl))) ?_
   refine ws (Step.boxObj (ls := [(false, 1, Fact.rep [] a1.Stripe), (false, 1, Fact.rep [0] a1.Blocks), (false, 1, Fact.rep [0] a1.Dirty), (false, 1, Fact.rep [] a1.Phase), (false, 1, Fact.rep [] a1.Deals), (false, 1, Fact.rep [] a1.Seq)]) 63 rfl rfl rfl rfl (HasL.flds (Has.s rfl))) ?_
   refine ws (Step.allocObj (ls := [(false, 1, Fact.rep [] ((0 : Int) : Int)), (false, 1, Fact.nilv), (false, 1, Fact.nilv), (false, 1, Fact.rep [] ((0 : UInt8) : UInt8)), (false, 1, Fact.rep [] (false : Bool)), (false, 1, Fact.rep [] ((0 : UInt32) : UInt32))]) 70 rfl rfl rfl rfl zl28) ?_
   refine wo (Spec.assign Has.int) ?_
   refine Walk.nil ?_
   refine Leaf.thenN ?_
   refine CWalk.seq ?_
   refine CWalk.seq ?_
   refine CWalk.region ?_
   refine wo (Spec.loadObj (ls := [(false, 1, Fact.rep [] a0.Id), (false, 1, Fact.rep [] a0.Members), (false, 1, Fact.rep [] a0.Chunk), (false, 1, Fact.rep [] a0.Rows), (false, 1, Fact.rep [] a0.Log), (false, 1, Fact.rep [] a0.Heads)]) ty24 rfl rfl (Has.s rfl) rfl (HasGs.cons (HasG.s rfl) (HasGs.cons (HasG.s rfl) (HasGs.cons (HasG.s rfl) (HasGs.cons (HasG.s rfl) (HasGs.cons (HasG.s rfl) (HasGs.cons (HasG.s rfl) HasGs.nil))))))) ?_
   refine wo (Spec.loadObj (ls := [(false, 1, Fact.rep [] a1.Stripe), (false, 1, Fact.rep [0] a1.Blocks), (false, 1, Fact.rep [0] a1.Dirty), (false, 1, Fact.rep [] a1.Phase), (false, 1, Fact.rep [] a1.Deals), (false, 1, Fact.rep [] a1.Seq)]) ty28 rfl rfl (Has.s rfl) rfl (HasGs.cons (HasG.s rfl) (HasGs.cons (HasG.s rfl) (HasGs.cons (HasG.s rfl) (HasGs.cons (HasG.s rfl) (HasGs.cons (HasG.s rfl) (HasGs.cons (HasG.s rfl) HasGs.nil))))))) ?_
   obtain ⟨x15, hx15, hm⟩ := bind_some hm
   refine wo (f := Fact.rep [] (x15 : Int)) (Spec.callE [0] 77 rfl en24 (head_Check_c a0 a1 hx15) (HasAll.cons (Has.fl (Has.cv (Has.s rfl) (Cv.trans (Cv.flds (CvL.cons Cv.fl (CvL.cons Cv.fl (CvL.cons Cv.fl (CvL.cons Cv.fl (CvL.cons Cv.fl (CvL.cons Cv.fl CvL.nil))))))) (Cv.close (T := []) (chConfig a0))))) (HasAll.cons (Has.m (Has.cv (Has.s rfl) (Cv.trans (Cv.flds (CvL.cons Cv.fl (CvL.cons (Cv.m rfl) (CvL.cons (Cv.m rfl) (CvL.cons Cv.fl (CvL.cons Cv.fl (CvL.cons Cv.fl CvL.nil))))))) (Cv.close (T := [0]) (chHead a1)))) rfl) HasAll.nil))) ?_
   refine wo (Spec.assign (Has.s rfl)) ?_
   refine Walk.nil ?_
   refine Leaf.thenN ?_
   refine CWalk.seq ?_
   refine CWalk.region ?_
   refine mv ?_
   refine wo (Spec.neqI (Has.s rfl) Has.int) ?_
   refine Walk.nil ?_
   refine Leaf.thenN ?_
   refine CWalk.cond rfl (fun hb => ?_) (fun hb => ?_)
   ·have hm := cond_t hb hm
    refine CWalk.ret ?_
    refine Leaf.thenR ?_
    exact Leaf.in2 ((0 : Int), ([] : List (List UInt8)), ([] : List Bool), (0 : UInt8), false, (0 : UInt32), x15) hm rfl rfl (HasR.cv (HasR.obj (ls := [(false, 1, Fact.rep [] ((0 : Int) : Int)), (false, 1, Fact.nilv), (false, 1, Fact.nilv), (false, 1, Fact.rep [] ((0 : UInt8) : UInt8)), (false, 1, Fact.rep [] (false : Bool)), (false, 1, Fact.rep [] ((0 : UInt32) : UInt32))]) ty28 rfl rfl (Has.s rfl) rfl (HasGs.cons (HasG.s rfl) (HasGs.cons (HasG.s rfl) (HasGs.cons (HasG.s rfl) (HasGs.cons (HasG.s rfl) (HasGs.cons (HasG.s rfl) (HasGs.cons (HasG.s rfl) HasGs.nil))))))) (Cv.flds (CvL.cons Cv.fl (CvL.cons (Cv.trans Cv.nilOw (Cv.owM (T := []) (te := []) rfl rfl)) (CvL.cons (Cv.trans Cv.nilOw (Cv.owF (T := []) (te := []) rfl)) (CvL.cons Cv.fl (CvL.cons Cv.fl (CvL.cons Cv.fl CvL.nil)))))))) (HasR.cv (HasR.tmp (Has.s rfl)) Cv.fl) (ls 904008 (Low.res (lc (lf (lg (lg (lf (lf (lf (lf (lg (lg (lf (lf (lf (lo (lo Low.nil)))))))))))))))))
   ·have hm := cond_f hb hm
    refine CWalk.skip ?_
    refine Leaf.thenN ?_
    refine CWalk.seq ?_
    refine CWalk.seq ?_
    refine CWalk.region ?_
    refine mv ?_
    refine wo (Spec.lssI (Has.s rfl) Has.int) ?_
    refine mv ?_
    refine wg rfl rfl (fun hb => Spec.move (Has.s rfl)) ?_
    refine wg rfl rfl (fun hb => Spec.fieldAddrO fd24_1 (Has.cv (Has.s rfl) (Cv.isvP rfl))) ?_
    refine wg rfl rfl (fun hb => Spec.loadF (i := 1) ty3 rfl (Has.u rfl hb) rfl (HasG.s rfl)) ?_
    refine wg rfl rfl (fun hb => Spec.subI (Has.u rfl hb) Has.int) ?_
    refine wg rfl rfl (fun hb => Spec.geqI (Has.u rfl hb) (Has.u rfl hb)) ?_
    refine wo (Spec.or (Has.s rfl) (fun h => Has.u rfl h)) ?_
    refine Walk.nil ?_
    refine Leaf.thenN ?_
    refine CWalk.cond rfl (fun hb => ?_) (fun hb => ?_)
    ·have hm := cond_t hb hm
     refine CWalk.seq ?_
     refine CWalk.region ?_
     refine wo (Spec.loadObj (ls := [(false, 1, Fact.rep [] ((0 : Int) : Int)), (false, 1, Fact.nilv), (false, 1, Fact.nilv), (false, 1, Fact.rep [] ((0 : UInt8) : UInt8)), (false, 1, Fact.rep [] (false : Bool)), (false, 1, Fact.rep [] ((0 : UInt32) : UInt32))]) ty28 rfl rfl (Has.s rfl) rfl (HasGs.cons (HasG.s rfl) (HasGs.cons (HasG.s rfl) (HasGs.cons (HasG.s rfl) (HasGs.cons (HasG.s rfl) (HasGs.cons (HasG.s rfl) (HasGs.cons (HasG.s rfl) HasGs.nil))))))) ?_
     refine ws (Step.storeObj (ls := [(false, 1, Fact.rep [] ((0 : Int) : Int)), (false, 1, Fact.nilv), (false, 1, Fact.nilv), (false, 1, Fact.rep [] ((0 : UInt8) : UInt8)), (false, 1, Fact.rep [] (false : Bool)), (false, 1, Fact.rep [] ((0 : UInt32) : UInt32))]) rfl ty28 rfl rfl (Has.s rfl) rfl (HasL.flds (Has.s rfl)) rfl) ?_
     refine wo (Spec.assign Has.int) ?_
     refine Walk.nil ?_
     refine Leaf.thenN ?_
     refine CWalk.ret ?_
     refine Leaf.thenR ?_
     exact Leaf.in2 ((0 : Int), ([] : List (List UInt8)), ([] : List Bool), (0 : UInt8), false, (0 : UInt32), (2 : Int)) hm rfl rfl (HasR.cv (HasR.obj (ls := [(false, 1, Fact.rep [] ((0 : Int) : Int)), (false, 1, Fact.nilv), (false, 1, Fact.nilv), (false, 1, Fact.rep [] ((0 : UInt8) : UInt8)), (false, 1, Fact.rep [] (false : Bool)), (false, 1, Fact.rep [] ((0 : UInt32) : UInt32))]) ty28 rfl rfl (Has.s rfl) rfl (HasGs.cons (HasG.s rfl) (HasGs.cons (HasG.s rfl) (HasGs.cons (HasG.s rfl) (HasGs.cons (HasG.s rfl) (HasGs.cons (HasG.s rfl) (HasGs.cons (HasG.s rfl) HasGs.nil))))))) (Cv.flds (CvL.cons Cv.fl (CvL.cons (Cv.trans Cv.nilOw (Cv.owM (T := []) (te := []) rfl rfl)) (CvL.cons (Cv.trans Cv.nilOw (Cv.owF (T := []) (te := []) rfl)) (CvL.cons Cv.fl (CvL.cons Cv.fl (CvL.cons Cv.fl CvL.nil)))))))) (HasR.cv (HasR.tmp (Has.s rfl)) Cv.fl) (ls 904008 (Low.res (lc (lf (lg (lg (lf (lf (lf (lf (lg (lg (lf (lf (lf (lo (lo Low.nil)))))))))))))))))
    ·have hm := cond_f hb hm
     refine CWalk.skip ?_
     refine Leaf.thenN ?_
     refine CWalk.seq ?_
     refine CWalk.seq ?_
     refine CWalk.region ?_
     refine mv ?_
     obtain ⟨x16, hx16, hm⟩ := bind_some hm
     refine wo (f := Fact.rep [] (x16 : Bool)) (Spec.callE [] 78 rfl en58 (head_odd_c ([] : List UInt8) hx16) (HasAll.cons (Has.m (Has.cv (Has.s rfl) (Cv.nil (T := []))) rfl) HasAll.nil)) ?_
     refine Walk.nil ?_
     refine Leaf.thenN ?_
     refine CWalk.cond rfl (fun hb => ?_) (fun hb => ?_)
     ·have hm := cond_t hb hm
      refine CWalk.seq ?_
      refine CWalk.region ?_
      refine wo (Spec.loadObj (ls := [(false, 1, Fact.rep [] ((0 : Int) : Int)), (false, 1, Fact.nilv), (false, 1, Fact.nilv), (false, 1, Fact.rep [] ((0 : UInt8) : UInt8)), (false, 1, Fact.rep [] (false : Bool)), (false, 1, Fact.rep [] ((0 : UInt32) : UInt32))]) ty28 rfl rfl (Has.s rfl) rfl (HasGs.cons (HasG.s rfl) (HasGs.cons (HasG.s rfl) (HasGs.cons (HasG.s rfl) (HasGs.cons (HasG.s rfl) (HasGs.cons (HasG.s rfl) (HasGs.cons (HasG.s rfl) HasGs.nil))))))) ?_
      refine ws (Step.storeObj (ls := [(false, 1, Fact.rep [] ((0 : Int) : Int)), (false, 1, Fact.nilv), (false, 1, Fact.nilv), (false, 1, Fact.rep [] ((0 : UInt8) : UInt8)), (false, 1, Fact.rep [] (false : Bool)), (false, 1, Fact.rep [] ((0 : UInt32) : UInt32))]) rfl ty28 rfl rfl (Has.s rfl) rfl (HasL.flds (Has.s rfl)) rfl) ?_
      refine wo (Spec.assign Has.int) ?_
      refine Walk.nil ?_
      refine Leaf.thenN ?_
      refine CWalk.ret ?_
      refine Leaf.thenR ?_
      exact Leaf.in2 ((0 : Int), ([] : List (List UInt8)), ([] : List Bool), (0 : UInt8), false, (0 : UInt32), (3 : Int)) hm rfl rfl (HasR.cv (HasR.obj (ls := [(false, 1, Fact.rep [] ((0 : Int) : Int)), (false, 1, Fact.nilv), (false, 1, Fact.nilv), (false, 1, Fact.rep [] ((0 : UInt8) : UInt8)), (false, 1, Fact.rep [] (false : Bool)), (false, 1, Fact.rep [] ((0 : UInt32) : UInt32))]) ty28 rfl rfl (Has.s rfl) rfl (HasGs.cons (HasG.s rfl) (HasGs.cons (HasG.s rfl) (HasGs.cons (HasG.s rfl) (HasGs.cons (HasG.s rfl) (HasGs.cons (HasG.s rfl) (HasGs.cons (HasG.s rfl) HasGs.nil))))))) (Cv.flds (CvL.cons Cv.fl (CvL.cons (Cv.trans Cv.nilOw (Cv.owM (T := []) (te := []) rfl rfl)) (CvL.cons (Cv.trans Cv.nilOw (Cv.owF (T := []) (te := []) rfl)) (CvL.cons Cv.fl (CvL.cons Cv.fl (CvL.cons Cv.fl CvL.nil)))))))) (HasR.cv (HasR.tmp (Has.s rfl)) Cv.fl) (ls 904008 (Low.res (lc (lf (lg (lg (lf (lf (lf (lf (lg (lg (lf (lf (lf (lo (lo Low.nil)))))))))))))))))
     ·have hm := cond_f hb hm
      refine CWalk.skip ?_
      refine Leaf.thenN ?_
      refine CWalk.seq ?_
      refine CWalk.region ?_
      refine wo (Spec.loadObj (ls := [(false, 1, Fact.rep [] a1.Stripe), (false, 1, Fact.rep [0] a1.Blocks), (false, 1, Fact.rep [0] a1.Dirty), (false, 1, Fact.rep [] a1.Phase), (false, 1, Fact.rep [] a1.Deals), (false, 1, Fact.rep [] a1.Seq)]) ty28 rfl rfl (Has.s rfl) rfl (HasGs.cons (HasG.s rfl) (HasGs.cons (HasG.s rfl) (HasGs.cons (HasG.s rfl) (HasGs.cons (HasG.s rfl) (HasGs.cons (HasG.s rfl) (HasGs.cons (HasG.s rfl) HasGs.nil))))))) ?_
      obtain ⟨x17, hx17, hm⟩ := bind_some hm
      refine wo (f := Fact.flds [(false, 1, Fact.rep [] x17.Stripe), (false, 1, Fact.ow [79] [80] 31 (x17.Blocks : List (List UInt8))), (false, 1, Fact.ow [81] [] 4 (x17.Dirty : List Bool)), (false, 1, Fact.rep [] x17.Phase), (false, 1, Fact.rep [] x17.Deals), (false, 1, Fact.rep [] x17.Seq)]) (Spec.callE [0] 79 rfl en23 (head_Twin_c a1 hx17) (HasAll.cons (Has.m (Has.cv (Has.s rfl) (Cv.trans (Cv.flds (CvL.cons Cv.fl (CvL.cons (Cv.m rfl) (CvL.cons (Cv.m rfl) (CvL.cons Cv.fl (CvL.cons Cv.fl (CvL.cons Cv.fl CvL.nil))))))) (Cv.close (T := [0]) (chHead a1)))) rfl) HasAll.nil)) ?_
      refine ws (Step.allocObj (ls := [(false, 1, Fact.rep [] ((0 : Int) : Int)), (false, 1, Fact.nilv), (false, 1, Fact.nilv), (false, 1, Fact.rep [] ((0 : UInt8) : UInt8)), (false, 1, Fact.rep [] (false : Bool)), (false, 1, Fact.rep [] ((0 : UInt32) : UInt32))]) 82 rfl rfl rfl rfl zl28) ?_
      refine ws (Step.storeObj (ls := [(false, 1, Fact.rep [] x17.Stripe), (false, 1, Fact.ow [79] [80] 31 (x17.Blocks : List (List UInt8))), (false, 1, Fact.ow [81] [] 4 (x17.Dirty : List Bool)), (false, 1, Fact.rep [] x17.Phase), (false, 1, Fact.rep [] x17.Deals), (false, 1, Fact.rep [] x17.Seq)]) rfl ty28 rfl rfl (Has.s rfl) rfl (HasL.flds (Has.s rfl)) rfl) ?_
      refine Walk.nil ?_
      refine Leaf.thenN ?_
      refine CWalk.seqJ (fun p : Int × Int × (List (List UInt8)) × (List Bool) × UInt8 × Bool × UInt32 => [.fact 10 (.isv 70), .fact 11 (.rep [] p.1), .fact 902004 (.cst (u1 4) (Fact.isv 24)), .fact 904008 (.cst (u2 8) (Fact.isv 49)), .fact 100071 (.at 71 (.rep [] p.2.1)), .fact 100072 (.at 72 (.ow [79] [80] 31 (p.2.2.1 : List (List UInt8)))), .fact 100073 (.at 73 (.ow [81] [] 4 (p.2.2.2.1 : List Bool))), .fact 100074 (.at 74 (.rep [] p.2.2.2.2.1)), .fact 100075 (.at 75 (.rep [] p.2.2.2.2.2.1)), .fact 100076 (.at 76 (.rep [] p.2.2.2.2.2.2)), .fact 100025 (.at 25 (.rep [] ((0 : Int) : Int))), .fact 100026 (.at 26 (.nilv)), .fact 100027 (.at 27 (.nilv)), .fact 100028 (.at 28 (.rep [] ((0 : UInt8) : UInt8))), .fact 100029 (.at 29 (.rep [] (false : Bool))), .fact 100030 (.at 30 (.rep [] ((0 : UInt32) : UInt32))), .fact 100050 (.at 50 (.rep [] ((0 : Int) : Int))), .fact 100051 (.at 51 (.nilv)), .fact 100052 (.at 52 (.nilv)), .fact 100053 (.at 53 (.rep [] ((0 : UInt8) : UInt8))), .fact 100054 (.at 54 (.rep [] (false : Bool))), .fact 100055 (.at 55 (.rep [] ((0 : UInt32) : UInt32))), .fact 100070 (.obj 70 [(false, 1), (false, 1), (false, 1), (false, 1), (false, 1), (false, 1)]), .fact 100024 (.obj 24 [(false, 1), (false, 1), (false, 1), (false, 1), (false, 1), (false, 1)]), .fact 100049 (.obj 49 [(false, 1), (false, 1), (false, 1), (false, 1), (false, 1), (false, 1)])]) (fun p : Int × Int × (List (List UInt8)) × (List Bool) × UInt8 × Bool × UInt32 => head_Lay_J3 p.1 p.2.1 p.2.2.1 p.2.2.2.1 p.2.2.2.2.1 p.2.2.2.2.2.1 p.2.2.2.2.2.2 = some r) ?_ ?_
      ·rintro ⟨j18, j19, j20, j21, j22, j23, j24⟩ hm
       replace hm : head_Lay_J3 j18 j19 j20 j21 j22 j23 j24 = some r := hm
       unfold head_Lay_J3 at hm
       show CWalk _ [.fact 10 (.isv 70), .fact 11 (.rep [] (j18 : Int)), .fact 902004 (.cst (u1 4) (Fact.isv 24)), .fact 904008 (.cst (u2 8) (Fact.isv 49)), .fact 100071 (.at 71 (.rep [] (j19 : Int))), .fact 100072 (.at 72 (.ow [79] [80] 31 (j20 : List (List UInt8)))), .fact 100073 (.at 73 (.ow [81] [] 4 (j21 : List Bool))), .fact 100074 (.at 74 (.rep [] (j22 : UInt8))), .fact 100075 (.at 75 (.rep [] (j23 : Bool))), .fact 100076 (.at 76 (.rep [] (j24 : UInt32))), .fact 100025 (.at 25 (.rep [] ((0 : Int) : Int))), .fact 100026 (.at 26 (.nilv)), .fact 100027 (.at 27 (.nilv)), .fact 100028 (.at 28 (.rep [] ((0 : UInt8) : UInt8))), .fact 100029 (.at 29 (.rep [] (false : Bool))), .fact 100030 (.at 30 (.rep [] ((0 : UInt32) : UInt32))), .fact 100050 (.at 50 (.rep [] ((0 : Int) : Int))), .fact 100051 (.at 51 (.nilv)), .fact 100052 (.at 52 (.nilv)), .fact 100053 (.at 53 (.rep [] ((0 : UInt8) : UInt8))), .fact 100054 (.at 54 (.rep [] (false : Bool))), .fact 100055 (.at 55 (.rep [] ((0 : UInt32) : UInt32))), .fact 100070 (.obj 70 [(false, 1), (false, 1), (false, 1), (false, 1), (false, 1), (false, 1)]), .fact 100024 (.obj 24 [(false, 1), (false, 1), (false, 1), (false, 1), (false, 1), (false, 1)]), .fact 100049 (.obj 49 [(false, 1), (false, 1), (false, 1), (false, 1), (false, 1), (false, 1)])] _ _
       refine CWalk.ret ?_
       exact Leaf.in2 (j19, j20, j21, j22, j23, j24, j18) hm rfl rfl (HasR.cv (HasR.obj (ls := [(false, 1, Fact.rep [] (j19 : Int)), (false, 1, Fact.ow [79] [80] 31 (j20 : List (List UInt8))), (false, 1, Fact.ow [81] [] 4 (j21 : List Bool)), (false, 1, Fact.rep [] (j22 : UInt8)), (false, 1, Fact.rep [] (j23 : Bool)), (false, 1, Fact.rep [] (j24 : UInt32))]) ty28 rfl rfl (Has.s rfl) rfl (HasGs.cons (HasG.s rfl) (HasGs.cons (HasG.s rfl) (HasGs.cons (HasG.s rfl) (HasGs.cons (HasG.s rfl) (HasGs.cons (HasG.s rfl) (HasGs.cons (HasG.s rfl) HasGs.nil))))))) (Cv.flds (CvL.cons Cv.fl (CvL.cons (Cv.owM (T := [79]) (te := [80]) rfl rfl) (CvL.cons (Cv.owF (T := [81]) (te := []) rfl) (CvL.cons Cv.fl (CvL.cons Cv.fl (CvL.cons Cv.fl CvL.nil)))))))) (HasR.cv (HasR.tmp (Has.s rfl)) Cv.fl) (ls 904008 (Low.res (lc (lf (lg (lg (lf (lf (lf (lf (lg (lg (lf (lf (lf (lo (lo Low.nil)))))))))))))))))
      ·refine CWalk.seq ?_
       refine CWalk.region ?_
       refine mv ?_
       refine Walk.inline (S := Int × UInt8 × Bool) (fun p : Int × UInt8 × Bool => [.fact 10 (.isv 70), .fact 12 (.isv 82), .fact 34 (.rep [] p.1), .fact 902004 (.cst (u1 4) (Fact.isv 24)), .fact 904008 (.cst (u2 8) (Fact.isv 49)), .fact 100071 (.at 71 (.rep [] ((0 : Int) : Int))), .fact 100072 (.at 72 (.nilv)), .fact 100073 (.at 73 (.nilv)), .fact 100074 (.at 74 (.rep [] ((0 : UInt8) : UInt8))), .fact 100075 (.at 75 (.rep [] (false : Bool))), .fact 100076 (.at 76 (.rep [] ((0 : UInt32) : UInt32))), .fact 100083 (.at 83 (.rep [] x17.Stripe)), .fact 100084 (.at 84 (.ow [79] [80] 31 (x17.Blocks : List (List UInt8)))), .fact 100085 (.at 85 (.ow [81] [] 4 (x17.Dirty : List Bool))), .fact 100086 (.at 86 (.rep [] p.2.1)), .fact 100087 (.at 87 (.rep [] p.2.2)), .fact 100088 (.at 88 (.rep [] x17.Seq)), .fact 100025 (.at 25 (.rep [] ((0 : Int) : Int))), .fact 100026 (.at 26 (.nilv)), .fact 100027 (.at 27 (.nilv)), .fact 100028 (.at 28 (.rep [] ((0 : UInt8) : UInt8))), .fact 100029 (.at 29 (.rep [] (false : Bool))), .fact 100030 (.at 30 (.rep [] ((0 : UInt32) : UInt32))), .fact 100050 (.at 50 (.rep [] ((0 : Int) : Int))), .fact 100051 (.at 51 (.nilv)), .fact 100052 (.at 52 (.nilv)), .fact 100053 (.at 53 (.rep [] ((0 : UInt8) : UInt8))), .fact 100054 (.at 54 (.rep [] (false : Bool))), .fact 100055 (.at 55 (.rep [] ((0 : UInt32) : UInt32))), .fact 100070 (.obj 70 [(false, 1), (false, 1), (false, 1), (false, 1), (false, 1), (false, 1)]), .fact 100082 (.obj 82 [(false, 1), (false, 1), (false, 1), (false, 1), (false, 1), (false, 1)]), .fact 100024 (.obj 24 [(false, 1), (false, 1), (false, 1), (false, 1), (false, 1), (false, 1)]), .fact 100049 (.obj 49 [(false, 1), (false, 1), (false, 1), (false, 1), (false, 1), (false, 1)])]) (fun p : Int × UInt8 × Bool => head_Lay_J4 x17 p.1 p.2.1 p.2.2 = some r) (fun u3 => [.fact 100025 (.at 25 (.rep [] ((0 : Int) : Int))), .fact 100026 (.at 26 (.nilv)), .fact 100027 (.at 27 (.nilv)), .fact 100028 (.at 28 (.rep [] ((0 : UInt8) : UInt8))), .fact 100029 (.at 29 (.rep [] (false : Bool))), .fact 100030 (.at 30 (.rep [] ((0 : UInt32) : UInt32))), .fact 100046 (.at 46 (.rep [] ((3 : Int) : Int))), .fact 100048 (.at 48 (.fnv 70 [] [])), .fact 100050 (.at 50 (.rep [] ((0 : Int) : Int))), .fact 100051 (.at 51 (.nilv)), .fact 100052 (.at 52 (.nilv)), .fact 100053 (.at 53 (.rep [] ((0 : UInt8) : UInt8))), .fact 100054 (.at 54 (.rep [] (false : Bool))), .fact 100055 (.at 55 (.rep [] ((0 : UInt32) : UInt32))), .fact 100071 (.at 71 (.rep [] ((0 : Int) : Int))), .fact 100072 (.at 72 (.nilv)), .fact 100073 (.at 73 (.nilv)), .fact 100074 (.at 74 (.rep [] ((0 : UInt8) : UInt8))), .fact 100075 (.at 75 (.rep [] (false : Bool))), .fact 100076 (.at 76 (.rep [] ((0 : UInt32) : UInt32))), .fact 100083 (.at 83 (.rep [] x17.Stripe)), .fact 100084 (.at 84 (.ow [79] [80] 31 (x17.Blocks : List (List UInt8)))), .fact 100085 (.at 85 (.ow [81] [] 4 (x17.Dirty : List Bool))), .fact 100086 (.at 86 (.rep [] x17.Phase)), .fact 100087 (.at 87 (.rep [] x17.Deals)), .fact 100088 (.at 88 (.rep [] x17.Seq)), .fact 902004 (.cst (u1 4) (Fact.isv 24)), .fact 904008 (.cst (u2 8) (Fact.isv 49)), .fact 906010 (.cst (u3 10) (Fact.isv 70)), .fact 906012 (.cst (u3 12) (Fact.isv 82)), .fact 100024 (.obj 24 [(false, 1), (false, 1), (false, 1), (false, 1), (false, 1), (false, 1)]), .fact 100045 (.obj 45 [(false, 1)]), .fact 100047 (.obj 47 [(false, 1)]), .fact 100049 (.obj 49 [(false, 1), (false, 1), (false, 1), (false, 1), (false, 1), (false, 1)]), .fact 100070 (.obj 70 [(false, 1), (false, 1), (false, 1), (false, 1), (false, 1), (false, 1)]), .fact 100082 (.obj 82 [(false, 1), (false, 1), (false, 1), (false, 1), (false, 1), (false, 1)])]) (FA := [Fact.isv 82, Fact.isv 45, Fact.isv 47]) rfl Try.func77 rfl rfl rfl (CallOk.valE en77 (Has.s rfl) (HasF.cons (Has.s rfl) HasF.nil)) (fun u3 => (ck (ck (ck (ck (ck (ck (ck (ck (ck (ck (ck (ck (ck (ck (ck (ck (ck (ck (ck (ck (ck (ck (ck (ck (ck (ck (ck (ck (cs 906000 10 (cs 906000 12 (ck (ck (ck (ck (ck (ck Carry.nil))))))))))))))))))))))))))))))))))))) (fun u3 => ?_) ?_
       ·refine CWalk.seq ?_
        refine CWalk.region ?_
        refine wo (Spec.assign Has.int) ?_
        refine Walk.nil ?_
        refine Leaf.thenN ?_
        refine CWalk.seq ?_
        refine CWalk.seq ?_
        obtain ⟨x28, hx28, hm⟩ := bind_some hm
        obtain ⟨x29, hx29, hm⟩ := bind_some hm
        refine CWalk.drawM [[], [], [1], [1, 2], [1, 2, 3], [0, 1, 2, 3, 4], [0, 1, 2, 3, 4, 5], [0, 1, 2, 3, 4, 5, 6], [0, 1, 2, 3, 4, 5, 6, 7], [0, 1, 2, 3, 4, 5, 6, 7, 8], [0, 1, 2, 3, 4, 5, 6, 7, 8, 9], [0, 1, 2, 3, 4, 5, 6, 7, 8, 9, 10], [0, 1, 2, 3, 4, 5, 6, 7, 8, 9, 10, 11], [0, 1, 2, 3, 4, 5, 6, 7, 8, 9, 10, 11, 12], [0, 1, 2, 3, 4, 5, 6, 7, 8, 9, 10, 11, 12, 13], [0, 1, 2, 3, 4, 5, 6, 7, 8, 9, 10, 11, 12, 13, 14], [0, 1, 2, 3, 4, 5, 6, 7, 8, 9, 10, 11, 12, 13, 14, 15], [0, 1, 2, 3, 4, 5, 6, 7, 8, 9, 10, 11, 12, 13, 14, 15, 16], [0, 1, 2, 3, 4, 5, 6, 7, 8, 9, 10, 11, 12, 13, 14, 15, 16, 17]] [[.fact 5 (.rep [] ((3 : Int) : Int))], [.fact 6 (.isv 82)], [.fact 7 (.isv 82)], [.fact 8 (.pto 82 3)], [.fact 9 (.rep [] x17.Phase)], [.fact 10 (.rep [] (x28 : Bool))], [.fact 11 (.rep [] ((!x28) : Bool))], [.fact 12 (.rep [] ((!x28) : Bool))], [.fact 13 (.under ((!x28) = false) (.rep [] ((3 : Int) : Int)))], [.fact 14 (.under ((!x28) = false) (.rep [] (((3 : Int) == (0 : Int)) : Bool)))], [.fact 15 (.under ((!x28) = false) (.rep [] (((3 : Int) == (0 : Int)) : Bool)))], [.fact 16 (.under (((!x28) = false) ∧ (((3 : Int) == (0 : Int)) = true)) (.isv 82))], [.fact 17 (.under (((!x28) = false) ∧ (((3 : Int) == (0 : Int)) = true)) (.isv 82))], [.fact 18 (.under (((!x28) = false) ∧ (((3 : Int) == (0 : Int)) = true)) (.pto 82 2))], [.fact 19 (.under (((!x28) = false) ∧ (((3 : Int) == (0 : Int)) = true)) (.ow [81] [] 4 (x17.Dirty : List Bool)))], [.fact 20 (.under (((!x28) = false) ∧ (((3 : Int) == (0 : Int)) = true)) (.rep [] (x29 : Bool)))], [.fact 21 (.under (((!x28) = false) ∧ (((3 : Int) == (0 : Int)) = true)) (.rep [] ((!x29) : Bool)))], [.fact 22 (.under ((!x28) = false) (.rep [] ((((3 : Int) == (0 : Int)) && (!x29)) : Bool)))], [.fact 23 (.rep [] (((!x28) || (((3 : Int) == (0 : Int)) && (!x29))) : Bool))]] mixed (by kernel_rfl) (ao (so (Spec.loadF (i := 0) ty3 rfl (Has.cv (Has.s rfl) (Cv.isvP rfl)) rfl (HasG.s rfl))) (ao (so (Spec.move (Has.s rfl))) (ao (so (Spec.nilCheckI (Has.s rfl) rfl)) (ao (so (Spec.fieldAddrO fd28_3 (Has.cv (Has.s rfl) (Cv.isvP rfl)))) (ao (so (Spec.loadF (i := 3) ty5 rfl (Has.s rfl) rfl (HasG.s rfl))) (ao (so (Spec.callE [] 89 rfl en78 (head_may_c (3 : Int) x17.Phase hx28) (HasAll.cons (Has.fl (Has.s rfl)) (HasAll.cons (Has.fl (Has.s rfl)) HasAll.nil)))) (ao (so (Spec.not (Has.s rfl))) (ao (so (Spec.move (Has.s rfl))) (ao (StepG.opg rfl rfl rfl (fun hb => Spec.loadF (i := 0) ty3 rfl (Has.cv (Has.s rfl) (Cv.isvP rfl)) rfl (HasG.s rfl))) (ao (StepG.opg rfl rfl rfl (fun hb => Spec.eqlI (Has.u rfl hb) Has.int)) (ao (StepG.opg rfl rfl rfl (fun hb => Spec.move (Has.u rfl hb))) (ao (StepG.opgu rfl rfl rfl (fun hb => Spec.move (Has.s rfl))) (ao (StepG.opgu rfl rfl rfl (fun hb => Spec.nilCheckI (Has.u rfl hb) rfl)) (ao (StepG.opgu rfl rfl rfl (fun hb => Spec.fieldAddrO fd28_2 (Has.cv (Has.u rfl hb) (Cv.isvP rfl)))) (ao (StepG.opgu rfl rfl rfl (fun hb => Spec.loadF (i := 2) ty26 rfl (Has.u rfl hb) rfl (HasG.s rfl))) (ao (StepG.opgu rfl rfl rfl (fun hb => Spec.callE [81] 90 rfl en79 (slices_Contains_bool_bool_c x17.Dirty true (gO_t hx29 (and_t (not_t hb.1) hb.2))) (HasAll.cons (Has.m (Has.cv (Has.u rfl hb) (Cv.trans Cv.owSl (Cv.slRep (T' := [81]) rfl rfl))) rfl) (HasAll.cons (Has.fl Has.bool) HasAll.nil)))) (ao (StepG.opgu rfl rfl rfl (fun hb => Spec.not (Has.u rfl hb))) (ao (StepG.opg rfl rfl rfl (fun hb => Spec.and (Has.u rfl hb) (fun h => Has.u rfl ⟨hb, h⟩))) (ao (so (Spec.or (Has.s rfl) (fun h => Has.u rfl h))) AllM.nil))))))))))))))))))) ?_
        refine Leaf.thenN ?_
        refine CWalk.cond rfl (fun hb => ?_) (fun hb => ?_)
        ·have hm := cond_t hb hm
         refine CWalk.seq ?_
         refine CWalk.region ?_
         refine wo (Spec.assign Has.int) ?_
         refine Walk.nil ?_
         refine Leaf.thenN ?_
         refine CWalk.ret ?_
         refine Leaf.thenR ?_
         exact Leaf.in1 ((6 : Int), x17.Phase, x17.Deals) hm rfl rfl (HasR.cv (HasR.tmp (Has.s rfl)) Cv.fl) (ls 906010 (ls 906012 (Low.res (lc (lc (lf (lg (lg (lf (lf (lf (lf (Low.keepG (HasG.cv (HasG.s rfl) (Cv.owM (T := [79]) (te := [80]) rfl rfl)) (Low.keepG (HasG.cv (HasG.s rfl) (Cv.owF (T := [81]) (te := []) rfl)) (lf (lf (lf (lf (lg (lg (lf (lf (lf (lf (lg (lg (lf (lf (lf (lo (lo (lo (lo Low.nil)))))))))))))))))))))))))))))))))
        ·have hm := cond_f hb hm
         refine CWalk.skip ?_
         refine Leaf.thenN ?_
         refine CWalk.seq ?_
         refine CWalk.region ?_
         refine wo (Spec.loadF (α := Int) (i := 0) ty96 rfl (Has.cv (Has.s rfl) (Cv.isvP rfl)) rfl (HasG.s rfl)) ?_
         refine mv ?_
         refine Walk.inline (S := Unit) (fun p : Unit => [.fact 26 (.top), .fact 902004 (.cst (u1 4) (Fact.isv 24)), .fact 904008 (.cst (u2 8) (Fact.isv 49)), .fact 906010 (.cst (u3 10) (Fact.isv 70)), .fact 906012 (.cst (u3 12) (Fact.isv 82)), .fact 100025 (.at 25 (.rep [] ((0 : Int) : Int))), .fact 100026 (.at 26 (.nilv)), .fact 100027 (.at 27 (.nilv)), .fact 100028 (.at 28 (.rep [] ((0 : UInt8) : UInt8))), .fact 100029 (.at 29 (.rep [] (false : Bool))), .fact 100030 (.at 30 (.rep [] ((0 : UInt32) : UInt32))), .fact 100050 (.at 50 (.rep [] ((0 : Int) : Int))), .fact 100051 (.at 51 (.nilv)), .fact 100052 (.at 52 (.nilv)), .fact 100053 (.at 53 (.rep [] ((0 : UInt8) : UInt8))), .fact 100054 (.at 54 (.rep [] (false : Bool))), .fact 100055 (.at 55 (.rep [] ((0 : UInt32) : UInt32))), .fact 100071 (.at 71 (.rep [] ((0 : Int) : Int))), .fact 100072 (.at 72 (.nilv)), .fact 100073 (.at 73 (.nilv)), .fact 100074 (.at 74 (.rep [] ((0 : UInt8) : UInt8))), .fact 100075 (.at 75 (.rep [] (false : Bool))), .fact 100076 (.at 76 (.rep [] ((0 : UInt32) : UInt32))), .fact 100083 (.at 83 (.rep [] x17.Stripe)), .fact 100084 (.at 84 (.ow [79] [80] 31 (x17.Blocks : List (List UInt8)))), .fact 100085 (.at 85 (.ow [81] [] 4 (x17.Dirty : List Bool))), .fact 100086 (.at 86 (.rep [] ((4 : UInt8) : UInt8))), .fact 100087 (.at 87 (.rep [] (false : Bool))), .fact 100088 (.at 88 (.rep [] x17.Seq)), .fact 100024 (.obj 24 [(false, 1), (false, 1), (false, 1), (false, 1), (false, 1), (false, 1)]), .fact 100049 (.obj 49 [(false, 1), (false, 1), (false, 1), (false, 1), (false, 1), (false, 1)]), .fact 100070 (.obj 70 [(false, 1), (false, 1), (false, 1), (false, 1), (false, 1), (false, 1)]), .fact 100082 (.obj 82 [(false, 1), (false, 1), (false, 1), (false, 1), (false, 1), (false, 1)])]) (fun p : Unit => head_Lay_J5 x17 = some r) (fun u4 => [.fact 100025 (.at 25 (.rep [] ((0 : Int) : Int))), .fact 100026 (.at 26 (.nilv)), .fact 100027 (.at 27 (.nilv)), .fact 100028 (.at 28 (.rep [] ((0 : UInt8) : UInt8))), .fact 100029 (.at 29 (.rep [] (false : Bool))), .fact 100030 (.at 30 (.rep [] ((0 : UInt32) : UInt32))), .fact 100050 (.at 50 (.rep [] ((0 : Int) : Int))), .fact 100051 (.at 51 (.nilv)), .fact 100052 (.at 52 (.nilv)), .fact 100053 (.at 53 (.rep [] ((0 : UInt8) : UInt8))), .fact 100054 (.at 54 (.rep [] (false : Bool))), .fact 100055 (.at 55 (.rep [] ((0 : UInt32) : UInt32))), .fact 100071 (.at 71 (.rep [] ((0 : Int) : Int))), .fact 100072 (.at 72 (.nilv)), .fact 100073 (.at 73 (.nilv)), .fact 100074 (.at 74 (.rep [] ((0 : UInt8) : UInt8))), .fact 100075 (.at 75 (.rep [] (false : Bool))), .fact 100076 (.at 76 (.rep [] ((0 : UInt32) : UInt32))), .fact 100083 (.at 83 (.rep [] x17.Stripe)), .fact 100084 (.at 84 (.ow [79] [80] 31 (x17.Blocks : List (List UInt8)))), .fact 100085 (.at 85 (.ow [81] [] 4 (x17.Dirty : List Bool))), .fact 100086 (.at 86 (.rep [] x17.Phase)), .fact 100087 (.at 87 (.rep [] x17.Deals)), .fact 100088 (.at 88 (.rep [] x17.Seq)), .fact 902004 (.cst (u1 4) (Fact.isv 24)), .fact 904008 (.cst (u2 8) (Fact.isv 49)), .fact 906010 (.cst (u3 10) (Fact.isv 70)), .fact 906012 (.cst (u3 12) (Fact.isv 82)), .fact 100024 (.obj 24 [(false, 1), (false, 1), (false, 1), (false, 1), (false, 1), (false, 1)]), .fact 100049 (.obj 49 [(false, 1), (false, 1), (false, 1), (false, 1), (false, 1), (false, 1)]), .fact 100070 (.obj 70 [(false, 1), (false, 1), (false, 1), (false, 1), (false, 1), (false, 1)]), .fact 100082 (.obj 82 [(false, 1), (false, 1), (false, 1), (false, 1), (false, 1), (false, 1)])]) (FA := [Fact.isv 82]) rfl Try.func70 rfl rfl rfl (CallOk.valE en70 (Has.s rfl) (HasF.cons (Has.s rfl) HasF.nil)) (fun u4 => (ck (ck (ck (ck (ck (ck (ck (ck (ck (ck (ck (ck (ck (ck (ck (ck (ck (ck (ck (ck (ck (ck (ck (ck (ck (ck (ck (ck (ck (ck (ck (ck Carry.nil))))))))))))))))))))))))))))))))) (fun u4 => ?_) ?_
         ·refine CWalk.region ?_
          refine mv ?_
          refine mv ?_
          refine wo (Spec.nilCheckI (Has.s rfl) rfl) ?_
          refine wo (Spec.fieldAddrO fd28_3 (Has.cv (Has.s rfl) (Cv.isvP rfl))) ?_
          refine ws (Step.storeF (i := 3) (f := Fact.rep [] ((4 : UInt8) : UInt8)) rfl ty5 rfl (Has.s rfl) rfl (Has.u8 4 rfl) (Has.u8 4 rfl) rfl) ?_
          refine wo (Spec.nilCheckI (Has.s rfl) rfl) ?_
          refine wo (Spec.fieldAddrO fd28_4 (Has.cv (Has.s rfl) (Cv.isvP rfl))) ?_
          refine ws (Step.storeF (i := 4) (f := Fact.rep [] (false : Bool)) rfl ty4 rfl (Has.s rfl) rfl Has.bool Has.bool rfl) ?_
          refine Walk.nil ?_
          exact Leaf.inN (Leaf.in0 (f0 := Fact.top) () hm rfl rfl (fun _ _ => trivial) (Low.res (lc (lc (lc (lc (lf (lg (lg (lf (lf (lf (lf (lg (lg (lf (lf (lf (lf (lg (lg (lf (lf (lf (lf (Low.keepG (HasG.cv (HasG.s rfl) (Cv.owM (T := [79]) (te := [80]) rfl rfl)) (Low.keepG (HasG.cv (HasG.s rfl) (Cv.owF (T := [81]) (te := []) rfl)) (lf (lf (lf (lo (lo (lo (lo Low.nil))))))))))))))))))))))))))))))))))
         ·rintro _ hm
          replace hm : head_Lay_J5 x17 = some r := hm
          unfold head_Lay_J5 at hm
          show Walk _ _ _ [.fact 26 (.top), .fact 902004 (.cst (u1 4) (Fact.isv 24)), .fact 904008 (.cst (u2 8) (Fact.isv 49)), .fact 906010 (.cst (u3 10) (Fact.isv 70)), .fact 906012 (.cst (u3 12) (Fact.isv 82)), .fact 100025 (.at 25 (.rep [] ((0 : Int) : Int))), .fact 100026 (.at 26 (.nilv)), .fact 100027 (.at 27 (.nilv)), .fact 100028 (.at 28 (.rep [] ((0 : UInt8) : UInt8))), .fact 100029 (.at 29 (.rep [] (false : Bool))), .fact 100030 (.at 30 (.rep [] ((0 : UInt32) : UInt32))), .fact 100050 (.at 50 (.rep [] ((0 : Int) : Int))), .fact 100051 (.at 51 (.nilv)), .fact 100052 (.at 52 (.nilv)), .fact 100053 (.at 53 (.rep [] ((0 : UInt8) : UInt8))), .fact 100054 (.at 54 (.rep [] (false : Bool))), .fact 100055 (.at 55 (.rep [] ((0 : UInt32) : UInt32))), .fact 100071 (.at 71 (.rep [] ((0 : Int) : Int))), .fact 100072 (.at 72 (.nilv)), .fact 100073 (.at 73 (.nilv)), .fact 100074 (.at 74 (.rep [] ((0 : UInt8) : UInt8))), .fact 100075 (.at 75 (.rep [] (false : Bool))), .fact 100076 (.at 76 (.rep [] ((0 : UInt32) : UInt32))), .fact 100083 (.at 83 (.rep [] x17.Stripe)), .fact 100084 (.at 84 (.ow [79] [80] 31 (x17.Blocks : List (List UInt8)))), .fact 100085 (.at 85 (.ow [81] [] 4 (x17.Dirty : List Bool))), .fact 100086 (.at 86 (.rep [] ((4 : UInt8) : UInt8))), .fact 100087 (.at 87 (.rep [] (false : Bool))), .fact 100088 (.at 88 (.rep [] x17.Seq)), .fact 100024 (.obj 24 [(false, 1), (false, 1), (false, 1), (false, 1), (false, 1), (false, 1)]), .fact 100049 (.obj 49 [(false, 1), (false, 1), (false, 1), (false, 1), (false, 1), (false, 1)]), .fact 100070 (.obj 70 [(false, 1), (false, 1), (false, 1), (false, 1), (false, 1), (false, 1)]), .fact 100082 (.obj 82 [(false, 1), (false, 1), (false, 1), (false, 1), (false, 1), (false, 1)])] _
          refine Walk.nil ?_
          refine Leaf.thenN ?_
          refine CWalk.seq ?_
          refine CWalk.region ?_
          refine wo (Spec.assign Has.int) ?_
          refine Walk.nil ?_
          refine Leaf.thenN ?_
          refine CWalk.ret ?_
          exact Leaf.in1 ((0 : Int), (4 : UInt8), false) hm rfl rfl (HasR.cv (HasR.tmp (Has.s rfl)) Cv.fl) (ls 906010 (ls 906012 (Low.res (lc (lc (lf (lg (lg (lf (lf (lf (lf (Low.keepG (HasG.cv (HasG.s rfl) (Cv.owM (T := [79]) (te := [80]) rfl rfl)) (Low.keepG (HasG.cv (HasG.s rfl) (Cv.owF (T := [81]) (te := []) rfl)) (lf (lf (lf (lf (lg (lg (lf (lf (lf (lf (lg (lg (lf (lf (lf (lo (lo (lo (lo Low.nil)))))))))))))))))))))))))))))))))
       ·rintro ⟨j25, j26, j27⟩ hm
        replace hm : head_Lay_J4 x17 j25 j26 j27 = some r := hm
        unfold head_Lay_J4 at hm
        show Walk _ _ _ [.fact 10 (.isv 70), .fact 12 (.isv 82), .fact 34 (.rep [] (j25 : Int)), .fact 902004 (.cst (u1 4) (Fact.isv 24)), .fact 904008 (.cst (u2 8) (Fact.isv 49)), .fact 100071 (.at 71 (.rep [] ((0 : Int) : Int))), .fact 100072 (.at 72 (.nilv)), .fact 100073 (.at 73 (.nilv)), .fact 100074 (.at 74 (.rep [] ((0 : UInt8) : UInt8))), .fact 100075 (.at 75 (.rep [] (false : Bool))), .fact 100076 (.at 76 (.rep [] ((0 : UInt32) : UInt32))), .fact 100083 (.at 83 (.rep [] x17.Stripe)), .fact 100084 (.at 84 (.ow [79] [80] 31 (x17.Blocks : List (List UInt8)))), .fact 100085 (.at 85 (.ow [81] [] 4 (x17.Dirty : List Bool))), .fact 100086 (.at 86 (.rep [] (j26 : UInt8))), .fact 100087 (.at 87 (.rep [] (j27 : Bool))), .fact 100088 (.at 88 (.rep [] x17.Seq)), .fact 100025 (.at 25 (.rep [] ((0 : Int) : Int))), .fact 100026 (.at 26 (.nilv)), .fact 100027 (.at 27 (.nilv)), .fact 100028 (.at 28 (.rep [] ((0 : UInt8) : UInt8))), .fact 100029 (.at 29 (.rep [] (false : Bool))), .fact 100030 (.at 30 (.rep [] ((0 : UInt32) : UInt32))), .fact 100050 (.at 50 (.rep [] ((0 : Int) : Int))), .fact 100051 (.at 51 (.nilv)), .fact 100052 (.at 52 (.nilv)), .fact 100053 (.at 53 (.rep [] ((0 : UInt8) : UInt8))), .fact 100054 (.at 54 (.rep [] (false : Bool))), .fact 100055 (.at 55 (.rep [] ((0 : UInt32) : UInt32))), .fact 100070 (.obj 70 [(false, 1), (false, 1), (false, 1), (false, 1), (false, 1), (false, 1)]), .fact 100082 (.obj 82 [(false, 1), (false, 1), (false, 1), (false, 1), (false, 1), (false, 1)]), .fact 100024 (.obj 24 [(false, 1), (false, 1), (false, 1), (false, 1), (false, 1), (false, 1)]), .fact 100049 (.obj 49 [(false, 1), (false, 1), (false, 1), (false, 1), (false, 1), (false, 1)])] _
        refine wo (Spec.assign (Has.s rfl)) ?_
        refine Walk.nil ?_
        refine Leaf.thenN ?_
        refine CWalk.seq ?_
        refine CWalk.region ?_
        refine mv ?_
        refine wo (Spec.eqlI (Has.s rfl) Has.int) ?_
        refine Walk.nil ?_
        refine Leaf.thenN ?_
        refine CWalk.cond rfl (fun hb => ?_) (fun hb => ?_)
        ·have hm := cond_t hb hm
         refine CWalk.region ?_
         refine wo (Spec.loadObj (ls := [(false, 1, Fact.rep [] x17.Stripe), (false, 1, Fact.ow [79] [80] 31 (x17.Blocks : List (List UInt8))), (false, 1, Fact.ow [81] [] 4 (x17.Dirty : List Bool)), (false, 1, Fact.rep [] (j26 : UInt8)), (false, 1, Fact.rep [] (j27 : Bool)), (false, 1, Fact.rep [] x17.Seq)]) ty28 rfl rfl (Has.s rfl) rfl (HasGs.cons (HasG.s rfl) (HasGs.cons (HasG.s rfl) (HasGs.cons (HasG.s rfl) (HasGs.cons (HasG.s rfl) (HasGs.cons (HasG.s rfl) (HasGs.cons (HasG.s rfl) HasGs.nil))))))) ?_
         refine ws (Step.storeObj (ls := [(false, 1, Fact.rep [] x17.Stripe), (false, 1, Fact.ow [79] [80] 31 (x17.Blocks : List (List UInt8))), (false, 1, Fact.ow [81] [] 4 (x17.Dirty : List Bool)), (false, 1, Fact.rep [] (j26 : UInt8)), (false, 1, Fact.rep [] (j27 : Bool)), (false, 1, Fact.rep [] x17.Seq)]) rfl ty28 rfl rfl (Has.s rfl) rfl (HasL.flds (Has.s rfl)) rfl) ?_
         refine Walk.nil ?_
         exact Leaf.join (j25, x17.Stripe, x17.Blocks, x17.Dirty, j26, j27, x17.Seq) hm (sn (st (sc (sc (sf (Sub.cons (Has.at (HasG.cv (HasG.s rfl) (Cv.owM (T := [79]) (te := [80]) rfl rfl))) (Sub.cons (Has.at (HasG.cv (HasG.s rfl) (Cv.owF (T := [81]) (te := []) rfl))) (sf (sf (sf (sf (sg (sg (sf (sf (sf (sf (sg (sg (sf (sf (sf (sn (sn (sn Sub.nil)))))))))))))))))))))))))
        ·have hm := cond_f hb hm
         refine CWalk.skip ?_
         exact Leaf.join (j25, (0 : Int), ([] : List (List UInt8)), ([] : List Bool), (0 : UInt8), false, (0 : UInt32)) hm (sn (st (sc (sc (sf (Sub.cons (Has.at (HasG.cv (HasG.s rfl) (Cv.trans Cv.nilOw (Cv.owM (T := []) (te := []) rfl rfl)))) (Sub.cons (Has.at (HasG.cv (HasG.s rfl) (Cv.trans Cv.nilOw (Cv.owF (T := []) (te := []) rfl)))) (sf (sf (sf (sf (sg (sg (sf (sf (sf (sf (sg (sg (sf (sf (sf (sn (sn (sn Sub.nil)))))))))))))))))))))))))
  ·rintro ⟨j8, j9, j10, j11, j12, j13, j14⟩ hm
   replace hm : head_Lay_J2 j8 j9 j10 j11 j12 j13 j14 = some r := hm
   unfold head_Lay_J2 at hm
   show Walk _ _ _ [.fact 8 (.isv 49), .fact 13 (.tup2 (Fact.flds [(false, 1, Fact.rep [] (j8 : Int)), (false, 1, Fact.ow [79] [80] 31 (j9 : List (List UInt8))), (false, 1, Fact.ow [81] [] 4 (j10 : List Bool)), (false, 1, Fact.rep [] (j11 : UInt8)), (false, 1, Fact.rep [] (j12 : Bool)), (false, 1, Fact.rep [] (j13 : UInt32))]) (Fact.rep [] (j14 : Int))), .fact 902004 (.cst (u1 4) (Fact.isv 24)), .fact 100050 (.at 50 (.rep [] ((0 : Int) : Int))), .fact 100051 (.at 51 (.nilv)), .fact 100052 (.at 52 (.nilv)), .fact 100053 (.at 53 (.rep [] ((0 : UInt8) : UInt8))), .fact 100054 (.at 54 (.rep [] (false : Bool))), .fact 100055 (.at 55 (.rep [] ((0 : UInt32) : UInt32))), .fact 100025 (.at 25 (.rep [] ((0 : Int) : Int))), .fact 100026 (.at 26 (.nilv)), .fact 100027 (.at 27 (.nilv)), .fact 100028 (.at 28 (.rep [] ((0 : UInt8) : UInt8))), .fact 100029 (.at 29 (.rep [] (false : Bool))), .fact 100030 (.at 30 (.rep [] ((0 : UInt32) : UInt32))), .fact 100049 (.obj 49 [(false, 1), (false, 1), (false, 1), (false, 1), (false, 1), (false, 1)]), .fact 100024 (.obj 24 [(false, 1), (false, 1), (false, 1), (false, 1), (false, 1), (false, 1)])] _
   refine wo (Spec.ext0 (Has.s rfl)) ?_
   refine wo (Spec.ext1 (Has.s rfl)) ?_
   refine ws (Step.storeObj (ls := [(false, 1, Fact.rep [] (j8 : Int)), (false, 1, Fact.ow [79] [80] 31 (j9 : List (List UInt8))), (false, 1, Fact.ow [81] [] 4 (j10 : List Bool)), (false, 1, Fact.rep [] (j11 : UInt8)), (false, 1, Fact.rep [] (j12 : Bool)), (false, 1, Fact.rep [] (j13 : UInt32))]) rfl ty28 rfl rfl (Has.s rfl) rfl (HasL.flds (Has.s rfl)) rfl) ?_
   refine wo (Spec.assign (Has.s rfl)) ?_
   refine Walk.nil ?_
   refine Leaf.thenN ?_
   refine CWalk.ret ?_
   exact Leaf.in2 (j8, j9, j10, j11, j12, j13, j14) hm rfl rfl (HasR.cv (HasR.obj (ls := [(false, 1, Fact.rep [] (j8 : Int)), (false, 1, Fact.ow [79] [80] 31 (j9 : List (List UInt8))), (false, 1, Fact.ow [81] [] 4 (j10 : List Bool)), (false, 1, Fact.rep [] (j11 : UInt8)), (false, 1, Fact.rep [] (j12 : Bool)), (false, 1, Fact.rep [] (j13 : UInt32))]) ty28 rfl rfl (Has.s rfl) rfl (HasGs.cons (HasG.s rfl) (HasGs.cons (HasG.s rfl) (HasGs.cons (HasG.s rfl) (HasGs.cons (HasG.s rfl) (HasGs.cons (HasG.s rfl) (HasGs.cons (HasG.s rfl) HasGs.nil))))))) (Cv.flds (CvL.cons Cv.fl (CvL.cons (Cv.owM (T := [79]) (te := [80]) rfl rfl) (CvL.cons (Cv.owF (T := [81]) (te := []) rfl) (CvL.cons Cv.fl (CvL.cons Cv.fl (CvL.cons Cv.fl CvL.nil)))))))) (HasR.cv (HasR.tmp (Has.s rfl)) Cv.fl) (ls 902004 (Low.res (lf (lg (lg (lf (lf (lf (lo Low.nil)))))))))
 ·rintro ⟨j1, j2, j3, j4, j5, j6, j7⟩ hm
  replace hm : head_Lay_J1 j1 j2 j3 j4 j5 j6 j7 = some r := hm
  unfold head_Lay_J1 at hm
  show Walk _ _ _ [.fact 4 (.isv 24), .fact 8 (.tup2 (Fact.flds [(false, 1, Fact.rep [] (j1 : Int)), (false, 1, Fact.ow [79] [80] 31 (j2 : List (List UInt8))), (false, 1, Fact.ow [81] [] 4 (j3 : List Bool)), (false, 1, Fact.rep [] (j4 : UInt8)), (false, 1, Fact.rep [] (j5 : Bool)), (false, 1, Fact.rep [] (j6 : UInt32))]) (Fact.rep [] (j7 : Int))), .fact 100025 (.at 25 (.rep [] ((0 : Int) : Int))), .fact 100026 (.at 26 (.nilv)), .fact 100027 (.at 27 (.nilv)), .fact 100028 (.at 28 (.rep [] ((0 : UInt8) : UInt8))), .fact 100029 (.at 29 (.rep [] (false : Bool))), .fact 100030 (.at 30 (.rep [] ((0 : UInt32) : UInt32))), .fact 100024 (.obj 24 [(false, 1), (false, 1), (false, 1), (false, 1), (false, 1), (false, 1)])] _
  refine wo (Spec.ext0 (Has.s rfl)) ?_
  refine wo (Spec.ext1 (Has.s rfl)) ?_
  refine ws (Step.storeObj (ls := [(false, 1, Fact.rep [] (j1 : Int)), (false, 1, Fact.ow [79] [80] 31 (j2 : List (List UInt8))), (false, 1, Fact.ow [81] [] 4 (j3 : List Bool)), (false, 1, Fact.rep [] (j4 : UInt8)), (false, 1, Fact.rep [] (j5 : Bool)), (false, 1, Fact.rep [] (j6 : UInt32))]) rfl ty28 rfl rfl (Has.s rfl) rfl (HasL.flds (Has.s rfl)) rfl) ?_
  refine wo (Spec.assign (Has.s rfl)) ?_
  refine Walk.nil ?_
  refine Leaf.thenN ?_
  refine CWalk.ret ?_
  obtain rfl := Option.some.inj hm
  exact Leaf.retC2 rfl (HasR.cv (HasR.obj (ls := [(false, 1, Fact.rep [] (j1 : Int)), (false, 1, Fact.ow [79] [80] 31 (j2 : List (List UInt8))), (false, 1, Fact.ow [81] [] 4 (j3 : List Bool)), (false, 1, Fact.rep [] (j4 : UInt8)), (false, 1, Fact.rep [] (j5 : Bool)), (false, 1, Fact.rep [] (j6 : UInt32))]) ty28 rfl rfl (Has.s rfl) rfl (HasGs.cons (HasG.s rfl) (HasGs.cons (HasG.s rfl) (HasGs.cons (HasG.s rfl) (HasGs.cons (HasG.s rfl) (HasGs.cons (HasG.s rfl) (HasGs.cons (HasG.s rfl) HasGs.nil))))))) (Cv.flds (CvL.cons Cv.fl (CvL.cons (Cv.owM (T := [79]) (te := [80]) rfl rfl) (CvL.cons (Cv.owF (T := [81]) (te := []) rfl) (CvL.cons Cv.fl (CvL.cons Cv.fl (CvL.cons Cv.fl CvL.nil)))))))) (HasR.cv (HasR.tmp (Has.s rfl)) Cv.fl)

/-- freeboard/freeboardref16.Lay -/
def ref16_Lay (a0 : Config) (a1 : Head) : Option (Head × Int) :=
  Option.bind (ref16_from a0 a1 (1 : UInt8) (3 : UInt8) (4 : UInt8)) (fun x1 => some ((Head.mk x1.1.Stripe x1.1.Blocks x1.1.Dirty x1.1.Phase false x1.1.Seq), x1.2))
set_option maxRecDepth 100000 in
set_option maxHeartbeats 2000000 in
theorem ref16_Lay_c (a0 : Config) (a1 : Head) {r : Head × Int} (hm : ref16_Lay a0 a1 = some r) : Ctr Try.prog 35 [.rep 0 a0, .rep 0 a1] (.tup2 (.flds [(false, 1, (.fl r.1.Stripe)), (false, 1, (.own 0 (some 1) 31 r.1.Blocks)), (false, 1, (.own 2 none 4 r.1.Dirty)), (false, 1, (.fl r.1.Phase)), (false, 1, (.fl r.1.Deals)), (false, 1, (.fl r.1.Seq))]) (.fl r.2)) [] := by
 refine ctr_of_walk [[31], [32], [33]] 17 Try.func35 rfl rfl rfl rfl (fun w0 om => ?_)
 unfold ref16_Lay at hm
 refine CWalk.sub (G' := [.fact 0 (.rep [] (a0 : Config)), .fact 1 (.rep [0] (a1 : Head))]) (Sub.cons (Has.fl (Has.s rfl)) (sn Sub.nil)) ?_
 refine CWalk.seq ?_
 refine CWalk.region ?_
 refine ws (Step.boxObj (ls := [(false, 1, Fact.rep [] a0.Id), (false, 1, Fact.rep [] a0.Members), (false, 1, Fact.rep [] a0.Chunk), (false, 1, Fact.rep [] a0.Rows), (false, 1, Fact.rep [] a0.Log), (false, 1, Fact.rep [] a0.Heads)]) 10 rfl rfl rfl rfl (HasL.flds (Has.cv (Has.s rfl) (Cv.trans (Cv.opens (chConfig a0)) (Cv.flds (CvL.cons Cv.fl (CvL.cons Cv.fl (CvL.cons Cv.fl (CvL.cons Cv.fl (CvL.cons Cv.fl (CvL.cons Cv.fl CvL.nil))))))))))) ?_
 refine ws (Step.boxObj (ls := [(false, 1, Fact.rep [] a1.Stripe), (false, 1, Fact.rep [0] a1.Blocks), (false, 1, Fact.rep [0] a1.Dirty), (false, 1, Fact.rep [] a1.Phase), (false, 1, Fact.rep [] a1.Deals), (false, 1, Fact.rep [] a1.Seq)]) 17 rfl rfl rfl rfl (HasL.flds (Has.cv (Has.s rfl) (Cv.trans (Cv.opens (chHead a1)) (Cv.flds (CvL.cons Cv.fl (CvL.cons Cv.refl (CvL.cons Cv.refl (CvL.cons Cv.fl (CvL.cons Cv.fl (CvL.cons Cv.fl CvL.nil))))))))))) ?_
 refine ws (Step.allocObj (ls := [(false, 1, Fact.rep [] ((0 : Int) : Int)), (false, 1, Fact.nilv), (false, 1, Fact.nilv), (false, 1, Fact.rep [] ((0 : UInt8) : UInt8)), (false, 1, Fact.rep [] (false : Bool)), (false, 1, Fact.rep [] ((0 : UInt32) : UInt32))]) 24 rfl rfl rfl rfl zl28) ?_
 refine wo (Spec.assign Has.int) ?_
 refine Walk.nil ?_
 refine Leaf.thenN ?_
 refine CWalk.seq ?_
 refine CWalk.region ?_
 refine wo (Spec.loadObj (ls := [(false, 1, Fact.rep [] a0.Id), (false, 1, Fact.rep [] a0.Members), (false, 1, Fact.rep [] a0.Chunk), (false, 1, Fact.rep [] a0.Rows), (false, 1, Fact.rep [] a0.Log), (false, 1, Fact.rep [] a0.Heads)]) ty24 rfl rfl (Has.s rfl) rfl (HasGs.cons (HasG.s rfl) (HasGs.cons (HasG.s rfl) (HasGs.cons (HasG.s rfl) (HasGs.cons (HasG.s rfl) (HasGs.cons (HasG.s rfl) (HasGs.cons (HasG.s rfl) HasGs.nil))))))) ?_
 refine wo (Spec.loadObj (ls := [(false, 1, Fact.rep [] a1.Stripe), (false, 1, Fact.rep [0] a1.Blocks), (false, 1, Fact.rep [0] a1.Dirty), (false, 1, Fact.rep [] a1.Phase), (false, 1, Fact.rep [] a1.Deals), (false, 1, Fact.rep [] a1.Seq)]) ty28 rfl rfl (Has.s rfl) rfl (HasGs.cons (HasG.s rfl) (HasGs.cons (HasG.s rfl) (HasGs.cons (HasG.s rfl) (HasGs.cons (HasG.s rfl) (HasGs.cons (HasG.s rfl) (HasGs.cons (HasG.s rfl) HasGs.nil))))))) ?_
 obtain ⟨x1, hx1, hm⟩ := bind_some hm
 refine wo (f := Fact.tup2 (Fact.flds [(false, 1, Fact.rep [] x1.1.Stripe), (false, 1, Fact.ow [31] [32] 31 (x1.1.Blocks : List (List UInt8))), (false, 1, Fact.ow [33] [] 4 (x1.1.Dirty : List Bool)), (false, 1, Fact.rep [] x1.1.Phase), (false, 1, Fact.rep [] x1.1.Deals), (false, 1, Fact.rep [] x1.1.Seq)]) (Fact.rep [] x1.2)) (Spec.callE [0] 31 rfl en67 (ref16_from_c a0 a1 (1 : UInt8) (3 : UInt8) (4 : UInt8) hx1) (HasAll.cons (Has.fl (Has.cv (Has.s rfl) (Cv.trans (Cv.flds (CvL.cons Cv.fl (CvL.cons Cv.fl (CvL.cons Cv.fl (CvL.cons Cv.fl (CvL.cons Cv.fl (CvL.cons Cv.fl CvL.nil))))))) (Cv.close (T := []) (chConfig a0))))) (HasAll.cons (Has.m (Has.cv (Has.s rfl) (Cv.trans (Cv.flds (CvL.cons Cv.fl (CvL.cons (Cv.m rfl) (CvL.cons (Cv.m rfl) (CvL.cons Cv.fl (CvL.cons Cv.fl (CvL.cons Cv.fl CvL.nil))))))) (Cv.close (T := [0]) (chHead a1)))) rfl) (HasAll.cons (Has.fl (Has.u8 1 rfl)) (HasAll.cons (Has.fl (Has.u8 3 rfl)) (HasAll.cons (Has.fl (Has.u8 4 rfl)) HasAll.nil)))))) ?_
 refine mv ?_
 refine wo (Spec.ext0 (Has.s rfl)) ?_
 refine wo (Spec.ext1 (Has.s rfl)) ?_
 refine ws (Step.allocObj (ls := [(false, 1, Fact.rep [] ((0 : Int) : Int)), (false, 1, Fact.nilv), (false, 1, Fact.nilv), (false, 1, Fact.rep [] ((0 : UInt8) : UInt8)), (false, 1, Fact.rep [] (false : Bool)), (false, 1, Fact.rep [] ((0 : UInt32) : UInt32))]) 34 rfl rfl rfl rfl zl28) ?_
 refine ws (Step.storeObj (ls := [(false, 1, Fact.rep [] x1.1.Stripe), (false, 1, Fact.ow [31] [32] 31 (x1.1.Blocks : List (List UInt8))), (false, 1, Fact.ow [33] [] 4 (x1.1.Dirty : List Bool)), (false, 1, Fact.rep [] x1.1.Phase), (false, 1, Fact.rep [] x1.1.Deals), (false, 1, Fact.rep [] x1.1.Seq)]) rfl ty28 rfl rfl (Has.s rfl) rfl (HasL.flds (Has.s rfl)) rfl) ?_
 refine wo (Spec.assign (Has.s rfl)) ?_
 refine Walk.nil ?_
 refine Leaf.thenN ?_
 refine CWalk.seq ?_
 refine CWalk.region ?_
 refine wo (Spec.fieldAddrO fd28_4 (Has.cv (Has.s rfl) (Cv.isvP rfl))) ?_
 refine ws (Step.storeF (i := 4) (f := Fact.rep [] (false : Bool)) rfl ty4 rfl (Has.s rfl) rfl Has.bool Has.bool rfl) ?_
 refine Walk.nil ?_
 refine Leaf.thenN ?_
 refine CWalk.seq ?_
 refine CWalk.region ?_
 refine wo (Spec.loadObj (ls := [(false, 1, Fact.rep [] x1.1.Stripe), (false, 1, Fact.ow [31] [32] 31 (x1.1.Blocks : List (List UInt8))), (false, 1, Fact.ow [33] [] 4 (x1.1.Dirty : List Bool)), (false, 1, Fact.rep [] x1.1.Phase), (false, 1, Fact.rep [] (false : Bool)), (false, 1, Fact.rep [] x1.1.Seq)]) ty28 rfl rfl (Has.s rfl) rfl (HasGs.cons (HasG.s rfl) (HasGs.cons (HasG.s rfl) (HasGs.cons (HasG.s rfl) (HasGs.cons (HasG.s rfl) (HasGs.cons (HasG.s rfl) (HasGs.cons (HasG.s rfl) HasGs.nil))))))) ?_
 refine mv ?_
 refine ws (Step.storeObj (ls := [(false, 1, Fact.rep [] x1.1.Stripe), (false, 1, Fact.ow [31] [32] 31 (x1.1.Blocks : List (List UInt8))), (false, 1, Fact.ow [33] [] 4 (x1.1.Dirty : List Bool)), (false, 1, Fact.rep [] x1.1.Phase), (false, 1, Fact.rep [] (false : Bool)), (false, 1, Fact.rep [] x1.1.Seq)]) rfl ty28 rfl rfl (Has.s rfl) rfl (HasL.flds (Has.s rfl)) rfl) ?_
 refine wo (Spec.assign (Has.s rfl)) ?_
 refine Walk.nil ?_
 refine Leaf.thenN ?_
 refine CWalk.ret ?_
 obtain rfl := Option.some.inj hm
 exact Leaf.retC2 rfl (HasR.cv (HasR.obj (ls := [(false, 1, Fact.rep [] x1.1.Stripe), (false, 1, Fact.ow [31] [32] 31 (x1.1.Blocks : List (List UInt8))), (false, 1, Fact.ow [33] [] 4 (x1.1.Dirty : List Bool)), (false, 1, Fact.rep [] x1.1.Phase), (false, 1, Fact.rep [] (false : Bool)), (false, 1, Fact.rep [] x1.1.Seq)]) ty28 rfl rfl (Has.s rfl) rfl (HasGs.cons (HasG.s rfl) (HasGs.cons (HasG.s rfl) (HasGs.cons (HasG.s rfl) (HasGs.cons (HasG.s rfl) (HasGs.cons (HasG.s rfl) (HasGs.cons (HasG.s rfl) HasGs.nil))))))) (Cv.flds (CvL.cons Cv.fl (CvL.cons (Cv.owM (T := [31]) (te := [32]) rfl rfl) (CvL.cons (Cv.owF (T := [33]) (te := []) rfl) (CvL.cons Cv.fl (CvL.cons Cv.fl (CvL.cons Cv.fl CvL.nil)))))))) (HasR.cv (HasR.tmp (Has.s rfl)) Cv.fl)

def head_Home_J1 (j1 : Int) (j2 : List (List UInt8)) (j3 : List Bool) (j4 : UInt8) (j5 : Bool) (j6 : UInt32) (j7 : Int) : Option (Head × Int) :=
  some ((Head.mk j1 j2 j3 j4 j5 j6), j7)
def head_Home_J2 (j8 : Int) (j9 : List (List UInt8)) (j10 : List Bool) (j11 : UInt8) (j12 : Bool) (j13 : UInt32) (j14 : Int) : Option (Head × Int) :=
  (head_Home_J1 j8 j9 j10 j11 j12 j13 j14)
def head_Home_J3 (j18 : Int) (j19 : Int) (j20 : List (List UInt8)) (j21 : List Bool) (j22 : UInt8) (j23 : Bool) (j24 : UInt32) : Option (Head × Int) :=
  (head_Home_J2 j19 j20 j21 j22 j23 j24 j18)
def head_Home_J4 (x17 : Head) (j25 : Int) (j26 : List (List UInt8)) (j27 : List Bool) (j28 : UInt8) (j29 : UInt32) : Option (Head × Int) :=
  (bif (j25 == (0 : Int)) then (head_Home_J3 j25 x17.Stripe j26 j27 j28 x17.Deals j29) else (head_Home_J3 j25 (0 : Int) ([] : List (List UInt8)) ([] : List Bool) (0 : UInt8) false (0 : UInt32)))
def head_Home_J5 (x17 : Head) (j32 : List (List UInt8)) : Option (Head × Int) :=
  (head_Home_J4 x17 (0 : Int) j32 (List.replicate (x17.Dirty).length false) (0 : UInt8) (0 : UInt32))
/-- freeboard/head.Home -/
def head_Home (a0 : Config) (a1 : Head) : Option (Head × Int) :=
  Option.bind (head_Check a0 a1) (fun x15 => (bif (x15 != (0 : Int)) then (head_Home_J2 (0 : Int) ([] : List (List UInt8)) ([] : List Bool) (0 : UInt8) false (0 : UInt32) x15) else (bif ((decide ((0 : Int) < (0 : Int))) || (decide ((0 : Int) ≥ (wI (a0.Members - (1 : Int)))))) then (head_Home_J2 (0 : Int) ([] : List (List UInt8)) ([] : List Bool) (0 : UInt8) false (0 : UInt32) (2 : Int)) else Option.bind (head_odd ([] : List UInt8)) (fun x16 => (bif x16 then (head_Home_J2 (0 : Int) ([] : List (List UInt8)) ([] : List Bool) (0 : UInt8) false (0 : UInt32) (3 : Int)) else Option.bind (head_Twin a1) (fun x17 => Option.bind (head_may (4 : Int) x17.Phase) (fun x30 => Option.bind (gO ((!(!x30)) && (((4 : Int) == (0 : Int)))) (slices_Contains_bool_bool x17.Dirty true)) (fun x31 => (bif ((!x30) || (((4 : Int) == (0 : Int)) && (!x31))) then (head_Home_J4 x17 (6 : Int) x17.Blocks x17.Dirty x17.Phase x17.Seq) else Option.bind (bnd (x17.Blocks).length (wI (a0.Members - (1 : Int)))) (fun x33 => (head_Home_J5 x17 ((x17.Blocks).set x33 ([] : List UInt8)))))))))))))
set_option maxRecDepth 100000 in
set_option maxHeartbeats 2000000 in
theorem head_Home_c (a0 : Config) (a1 : Head) {r : Head × Int} (hm : head_Home a0 a1 = some r) : Ctr Try.prog 36 [.rep 0 a0, .rep 0 a1] (.tup2 (.flds [(false, 1, (.fl r.1.Stripe)), (false, 1, (.own 0 (some 1) 31 r.1.Blocks)), (false, 1, (.own 2 none 4 r.1.Dirty)), (false, 1, (.fl r.1.Phase)), (false, 1, (.fl r.1.Deals)), (false, 1, (.fl r.1.Seq))]) (.fl r.2)) [] := by
 refine ctr_of_walk [[79, 91], [80], [81, 92]] 12 Try.func36 rfl rfl rfl rfl (fun w0 om => ?_)
 unfold head_Home at hm
 refine CWalk.sub (G' := [.fact 0 (.rep [] (a0 : Config)), .fact 1 (.rep [0] (a1 : Head))]) (Sub.cons (Has.fl (Has.s rfl)) (sn Sub.nil)) ?_
 refine CWalk.seq ?_
 refine CWalk.region ?_
 refine ws (Step.boxObj (ls := [(false, 1, Fact.rep [] a0.Id), (false, 1, Fact.rep [] a0.Members), (false, 1, Fact.rep [] a0.Chunk), (false, 1, Fact.rep [] a0.Rows), (false, 1, Fact.rep [] a0.Log), (false, 1, Fact.rep [] a0.Heads)]) 10 rfl rfl rfl rfl (HasL.flds (Has.cv (Has.s rfl) (Cv.trans (Cv.opens (chConfig a0)) (Cv.flds (CvL.cons Cv.fl (CvL.cons Cv.fl (CvL.cons Cv.fl (CvL.cons Cv.fl (CvL.cons Cv.fl (CvL.cons Cv.fl CvL.nil))))))))))) ?_
 refine ws (Step.boxObj (ls := [(false, 1, Fact.rep [] a1.Stripe), (false, 1, Fact.rep [0] a1.Blocks), (false, 1, Fact.rep [0] a1.Dirty), (false, 1, Fact.rep [] a1.Phase), (false, 1, Fact.rep [] a1.Deals), (false, 1, Fact.rep [] a1.Seq)]) 17 rfl rfl rfl rfl (HasL.flds (Has.cv (Has.s rfl) (Cv.trans (Cv.opens (chHead a1)) (Cv.flds (CvL.cons Cv.fl (CvL.cons Cv.refl (CvL.cons Cv.refl (CvL.cons Cv.fl (CvL.cons Cv.fl (CvL.cons Cv.fl CvL.nil))))))))))) ?_
 refine ws (Step.allocObj (ls := [(false, 1, Fact.rep [] ((0 : Int) : Int)), (false, 1, Fact.nilv), (false, 1, Fact.nilv), (false, 1, Fact.rep [] ((0 : UInt8) : UInt8)), (false, 1, Fact.rep [] (false : Bool)), (false, 1, Fact.rep [] ((0 : UInt32) : UInt32))]) 24 rfl rfl rfl rfl zl28) ?_
 refine wo (Spec.assign Has.int) ?_
 refine Walk.nil ?_
 refine Leaf.thenN ?_
 refine CWalk.seq ?_
 refine CWalk.region ?_
 refine wo (Spec.loadObj (ls := [(false, 1, Fact.rep [] a0.Id), (false, 1, Fact.rep [] a0.Members), (false, 1, Fact.rep [] a0.Chunk), (false, 1, Fact.rep [] a0.Rows), (false, 1, Fact.rep [] a0.Log), (false, 1, Fact.rep [] a0.Heads)]) ty24 rfl rfl (Has.s rfl) rfl (HasGs.cons (HasG.s rfl) (HasGs.cons (HasG.s rfl) (HasGs.cons (HasG.s rfl) (HasGs.cons (HasG.s rfl) (HasGs.cons (HasG.s rfl) (HasGs.cons (HasG.s rfl) HasGs.nil))))))) ?_
 refine wo (Spec.loadObj (ls := [(false, 1, Fact.rep [] a1.Stripe), (false, 1, Fact.rep [0] a1.Blocks), (false, 1, Fact.rep [0] a1.Dirty), (false, 1, Fact.rep [] a1.Phase), (false, 1, Fact.rep [] a1.Deals), (false, 1, Fact.rep [] a1.Seq)]) ty28 rfl rfl (Has.s rfl) rfl (HasGs.cons (HasG.s rfl) (HasGs.cons (HasG.s rfl) (HasGs.cons (HasG.s rfl) (HasGs.cons (HasG.s rfl) (HasGs.cons (HasG.s rfl) (HasGs.cons (HasG.s rfl) HasGs.nil))))))) ?_
 refine wo (Spec.makeFunc (xs := []) (ys := [.tmp 2]) rfl rfl HasF.nil (HasF.cons (Has.s rfl) HasF.nil) (fun _ _ _ => rfl)) ?_
 refine Walk.inline (S := Int × (List (List UInt8)) × (List Bool) × UInt8 × Bool × UInt32 × Int) (fun p : Int × (List (List UInt8)) × (List Bool) × UInt8 × Bool × UInt32 × Int => [.fact 4 (.isv 24), .fact 9 (.tup2 (Fact.flds [(false, 1, Fact.rep [] p.1), (false, 1, Fact.ow [79, 91] [80] 31 (p.2.1 : List (List UInt8))), (false, 1, Fact.ow [81, 92] [] 4 (p.2.2.1 : List Bool)), (false, 1, Fact.rep [] p.2.2.2.1), (false, 1, Fact.rep [] p.2.2.2.2.1), (false, 1, Fact.rep [] p.2.2.2.2.2.1)]) (Fact.rep [] p.2.2.2.2.2.2)), .fact 100025 (.at 25 (.rep [] ((0 : Int) : Int))), .fact 100026 (.at 26 (.nilv)), .fact 100027 (.at 27 (.nilv)), .fact 100028 (.at 28 (.rep [] ((0 : UInt8) : UInt8))), .fact 100029 (.at 29 (.rep [] (false : Bool))), .fact 100030 (.at 30 (.rep [] ((0 : UInt32) : UInt32))), .fact 100024 (.obj 24 [(false, 1), (false, 1), (false, 1), (false, 1), (false, 1), (false, 1)])]) (fun p : Int × (List (List UInt8)) × (List Bool) × UInt8 × Bool × UInt32 × Int => head_Home_J1 p.1 p.2.1 p.2.2.1 p.2.2.2.1 p.2.2.2.2.1 p.2.2.2.2.2.1 p.2.2.2.2.2.2 = some r) (fun u1 => [.fact 100011 (.at 11 (.rep [] a0.Id)), .fact 100012 (.at 12 (.rep [] a0.Members)), .fact 100013 (.at 13 (.rep [] a0.Chunk)), .fact 100014 (.at 14 (.rep [] a0.Rows)), .fact 100015 (.at 15 (.rep [] a0.Log)), .fact 100016 (.at 16 (.rep [] a0.Heads)), .fact 100025 (.at 25 (.rep [] ((0 : Int) : Int))), .fact 100026 (.at 26 (.nilv)), .fact 100027 (.at 27 (.nilv)), .fact 100028 (.at 28 (.rep [] ((0 : UInt8) : UInt8))), .fact 100029 (.at 29 (.rep [] (false : Bool))), .fact 100030 (.at 30 (.rep [] ((0 : UInt32) : UInt32))), .fact 902004 (.cst (u1 4) (Fact.isv 24)), .fact 100010 (.obj 10 [(false, 1), (false, 1), (false, 1), (false, 1), (false, 1), (false, 1)]), .fact 100024 (.obj 24 [(false, 1), (false, 1), (false, 1), (false, 1), (false, 1), (false, 1)])]) (FA := [Fact.flds [(false, 1, Fact.rep [] a0.Id), (false, 1, Fact.rep [] a0.Members), (false, 1, Fact.rep [] a0.Chunk), (false, 1, Fact.rep [] a0.Rows), (false, 1, Fact.rep [] a0.Log), (false, 1, Fact.rep [] a0.Heads)], Fact.flds [(false, 1, Fact.rep [] a1.Stripe), (false, 1, Fact.rep [0] a1.Blocks), (false, 1, Fact.rep [0] a1.Dirty), (false, 1, Fact.rep [] a1.Phase), (false, 1, Fact.rep [] a1.Deals), (false, 1, Fact.rep [] a1.Seq)], Fact.rep [] ((4 : Int) : Int), Fact.fnv 71 [] [Fact.isv 10]]) rfl Try.func63 rfl rfl rfl (CallOk.fn en63 (HasF.cons (Has.s rfl) (HasF.cons (Has.s rfl) (HasF.cons Has.int (HasF.cons (Has.s rfl) HasF.nil))))) (fun u1 => (ck (ck (ck (ck (ck (ck (ck (ck (ck (ck (ck (ck (cs 902000 4 (ck (ck Carry.nil)))))))))))))))) (fun u1 => ?_) ?_
 ·refine CWalk.seq ?_
  refine CWalk.region ?_
  refine ws (Step.boxObj (ls := [(false, 1, Fact.rep [] a0.Id), (false, 1, Fact.rep [] a0.Members), (false, 1, Fact.rep [] a0.Chunk), (false, 1, Fact.rep [] a0.Rows), (false, 1, Fact.rep [] a0.Log), (false, 1, Fact.rep [] a0.Heads)]) 31 rfl rfl rfl rfl (HasL.flds (Has.s rfl))) ?_
  refine ws (Step.boxObj (ls := [(false, 1, Fact.rep [] a1.Stripe), (false, 1, Fact.rep [0] a1.Blocks), (false, 1, Fact.rep [0] a1.Dirty), (false, 1, Fact.rep [] a1.Phase), (false, 1, Fact.rep [] a1.Deals), (false, 1, Fact.rep [] a1.Seq)]) 38 rfl rfl rfl rfl (HasL.flds (Has.s rfl))) ?_
  refine ws (Step.boxObj (ls := [(false, 1, Fact.rep [] ((4 : Int) : Int))]) 45 rfl rfl rfl rfl (HasL.one (Has.s rfl) rfl (Has.s rfl))) ?_
  refine ws (Step.boxObj (ls := [(false, 1, Fact.fnv 71 [] [Fact.isv 10])]) 47 rfl rfl rfl rfl (HasL.fnv (Has.s rfl))) ?_
  refine ws (Step.allocObj (ls := [(false, 1, Fact.rep [] ((0 : Int) : Int)), (false, 1, Fact.nilv), (false, 1, Fact.nilv), (false, 1, Fact.rep [] ((0 : UInt8) : UInt8)), (false, 1, Fact.rep [] (false : Bool)), (false, 1, Fact.rep [] ((0 : UInt32) : UInt32))]) 49 rfl rfl rfl rfl zl28) ?_
  refine wo (Spec.assign Has.int) ?_
  refine Walk.nil ?_
  refine Leaf.thenN ?_
  refine CWalk.seq ?_
  refine CWalk.region ?_
  refine wo (Spec.loadObj (ls := [(false, 1, Fact.rep [] a0.Id), (false, 1, Fact.rep [] a0.Members), (false, 1, Fact.rep [] a0.Chunk), (false, 1, Fact.rep [] a0.Rows), (false, 1, Fact.rep [] a0.Log), (false, 1, Fact.rep [] a0.Heads)]) ty24 rfl rfl (Has.s rfl) rfl (HasGs.cons (HasG.s rfl) (HasGs.cons (HasG.s rfl) (HasGs.cons (HasG.s rfl) (HasGs.cons (HasG.s rfl) (HasGs.cons (HasG.s rfl) (HasGs.cons (HasG.s rfl) HasGs.nil))))))) ?_
  refine wo (Spec.loadObj (ls := [(false, 1, Fact.rep [] a1.Stripe), (false, 1, Fact.rep [0] a1.Blocks), (false, 1, Fact.rep [0] a1.Dirty), (false, 1, Fact.rep [] a1.Phase), (false, 1, Fact.rep [] a1.Deals), (false, 1, Fact.rep [] a1.Seq)]) ty28 rfl rfl (Has.s rfl) rfl (HasGs.cons (HasG.s rfl) (HasGs.cons (HasG.s rfl) (HasGs.cons (HasG.s rfl) (HasGs.cons (HasG.s rfl) (HasGs.cons (HasG.s rfl) (HasGs.cons (HasG.s rfl) HasGs.nil))))))) ?_
  refine wo (Spec.makeFunc (xs := []) (ys := [.tmp 6, .tmp 7]) rfl rfl HasF.nil (HasF.cons (Has.s rfl) (HasF.cons (Has.s rfl) HasF.nil)) (fun _ _ _ => rfl)) ?_
  refine Walk.inline (S := Int × (List (List UInt8)) × (List Bool) × UInt8 × Bool × UInt32 × Int) (fun p : Int × (List (List UInt8)) × (List Bool) × UInt8 × Bool × UInt32 × Int => [.fact 8 (.isv 49), .fact 13 (.tup2 (Fact.flds [(false, 1, Fact.rep [] p.1), (false, 1, Fact.ow [79, 91] [80] 31 (p.2.1 : List (List UInt8))), (false, 1, Fact.ow [81, 92] [] 4 (p.2.2.1 : List Bool)), (false, 1, Fact.rep [] p.2.2.2.1), (false, 1, Fact.rep [] p.2.2.2.2.1), (false, 1, Fact.rep [] p.2.2.2.2.2.1)]) (Fact.rep [] p.2.2.2.2.2.2)), .fact 902004 (.cst (u1 4) (Fact.isv 24)), .fact 100050 (.at 50 (.rep [] ((0 : Int) : Int))), .fact 100051 (.at 51 (.nilv)), .fact 100052 (.at 52 (.nilv)), .fact 100053 (.at 53 (.rep [] ((0 : UInt8) : UInt8))), .fact 100054 (.at 54 (.rep [] (false : Bool))), .fact 100055 (.at 55 (.rep [] ((0 : UInt32) : UInt32))), .fact 100025 (.at 25 (.rep [] ((0 : Int) : Int))), .fact 100026 (.at 26 (.nilv)), .fact 100027 (.at 27 (.nilv)), .fact 100028 (.at 28 (.rep [] ((0 : UInt8) : UInt8))), .fact 100029 (.at 29 (.rep [] (false : Bool))), .fact 100030 (.at 30 (.rep [] ((0 : UInt32) : UInt32))), .fact 100049 (.obj 49 [(false, 1), (false, 1), (false, 1), (false, 1), (false, 1), (false, 1)]), .fact 100024 (.obj 24 [(false, 1), (false, 1), (false, 1), (false, 1), (false, 1), (false, 1)])]) (fun p : Int × (List (List UInt8)) × (List Bool) × UInt8 × Bool × UInt32 × Int => head_Home_J2 p.1 p.2.1 p.2.2.1 p.2.2.2.1 p.2.2.2.2.1 p.2.2.2.2.2.1 p.2.2.2.2.2.2 = some r) (fun u2 => [.fact 100011 (.at 11 (.rep [] a0.Id)), .fact 100012 (.at 12 (.rep [] a0.Members)), .fact 100013 (.at 13 (.rep [] a0.Chunk)), .fact 100014 (.at 14 (.rep [] a0.Rows)), .fact 100015 (.at 15 (.rep [] a0.Log)), .fact 100016 (.at 16 (.rep [] a0.Heads)), .fact 100025 (.at 25 (.rep [] ((0 : Int) : Int))), .fact 100026 (.at 26 (.nilv)), .fact 100027 (.at 27 (.nilv)), .fact 100028 (.at 28 (.rep [] ((0 : UInt8) : UInt8))), .fact 100029 (.at 29 (.rep [] (false : Bool))), .fact 100030 (.at 30 (.rep [] ((0 : UInt32) : UInt32))), .fact 100046 (.at 46 (.rep [] ((4 : Int) : Int))), .fact 100048 (.at 48 (.fnv 71 [] [Fact.isv 10])), .fact 100050 (.at 50 (.rep [] ((0 : Int) : Int))), .fact 100051 (.at 51 (.nilv)), .fact 100052 (.at 52 (.nilv)), .fact 100053 (.at 53 (.rep [] ((0 : UInt8) : UInt8))), .fact 100054 (.at 54 (.rep [] (false : Bool))), .fact 100055 (.at 55 (.rep [] ((0 : UInt32) : UInt32))), .fact 902004 (.cst (u1 4) (Fact.isv 24)), .fact 904008 (.cst (u2 8) (Fact.isv 49)), .fact 100010 (.obj 10 [(false, 1), (false, 1), (false, 1), (false, 1), (false, 1), (false, 1)]), .fact 100024 (.obj 24 [(false, 1), (false, 1), (false, 1), (false, 1), (false, 1), (false, 1)]), .fact 100045 (.obj 45 [(false, 1)]), .fact 100047 (.obj 47 [(false, 1)]), .fact 100049 (.obj 49 [(false, 1), (false, 1), (false, 1), (false, 1), (false, 1), (false, 1)])]) (FA := [Fact.flds [(false, 1, Fact.rep [] a0.Id), (false, 1, Fact.rep [] a0.Members), (false, 1, Fact.rep [] a0.Chunk), (false, 1, Fact.rep [] a0.Rows), (false, 1, Fact.rep [] a0.Log), (false, 1, Fact.rep [] a0.Heads)], Fact.flds [(false, 1, Fact.rep [] a1.Stripe), (false, 1, Fact.rep [0] a1.Blocks), (false, 1, Fact.rep [0] a1.Dirty), (false, 1, Fact.rep [] a1.Phase), (false, 1, Fact.rep [] a1.Deals), (false, 1, Fact.rep [] a1.Seq)], Fact.rep [] ((0 : Int) : Int), Fact.nilv, Fact.fnv 77 [] [Fact.isv 45, Fact.isv 47]]) rfl Try.func48 rfl rfl rfl (CallOk.fn en48 (HasF.cons (Has.s rfl) (HasF.cons (Has.s rfl) (HasF.cons Has.int (HasF.cons Has.nilv (HasF.cons (Has.s rfl) HasF.nil)))))) (fun u2 => (ck (ck (ck (ck (ck (ck (ck (ck (ck (ck (ck (ck (ck (ck (ck (ck (ck (ck (ck (ck (ck (cs 904000 8 (ck (ck (ck (ck (ck Carry.nil)))))))))))))))))))))))))))) (fun u2 => ?_) ?_
  ·refine CWalk.seq ?_
   refine CWalk.region ?_
   refine ws (Step.boxObj (ls := [(false, 1, Fact.rep [] a0.Id), (false, 1, Fact.rep [] a0.Members), (false, 1, Fact.rep [] a0.Chunk), (false, 1, Fact.rep [] a0.Rows), (false, 1, Fact.rep [] a0.Log), (false, 1, Fact.rep [] a0.Heads)]) 56 rfl rfl rfl rfl (HasL.flds (Has.s rfl))) ?_
   refine ws (Step.boxObj (ls := [(false, 1, Fact.rep [] a1.Stripe), (false, 1, Fact.rep [0] a1.Blocks), (false, 1, Fact.rep [0] a1.Dirty), (false, 1, Fact.rep [] a1.Phase), (false, 1, Fact.rep [] a1.Deals), (false, 1, Fact.rep [] a1.Seq)]) 63 rfl rfl rfl rfl (HasL.flds (Has.s rfl))) ?_
   refine ws (Step.allocObj (ls := [(false, 1, Fact.rep [] ((0 : Int) : Int)), (false, 1, Fact.nilv), (false, 1, Fact.nilv), (false, 1, Fact.rep [] ((0 : UInt8) : UInt8)), (false, 1, Fact.rep [] (false : Bool)), (false, 1, Fact.rep [] ((0 : UInt32) : UInt32))]) 70 rfl rfl rfl rfl zl28) ?_
   refine wo (Spec.assign Has.int) ?_
   refine Walk.nil ?_
   refine Leaf.thenN ?_
   refine CWalk.seq ?_
   refine CWalk.seq ?_
   refine CWalk.region ?_
   refine wo (Spec.loadObj (ls := [(false, 1, Fact.rep [] a0.Id), (false, 1, Fact.rep [] a0.Members), (false, 1, Fact.rep [] a0.Chunk), (false, 1, Fact.rep [] a0.Rows), (false, 1, Fact.rep [] a0.Log), (false, 1, Fact.rep [] a0.Heads)]) ty24 rfl rfl (Has.s rfl) rfl (HasGs.cons (HasG.s rfl) (HasGs.cons (HasG.s rfl) (HasGs.cons (HasG.s rfl) (HasGs.cons (HasG.s rfl) (HasGs.cons (HasG.s rfl) (HasGs.cons (HasG.s rfl) HasGs.nil))))))) ?_
   refine wo (Spec.loadObj (ls := [(false, 1, Fact.rep [] a1.Stripe), (false, 1, Fact.rep [0] a1.Blocks), (false, 1, Fact.rep [0] a1.Dirty), (false, 1, Fact.rep [] a1.Phase), (false, 1, Fact.rep [] a1.Deals), (false, 1, Fact.rep [] a1.Seq)]) ty28 rfl rfl (Has.s rfl) rfl (HasGs.cons (HasG.s rfl) (HasGs.cons (HasG.s rfl) (HasGs.cons (HasG.s rfl) (HasGs.cons (HasG.s rfl) (HasGs.cons (HasG.s rfl) (HasGs.cons (HasG.s rfl) HasGs.nil))))))) ?_
   obtain ⟨x15, hx15, hm⟩ := bind_some hm
   refine wo (f := Fact.rep [] (x15 : Int)) (Spec.callE [0] 77 rfl en24 (head_Check_c a0 a1 hx15) (HasAll.cons (Has.fl (Has.cv (Has.s rfl) (Cv.trans (Cv.flds (CvL.cons Cv.fl (CvL.cons Cv.fl (CvL.cons Cv.fl (CvL.cons Cv.fl (CvL.cons Cv.fl (CvL.cons Cv.fl CvL.nil))))))) (Cv.close (T := []) (chConfig a0))))) (HasAll.cons (Has.m (Has.cv (Has.s rfl) (Cv.trans (Cv.flds (CvL.cons Cv.fl (CvL.cons (Cv.m rfl) (CvL.cons (Cv.m rfl) (CvL.cons Cv.fl (CvL.cons Cv.fl (CvL.cons Cv.fl CvL.nil))))))) (Cv.close (T := [0]) (chHead a1)))) rfl) HasAll.nil))) ?_
   refine wo (Spec.assign (Has.s rfl)) ?_
   refine Walk.nil ?_
   refine Leaf.thenN ?_
   refine CWalk.seq ?_
   refine CWalk.region ?_
   refine mv ?_
   refine wo (Spec.neqI (Has.s rfl) Has.int) ?_
   refine Walk.nil ?_
   refine Leaf.thenN ?_
   refine CWalk.cond rfl (fun hb => ?_) (fun hb => ?_)
   ·have hm := cond_t hb hm
    refine CWalk.ret ?_
    refine Leaf.thenR ?_
    exact Leaf.in2 ((0 : Int), ([] : List (List UInt8)), ([] : List Bool), (0 : UInt8), false, (0 : UInt32), x15) hm rfl rfl (HasR.cv (HasR.obj (ls := [(false, 1, Fact.rep [] ((0 : Int) : Int)), (false, 1, Fact.nilv), (false, 1, Fact.nilv), (false, 1, Fact.rep [] ((0 : UInt8) : UInt8)), (false, 1, Fact.rep [] (false : Bool)), (false, 1, Fact.rep [] ((0 : UInt32) : UInt32))]) ty28 rfl rfl (Has.s rfl) rfl (HasGs.cons (HasG.s rfl) (HasGs.cons (HasG.s rfl) (HasGs.cons (HasG.s rfl) (HasGs.cons (HasG.s rfl) (HasGs.cons (HasG.s rfl) (HasGs.cons (HasG.s rfl) HasGs.nil))))))) (Cv.flds (CvL.cons Cv.fl (CvL.cons (Cv.trans Cv.nilOw (Cv.owM (T := []) (te := []) rfl rfl)) (CvL.cons (Cv.trans Cv.nilOw (Cv.owF (T := []) (te := []) rfl)) (CvL.cons Cv.fl (CvL.cons Cv.fl (CvL.cons Cv.fl CvL.nil)))))))) (HasR.cv (HasR.tmp (Has.s rfl)) Cv.fl) (ls 904008 (Low.res (lc (lf (lg (lg (lf (lf (lf (lf (lg (lg (lf (lf (lf (lo (lo Low.nil)))))))))))))))))
   ·have hm := cond_f hb hm
    refine CWalk.skip ?_
    refine Leaf.thenN ?_
    refine CWalk.seq ?_
    refine CWalk.seq ?_
    refine CWalk.region ?_
    refine mv ?_
    refine wo (Spec.lssI (Has.s rfl) Has.int) ?_
    refine mv ?_
    refine wg rfl rfl (fun hb => Spec.move (Has.s rfl)) ?_
    refine wg rfl rfl (fun hb => Spec.fieldAddrO fd24_1 (Has.cv (Has.s rfl) (Cv.isvP rfl))) ?_
    refine wg rfl rfl (fun hb => Spec.loadF (i := 1) ty3 rfl (Has.u rfl hb) rfl (HasG.s rfl)) ?_
    refine wg rfl rfl (fun hb => Spec.subI (Has.u rfl hb) Has.int) ?_
    refine wg rfl rfl (fun hb => Spec.geqI (Has.u rfl hb) (Has.u rfl hb)) ?_
    refine wo (Spec.or (Has.s rfl) (fun h => Has.u rfl h)) ?_
    refine Walk.nil ?_
    refine Leaf.thenN ?_
    refine CWalk.cond rfl (fun hb => ?_) (fun hb => ?_)
    ·have hm := cond_t hb hm
     refine CWalk.seq ?_
     refine CWalk.region ?_
     refine wo (Spec.loadObj (ls := [(false, 1, Fact.rep [] ((0 : Int) : Int)), (false, 1, Fact.nilv), (false, 1, Fact.nilv), (false, 1, Fact.rep [] ((0 : UInt8) : UInt8)), (false, 1, Fact.rep [] (false : Bool)), (false, 1, Fact.rep [] ((0 : UInt32) : UInt32))]) ty28 rfl rfl (Has.s rfl) rfl (HasGs.cons (HasG.s rfl) (HasGs.cons (HasG.s rfl) (HasGs.cons (HasG.s rfl) (HasGs.cons (HasG.s rfl) (HasGs.cons (HasG.s rfl) (HasGs.cons (HasG.s rfl) HasGs.nil))))))) ?_
     refine ws (Step.storeObj (ls := [(false, 1, Fact.rep [] ((0 : Int) : Int)), (false, 1, Fact.nilv), (false, 1, Fact.nilv), (false, 1, Fact.rep [] ((0 : UInt8) : UInt8)), (false, 1, Fact.rep [] (false : Bool)), (false, 1, Fact.rep [] ((0 : UInt32) : UInt32))]) rfl ty28 rfl rfl (Has.s rfl) rfl (HasL.flds (Has.s rfl)) rfl) ?_
     refine wo (Spec.assign Has.int) ?_
     refine Walk.nil ?_
     refine Leaf.thenN ?_
     refine CWalk.ret ?_
     refine Leaf.thenR ?_
     exact Leaf.in2 ((0 : Int), ([] : List (List UInt8)), ([] : List Bool), (0 : UInt8), false, (0 : UInt32), (2 : Int)) hm rfl rfl (HasR.cv (HasR.obj (ls := [(false, 1, Fact.rep [] ((0 : Int) : Int)), (false, 1, Fact.nilv), (false, 1, Fact.nilv), (false, 1, Fact.rep [] ((0 : UInt8) : UInt8)), (false, 1, Fact.rep [] (false : Bool)), (false, 1, Fact.rep [] ((0 : UInt32) : UInt32))]) ty28 rfl rfl (Has.s rfl) rfl (HasGs.cons (HasG.s rfl) (HasGs.cons (HasG.s rfl) (HasGs.cons (HasG.s rfl) (HasGs.cons (HasG.s rfl) (HasGs.cons (HasG.s rfl) (HasGs.cons (HasG.s rfl) HasGs.nil))))))) (Cv.flds (CvL.cons Cv.fl (CvL.cons (Cv.trans Cv.nilOw (Cv.owM (T := []) (te := []) rfl rfl)) (CvL.cons (Cv.trans Cv.nilOw (Cv.owF (T := []) (te := []) rfl)) (CvL.cons Cv.fl (CvL.cons Cv.fl (CvL.cons Cv.fl CvL.nil)))))))) (HasR.cv (HasR.tmp (Has.s rfl)) Cv.fl) (ls 904008 (Low.res (lc (lf (lg (lg (lf (lf (lf (lf (lg (lg (lf (lf (lf (lo (lo Low.nil)))))))))))))))))
    ·have hm := cond_f hb hm
     refine CWalk.skip ?_
     refine Leaf.thenN ?_
     refine CWalk.seq ?_
     refine CWalk.seq ?_
     refine CWalk.region ?_
     refine mv ?_
     obtain ⟨x16, hx16, hm⟩ := bind_some hm
     refine wo (f := Fact.rep [] (x16 : Bool)) (Spec.callE [] 78 rfl en58 (head_odd_c ([] : List UInt8) hx16) (HasAll.cons (Has.m (Has.cv (Has.s rfl) (Cv.nil (T := []))) rfl) HasAll.nil)) ?_
     refine Walk.nil ?_
     refine Leaf.thenN ?_
     refine CWalk.cond rfl (fun hb => ?_) (fun hb => ?_)
     ·have hm := cond_t hb hm
      refine CWalk.seq ?_
      refine CWalk.region ?_
      refine wo (Spec.loadObj (ls := [(false, 1, Fact.rep [] ((0 : Int) : Int)), (false, 1, Fact.nilv), (false, 1, Fact.nilv), (false, 1, Fact.rep [] ((0 : UInt8) : UInt8)), (false, 1, Fact.rep [] (false : Bool)), (false, 1, Fact.rep [] ((0 : UInt32) : UInt32))]) ty28 rfl rfl (Has.s rfl) rfl (HasGs.cons (HasG.s rfl) (HasGs.cons (HasG.s rfl) (HasGs.cons (HasG.s rfl) (HasGs.cons (HasG.s rfl) (HasGs.cons (HasG.s rfl) (HasGs.cons (HasG.s rfl) HasGs.nil))))))) ?_
      refine ws (Step.storeObj (ls := [(false, 1, Fact.rep [] ((0 : Int) : Int)), (false, 1, Fact.nilv), (false, 1, Fact.nilv), (false, 1, Fact.rep [] ((0 : UInt8) : UInt8)), (false, 1, Fact.rep [] (false : Bool)), (false, 1, Fact.rep [] ((0 : UInt32) : UInt32))]) rfl ty28 rfl rfl (Has.s rfl) rfl (HasL.flds (Has.s rfl)) rfl) ?_
      refine wo (Spec.assign Has.int) ?_
      refine Walk.nil ?_
      refine Leaf.thenN ?_
      refine CWalk.ret ?_
      refine Leaf.thenR ?_
      exact Leaf.in2 ((0 : Int), ([] : List (List UInt8)), ([] : List Bool), (0 : UInt8), false, (0 : UInt32), (3 : Int)) hm rfl rfl (HasR.cv (HasR.obj (ls := [(false, 1, Fact.rep [] ((0 : Int) : Int)), (false, 1, Fact.nilv), (false, 1, Fact.nilv), (false, 1, Fact.rep [] ((0 : UInt8) : UInt8)), (false, 1, Fact.rep [] (false : Bool)), (false, 1, Fact.rep [] ((0 : UInt32) : UInt32))]) ty28 rfl rfl (Has.s rfl) rfl (HasGs.cons (HasG.s rfl) (HasGs.cons (HasG.s rfl) (HasGs.cons (HasG.s rfl) (HasGs.cons (HasG.s rfl) (HasGs.cons (HasG.s rfl) (HasGs.cons (HasG.s rfl) HasGs.nil))))))) (Cv.flds (CvL.cons Cv.fl (CvL.cons (Cv.trans Cv.nilOw (Cv.owM (T := []) (te := []) rfl rfl)) (CvL.cons (Cv.trans Cv.nilOw (Cv.owF (T := []) (te := []) rfl)) (CvL.cons Cv.fl (CvL.cons Cv.fl (CvL.cons Cv.fl CvL.nil)))))))) (HasR.cv (HasR.tmp (Has.s rfl)) Cv.fl) (ls 904008 (Low.res (lc (lf (lg (lg (lf (lf (lf (lf (lg (lg (lf (lf (lf (lo (lo Low.nil)))))))))))))))))
     ·have hm := cond_f hb hm
      refine CWalk.skip ?_
      refine Leaf.thenN ?_
      refine CWalk.seq ?_
      refine CWalk.region ?_
      refine wo (Spec.loadObj (ls := [(false, 1, Fact.rep [] a1.Stripe), (false, 1, Fact.rep [0] a1.Blocks), (false, 1, Fact.rep [0] a1.Dirty), (false, 1, Fact.rep [] a1.Phase), (false, 1, Fact.rep [] a1.Deals), (false, 1, Fact.rep [] a1.Seq)]) ty28 rfl rfl (Has.s rfl) rfl (HasGs.cons (HasG.s rfl) (HasGs.cons (HasG.s rfl) (HasGs.cons (HasG.s rfl) (HasGs.cons (HasG.s rfl) (HasGs.cons (HasG.s rfl) (HasGs.cons (HasG.s rfl) HasGs.nil))))))) ?_
      obtain ⟨x17, hx17, hm⟩ := bind_some hm
      refine wo (f := Fact.flds [(false, 1, Fact.rep [] x17.Stripe), (false, 1, Fact.ow [79] [80] 31 (x17.Blocks : List (List UInt8))), (false, 1, Fact.ow [81] [] 4 (x17.Dirty : List Bool)), (false, 1, Fact.rep [] x17.Phase), (false, 1, Fact.rep [] x17.Deals), (false, 1, Fact.rep [] x17.Seq)]) (Spec.callE [0] 79 rfl en23 (head_Twin_c a1 hx17) (HasAll.cons (Has.m (Has.cv (Has.s rfl) (Cv.trans (Cv.flds (CvL.cons Cv.fl (CvL.cons (Cv.m rfl) (CvL.cons (Cv.m rfl) (CvL.cons Cv.fl (CvL.cons Cv.fl (CvL.cons Cv.fl CvL.nil))))))) (Cv.close (T := [0]) (chHead a1)))) rfl) HasAll.nil)) ?_
      refine ws (Step.allocObj (ls := [(false, 1, Fact.rep [] ((0 : Int) : Int)), (false, 1, Fact.nilv), (false, 1, Fact.nilv), (false, 1, Fact.rep [] ((0 : UInt8) : UInt8)), (false, 1, Fact.rep [] (false : Bool)), (false, 1, Fact.rep [] ((0 : UInt32) : UInt32))]) 82 rfl rfl rfl rfl zl28) ?_
      refine ws (Step.storeObj (ls := [(false, 1, Fact.rep [] x17.Stripe), (false, 1, Fact.ow [79] [80] 31 (x17.Blocks : List (List UInt8))), (false, 1, Fact.ow [81] [] 4 (x17.Dirty : List Bool)), (false, 1, Fact.rep [] x17.Phase), (false, 1, Fact.rep [] x17.Deals), (false, 1, Fact.rep [] x17.Seq)]) rfl ty28 rfl rfl (Has.s rfl) rfl (HasL.flds (Has.s rfl)) rfl) ?_
      refine Walk.nil ?_
      refine Leaf.thenN ?_
      refine CWalk.seqJ (fun p : Int × Int × (List (List UInt8)) × (List Bool) × UInt8 × Bool × UInt32 => [.fact 10 (.isv 70), .fact 11 (.rep [] p.1), .fact 902004 (.cst (u1 4) (Fact.isv 24)), .fact 904008 (.cst (u2 8) (Fact.isv 49)), .fact 100071 (.at 71 (.rep [] p.2.1)), .fact 100072 (.at 72 (.ow [79, 91] [80] 31 (p.2.2.1 : List (List UInt8)))), .fact 100073 (.at 73 (.ow [81, 92] [] 4 (p.2.2.2.1 : List Bool))), .fact 100074 (.at 74 (.rep [] p.2.2.2.2.1)), .fact 100075 (.at 75 (.rep [] p.2.2.2.2.2.1)), .fact 100076 (.at 76 (.rep [] p.2.2.2.2.2.2)), .fact 100025 (.at 25 (.rep [] ((0 : Int) : Int))), .fact 100026 (.at 26 (.nilv)), .fact 100027 (.at 27 (.nilv)), .fact 100028 (.at 28 (.rep [] ((0 : UInt8) : UInt8))), .fact 100029 (.at 29 (.rep [] (false : Bool))), .fact 100030 (.at 30 (.rep [] ((0 : UInt32) : UInt32))), .fact 100050 (.at 50 (.rep [] ((0 : Int) : Int))), .fact 100051 (.at 51 (.nilv)), .fact 100052 (.at 52 (.nilv)), .fact 100053 (.at 53 (.rep [] ((0 : UInt8) : UInt8))), .fact 100054 (.at 54 (.rep [] (false : Bool))), .fact 100055 (.at 55 (.rep [] ((0 : UInt32) : UInt32))), .fact 100070 (.obj 70 [(false, 1), (false, 1), (false, 1), (false, 1), (false, 1), (false, 1)]), .fact 100024 (.obj 24 [(false, 1), (false, 1), (false, 1), (false, 1), (false, 1), (false, 1)]), .fact 100049 (.obj 49 [(false, 1), (false, 1), (false, 1), (false, 1), (false, 1), (false, 1)])]) (fun p : Int × Int × (List (List UInt8)) × (List Bool) × UInt8 × Bool × UInt32 => head_Home_J3 p.1 p.2.1 p.2.2.1 p.2.2.2.1 p.2.2.2.2.1 p.2.2.2.2.2.1 p.2.2.2.2.2.2 = some r) ?_ ?_
      ·rintro ⟨j18, j19, j20, j21, j22, j23, j24⟩ hm
       replace hm : head_Home_J3 j18 j19 j20 j21 j22 j23 j24 = some r := hm
       unfold head_Home_J3 at hm
       show CWalk _ [.fact 10 (.isv 70), .fact 11 (.rep [] (j18 : Int)), .fact 902004 (.cst (u1 4) (Fact.isv 24)), .fact 904008 (.cst (u2 8) (Fact.isv 49)), .fact 100071 (.at 71 (.rep [] (j19 : Int))), .fact 100072 (.at 72 (.ow [79, 91] [80] 31 (j20 : List (List UInt8)))), .fact 100073 (.at 73 (.ow [81, 92] [] 4 (j21 : List Bool))), .fact 100074 (.at 74 (.rep [] (j22 : UInt8))), .fact 100075 (.at 75 (.rep [] (j23 : Bool))), .fact 100076 (.at 76 (.rep [] (j24 : UInt32))), .fact 100025 (.at 25 (.rep [] ((0 : Int) : Int))), .fact 100026 (.at 26 (.nilv)), .fact 100027 (.at 27 (.nilv)), .fact 100028 (.at 28 (.rep [] ((0 : UInt8) : UInt8))), .fact 100029 (.at 29 (.rep [] (false : Bool))), .fact 100030 (.at 30 (.rep [] ((0 : UInt32) : UInt32))), .fact 100050 (.at 50 (.rep [] ((0 : Int) : Int))), .fact 100051 (.at 51 (.nilv)), .fact 100052 (.at 52 (.nilv)), .fact 100053 (.at 53 (.rep [] ((0 : UInt8) : UInt8))), .fact 100054 (.at 54 (.rep [] (false : Bool))), .fact 100055 (.at 55 (.rep [] ((0 : UInt32) : UInt32))), .fact 100070 (.obj 70 [(false, 1), (false, 1), (false, 1), (false, 1), (false, 1), (false, 1)]), .fact 100024 (.obj 24 [(false, 1), (false, 1), (false, 1), (false, 1), (false, 1), (false, 1)]), .fact 100049 (.obj 49 [(false, 1), (false, 1), (false, 1), (false, 1), (false, 1), (false, 1)])] _ _
       refine CWalk.ret ?_
       exact Leaf.in2 (j19, j20, j21, j22, j23, j24, j18) hm rfl rfl (HasR.cv (HasR.obj (ls := [(false, 1, Fact.rep [] (j19 : Int)), (false, 1, Fact.ow [79, 91] [80] 31 (j20 : List (List UInt8))), (false, 1, Fact.ow [81, 92] [] 4 (j21 : List Bool)), (false, 1, Fact.rep [] (j22 : UInt8)), (false, 1, Fact.rep [] (j23 : Bool)), (false, 1, Fact.rep [] (j24 : UInt32))]) ty28 rfl rfl (Has.s rfl) rfl (HasGs.cons (HasG.s rfl) (HasGs.cons (HasG.s rfl) (HasGs.cons (HasG.s rfl) (HasGs.cons (HasG.s rfl) (HasGs.cons (HasG.s rfl) (HasGs.cons (HasG.s rfl) HasGs.nil))))))) (Cv.flds (CvL.cons Cv.fl (CvL.cons (Cv.owM (T := [79, 91]) (te := [80]) rfl rfl) (CvL.cons (Cv.owF (T := [81, 92]) (te := []) rfl) (CvL.cons Cv.fl (CvL.cons Cv.fl (CvL.cons Cv.fl CvL.nil)))))))) (HasR.cv (HasR.tmp (Has.s rfl)) Cv.fl) (ls 904008 (Low.res (lc (lf (lg (lg (lf (lf (lf (lf (lg (lg (lf (lf (lf (lo (lo Low.nil)))))))))))))))))
      ·refine CWalk.seq ?_
       refine CWalk.region ?_
       refine mv ?_
       refine Walk.inline (S := Int × (List (List UInt8)) × (List Bool) × UInt8 × UInt32) (fun p : Int × (List (List UInt8)) × (List Bool) × UInt8 × UInt32 => [.fact 10 (.isv 70), .fact 12 (.isv 82), .fact 34 (.rep [] p.1), .fact 902004 (.cst (u1 4) (Fact.isv 24)), .fact 904008 (.cst (u2 8) (Fact.isv 49)), .fact 100071 (.at 71 (.rep [] ((0 : Int) : Int))), .fact 100072 (.at 72 (.nilv)), .fact 100073 (.at 73 (.nilv)), .fact 100074 (.at 74 (.rep [] ((0 : UInt8) : UInt8))), .fact 100075 (.at 75 (.rep [] (false : Bool))), .fact 100076 (.at 76 (.rep [] ((0 : UInt32) : UInt32))), .fact 100083 (.at 83 (.rep [] x17.Stripe)), .fact 100084 (.at 84 (.ow [79, 91] [80] 31 (p.2.1 : List (List UInt8)))), .fact 100085 (.at 85 (.ow [81, 92] [] 4 (p.2.2.1 : List Bool))), .fact 100086 (.at 86 (.rep [] p.2.2.2.1)), .fact 100087 (.at 87 (.rep [] x17.Deals)), .fact 100088 (.at 88 (.rep [] p.2.2.2.2)), .fact 100025 (.at 25 (.rep [] ((0 : Int) : Int))), .fact 100026 (.at 26 (.nilv)), .fact 100027 (.at 27 (.nilv)), .fact 100028 (.at 28 (.rep [] ((0 : UInt8) : UInt8))), .fact 100029 (.at 29 (.rep [] (false : Bool))), .fact 100030 (.at 30 (.rep [] ((0 : UInt32) : UInt32))), .fact 100050 (.at 50 (.rep [] ((0 : Int) : Int))), .fact 100051 (.at 51 (.nilv)), .fact 100052 (.at 52 (.nilv)), .fact 100053 (.at 53 (.rep [] ((0 : UInt8) : UInt8))), .fact 100054 (.at 54 (.rep [] (false : Bool))), .fact 100055 (.at 55 (.rep [] ((0 : UInt32) : UInt32))), .fact 100070 (.obj 70 [(false, 1), (false, 1), (false, 1), (false, 1), (false, 1), (false, 1)]), .fact 100082 (.obj 82 [(false, 1), (false, 1), (false, 1), (false, 1), (false, 1), (false, 1)]), .fact 100024 (.obj 24 [(false, 1), (false, 1), (false, 1), (false, 1), (false, 1), (false, 1)]), .fact 100049 (.obj 49 [(false, 1), (false, 1), (false, 1), (false, 1), (false, 1), (false, 1)])]) (fun p : Int × (List (List UInt8)) × (List Bool) × UInt8 × UInt32 => head_Home_J4 x17 p.1 p.2.1 p.2.2.1 p.2.2.2.1 p.2.2.2.2 = some r) (fun u3 => [.fact 100011 (.at 11 (.rep [] a0.Id)), .fact 100012 (.at 12 (.rep [] a0.Members)), .fact 100013 (.at 13 (.rep [] a0.Chunk)), .fact 100014 (.at 14 (.rep [] a0.Rows)), .fact 100015 (.at 15 (.rep [] a0.Log)), .fact 100016 (.at 16 (.rep [] a0.Heads)), .fact 100025 (.at 25 (.rep [] ((0 : Int) : Int))), .fact 100026 (.at 26 (.nilv)), .fact 100027 (.at 27 (.nilv)), .fact 100028 (.at 28 (.rep [] ((0 : UInt8) : UInt8))), .fact 100029 (.at 29 (.rep [] (false : Bool))), .fact 100030 (.at 30 (.rep [] ((0 : UInt32) : UInt32))), .fact 100046 (.at 46 (.rep [] ((4 : Int) : Int))), .fact 100048 (.at 48 (.fnv 71 [] [Fact.isv 10])), .fact 100050 (.at 50 (.rep [] ((0 : Int) : Int))), .fact 100051 (.at 51 (.nilv)), .fact 100052 (.at 52 (.nilv)), .fact 100053 (.at 53 (.rep [] ((0 : UInt8) : UInt8))), .fact 100054 (.at 54 (.rep [] (false : Bool))), .fact 100055 (.at 55 (.rep [] ((0 : UInt32) : UInt32))), .fact 100071 (.at 71 (.rep [] ((0 : Int) : Int))), .fact 100072 (.at 72 (.nilv)), .fact 100073 (.at 73 (.nilv)), .fact 100074 (.at 74 (.rep [] ((0 : UInt8) : UInt8))), .fact 100075 (.at 75 (.rep [] (false : Bool))), .fact 100076 (.at 76 (.rep [] ((0 : UInt32) : UInt32))), .fact 100083 (.at 83 (.rep [] x17.Stripe)), .fact 100084 (.at 84 (.ow [79] [80] 31 (x17.Blocks : List (List UInt8)))), .fact 100085 (.at 85 (.ow [81] [] 4 (x17.Dirty : List Bool))), .fact 100086 (.at 86 (.rep [] x17.Phase)), .fact 100087 (.at 87 (.rep [] x17.Deals)), .fact 100088 (.at 88 (.rep [] x17.Seq)), .fact 902004 (.cst (u1 4) (Fact.isv 24)), .fact 904008 (.cst (u2 8) (Fact.isv 49)), .fact 906010 (.cst (u3 10) (Fact.isv 70)), .fact 906012 (.cst (u3 12) (Fact.isv 82)), .fact 100010 (.obj 10 [(false, 1), (false, 1), (false, 1), (false, 1), (false, 1), (false, 1)]), .fact 100024 (.obj 24 [(false, 1), (false, 1), (false, 1), (false, 1), (false, 1), (false, 1)]), .fact 100045 (.obj 45 [(false, 1)]), .fact 100047 (.obj 47 [(false, 1)]), .fact 100049 (.obj 49 [(false, 1), (false, 1), (false, 1), (false, 1), (false, 1), (false, 1)]), .fact 100070 (.obj 70 [(false, 1), (false, 1), (false, 1), (false, 1), (false, 1), (false, 1)]), .fact 100082 (.obj 82 [(false, 1), (false, 1), (false, 1), (false, 1), (false, 1), (false, 1)])]) (FA := [Fact.isv 82, Fact.isv 45, Fact.isv 47]) rfl Try.func77 rfl rfl rfl (CallOk.valE en77 (Has.s rfl) (HasF.cons (Has.s rfl) HasF.nil)) (fun u3 => (ck (ck (ck (ck (ck (ck (ck (ck (ck (ck (ck (ck (ck (ck (ck (ck (ck (ck (ck (ck (ck (ck (ck (ck (ck (ck (ck (ck (ck (ck (ck (ck (ck (ck (cs 906000 10 (cs 906000 12 (ck (ck (ck (ck (ck (ck (ck Carry.nil)))))))))))))))))))))))))))))))))))))))))))) (fun u3 => ?_) ?_
       ·refine CWalk.seq ?_
        refine CWalk.region ?_
        refine wo (Spec.assign Has.int) ?_
        refine Walk.nil ?_
        refine Leaf.thenN ?_
        refine CWalk.seq ?_
        refine CWalk.seq ?_
        obtain ⟨x30, hx30, hm⟩ := bind_some hm
        obtain ⟨x31, hx31, hm⟩ := bind_some hm
        refine CWalk.drawM [[], [], [1], [1, 2], [1, 2, 3], [0, 1, 2, 3, 4], [0, 1, 2, 3, 4, 5], [0, 1, 2, 3, 4, 5, 6], [0, 1, 2, 3, 4, 5, 6, 7], [0, 1, 2, 3, 4, 5, 6, 7, 8], [0, 1, 2, 3, 4, 5, 6, 7, 8, 9], [0, 1, 2, 3, 4, 5, 6, 7, 8, 9, 10], [0, 1, 2, 3, 4, 5, 6, 7, 8, 9, 10, 11], [0, 1, 2, 3, 4, 5, 6, 7, 8, 9, 10, 11, 12], [0, 1, 2, 3, 4, 5, 6, 7, 8, 9, 10, 11, 12, 13], [0, 1, 2, 3, 4, 5, 6, 7, 8, 9, 10, 11, 12, 13, 14], [0, 1, 2, 3, 4, 5, 6, 7, 8, 9, 10, 11, 12, 13, 14, 15], [0, 1, 2, 3, 4, 5, 6, 7, 8, 9, 10, 11, 12, 13, 14, 15, 16], [0, 1, 2, 3, 4, 5, 6, 7, 8, 9, 10, 11, 12, 13, 14, 15, 16, 17]] [[.fact 5 (.rep [] ((4 : Int) : Int))], [.fact 6 (.isv 82)], [.fact 7 (.isv 82)], [.fact 8 (.pto 82 3)], [.fact 9 (.rep [] x17.Phase)], [.fact 10 (.rep [] (x30 : Bool))], [.fact 11 (.rep [] ((!x30) : Bool))], [.fact 12 (.rep [] ((!x30) : Bool))], [.fact 13 (.under ((!x30) = false) (.rep [] ((4 : Int) : Int)))], [.fact 14 (.under ((!x30) = false) (.rep [] (((4 : Int) == (0 : Int)) : Bool)))], [.fact 15 (.under ((!x30) = false) (.rep [] (((4 : Int) == (0 : Int)) : Bool)))], [.fact 16 (.under (((!x30) = false) ∧ (((4 : Int) == (0 : Int)) = true)) (.isv 82))], [.fact 17 (.under (((!x30) = false) ∧ (((4 : Int) == (0 : Int)) = true)) (.isv 82))], [.fact 18 (.under (((!x30) = false) ∧ (((4 : Int) == (0 : Int)) = true)) (.pto 82 2))], [.fact 19 (.under (((!x30) = false) ∧ (((4 : Int) == (0 : Int)) = true)) (.ow [81] [] 4 (x17.Dirty : List Bool)))], [.fact 20 (.under (((!x30) = false) ∧ (((4 : Int) == (0 : Int)) = true)) (.rep [] (x31 : Bool)))], [.fact 21 (.under (((!x30) = false) ∧ (((4 : Int) == (0 : Int)) = true)) (.rep [] ((!x31) : Bool)))], [.fact 22 (.under ((!x30) = false) (.rep [] ((((4 : Int) == (0 : Int)) && (!x31)) : Bool)))], [.fact 23 (.rep [] (((!x30) || (((4 : Int) == (0 : Int)) && (!x31))) : Bool))]] mixed (by kernel_rfl) (ao (so (Spec.loadF (i := 0) ty3 rfl (Has.cv (Has.s rfl) (Cv.isvP rfl)) rfl (HasG.s rfl))) (ao (so (Spec.move (Has.s rfl))) (ao (so (Spec.nilCheckI (Has.s rfl) rfl)) (ao (so (Spec.fieldAddrO fd28_3 (Has.cv (Has.s rfl) (Cv.isvP rfl)))) (ao (so (Spec.loadF (i := 3) ty5 rfl (Has.s rfl) rfl (HasG.s rfl))) (ao (so (Spec.callE [] 89 rfl en78 (head_may_c (4 : Int) x17.Phase hx30) (HasAll.cons (Has.fl (Has.s rfl)) (HasAll.cons (Has.fl (Has.s rfl)) HasAll.nil)))) (ao (so (Spec.not (Has.s rfl))) (ao (so (Spec.move (Has.s rfl))) (ao (StepG.opg rfl rfl rfl (fun hb => Spec.loadF (i := 0) ty3 rfl (Has.cv (Has.s rfl) (Cv.isvP rfl)) rfl (HasG.s rfl))) (ao (StepG.opg rfl rfl rfl (fun hb => Spec.eqlI (Has.u rfl hb) Has.int)) (ao (StepG.opg rfl rfl rfl (fun hb => Spec.move (Has.u rfl hb))) (ao (StepG.opgu rfl rfl rfl (fun hb => Spec.move (Has.s rfl))) (ao (StepG.opgu rfl rfl rfl (fun hb => Spec.nilCheckI (Has.u rfl hb) rfl)) (ao (StepG.opgu rfl rfl rfl (fun hb => Spec.fieldAddrO fd28_2 (Has.cv (Has.u rfl hb) (Cv.isvP rfl)))) (ao (StepG.opgu rfl rfl rfl (fun hb => Spec.loadF (i := 2) ty26 rfl (Has.u rfl hb) rfl (HasG.s rfl))) (ao (StepG.opgu rfl rfl rfl (fun hb => Spec.callE [81] 90 rfl en79 (slices_Contains_bool_bool_c x17.Dirty true (gO_t hx31 (and_t (not_t hb.1) hb.2))) (HasAll.cons (Has.m (Has.cv (Has.u rfl hb) (Cv.trans Cv.owSl (Cv.slRep (T' := [81]) rfl rfl))) rfl) (HasAll.cons (Has.fl Has.bool) HasAll.nil)))) (ao (StepG.opgu rfl rfl rfl (fun hb => Spec.not (Has.u rfl hb))) (ao (StepG.opg rfl rfl rfl (fun hb => Spec.and (Has.u rfl hb) (fun h => Has.u rfl ⟨hb, h⟩))) (ao (so (Spec.or (Has.s rfl) (fun h => Has.u rfl h))) AllM.nil))))))))))))))))))) ?_
        refine Leaf.thenN ?_
        refine CWalk.cond rfl (fun hb => ?_) (fun hb => ?_)
        ·have hm := cond_t hb hm
         refine CWalk.seq ?_
         refine CWalk.region ?_
         refine wo (Spec.assign Has.int) ?_
         refine Walk.nil ?_
         refine Leaf.thenN ?_
         refine CWalk.ret ?_
         refine Leaf.thenR ?_
         exact Leaf.in1 ((6 : Int), x17.Blocks, x17.Dirty, x17.Phase, x17.Seq) hm rfl rfl (HasR.cv (HasR.tmp (Has.s rfl)) Cv.fl) (ls 906010 (ls 906012 (Low.res (lc (lc (lf (lg (lg (lf (lf (lf (lf (Low.keepG (HasG.cv (HasG.s rfl) (Cv.owM (T := [79]) (te := [80]) rfl rfl)) (Low.keepG (HasG.cv (HasG.s rfl) (Cv.owF (T := [81]) (te := []) rfl)) (lf (lf (lf (lf (lg (lg (lf (lf (lf (lf (lg (lg (lf (lf (lf (lo (lo (lo (lo Low.nil)))))))))))))))))))))))))))))))))
        ·have hm := cond_f hb hm
         refine CWalk.skip ?_
         refine Leaf.thenN ?_
         refine CWalk.seq ?_
         refine CWalk.region ?_
         refine wo (Spec.loadF (α := Int) (i := 0) ty96 rfl (Has.cv (Has.s rfl) (Cv.isvP rfl)) rfl (HasG.s rfl)) ?_
         refine mv ?_
         refine Walk.inline (S := (List (List UInt8))) (fun p : (List (List UInt8)) => [.fact 26 (.top), .fact 902004 (.cst (u1 4) (Fact.isv 24)), .fact 904008 (.cst (u2 8) (Fact.isv 49)), .fact 906010 (.cst (u3 10) (Fact.isv 70)), .fact 906012 (.cst (u3 12) (Fact.isv 82)), .fact 100025 (.at 25 (.rep [] ((0 : Int) : Int))), .fact 100026 (.at 26 (.nilv)), .fact 100027 (.at 27 (.nilv)), .fact 100028 (.at 28 (.rep [] ((0 : UInt8) : UInt8))), .fact 100029 (.at 29 (.rep [] (false : Bool))), .fact 100030 (.at 30 (.rep [] ((0 : UInt32) : UInt32))), .fact 100050 (.at 50 (.rep [] ((0 : Int) : Int))), .fact 100051 (.at 51 (.nilv)), .fact 100052 (.at 52 (.nilv)), .fact 100053 (.at 53 (.rep [] ((0 : UInt8) : UInt8))), .fact 100054 (.at 54 (.rep [] (false : Bool))), .fact 100055 (.at 55 (.rep [] ((0 : UInt32) : UInt32))), .fact 100071 (.at 71 (.rep [] ((0 : Int) : Int))), .fact 100072 (.at 72 (.nilv)), .fact 100073 (.at 73 (.nilv)), .fact 100074 (.at 74 (.rep [] ((0 : UInt8) : UInt8))), .fact 100075 (.at 75 (.rep [] (false : Bool))), .fact 100076 (.at 76 (.rep [] ((0 : UInt32) : UInt32))), .fact 100083 (.at 83 (.rep [] x17.Stripe)), .fact 100084 (.at 84 (.isv 91)), .fact 100085 (.at 85 (.isv 92)), .fact 100086 (.at 86 (.rep [] ((0 : UInt8) : UInt8))), .fact 100087 (.at 87 (.rep [] x17.Deals)), .fact 100088 (.at 88 (.rep [] ((0 : UInt32) : UInt32))), .fact 100024 (.obj 24 [(false, 1), (false, 1), (false, 1), (false, 1), (false, 1), (false, 1)]), .fact 100049 (.obj 49 [(false, 1), (false, 1), (false, 1), (false, 1), (false, 1), (false, 1)]), .fact 100070 (.obj 70 [(false, 1), (false, 1), (false, 1), (false, 1), (false, 1), (false, 1)]), .fact 100082 (.obj 82 [(false, 1), (false, 1), (false, 1), (false, 1), (false, 1), (false, 1)]), .fact 100091 (.own 91 [80] 31 (p : List (List UInt8))), .fact 100092 (.own 92 [] 4 (List.replicate (x17.Dirty).length false : List Bool))]) (fun p : (List (List UInt8)) => head_Home_J5 x17 p = some r) (fun u4 => [.fact 100011 (.at 11 (.rep [] a0.Id)), .fact 100012 (.at 12 (.rep [] a0.Members)), .fact 100013 (.at 13 (.rep [] a0.Chunk)), .fact 100014 (.at 14 (.rep [] a0.Rows)), .fact 100015 (.at 15 (.rep [] a0.Log)), .fact 100016 (.at 16 (.rep [] a0.Heads)), .fact 100025 (.at 25 (.rep [] ((0 : Int) : Int))), .fact 100026 (.at 26 (.nilv)), .fact 100027 (.at 27 (.nilv)), .fact 100028 (.at 28 (.rep [] ((0 : UInt8) : UInt8))), .fact 100029 (.at 29 (.rep [] (false : Bool))), .fact 100030 (.at 30 (.rep [] ((0 : UInt32) : UInt32))), .fact 100050 (.at 50 (.rep [] ((0 : Int) : Int))), .fact 100051 (.at 51 (.nilv)), .fact 100052 (.at 52 (.nilv)), .fact 100053 (.at 53 (.rep [] ((0 : UInt8) : UInt8))), .fact 100054 (.at 54 (.rep [] (false : Bool))), .fact 100055 (.at 55 (.rep [] ((0 : UInt32) : UInt32))), .fact 100071 (.at 71 (.rep [] ((0 : Int) : Int))), .fact 100072 (.at 72 (.nilv)), .fact 100073 (.at 73 (.nilv)), .fact 100074 (.at 74 (.rep [] ((0 : UInt8) : UInt8))), .fact 100075 (.at 75 (.rep [] (false : Bool))), .fact 100076 (.at 76 (.rep [] ((0 : UInt32) : UInt32))), .fact 100083 (.at 83 (.rep [] x17.Stripe)), .fact 100084 (.at 84 (.ow [79] [80] 31 (x17.Blocks : List (List UInt8)))), .fact 100085 (.at 85 (.ow [81] [] 4 (x17.Dirty : List Bool))), .fact 100086 (.at 86 (.rep [] x17.Phase)), .fact 100087 (.at 87 (.rep [] x17.Deals)), .fact 100088 (.at 88 (.rep [] x17.Seq)), .fact 902004 (.cst (u1 4) (Fact.isv 24)), .fact 904008 (.cst (u2 8) (Fact.isv 49)), .fact 906010 (.cst (u3 10) (Fact.isv 70)), .fact 906012 (.cst (u3 12) (Fact.isv 82)), .fact 100010 (.obj 10 [(false, 1), (false, 1), (false, 1), (false, 1), (false, 1), (false, 1)]), .fact 100024 (.obj 24 [(false, 1), (false, 1), (false, 1), (false, 1), (false, 1), (false, 1)]), .fact 100049 (.obj 49 [(false, 1), (false, 1), (false, 1), (false, 1), (false, 1), (false, 1)]), .fact 100070 (.obj 70 [(false, 1), (false, 1), (false, 1), (false, 1), (false, 1), (false, 1)]), .fact 100082 (.obj 82 [(false, 1), (false, 1), (false, 1), (false, 1), (false, 1), (false, 1)])]) (FA := [Fact.isv 82, Fact.isv 10]) rfl Try.func71 rfl rfl rfl (CallOk.valE en71 (Has.s rfl) (HasF.cons (Has.s rfl) HasF.nil)) (fun u4 => (ck (ck (ck (ck (ck (ck (ck (ck (ck (ck (ck (ck (ck (ck (ck (ck (ck (ck (ck (ck (ck (ck (ck (ck (ck (ck (ck (ck (ck (ck (ck (ck (ck (ck (ck (ck (ck (ck (ck Carry.nil)))))))))))))))))))))))))))))))))))))))) (fun u4 => ?_) ?_
         ·refine CWalk.seq ?_
          refine CWalk.region ?_
          refine mv ?_
          refine mv ?_
          refine wo (Spec.nilCheckI (Has.s rfl) rfl) ?_
          refine wo (Spec.fieldAddrO fd28_3 (Has.cv (Has.s rfl) (Cv.isvP rfl))) ?_
          refine ws (Step.storeF (i := 3) (f := Fact.rep [] ((0 : UInt8) : UInt8)) rfl ty5 rfl (Has.s rfl) rfl (Has.u8 0 rfl) (Has.u8 0 rfl) rfl) ?_
          refine wo (Spec.nilCheckI (Has.s rfl) rfl) ?_
          refine wo (Spec.fieldAddrO fd28_5 (Has.cv (Has.s rfl) (Cv.isvP rfl))) ?_
          refine ws (Step.storeF (i := 5) (f := Fact.rep [] ((0 : UInt32) : UInt32)) rfl ty22 rfl (Has.s rfl) rfl (Has.u32 0 rfl) (Has.u32 0 rfl) rfl) ?_
          refine Walk.nil ?_
          refine Leaf.thenN ?_
          refine CWalk.seq ?_
          refine CWalk.ad (Ad.owF (i := 84) 91 rfl rfl rfl (ElT.tags rfl) rfl (Cv.owM (T := [79]) (te := [80]) (T' := [79]) (te' := [80]) rfl rfl)) ?_
          obtain ⟨x33, hx33, hm⟩ := bind_some hm
          refine CWalk.drawM [[], [0], [0, 1], [0, 1, 2], [], [4], [4, 5], [0, 1, 2, 3, 4, 5, 6], [0, 1, 2, 3, 4, 5, 6, 7]] [[.fact 9 (.isv 82)], [.fact 10 (.isv 82)], [.fact 11 (.pto 82 1)], [.fact 12 (.isv 91)], [.fact 13 (.pto 10 1)], [.fact 14 (.rep [] a0.Members)], [.fact 15 (.rep [] ((wI (a0.Members - (1 : Int))) : Int))], [.fact 16 (.pto 91 (x33 * Rp.n (List UInt8)))], [.fact 100091 (.own 91 [80] 31 ((x17.Blocks).set x33 ([] : List UInt8) : List (List UInt8))), .kill 91]] mixed (by kernel_rfl) (ao (so (Spec.move (Has.s rfl))) (ao (so (Spec.nilCheckI (Has.s rfl) rfl)) (ao (so (Spec.fieldAddrO fd28_1 (Has.cv (Has.s rfl) (Cv.isvP rfl)))) (ao (so (Spec.loadF (i := 1) ty25 rfl (Has.s rfl) rfl (HasG.s rfl))) (ao (so (Spec.fieldAddrO fd24_1 (Has.cv (Has.s rfl) (Cv.isvP rfl)))) (ao (so (Spec.loadF (i := 1) ty3 rfl (Has.s rfl) rfl (HasG.s rfl))) (ao (so (Spec.subI (Has.s rfl) Has.int)) (ao (so (Spec.idxOwn hx33 ow25 (Has.s rfl) rfl (Has.s rfl))) (ao (StepG.stE (Step.storeOwn (te' := [80]) rfl (bnd_lt hx33 rfl) ty31 (Has.s rfl) rfl (Has.nil UInt8) (ElKeep.tags rfl rfl) (ElKeep.tags rfl rfl))) AllM.nil))))))))) ?_
          refine Leaf.thenN ?_
          refine CWalk.ad (Ad.owF (i := 85) 92 rfl rfl rfl ElT.flat rfl (Cv.owF (T := [81]) (te := []) (T' := [81]) (te' := []) rfl)) ?_
          refine CWalk.region ?_
          refine mv ?_
          refine wo (Spec.nilCheckI (Has.s rfl) rfl) ?_
          refine wo (Spec.fieldAddrO fd28_2 (Has.cv (Has.s rfl) (Cv.isvP rfl))) ?_
          refine wo (Spec.loadF (i := 2) ty26 rfl (Has.s rfl) rfl (HasG.s rfl)) ?_
          refine ws (Step.clearOwn ow26 zt4 rfl (Has.s rfl) rfl) ?_
          refine Walk.nil ?_
          exact Leaf.inN (Leaf.in0 (f0 := Fact.top) ((x17.Blocks).set x33 ([] : List UInt8)) hm rfl rfl (fun _ _ => trivial) (Low.res (lc (lc (lc (lc (lf (lg (lg (lf (lf (lf (lf (lg (lg (lf (lf (lf (lf (lg (lg (lf (lf (lf (lf (lg (lg (lf (lf (lf (lo (lo (lo (lo (Low.keepR (fun _ _ _ _ h => h) (Has.ownM (Has.s rfl) rfl) (Low.keepR (fun _ _ _ _ h => h) (Has.ownM (Has.s rfl) rfl) Low.nil))))))))))))))))))))))))))))))))))))
         ·rintro j32 hm
          replace hm : head_Home_J5 x17 j32 = some r := hm
          unfold head_Home_J5 at hm
          show Walk _ _ _ [.fact 26 (.top), .fact 902004 (.cst (u1 4) (Fact.isv 24)), .fact 904008 (.cst (u2 8) (Fact.isv 49)), .fact 906010 (.cst (u3 10) (Fact.isv 70)), .fact 906012 (.cst (u3 12) (Fact.isv 82)), .fact 100025 (.at 25 (.rep [] ((0 : Int) : Int))), .fact 100026 (.at 26 (.nilv)), .fact 100027 (.at 27 (.nilv)), .fact 100028 (.at 28 (.rep [] ((0 : UInt8) : UInt8))), .fact 100029 (.at 29 (.rep [] (false : Bool))), .fact 100030 (.at 30 (.rep [] ((0 : UInt32) : UInt32))), .fact 100050 (.at 50 (.rep [] ((0 : Int) : Int))), .fact 100051 (.at 51 (.nilv)), .fact 100052 (.at 52 (.nilv)), .fact 100053 (.at 53 (.rep [] ((0 : UInt8) : UInt8))), .fact 100054 (.at 54 (.rep [] (false : Bool))), .fact 100055 (.at 55 (.rep [] ((0 : UInt32) : UInt32))), .fact 100071 (.at 71 (.rep [] ((0 : Int) : Int))), .fact 100072 (.at 72 (.nilv)), .fact 100073 (.at 73 (.nilv)), .fact 100074 (.at 74 (.rep [] ((0 : UInt8) : UInt8))), .fact 100075 (.at 75 (.rep [] (false : Bool))), .fact 100076 (.at 76 (.rep [] ((0 : UInt32) : UInt32))), .fact 100083 (.at 83 (.rep [] x17.Stripe)), .fact 100084 (.at 84 (.isv 91)), .fact 100085 (.at 85 (.isv 92)), .fact 100086 (.at 86 (.rep [] ((0 : UInt8) : UInt8))), .fact 100087 (.at 87 (.rep [] x17.Deals)), .fact 100088 (.at 88 (.rep [] ((0 : UInt32) : UInt32))), .fact 100024 (.obj 24 [(false, 1), (false, 1), (false, 1), (false, 1), (false, 1), (false, 1)]), .fact 100049 (.obj 49 [(false, 1), (false, 1), (false, 1), (false, 1), (false, 1), (false, 1)]), .fact 100070 (.obj 70 [(false, 1), (false, 1), (false, 1), (false, 1), (false, 1), (false, 1)]), .fact 100082 (.obj 82 [(false, 1), (false, 1), (false, 1), (false, 1), (false, 1), (false, 1)]), .fact 100091 (.own 91 [80] 31 (j32 : List (List UInt8))), .fact 100092 (.own 92 [] 4 (List.replicate (x17.Dirty).length false : List Bool))] _
          refine Walk.nil ?_
          refine Leaf.thenN ?_
          refine CWalk.seq ?_
          refine CWalk.region ?_
          refine wo (Spec.assign Has.int) ?_
          refine Walk.nil ?_
          refine Leaf.thenN ?_
          refine CWalk.ret ?_
          exact Leaf.in1 ((0 : Int), j32, List.replicate (x17.Dirty).length false, (0 : UInt8), (0 : UInt32)) hm rfl rfl (HasR.cv (HasR.tmp (Has.s rfl)) Cv.fl) (ls 906010 (ls 906012 (Low.res (lc (lc (lf (lg (lg (lf (lf (lf (lf (Low.keepG (HasG.cv (HasG.s rfl) (Cv.trans (Cv.isvOw rfl) (Cv.owM (T := [91]) (te := [80]) rfl rfl))) (Low.keepG (HasG.cv (HasG.s rfl) (Cv.trans (Cv.isvOw rfl) (Cv.owF (T := [92]) (te := []) rfl))) (lf (lf (lf (lf (lg (lg (lf (lf (lf (lf (lg (lg (lf (lf (lf (lo (lo (lo (lo Low.nil)))))))))))))))))))))))))))))))))
       ·rintro ⟨j25, j26, j27, j28, j29⟩ hm
        replace hm : head_Home_J4 x17 j25 j26 j27 j28 j29 = some r := hm
        unfold head_Home_J4 at hm
        show Walk _ _ _ [.fact 10 (.isv 70), .fact 12 (.isv 82), .fact 34 (.rep [] (j25 : Int)), .fact 902004 (.cst (u1 4) (Fact.isv 24)), .fact 904008 (.cst (u2 8) (Fact.isv 49)), .fact 100071 (.at 71 (.rep [] ((0 : Int) : Int))), .fact 100072 (.at 72 (.nilv)), .fact 100073 (.at 73 (.nilv)), .fact 100074 (.at 74 (.rep [] ((0 : UInt8) : UInt8))), .fact 100075 (.at 75 (.rep [] (false : Bool))), .fact 100076 (.at 76 (.rep [] ((0 : UInt32) : UInt32))), .fact 100083 (.at 83 (.rep [] x17.Stripe)), .fact 100084 (.at 84 (.ow [79, 91] [80] 31 (j26 : List (List UInt8)))), .fact 100085 (.at 85 (.ow [81, 92] [] 4 (j27 : List Bool))), .fact 100086 (.at 86 (.rep [] (j28 : UInt8))), .fact 100087 (.at 87 (.rep [] x17.Deals)), .fact 100088 (.at 88 (.rep [] (j29 : UInt32))), .fact 100025 (.at 25 (.rep [] ((0 : Int) : Int))), .fact 100026 (.at 26 (.nilv)), .fact 100027 (.at 27 (.nilv)), .fact 100028 (.at 28 (.rep [] ((0 : UInt8) : UInt8))), .fact 100029 (.at 29 (.rep [] (false : Bool))), .fact 100030 (.at 30 (.rep [] ((0 : UInt32) : UInt32))), .fact 100050 (.at 50 (.rep [] ((0 : Int) : Int))), .fact 100051 (.at 51 (.nilv)), .fact 100052 (.at 52 (.nilv)), .fact 100053 (.at 53 (.rep [] ((0 : UInt8) : UInt8))), .fact 100054 (.at 54 (.rep [] (false : Bool))), .fact 100055 (.at 55 (.rep [] ((0 : UInt32) : UInt32))), .fact 100070 (.obj 70 [(false, 1), (false, 1), (false, 1), (false, 1), (false, 1), (false, 1)]), .fact 100082 (.obj 82 [(false, 1), (false, 1), (false, 1), (false, 1), (false, 1), (false, 1)]), .fact 100024 (.obj 24 [(false, 1), (false, 1), (false, 1), (false, 1), (false, 1), (false, 1)]), .fact 100049 (.obj 49 [(false, 1), (false, 1), (false, 1), (false, 1), (false, 1), (false, 1)])] _
        refine wo (Spec.assign (Has.s rfl)) ?_
        refine Walk.nil ?_
        refine Leaf.thenN ?_
        refine CWalk.seq ?_
        refine CWalk.region ?_
        refine mv ?_
        refine wo (Spec.eqlI (Has.s rfl) Has.int) ?_
        refine Walk.nil ?_
        refine Leaf.thenN ?_
        refine CWalk.cond rfl (fun hb => ?_) (fun hb => ?_)
        ·have hm := cond_t hb hm
         refine CWalk.region ?_
         refine wo (Spec.loadObj (ls := [(false, 1, Fact.rep [] x17.Stripe), (false, 1, Fact.ow [79, 91] [80] 31 (j26 : List (List UInt8))), (false, 1, Fact.ow [81, 92] [] 4 (j27 : List Bool)), (false, 1, Fact.rep [] (j28 : UInt8)), (false, 1, Fact.rep [] x17.Deals), (false, 1, Fact.rep [] (j29 : UInt32))]) ty28 rfl rfl (Has.s rfl) rfl (HasGs.cons (HasG.s rfl) (HasGs.cons (HasG.s rfl) (HasGs.cons (HasG.s rfl) (HasGs.cons (HasG.s rfl) (HasGs.cons (HasG.s rfl) (HasGs.cons (HasG.s rfl) HasGs.nil))))))) ?_
         refine ws (Step.storeObj (ls := [(false, 1, Fact.rep [] x17.Stripe), (false, 1, Fact.ow [79, 91] [80] 31 (j26 : List (List UInt8))), (false, 1, Fact.ow [81, 92] [] 4 (j27 : List Bool)), (false, 1, Fact.rep [] (j28 : UInt8)), (false, 1, Fact.rep [] x17.Deals), (false, 1, Fact.rep [] (j29 : UInt32))]) rfl ty28 rfl rfl (Has.s rfl) rfl (HasL.flds (Has.s rfl)) rfl) ?_
         refine Walk.nil ?_
         exact Leaf.join (j25, x17.Stripe, j26, j27, j28, x17.Deals, j29) hm (sn (st (sc (sc (sf (Sub.cons (Has.at (HasG.cv (HasG.s rfl) (Cv.owM (T := [79, 91]) (te := [80]) rfl rfl))) (Sub.cons (Has.at (HasG.cv (HasG.s rfl) (Cv.owF (T := [81, 92]) (te := []) rfl))) (sf (sf (sf (sf (sg (sg (sf (sf (sf (sf (sg (sg (sf (sf (sf (sn (sn (sn Sub.nil)))))))))))))))))))))))))
        ·have hm := cond_f hb hm
         refine CWalk.skip ?_
         exact Leaf.join (j25, (0 : Int), ([] : List (List UInt8)), ([] : List Bool), (0 : UInt8), false, (0 : UInt32)) hm (sn (st (sc (sc (sf (Sub.cons (Has.at (HasG.cv (HasG.s rfl) (Cv.trans Cv.nilOw (Cv.owM (T := []) (te := []) rfl rfl)))) (Sub.cons (Has.at (HasG.cv (HasG.s rfl) (Cv.trans Cv.nilOw (Cv.owF (T := []) (te := []) rfl)))) (sf (sf (sf (sf (sg (sg (sf (sf (sf (sf (sg (sg (sf (sf (sf (sn (sn (sn Sub.nil)))))))))))))))))))))))))
  ·rintro ⟨j8, j9, j10, j11, j12, j13, j14⟩ hm
   replace hm : head_Home_J2 j8 j9 j10 j11 j12 j13 j14 = some r := hm
   unfold head_Home_J2 at hm
   show Walk _ _ _ [.fact 8 (.isv 49), .fact 13 (.tup2 (Fact.flds [(false, 1, Fact.rep [] (j8 : Int)), (false, 1, Fact.ow [79, 91] [80] 31 (j9 : List (List UInt8))), (false, 1, Fact.ow [81, 92] [] 4 (j10 : List Bool)), (false, 1, Fact.rep [] (j11 : UInt8)), (false, 1, Fact.rep [] (j12 : Bool)), (false, 1, Fact.rep [] (j13 : UInt32))]) (Fact.rep [] (j14 : Int))), .fact 902004 (.cst (u1 4) (Fact.isv 24)), .fact 100050 (.at 50 (.rep [] ((0 : Int) : Int))), .fact 100051 (.at 51 (.nilv)), .fact 100052 (.at 52 (.nilv)), .fact 100053 (.at 53 (.rep [] ((0 : UInt8) : UInt8))), .fact 100054 (.at 54 (.rep [] (false : Bool))), .fact 100055 (.at 55 (.rep [] ((0 : UInt32) : UInt32))), .fact 100025 (.at 25 (.rep [] ((0 : Int) : Int))), .fact 100026 (.at 26 (.nilv)), .fact 100027 (.at 27 (.nilv)), .fact 100028 (.at 28 (.rep [] ((0 : UInt8) : UInt8))), .fact 100029 (.at 29 (.rep [] (false : Bool))), .fact 100030 (.at 30 (.rep [] ((0 : UInt32) : UInt32))), .fact 100049 (.obj 49 [(false, 1), (false, 1), (false, 1), (false, 1), (false, 1), (false, 1)]), .fact 100024 (.obj 24 [(false, 1), (false, 1), (false, 1), (false, 1), (false, 1), (false, 1)])] _
   refine wo (Spec.ext0 (Has.s rfl)) ?_
   refine wo (Spec.ext1 (Has.s rfl)) ?_
   refine ws (Step.storeObj (ls := [(false, 1, Fact.rep [] (j8 : Int)), (false, 1, Fact.ow [79, 91] [80] 31 (j9 : List (List UInt8))), (false, 1, Fact.ow [81, 92] [] 4 (j10 : List Bool)), (false, 1, Fact.rep [] (j11 : UInt8)), (false, 1, Fact.rep [] (j12 : Bool)), (false, 1, Fact.rep [] (j13 : UInt32))]) rfl ty28 rfl rfl (Has.s rfl) rfl (HasL.flds (Has.s rfl)) rfl) ?_
   refine wo (Spec.assign (Has.s rfl)) ?_
   refine Walk.nil ?_
   refine Leaf.thenN ?_
   refine CWalk.ret ?_
   exact Leaf.in2 (j8, j9, j10, j11, j12, j13, j14) hm rfl rfl (HasR.cv (HasR.obj (ls := [(false, 1, Fact.rep [] (j8 : Int)), (false, 1, Fact.ow [79, 91] [80] 31 (j9 : List (List UInt8))), (false, 1, Fact.ow [81, 92] [] 4 (j10 : List Bool)), (false, 1, Fact.rep [] (j11 : UInt8)), (false, 1, Fact.rep [] (j12 : Bool)), (false, 1, Fact.rep [] (j13 : UInt32))]) ty28 rfl rfl (Has.s rfl) rfl (HasGs.cons (HasG.s rfl) (HasGs.cons (HasG.s rfl) (HasGs.cons (HasG.s rfl) (HasGs.cons (HasG.s rfl) (HasGs.cons (HasG.s rfl) (HasGs.cons (HasG.s rfl) HasGs.nil))))))) (Cv.flds (CvL.cons Cv.fl (CvL.cons (Cv.owM (T := [79, 91]) (te := [80]) rfl rfl) (CvL.cons (Cv.owF (T := [81, 92]) (te := []) rfl) (CvL.cons Cv.fl (CvL.cons Cv.fl (CvL.cons Cv.fl CvL.nil)))))))) (HasR.cv (HasR.tmp (Has.s rfl)) Cv.fl) (ls 902004 (Low.res (lf (lg (lg (lf (lf (lf (lo Low.nil)))))))))
 ·rintro ⟨j1, j2, j3, j4, j5, j6, j7⟩ hm
  replace hm : head_Home_J1 j1 j2 j3 j4 j5 j6 j7 = some r := hm
  unfold head_Home_J1 at hm
  show Walk _ _ _ [.fact 4 (.isv 24), .fact 9 (.tup2 (Fact.flds [(false, 1, Fact.rep [] (j1 : Int)), (false, 1, Fact.ow [79, 91] [80] 31 (j2 : List (List UInt8))), (false, 1, Fact.ow [81, 92] [] 4 (j3 : List Bool)), (false, 1, Fact.rep [] (j4 : UInt8)), (false, 1, Fact.rep [] (j5 : Bool)), (false, 1, Fact.rep [] (j6 : UInt32))]) (Fact.rep [] (j7 : Int))), .fact 100025 (.at 25 (.rep [] ((0 : Int) : Int))), .fact 100026 (.at 26 (.nilv)), .fact 100027 (.at 27 (.nilv)), .fact 100028 (.at 28 (.rep [] ((0 : UInt8) : UInt8))), .fact 100029 (.at 29 (.rep [] (false : Bool))), .fact 100030 (.at 30 (.rep [] ((0 : UInt32) : UInt32))), .fact 100024 (.obj 24 [(false, 1), (false, 1), (false, 1), (false, 1), (false, 1), (false, 1)])] _
  refine wo (Spec.ext0 (Has.s rfl)) ?_
  refine wo (Spec.ext1 (Has.s rfl)) ?_
  refine ws (Step.storeObj (ls := [(false, 1, Fact.rep [] (j1 : Int)), (false, 1, Fact.ow [79, 91] [80] 31 (j2 : List (List UInt8))), (false, 1, Fact.ow [81, 92] [] 4 (j3 : List Bool)), (false, 1, Fact.rep [] (j4 : UInt8)), (false, 1, Fact.rep [] (j5 : Bool)), (false, 1, Fact.rep [] (j6 : UInt32))]) rfl ty28 rfl rfl (Has.s rfl) rfl (HasL.flds (Has.s rfl)) rfl) ?_
  refine wo (Spec.assign (Has.s rfl)) ?_
  refine Walk.nil ?_
  refine Leaf.thenN ?_
  refine CWalk.ret ?_
  obtain rfl := Option.some.inj hm
  exact Leaf.retC2 rfl (HasR.cv (HasR.obj (ls := [(false, 1, Fact.rep [] (j1 : Int)), (false, 1, Fact.ow [79, 91] [80] 31 (j2 : List (List UInt8))), (false, 1, Fact.ow [81, 92] [] 4 (j3 : List Bool)), (false, 1, Fact.rep [] (j4 : UInt8)), (false, 1, Fact.rep [] (j5 : Bool)), (false, 1, Fact.rep [] (j6 : UInt32))]) ty28 rfl rfl (Has.s rfl) rfl (HasGs.cons (HasG.s rfl) (HasGs.cons (HasG.s rfl) (HasGs.cons (HasG.s rfl) (HasGs.cons (HasG.s rfl) (HasGs.cons (HasG.s rfl) (HasGs.cons (HasG.s rfl) HasGs.nil))))))) (Cv.flds (CvL.cons Cv.fl (CvL.cons (Cv.owM (T := [79, 91]) (te := [80]) rfl rfl) (CvL.cons (Cv.owF (T := [81, 92]) (te := []) rfl) (CvL.cons Cv.fl (CvL.cons Cv.fl (CvL.cons Cv.fl CvL.nil)))))))) (HasR.cv (HasR.tmp (Has.s rfl)) Cv.fl)

/-- freeboard/freeboardref16.Home -/
def ref16_Home (a0 : Config) (a1 : Head) : Option (Head × Int) :=
  Option.bind (ref16_from a0 a1 (4 : UInt8) (4 : UInt8) (0 : UInt8)) (fun x1 => (bif (x1.2 != (0 : Int)) then some ((Head.mk (0 : Int) ([] : List (List UInt8)) ([] : List Bool) (0 : UInt8) false (0 : UInt32)), x1.2) else Option.bind (bnd (x1.1.Blocks).length (wI (a0.Members - (1 : Int)))) (fun x2 => Option.bind (makeL false (wI (a0.Members - (1 : Int)))) (fun x3 => some ((Head.mk x1.1.Stripe ((x1.1.Blocks).set x2 ([] : List UInt8)) x3 x1.1.Phase x1.1.Deals (0 : UInt32)), (0 : Int))))))
set_option maxRecDepth 100000 in
set_option maxHeartbeats 2000000 in
theorem ref16_Home_c (a0 : Config) (a1 : Head) {r : Head × Int} (hm : ref16_Home a0 a1 = some r) : Ctr Try.prog 37 [.rep 0 a0, .rep 0 a1] (.tup2 (.flds [(false, 1, (.fl r.1.Stripe)), (false, 1, (.own 0 (some 1) 31 r.1.Blocks)), (false, 1, (.own 2 none 4 r.1.Dirty)), (false, 1, (.fl r.1.Phase)), (false, 1, (.fl r.1.Deals)), (false, 1, (.fl r.1.Seq))]) (.fl r.2)) [] := by
 refine ctr_of_walk [[41], [32], [42]] 31 Try.func37 rfl rfl rfl rfl (fun w0 om => ?_)
 unfold ref16_Home at hm
 refine CWalk.sub (G' := [.fact 0 (.rep [] (a0 : Config)), .fact 1 (.rep [0] (a1 : Head))]) (Sub.cons (Has.fl (Has.s rfl)) (sn Sub.nil)) ?_
 refine CWalk.seq ?_
 refine CWalk.region ?_
 refine ws (Step.boxObj (ls := [(false, 1, Fact.rep [] a0.Id), (false, 1, Fact.rep [] a0.Members), (false, 1, Fact.rep [] a0.Chunk), (false, 1, Fact.rep [] a0.Rows), (false, 1, Fact.rep [] a0.Log), (false, 1, Fact.rep [] a0.Heads)]) 10 rfl rfl rfl rfl (HasL.flds (Has.cv (Has.s rfl) (Cv.trans (Cv.opens (chConfig a0)) (Cv.flds (CvL.cons Cv.fl (CvL.cons Cv.fl (CvL.cons Cv.fl (CvL.cons Cv.fl (CvL.cons Cv.fl (CvL.cons Cv.fl CvL.nil))))))))))) ?_
 refine ws (Step.boxObj (ls := [(false, 1, Fact.rep [] a1.Stripe), (false, 1, Fact.rep [0] a1.Blocks), (false, 1, Fact.rep [0] a1.Dirty), (false, 1, Fact.rep [] a1.Phase), (false, 1, Fact.rep [] a1.Deals), (false, 1, Fact.rep [] a1.Seq)]) 17 rfl rfl rfl rfl (HasL.flds (Has.cv (Has.s rfl) (Cv.trans (Cv.opens (chHead a1)) (Cv.flds (CvL.cons Cv.fl (CvL.cons Cv.refl (CvL.cons Cv.refl (CvL.cons Cv.fl (CvL.cons Cv.fl (CvL.cons Cv.fl CvL.nil))))))))))) ?_
 refine ws (Step.allocObj (ls := [(false, 1, Fact.rep [] ((0 : Int) : Int)), (false, 1, Fact.nilv), (false, 1, Fact.nilv), (false, 1, Fact.rep [] ((0 : UInt8) : UInt8)), (false, 1, Fact.rep [] (false : Bool)), (false, 1, Fact.rep [] ((0 : UInt32) : UInt32))]) 24 rfl rfl rfl rfl zl28) ?_
 refine wo (Spec.assign Has.int) ?_
 refine Walk.nil ?_
 refine Leaf.thenN ?_
 refine CWalk.seq ?_
 refine CWalk.region ?_
 refine wo (Spec.loadObj (ls := [(false, 1, Fact.rep [] a0.Id), (false, 1, Fact.rep [] a0.Members), (false, 1, Fact.rep [] a0.Chunk), (false, 1, Fact.rep [] a0.Rows), (false, 1, Fact.rep [] a0.Log), (false, 1, Fact.rep [] a0.Heads)]) ty24 rfl rfl (Has.s rfl) rfl (HasGs.cons (HasG.s rfl) (HasGs.cons (HasG.s rfl) (HasGs.cons (HasG.s rfl) (HasGs.cons (HasG.s rfl) (HasGs.cons (HasG.s rfl) (HasGs.cons (HasG.s rfl) HasGs.nil))))))) ?_
 refine wo (Spec.loadObj (ls := [(false, 1, Fact.rep [] a1.Stripe), (false, 1, Fact.rep [0] a1.Blocks), (false, 1, Fact.rep [0] a1.Dirty), (false, 1, Fact.rep [] a1.Phase), (false, 1, Fact.rep [] a1.Deals), (false, 1, Fact.rep [] a1.Seq)]) ty28 rfl rfl (Has.s rfl) rfl (HasGs.cons (HasG.s rfl) (HasGs.cons (HasG.s rfl) (HasGs.cons (HasG.s rfl) (HasGs.cons (HasG.s rfl) (HasGs.cons (HasG.s rfl) (HasGs.cons (HasG.s rfl) HasGs.nil))))))) ?_
 obtain ⟨x1, hx1, hm⟩ := bind_some hm
 refine wo (f := Fact.tup2 (Fact.flds [(false, 1, Fact.rep [] x1.1.Stripe), (false, 1, Fact.ow [31] [32] 31 (x1.1.Blocks : List (List UInt8))), (false, 1, Fact.ow [33] [] 4 (x1.1.Dirty : List Bool)), (false, 1, Fact.rep [] x1.1.Phase), (false, 1, Fact.rep [] x1.1.Deals), (false, 1, Fact.rep [] x1.1.Seq)]) (Fact.rep [] x1.2)) (Spec.callE [0] 31 rfl en67 (ref16_from_c a0 a1 (4 : UInt8) (4 : UInt8) (0 : UInt8) hx1) (HasAll.cons (Has.fl (Has.cv (Has.s rfl) (Cv.trans (Cv.flds (CvL.cons Cv.fl (CvL.cons Cv.fl (CvL.cons Cv.fl (CvL.cons Cv.fl (CvL.cons Cv.fl (CvL.cons Cv.fl CvL.nil))))))) (Cv.close (T := []) (chConfig a0))))) (HasAll.cons (Has.m (Has.cv (Has.s rfl) (Cv.trans (Cv.flds (CvL.cons Cv.fl (CvL.cons (Cv.m rfl) (CvL.cons (Cv.m rfl) (CvL.cons Cv.fl (CvL.cons Cv.fl (CvL.cons Cv.fl CvL.nil))))))) (Cv.close (T := [0]) (chHead a1)))) rfl) (HasAll.cons (Has.fl (Has.u8 4 rfl)) (HasAll.cons (Has.fl (Has.u8 4 rfl)) (HasAll.cons (Has.fl (Has.u8 0 rfl)) HasAll.nil)))))) ?_
 refine mv ?_
 refine wo (Spec.ext0 (Has.s rfl)) ?_
 refine wo (Spec.ext1 (Has.s rfl)) ?_
 refine ws (Step.allocObj (ls := [(false, 1, Fact.rep [] ((0 : Int) : Int)), (false, 1, Fact.nilv), (false, 1, Fact.nilv), (false, 1, Fact.rep [] ((0 : UInt8) : UInt8)), (false, 1, Fact.rep [] (false : Bool)), (false, 1, Fact.rep [] ((0 : UInt32) : UInt32))]) 34 rfl rfl rfl rfl zl28) ?_
 refine ws (Step.storeObj (ls := [(false, 1, Fact.rep [] x1.1.Stripe), (false, 1, Fact.ow [31] [32] 31 (x1.1.Blocks : List (List UInt8))), (false, 1, Fact.ow [33] [] 4 (x1.1.Dirty : List Bool)), (false, 1, Fact.rep [] x1.1.Phase), (false, 1, Fact.rep [] x1.1.Deals), (false, 1, Fact.rep [] x1.1.Seq)]) rfl ty28 rfl rfl (Has.s rfl) rfl (HasL.flds (Has.s rfl)) rfl) ?_
 refine wo (Spec.assign (Has.s rfl)) ?_
 refine Walk.nil ?_
 refine Leaf.thenN ?_
 refine CWalk.seq ?_
 refine CWalk.seq ?_
 refine CWalk.region ?_
 refine mv ?_
 refine wo (Spec.neqI (Has.s rfl) Has.int) ?_
 refine Walk.nil ?_
 refine Leaf.thenN ?_
 refine CWalk.cond rfl (fun hb => ?_) (fun hb => ?_)
 ·have hm := cond_t hb hm
  refine CWalk.seq ?_
  refine CWalk.region ?_
  refine wo (Spec.build (us := []) (ls' := [(false, 1, Fact.rep [] ((0 : Int) : Int)), (false, 1, Fact.nilv), (false, 1, Fact.nilv), (false, 1, Fact.rep [] ((0 : UInt8) : UInt8)), (false, 1, Fact.rep [] (false : Bool)), (false, 1, Fact.rep [] ((0 : UInt32) : UInt32))]) bd28 rfl BP.nil) ?_
  refine mv ?_
  refine ws (Step.storeObj (ls := [(false, 1, Fact.rep [] ((0 : Int) : Int)), (false, 1, Fact.nilv), (false, 1, Fact.nilv), (false, 1, Fact.rep [] ((0 : UInt8) : UInt8)), (false, 1, Fact.rep [] (false : Bool)), (false, 1, Fact.rep [] ((0 : UInt32) : UInt32))]) rfl ty28 rfl rfl (Has.s rfl) rfl (HasL.flds (Has.s rfl)) rfl) ?_
  refine wo (Spec.assign (Has.s rfl)) ?_
  refine Walk.nil ?_
  refine Leaf.thenN ?_
  refine CWalk.ret ?_
  refine Leaf.thenR ?_
  obtain rfl := Option.some.inj hm
  exact Leaf.retC2 rfl (HasR.cv (HasR.obj (ls := [(false, 1, Fact.rep [] ((0 : Int) : Int)), (false, 1, Fact.nilv), (false, 1, Fact.nilv), (false, 1, Fact.rep [] ((0 : UInt8) : UInt8)), (false, 1, Fact.rep [] (false : Bool)), (false, 1, Fact.rep [] ((0 : UInt32) : UInt32))]) ty28 rfl rfl (Has.s rfl) rfl (HasGs.cons (HasG.s rfl) (HasGs.cons (HasG.s rfl) (HasGs.cons (HasG.s rfl) (HasGs.cons (HasG.s rfl) (HasGs.cons (HasG.s rfl) (HasGs.cons (HasG.s rfl) HasGs.nil))))))) (Cv.flds (CvL.cons Cv.fl (CvL.cons (Cv.trans Cv.nilOw (Cv.owM (T := []) (te := []) rfl rfl)) (CvL.cons (Cv.trans Cv.nilOw (Cv.owF (T := []) (te := []) rfl)) (CvL.cons Cv.fl (CvL.cons Cv.fl (CvL.cons Cv.fl CvL.nil)))))))) (HasR.cv (HasR.tmp (Has.s rfl)) Cv.fl)
 ·have hm := cond_f hb hm
  refine CWalk.skip ?_
  refine Leaf.thenN ?_
  refine CWalk.seq ?_
  refine CWalk.ad (Ad.owF (i := 36) 41 rfl rfl rfl (ElT.tags rfl) rfl (Cv.owM (T := [31]) (te := [32]) (T' := [31]) (te' := [32]) rfl rfl)) ?_
  refine CWalk.region ?_
  refine wo (Spec.fieldAddrO fd28_1 (Has.cv (Has.s rfl) (Cv.isvP rfl))) ?_
  refine wo (Spec.loadF (i := 1) ty25 rfl (Has.s rfl) rfl (HasG.s rfl)) ?_
  refine wo (Spec.fieldAddrO fd24_1 (Has.cv (Has.s rfl) (Cv.isvP rfl))) ?_
  refine wo (Spec.loadF (i := 1) ty3 rfl (Has.s rfl) rfl (HasG.s rfl)) ?_
  refine wo (Spec.subI (Has.s rfl) Has.int) ?_
  obtain ⟨x2, hx2, hm⟩ := bind_some hm
  refine wo (Spec.idxOwn hx2 ow25 (Has.s rfl) rfl (Has.s rfl)) ?_
  refine ws (Step.storeOwn (te' := [32]) rfl (bnd_lt hx2 rfl) ty31 (Has.s rfl) rfl (Has.nil UInt8) (ElKeep.tags rfl rfl) (ElKeep.tags rfl rfl)) ?_
  refine Walk.nil ?_
  refine Leaf.thenN ?_
  refine CWalk.seq ?_
  refine CWalk.region ?_
  refine wo (Spec.fieldAddrO fd24_1 (Has.cv (Has.s rfl) (Cv.isvP rfl))) ?_
  refine wo (Spec.loadF (i := 1) ty3 rfl (Has.s rfl) rfl (HasG.s rfl)) ?_
  refine wo (Spec.subI (Has.s rfl) Has.int) ?_
  obtain ⟨x3, hx3, hm⟩ := bind_some hm
  refine ws (Step.makeOwn 42 hx3 rfl rfl ow26 zt4 (Has.s rfl)) ?_
  refine wo (Spec.fieldAddrO fd28_2 (Has.cv (Has.s rfl) (Cv.isvP rfl))) ?_
  refine ws (Step.storeF (i := 2) (f := Fact.isv 42) rfl ty26 rfl (Has.s rfl) rfl (Has.cv (Has.s rfl) (Cv.own rfl)) (Has.s rfl) rfl) ?_
  refine Walk.nil ?_
  refine Leaf.thenN ?_
  refine CWalk.seq ?_
  refine CWalk.region ?_
  refine wo (Spec.fieldAddrO fd28_5 (Has.cv (Has.s rfl) (Cv.isvP rfl))) ?_
  refine ws (Step.storeF (i := 5) (f := Fact.rep [] ((0 : UInt32) : UInt32)) rfl ty22 rfl (Has.s rfl) rfl (Has.u32 0 rfl) (Has.u32 0 rfl) rfl) ?_
  refine Walk.nil ?_
  refine Leaf.thenN ?_
  refine CWalk.seq ?_
  refine CWalk.region ?_
  refine wo (Spec.loadObj (ls := [(false, 1, Fact.rep [] x1.1.Stripe), (false, 1, Fact.isv 41), (false, 1, Fact.isv 42), (false, 1, Fact.rep [] x1.1.Phase), (false, 1, Fact.rep [] x1.1.Deals), (false, 1, Fact.rep [] ((0 : UInt32) : UInt32))]) ty28 rfl rfl (Has.s rfl) rfl (HasGs.cons (HasG.s rfl) (HasGs.cons (HasG.s rfl) (HasGs.cons (HasG.s rfl) (HasGs.cons (HasG.s rfl) (HasGs.cons (HasG.s rfl) (HasGs.cons (HasG.s rfl) HasGs.nil))))))) ?_
  refine ws (Step.storeObj (ls := [(false, 1, Fact.rep [] x1.1.Stripe), (false, 1, Fact.isv 41), (false, 1, Fact.isv 42), (false, 1, Fact.rep [] x1.1.Phase), (false, 1, Fact.rep [] x1.1.Deals), (false, 1, Fact.rep [] ((0 : UInt32) : UInt32))]) rfl ty28 rfl rfl (Has.s rfl) rfl (HasL.flds (Has.s rfl)) rfl) ?_
  refine wo (Spec.assign Has.int) ?_
  refine Walk.nil ?_
  refine Leaf.thenN ?_
  refine CWalk.ret ?_
  obtain rfl := Option.some.inj hm
  exact Leaf.retC2 rfl (HasR.cv (HasR.obj (ls := [(false, 1, Fact.rep [] x1.1.Stripe), (false, 1, Fact.isv 41), (false, 1, Fact.isv 42), (false, 1, Fact.rep [] x1.1.Phase), (false, 1, Fact.rep [] x1.1.Deals), (false, 1, Fact.rep [] ((0 : UInt32) : UInt32))]) ty28 rfl rfl (Has.s rfl) rfl (HasGs.cons (HasG.s rfl) (HasGs.cons (HasG.s rfl) (HasGs.cons (HasG.s rfl) (HasGs.cons (HasG.s rfl) (HasGs.cons (HasG.s rfl) (HasGs.cons (HasG.s rfl) HasGs.nil))))))) (Cv.flds (CvL.cons Cv.fl (CvL.cons (Cv.trans (Cv.isvOw rfl) (Cv.owM (T := [41]) (te := [32]) rfl rfl)) (CvL.cons (Cv.trans (Cv.isvOw rfl) (Cv.owF (T := [42]) (te := []) rfl)) (CvL.cons Cv.fl (CvL.cons Cv.fl (CvL.cons Cv.fl CvL.nil)))))))) (HasR.cv (HasR.tmp (Has.s rfl)) Cv.fl)

def ref16_Same_L1 (a0 : Head) (a1 : Head) (s1 : Int) : Option (Ctl (Int) ((Unit) ⊕ (Unit))) :=
  (bif (decide (s1 < ((a0.Blocks).length : Int))) then Option.bind (idx a0.Blocks s1) (fun x3 => Option.bind (idx a1.Blocks s1) (fun x4 => (bif (!((Str.mk x3).s == (Str.mk x4).s)) then some (Ctl.brk (Sum.inr ())) else some (Ctl.next (wI (s1 + (1 : Int))))))) else some (Ctl.brk (Sum.inl ())))
def ref16_Same_L2 (a0 : Head) (a1 : Head) (s7 : Int) : Option (Ctl (Int) ((Unit) ⊕ (Unit))) :=
  (bif (decide (s7 < ((a0.Dirty).length : Int))) then Option.bind (idx a0.Dirty s7) (fun x9 => Option.bind (idx a1.Dirty s7) (fun x10 => (bif (x9 != x10) then some (Ctl.brk (Sum.inr ())) else some (Ctl.next (wI (s7 + (1 : Int))))))) else some (Ctl.brk (Sum.inl ())))
/-- freeboard/freeboardref16.Same -/
def ref16_Same (a0 : Head) (a1 : Head) : Option (Bool) :=
  (bif ((((((a0.Stripe != a1.Stripe) || (a0.Phase != a1.Phase)) || (a0.Deals != a1.Deals)) || ((a0.Seq.toNat : Int) != (a1.Seq.toNat : Int))) || (((a0.Blocks).length : Int) != ((a1.Blocks).length : Int))) || (((a0.Dirty).length : Int) != ((a1.Dirty).length : Int))) then some false else Option.bind (loopM (fun s : Int => ref16_Same_L1 a0 a1 s) FUEL (0 : Int)) (fun b5 => Sum.elim (fun b6 => Option.bind (loopM (fun s : Int => ref16_Same_L2 a0 a1 s) FUEL (0 : Int)) (fun b11 => Sum.elim (fun b12 => some true) (fun b13 => some false) b11)) (fun b14 => some false) b5))
set_option maxRecDepth 100000 in
set_option maxHeartbeats 2000000 in
theorem ref16_Same_c (a0 : Head) (a1 : Head) {r : Bool} (hm : ref16_Same a0 a1 = some r) : Ctr Try.prog 16 [.rep 0 a0, .rep 0 a1] (.fl r) [] := by
 refine ctr_of_walk [[]] 89 Try.func16 rfl rfl rfl rfl (fun w0 om => ?_)
 unfold ref16_Same at hm
 refine CWalk.sub (G' := [.fact 0 (.rep [0] (a0 : Head)), .fact 1 (.rep [0] (a1 : Head))]) (sn (sn Sub.nil)) ?_
 refine CWalk.seq ?_
 refine CWalk.region ?_
 refine ws (Step.boxObj (ls := [(false, 1, Fact.rep [] a0.Stripe), (false, 1, Fact.rep [0] a0.Blocks), (false, 1, Fact.rep [0] a0.Dirty), (false, 1, Fact.rep [] a0.Phase), (false, 1, Fact.rep [] a0.Deals), (false, 1, Fact.rep [] a0.Seq)]) 10 rfl rfl rfl rfl (HasL.flds (Has.cv (Has.s rfl) (Cv.trans (Cv.opens (chHead a0)) (Cv.flds (CvL.cons Cv.fl (CvL.cons Cv.refl (CvL.cons Cv.refl (CvL.cons Cv.fl (CvL.cons Cv.fl (CvL.cons Cv.fl CvL.nil))))))))))) ?_
 refine ws (Step.boxObj (ls := [(false, 1, Fact.rep [] a1.Stripe), (false, 1, Fact.rep [0] a1.Blocks), (false, 1, Fact.rep [0] a1.Dirty), (false, 1, Fact.rep [] a1.Phase), (false, 1, Fact.rep [] a1.Deals), (false, 1, Fact.rep [] a1.Seq)]) 17 rfl rfl rfl rfl (HasL.flds (Has.cv (Has.s rfl) (Cv.trans (Cv.opens (chHead a1)) (Cv.flds (CvL.cons Cv.fl (CvL.cons Cv.refl (CvL.cons Cv.refl (CvL.cons Cv.fl (CvL.cons Cv.fl (CvL.cons Cv.fl CvL.nil))))))))))) ?_
 refine wo (Spec.assign Has.bool) ?_
 refine Walk.nil ?_
 refine Leaf.thenN ?_
 refine CWalk.seq ?_
 refine CWalk.seq ?_
 refine CWalk.region ?_
 refine wo (Spec.fieldAddrO fd28_0 (Has.cv (Has.s rfl) (Cv.isvP rfl))) ?_
 refine wo (Spec.loadF (i := 0) ty3 rfl (Has.s rfl) rfl (HasG.s rfl)) ?_
 refine wo (Spec.fieldAddrO fd28_0 (Has.cv (Has.s rfl) (Cv.isvP rfl))) ?_
 refine wo (Spec.loadF (i := 0) ty3 rfl (Has.s rfl) rfl (HasG.s rfl)) ?_
 refine wo (Spec.neqI (Has.s rfl) (Has.s rfl)) ?_
 refine mv ?_
 refine wg rfl rfl (fun hb => Spec.fieldAddrO fd28_3 (Has.cv (Has.s rfl) (Cv.isvP rfl))) ?_
 refine wg rfl rfl (fun hb => Spec.loadF (i := 3) ty5 rfl (Has.u rfl hb) rfl (HasG.s rfl)) ?_
 refine wg rfl rfl (fun hb => Spec.fieldAddrO fd28_3 (Has.cv (Has.s rfl) (Cv.isvP rfl))) ?_
 refine wg rfl rfl (fun hb => Spec.loadF (i := 3) ty5 rfl (Has.u rfl hb) rfl (HasG.s rfl)) ?_
 refine wg rfl rfl (fun hb => Spec.neqB (Has.u rfl hb) (Has.u rfl hb)) ?_
 refine wo (Spec.or (Has.s rfl) (fun h => Has.u rfl h)) ?_
 refine mv ?_
 refine wg rfl rfl (fun hb => Spec.fieldAddrO fd28_4 (Has.cv (Has.s rfl) (Cv.isvP rfl))) ?_
 refine wg rfl rfl (fun hb => Spec.loadF (i := 4) ty4 rfl (Has.u rfl hb) rfl (HasG.s rfl)) ?_
 refine wg rfl rfl (fun hb => Spec.fieldAddrO fd28_4 (Has.cv (Has.s rfl) (Cv.isvP rfl))) ?_
 refine wg rfl rfl (fun hb => Spec.loadF (i := 4) ty4 rfl (Has.u rfl hb) rfl (HasG.s rfl)) ?_
 refine wg rfl rfl (fun hb => Spec.neqT (Has.u rfl hb) (Has.u rfl hb) Try.underlying4) ?_
 refine wo (Spec.or (Has.s rfl) (fun h => Has.u rfl h)) ?_
 refine mv ?_
 refine wg rfl rfl (fun hb => Spec.fieldAddrO fd28_5 (Has.cv (Has.s rfl) (Cv.isvP rfl))) ?_
 refine wg rfl rfl (fun hb => Spec.loadF (i := 5) ty22 rfl (Has.u rfl hb) rfl (HasG.s rfl)) ?_
 refine wg rfl rfl (fun hb => Spec.fieldAddrO fd28_5 (Has.cv (Has.s rfl) (Cv.isvP rfl))) ?_
 refine wg rfl rfl (fun hb => Spec.loadF (i := 5) ty22 rfl (Has.u rfl hb) rfl (HasG.s rfl)) ?_
 refine wg rfl rfl (fun hb => Spec.neqN (α := UInt32) (Has.u rfl hb) (Has.u rfl hb)) ?_
 refine wo (Spec.or (Has.s rfl) (fun h => Has.u rfl h)) ?_
 refine mv ?_
 refine wg rfl rfl (fun hb => Spec.fieldAddrO fd28_1 (Has.cv (Has.s rfl) (Cv.isvP rfl))) ?_
 refine wg rfl rfl (fun hb => Spec.loadF (i := 1) ty25 rfl (Has.u rfl hb) rfl (HasG.s rfl)) ?_
 refine wg rfl rfl (fun hb => Spec.len (Has.u rfl hb) Try.underlying25) ?_
 refine wg rfl rfl (fun hb => Spec.fieldAddrO fd28_1 (Has.cv (Has.s rfl) (Cv.isvP rfl))) ?_
 refine wg rfl rfl (fun hb => Spec.loadF (i := 1) ty25 rfl (Has.u rfl hb) rfl (HasG.s rfl)) ?_
 refine wg rfl rfl (fun hb => Spec.len (Has.u rfl hb) Try.underlying25) ?_
 refine wg rfl rfl (fun hb => Spec.neqI (Has.u rfl hb) (Has.u rfl hb)) ?_
 refine wo (Spec.or (Has.s rfl) (fun h => Has.u rfl h)) ?_
 refine mv ?_
 refine wg rfl rfl (fun hb => Spec.fieldAddrO fd28_2 (Has.cv (Has.s rfl) (Cv.isvP rfl))) ?_
 refine wg rfl rfl (fun hb => Spec.loadF (i := 2) ty26 rfl (Has.u rfl hb) rfl (HasG.s rfl)) ?_
 refine wg rfl rfl (fun hb => Spec.len (Has.u rfl hb) Try.underlying26) ?_
 refine wg rfl rfl (fun hb => Spec.fieldAddrO fd28_2 (Has.cv (Has.s rfl) (Cv.isvP rfl))) ?_
 refine wg rfl rfl (fun hb => Spec.loadF (i := 2) ty26 rfl (Has.u rfl hb) rfl (HasG.s rfl)) ?_
 refine wg rfl rfl (fun hb => Spec.len (Has.u rfl hb) Try.underlying26) ?_
 refine wg rfl rfl (fun hb => Spec.neqI (Has.u rfl hb) (Has.u rfl hb)) ?_
 refine wo (Spec.or (Has.s rfl) (fun h => Has.u rfl h)) ?_
 refine Walk.nil ?_
 refine Leaf.thenN ?_
 refine CWalk.cond rfl (fun hb => ?_) (fun hb => ?_)
 ·have hm := cond_t hb hm
  refine CWalk.seq ?_
  refine CWalk.region ?_
  refine wo (Spec.assign Has.bool) ?_
  refine Walk.nil ?_
  refine Leaf.thenN ?_
  refine CWalk.ret ?_
  refine Leaf.thenR ?_
  obtain rfl := Option.some.inj hm
  exact Leaf.retC1 rfl (HasR.cv (HasR.tmp (Has.s rfl)) Cv.fl)
 ·have hm := cond_f hb hm
  refine CWalk.skip ?_
  refine Leaf.thenN ?_
  refine CWalk.seq ?_
  refine CWalk.seq ?_
  refine CWalk.region ?_
  refine wo (Spec.assign Has.int) ?_
  refine Walk.nil ?_
  refine Leaf.thenN ?_
  refine CWalk.block ?_
  obtain ⟨b5, hb5, hm⟩ := bind_some hm
  refine CWalk.loop (fun s : Int => [.fact 2 (.isv 10), .fact 3 (.isv 17), .fact 5 (.rep [] (s : Int)), .fact 100011 (.at 11 (.rep [] a0.Stripe)), .fact 100012 (.at 12 (.rep [0] a0.Blocks)), .fact 100013 (.at 13 (.rep [0] a0.Dirty)), .fact 100014 (.at 14 (.rep [] a0.Phase)), .fact 100015 (.at 15 (.rep [] a0.Deals)), .fact 100016 (.at 16 (.rep [] a0.Seq)), .fact 100018 (.at 18 (.rep [] a1.Stripe)), .fact 100019 (.at 19 (.rep [0] a1.Blocks)), .fact 100020 (.at 20 (.rep [0] a1.Dirty)), .fact 100021 (.at 21 (.rep [] a1.Phase)), .fact 100022 (.at 22 (.rep [] a1.Deals)), .fact 100023 (.at 23 (.rep [] a1.Seq)), .fact 100010 (.obj 10 [(false, 1), (false, 1), (false, 1), (false, 1), (false, 1), (false, 1)]), .fact 100017 (.obj 17 [(false, 1), (false, 1), (false, 1), (false, 1), (false, 1), (false, 1)])]) (fun b : (Unit) ⊕ (Unit) => Sum.elim (fun b => (Exit.exit 0, [.fact 2 (.isv 10), .fact 3 (.isv 17), .fact 100011 (.at 11 (.rep [] a0.Stripe)), .fact 100012 (.at 12 (.rep [0] a0.Blocks)), .fact 100013 (.at 13 (.rep [0] a0.Dirty)), .fact 100014 (.at 14 (.rep [] a0.Phase)), .fact 100015 (.at 15 (.rep [] a0.Deals)), .fact 100016 (.at 16 (.rep [] a0.Seq)), .fact 100018 (.at 18 (.rep [] a1.Stripe)), .fact 100019 (.at 19 (.rep [0] a1.Blocks)), .fact 100020 (.at 20 (.rep [0] a1.Dirty)), .fact 100021 (.at 21 (.rep [] a1.Phase)), .fact 100022 (.at 22 (.rep [] a1.Deals)), .fact 100023 (.at 23 (.rep [] a1.Seq)), .fact 100010 (.obj 10 [(false, 1), (false, 1), (false, 1), (false, 1), (false, 1), (false, 1)]), .fact 100017 (.obj 17 [(false, 1), (false, 1), (false, 1), (false, 1), (false, 1), (false, 1)])])) (fun b => (Exit.ret, [.fact 4 (.rep [] (false : Bool))])) b) hb5 (sn (sn (st (sf (sm (sm (sf (sf (sf (sf (sm (sm (sf (sf (sf (sn (sn Sub.nil))))))))))))))))) ?_ ?_
  ·rintro s1 c2 hm
   replace hm : ref16_Same_L1 a0 a1 s1 = some c2 := hm
   unfold ref16_Same_L1 at hm
   show CWalk _ [.fact 2 (.isv 10), .fact 3 (.isv 17), .fact 5 (.rep [] (s1 : Int)), .fact 100011 (.at 11 (.rep [] a0.Stripe)), .fact 100012 (.at 12 (.rep [0] a0.Blocks)), .fact 100013 (.at 13 (.rep [0] a0.Dirty)), .fact 100014 (.at 14 (.rep [] a0.Phase)), .fact 100015 (.at 15 (.rep [] a0.Deals)), .fact 100016 (.at 16 (.rep [] a0.Seq)), .fact 100018 (.at 18 (.rep [] a1.Stripe)), .fact 100019 (.at 19 (.rep [0] a1.Blocks)), .fact 100020 (.at 20 (.rep [0] a1.Dirty)), .fact 100021 (.at 21 (.rep [] a1.Phase)), .fact 100022 (.at 22 (.rep [] a1.Deals)), .fact 100023 (.at 23 (.rep [] a1.Seq)), .fact 100010 (.obj 10 [(false, 1), (false, 1), (false, 1), (false, 1), (false, 1), (false, 1)]), .fact 100017 (.obj 17 [(false, 1), (false, 1), (false, 1), (false, 1), (false, 1), (false, 1)])] _ _
   refine CWalk.seq ?_
   refine CWalk.seq ?_
   refine CWalk.region ?_
   refine mv ?_
   refine wo (Spec.fieldAddrO fd28_1 (Has.cv (Has.s rfl) (Cv.isvP rfl))) ?_
   refine wo (Spec.loadF (i := 1) ty25 rfl (Has.s rfl) rfl (HasG.s rfl)) ?_
   refine wo (Spec.len (Has.s rfl) Try.underlying25) ?_
   refine wo (Spec.lssI (Has.s rfl) (Has.s rfl)) ?_
   refine Walk.nil ?_
   refine Leaf.thenN ?_
   refine CWalk.cond rfl (fun hb => ?_) (fun hb => ?_)
   ·have hm := cond_t hb hm
    refine CWalk.skip ?_
    refine Leaf.thenN ?_
    refine CWalk.seq ?_
    refine CWalk.block ?_
    refine CWalk.seq ?_
    obtain ⟨x3, hx3, hm⟩ := bind_some hm
    obtain ⟨x4, hx4, hm⟩ := bind_some hm
    refine CWalk.drawM [[], [0], [], [0, 1, 2], [0, 1, 2, 3], [0, 1, 2, 3, 4], [], [6], [], [6, 7, 8], [6, 7, 8, 9], [6, 7, 8, 9, 10], [0, 1, 2, 3, 4, 5, 6, 7, 8, 9, 10, 11]] [[.fact 58 (.pto 10 1)], [.fact 59 (.rep [0] a0.Blocks)], [.fact 60 (.rep [] (s1 : Int))], [.fact 61 (.ptr [0] (x3 : List UInt8))], [.fact 62 (.rep [0] (x3 : List UInt8))], [.fact 63 (.rep [] ((Str.mk x3) : Str))], [.fact 64 (.pto 17 1)], [.fact 65 (.rep [0] a1.Blocks)], [.fact 66 (.rep [] (s1 : Int))], [.fact 67 (.ptr [0] (x4 : List UInt8))], [.fact 68 (.rep [0] (x4 : List UInt8))], [.fact 69 (.rep [] ((Str.mk x4) : Str))], [.fact 70 (.rep [] ((!((Str.mk x3).s == (Str.mk x4).s)) : Bool))]] mixed (by kernel_rfl) (ao (so (Spec.fieldAddrO fd28_1 (Has.cv (Has.s rfl) (Cv.isvP rfl)))) (ao (so (Spec.loadF (i := 1) ty25 rfl (Has.s rfl) rfl (HasG.s rfl))) (ao (so (Spec.move (Has.s rfl))) (ao (so (Spec.indexAddr hx3 sl25 (Has.s rfl) (Has.s rfl))) (ao (so (Spec.load ty31 (Has.s rfl))) (ao (so (Spec.toStr Try.underlying31 Try.underlying5 Try.underlying9 (Has.s rfl))) (ao (so (Spec.fieldAddrO fd28_1 (Has.cv (Has.s rfl) (Cv.isvP rfl)))) (ao (so (Spec.loadF (i := 1) ty25 rfl (Has.s rfl) rfl (HasG.s rfl))) (ao (so (Spec.move (Has.s rfl))) (ao (so (Spec.indexAddr hx4 sl25 (Has.s rfl) (Has.s rfl))) (ao (so (Spec.load ty31 (Has.s rfl))) (ao (so (Spec.toStr Try.underlying31 Try.underlying5 Try.underlying9 (Has.s rfl))) (ao (so (Spec.neqS (Has.s rfl) (Has.s rfl))) AllM.nil))))))))))))) ?_
    refine Leaf.thenN ?_
    refine CWalk.cond rfl (fun hb => ?_) (fun hb => ?_)
    ·have hm := cond_t hb hm
     refine CWalk.seq ?_
     refine CWalk.region ?_
     refine wo (Spec.assign Has.bool) ?_
     refine Walk.nil ?_
     refine Leaf.thenN ?_
     refine CWalk.ret ?_
     refine Leaf.blockR ?_
     refine Leaf.thenR ?_
     exact Leaf.brk hm (fun h => nomatch h) rfl (st Sub.nil)
    ·have hm := cond_f hb hm
     refine CWalk.skip ?_
     refine Leaf.blockN ?_
     refine Leaf.thenN ?_
     refine CWalk.region ?_
     refine mv ?_
     refine wo (Spec.addI (Has.s rfl) Has.int) ?_
     refine wo (Spec.assign (Has.s rfl)) ?_
     refine Walk.nil ?_
     exact Leaf.next hm (sn (sn (st (sf (sm (sm (sf (sf (sf (sf (sm (sm (sf (sf (sf (sn (sn Sub.nil)))))))))))))))))
   ·have hm := cond_f hb hm
    refine CWalk.exit ?_
    refine Leaf.thenE ?_
    exact Leaf.brk hm (fun h => nomatch h) rfl (sn (sn (sf (sm (sm (sf (sf (sf (sf (sm (sm (sf (sf (sf (sn (sn Sub.nil))))))))))))))))
  ·intro _
   rcases b5 with b6 | b14
   ·have hm := selim_l hm
    refine Leaf.blockE ?_
    refine Leaf.thenN ?_
    refine CWalk.seq ?_
    refine CWalk.seq ?_
    refine CWalk.region ?_
    refine wo (Spec.assign Has.int) ?_
    refine Walk.nil ?_
    refine Leaf.thenN ?_
    refine CWalk.block ?_
    obtain ⟨b11, hb11, hm⟩ := bind_some hm
    refine CWalk.loop (fun s : Int => [.fact 2 (.isv 10), .fact 3 (.isv 17), .fact 6 (.rep [] (s : Int)), .fact 100011 (.at 11 (.rep [] a0.Stripe)), .fact 100012 (.at 12 (.rep [0] a0.Blocks)), .fact 100013 (.at 13 (.rep [0] a0.Dirty)), .fact 100014 (.at 14 (.rep [] a0.Phase)), .fact 100015 (.at 15 (.rep [] a0.Deals)), .fact 100016 (.at 16 (.rep [] a0.Seq)), .fact 100018 (.at 18 (.rep [] a1.Stripe)), .fact 100019 (.at 19 (.rep [0] a1.Blocks)), .fact 100020 (.at 20 (.rep [0] a1.Dirty)), .fact 100021 (.at 21 (.rep [] a1.Phase)), .fact 100022 (.at 22 (.rep [] a1.Deals)), .fact 100023 (.at 23 (.rep [] a1.Seq)), .fact 100010 (.obj 10 [(false, 1), (false, 1), (false, 1), (false, 1), (false, 1), (false, 1)]), .fact 100017 (.obj 17 [(false, 1), (false, 1), (false, 1), (false, 1), (false, 1), (false, 1)])]) (fun b : (Unit) ⊕ (Unit) => Sum.elim (fun b => (Exit.exit 2, [])) (fun b => (Exit.ret, [.fact 4 (.rep [] (false : Bool))])) b) hb11 (sn (sn (st (sf (sm (sm (sf (sf (sf (sf (sm (sm (sf (sf (sf (sn (sn Sub.nil))))))))))))))))) ?_ ?_
    ·rintro s7 c8 hm
     replace hm : ref16_Same_L2 a0 a1 s7 = some c8 := hm
     unfold ref16_Same_L2 at hm
     show CWalk _ [.fact 2 (.isv 10), .fact 3 (.isv 17), .fact 6 (.rep [] (s7 : Int)), .fact 100011 (.at 11 (.rep [] a0.Stripe)), .fact 100012 (.at 12 (.rep [0] a0.Blocks)), .fact 100013 (.at 13 (.rep [0] a0.Dirty)), .fact 100014 (.at 14 (.rep [] a0.Phase)), .fact 100015 (.at 15 (.rep [] a0.Deals)), .fact 100016 (.at 16 (.rep [] a0.Seq)), .fact 100018 (.at 18 (.rep [] a1.Stripe)), .fact 100019 (.at 19 (.rep [0] a1.Blocks)), .fact 100020 (.at 20 (.rep [0] a1.Dirty)), .fact 100021 (.at 21 (.rep [] a1.Phase)), .fact 100022 (.at 22 (.rep [] a1.Deals)), .fact 100023 (.at 23 (.rep [] a1.Seq)), .fact 100010 (.obj 10 [(false, 1), (false, 1), (false, 1), (false, 1), (false, 1), (false, 1)]), .fact 100017 (.obj 17 [(false, 1), (false, 1), (false, 1), (false, 1), (false, 1), (false, 1)])] _ _
     refine CWalk.seq ?_
     refine CWalk.seq ?_
     refine CWalk.region ?_
     refine mv ?_
     refine wo (Spec.fieldAddrO fd28_2 (Has.cv (Has.s rfl) (Cv.isvP rfl))) ?_
     refine wo (Spec.loadF (i := 2) ty26 rfl (Has.s rfl) rfl (HasG.s rfl)) ?_
     refine wo (Spec.len (Has.s rfl) Try.underlying26) ?_
     refine wo (Spec.lssI (Has.s rfl) (Has.s rfl)) ?_
     refine Walk.nil ?_
     refine Leaf.thenN ?_
     refine CWalk.cond rfl (fun hb => ?_) (fun hb => ?_)
     ·have hm := cond_t hb hm
      refine CWalk.skip ?_
      refine Leaf.thenN ?_
      refine CWalk.seq ?_
      refine CWalk.block ?_
      refine CWalk.seq ?_
      obtain ⟨x9, hx9, hm⟩ := bind_some hm
      obtain ⟨x10, hx10, hm⟩ := bind_some hm
      refine CWalk.drawM [[], [0], [], [0, 1, 2], [0, 1, 2, 3], [], [5], [], [5, 6, 7], [5, 6, 7, 8], [0, 1, 2, 3, 4, 5, 6, 7, 8, 9]] [[.fact 78 (.pto 10 2)], [.fact 79 (.rep [0] a0.Dirty)], [.fact 80 (.rep [] (s7 : Int))], [.fact 81 (.ptr [0] (x9 : Bool))], [.fact 82 (.rep [] (x9 : Bool))], [.fact 83 (.pto 17 2)], [.fact 84 (.rep [0] a1.Dirty)], [.fact 85 (.rep [] (s7 : Int))], [.fact 86 (.ptr [0] (x10 : Bool))], [.fact 87 (.rep [] (x10 : Bool))], [.fact 88 (.rep [] ((x9 != x10) : Bool))]] mixed (by kernel_rfl) (ao (so (Spec.fieldAddrO fd28_2 (Has.cv (Has.s rfl) (Cv.isvP rfl)))) (ao (so (Spec.loadF (i := 2) ty26 rfl (Has.s rfl) rfl (HasG.s rfl))) (ao (so (Spec.move (Has.s rfl))) (ao (so (Spec.indexAddr hx9 sl26 (Has.s rfl) (Has.s rfl))) (ao (so ((Spec.load ty4 (Has.s rfl)).flat (T' := []))) (ao (so (Spec.fieldAddrO fd28_2 (Has.cv (Has.s rfl) (Cv.isvP rfl)))) (ao (so (Spec.loadF (i := 2) ty26 rfl (Has.s rfl) rfl (HasG.s rfl))) (ao (so (Spec.move (Has.s rfl))) (ao (so (Spec.indexAddr hx10 sl26 (Has.s rfl) (Has.s rfl))) (ao (so ((Spec.load ty4 (Has.s rfl)).flat (T' := []))) (ao (so (Spec.neqT (Has.s rfl) (Has.s rfl) Try.underlying4)) AllM.nil))))))))))) ?_
      refine Leaf.thenN ?_
      refine CWalk.cond rfl (fun hb => ?_) (fun hb => ?_)
      ·have hm := cond_t hb hm
       refine CWalk.seq ?_
       refine CWalk.region ?_
       refine wo (Spec.assign Has.bool) ?_
       refine Walk.nil ?_
       refine Leaf.thenN ?_
       refine CWalk.ret ?_
       refine Leaf.blockR ?_
       refine Leaf.thenR ?_
       exact Leaf.brk hm (fun h => nomatch h) rfl (st Sub.nil)
      ·have hm := cond_f hb hm
       refine CWalk.skip ?_
       refine Leaf.blockN ?_
       refine Leaf.thenN ?_
       refine CWalk.region ?_
       refine mv ?_
       refine wo (Spec.addI (Has.s rfl) Has.int) ?_
       refine wo (Spec.assign (Has.s rfl)) ?_
       refine Walk.nil ?_
       exact Leaf.next hm (sn (sn (st (sf (sm (sm (sf (sf (sf (sf (sm (sm (sf (sf (sf (sn (sn Sub.nil)))))))))))))))))
     ·have hm := cond_f hb hm
      refine CWalk.exit ?_
      refine Leaf.thenE ?_
      exact Leaf.brk hm (fun h => nomatch h) rfl (Sub.nil)
    ·intro _
     rcases b11 with b12 | b13
     ·have hm := selim_l hm
      refine Leaf.blockE ?_
      refine Leaf.thenN ?_
      refine CWalk.seq ?_
      refine CWalk.region ?_
      refine wo (Spec.assign Has.bool) ?_
      refine Walk.nil ?_
      refine Leaf.thenN ?_
      refine CWalk.ret ?_
      obtain rfl := Option.some.inj hm
      exact Leaf.retC1 rfl (HasR.cv (HasR.tmp (Has.s rfl)) Cv.fl)
     ·have hm := selim_r hm
      refine Leaf.blockR ?_
      refine Leaf.thenR ?_
      obtain rfl := Option.some.inj hm
      exact Leaf.retC1 rfl (HasR.cv (HasR.tmp (Has.s rfl)) Cv.fl)
   ·have hm := selim_r hm
    refine Leaf.blockR ?_
    refine Leaf.thenR ?_
    obtain rfl := Option.some.inj hm
    exact Leaf.retC1 rfl (HasR.cv (HasR.tmp (Has.s rfl)) Cv.fl)

end Go.Proofs.Ytjefieckineneaa
