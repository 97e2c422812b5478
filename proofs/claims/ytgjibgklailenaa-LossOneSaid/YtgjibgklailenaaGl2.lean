/- Printed by a program of ours: models of functions, and that calls do what they say. -/
import Derived.Test.YtgjibgklailenaaGl1
namespace Go.Proofs.Ytgjibgklailenaa
open Go GL
set_option linter.unusedVariables false

/-- freeboard/freeboardlaw23.LossTurns -/
def law23_LossTurns (a0 : Config) (a1 : Loss) (a2 : Int) (a3 : Int) (a4 : Bool) : Option (Bool) :=
  Option.bind (loss_Missing a0 a1 a2) (fun x1 => Option.bind (ref23_Missing a0 a1 a2) (fun x2 => Option.bind (loss_Die a0 a1 a3 a4) (fun x3 => Option.bind (ref23_Die a0 a1 a3 a4) (fun x4 => Option.bind (loss_Spare a0 a1) (fun x5 => Option.bind (ref23_Spare a0 a1) (fun x6 => Option.bind (loss_Go a0 a1) (fun x7 => Option.bind (ref23_Go a0 a1) (fun x8 => Option.bind (loss_Mark a0 a1) (fun x9 => Option.bind (ref23_Mark a0 a1) (fun x10 => Option.bind (gO (((((((((((x1.1 == x2.1) && (x1.2 == x2.2)) && (decide (x3.1 = x4.1))) && (x3.2 == x4.2)) && (decide (x5.1 = x6.1))) && (x5.2 == x6.2)) && (decide (x7.1 = x8.1))) && (x7.2 == x8.2)) && (decide (x9.1 = x10.1))) && (x9.2 == x10.2))) (loss_Check a0 a1)) (fun x11 => Option.bind (gO (((((((((((x1.1 == x2.1) && (x1.2 == x2.2)) && (decide (x3.1 = x4.1))) && (x3.2 == x4.2)) && (decide (x5.1 = x6.1))) && (x5.2 == x6.2)) && (decide (x7.1 = x8.1))) && (x7.2 == x8.2)) && (decide (x9.1 = x10.1))) && (x9.2 == x10.2))) (ref23_Check a0 a1)) (fun x12 => some (((((((((((x1.1 == x2.1) && (x1.2 == x2.2)) && (decide (x3.1 = x4.1))) && (x3.2 == x4.2)) && (decide (x5.1 = x6.1))) && (x5.2 == x6.2)) && (decide (x7.1 = x8.1))) && (x7.2 == x8.2)) && (decide (x9.1 = x10.1))) && (x9.2 == x10.2)) && (x11 == x12))))))))))))))
set_option maxRecDepth 100000 in
set_option maxHeartbeats 2000000 in
theorem law23_LossTurns_c (a0 : Config) (a1 : Loss) (a2 : Int) (a3 : Int) (a4 : Bool) {r : Bool} (hm : law23_LossTurns a0 a1 a2 a3 a4 = some r) : Ctr Try.prog 3 [.rep 0 a0, .rep 0 a1, .rep 0 a2, .rep 0 a3, .rep 0 a4] (.fl r) [] := by
 refine ctr_of_walk [[]] 156 Try.func3 rfl rfl rfl rfl (fun w0 om => ?_)
 unfold law23_LossTurns at hm
 refine CWalk.sub (G' := [.fact 0 (Fact.rep [] (a0 : Config)), .fact 1 (Fact.rep [] (a1 : Loss)), .fact 2 (Fact.rep [] (a2 : Int)), .fact 3 (Fact.rep [] (a3 : Int)), .fact 4 (Fact.rep [] (a4 : Bool))]) (Sub.cons (Has.fl (Has.s rfl)) (Sub.cons (Has.fl (Has.s rfl)) (Sub.cons (Has.fl (Has.s rfl)) (Sub.cons (Has.fl (Has.s rfl)) (Sub.cons (Has.fl (Has.s rfl)) Sub.nil))))) ?_
 refine CWalk.seq ?_
 refine CWalk.region ?_
 refine ws (Step.boxObj (ls := [(false, 1, Fact.rep [] (a0.Id : UInt32)), (false, 1, Fact.rep [] (a0.Members : Int)), (false, 1, Fact.rep [] (a0.Chunk : Int)), (false, 1, Fact.rep [] (a0.Rows : Int)), (false, 1, Fact.rep [] (a0.Log : Int)), (false, 1, Fact.rep [] (a0.Heads : Int))]) 10 rfl rfl rfl rfl (HasL.flds (Has.cv (Has.s rfl) (Cv.trans (Cv.opens (chConfig a0)) (Cv.flds (CvL.cons Cv.fl (CvL.cons Cv.fl (CvL.cons Cv.fl (CvL.cons Cv.fl (CvL.cons Cv.fl (CvL.cons Cv.fl CvL.nil))))))))))) ?_
 refine ws (Step.boxObj (ls := [(false, 1, Fact.rep [] (a1.Events : UInt32)), (false, 1, Fact.rep [] (a1.Lost : Int)), (false, 1, Fact.rep [] (a1.Spare : Bool)), (false, 1, Fact.rep [] (a1.Pos : Int)), (false, 1, Fact.rep [] (a1.Done : Int)), (false, 1, Fact.rep [] (a1.NoLog : Bool)), (false, 1, Fact.rep [] (a1.Broken : Bool))]) 17 rfl rfl rfl rfl (HasL.flds (Has.cv (Has.s rfl) (Cv.trans (Cv.opens (chLoss a1)) (Cv.flds (CvL.cons Cv.fl (CvL.cons Cv.fl (CvL.cons Cv.fl (CvL.cons Cv.fl (CvL.cons Cv.fl (CvL.cons Cv.fl (CvL.cons Cv.fl CvL.nil)))))))))))) ?_
 refine wo (Spec.assign Has.bool) ?_
 refine Walk.nil ?_
 refine Leaf.thenN ?_
 refine CWalk.seq ?_
 refine CWalk.region ?_
 refine wo (Spec.loadObj (ls := [(false, 1, Fact.rep [] (a0.Id : UInt32)), (false, 1, Fact.rep [] (a0.Members : Int)), (false, 1, Fact.rep [] (a0.Chunk : Int)), (false, 1, Fact.rep [] (a0.Rows : Int)), (false, 1, Fact.rep [] (a0.Log : Int)), (false, 1, Fact.rep [] (a0.Heads : Int))]) ty24 rfl rfl (Has.s rfl) rfl (HasGs.cons (HasG.s rfl) (HasGs.cons (HasG.s rfl) (HasGs.cons (HasG.s rfl) (HasGs.cons (HasG.s rfl) (HasGs.cons (HasG.s rfl) (HasGs.cons (HasG.s rfl) HasGs.nil))))))) ?_
 refine wo (Spec.loadObj (ls := [(false, 1, Fact.rep [] (a1.Events : UInt32)), (false, 1, Fact.rep [] (a1.Lost : Int)), (false, 1, Fact.rep [] (a1.Spare : Bool)), (false, 1, Fact.rep [] (a1.Pos : Int)), (false, 1, Fact.rep [] (a1.Done : Int)), (false, 1, Fact.rep [] (a1.NoLog : Bool)), (false, 1, Fact.rep [] (a1.Broken : Bool))]) ty26 rfl rfl (Has.s rfl) rfl (HasGs.cons (HasG.s rfl) (HasGs.cons (HasG.s rfl) (HasGs.cons (HasG.s rfl) (HasGs.cons (HasG.s rfl) (HasGs.cons (HasG.s rfl) (HasGs.cons (HasG.s rfl) (HasGs.cons (HasG.s rfl) HasGs.nil)))))))) ?_
 refine mv ?_
 obtain ⟨x1, hx1, hm⟩ := bind_some hm
 refine wo (f := Fact.tup2 (Fact.rep [] (x1.1 : Int)) (Fact.rep [] (x1.2 : Int))) (Spec.callE [] 25 rfl en8 (loss_Missing_c a0 a1 a2 hx1) (HasAll.cons (Has.fl (Has.cv (Has.s rfl) (Cv.trans (Cv.flds (CvL.cons Cv.fl (CvL.cons Cv.fl (CvL.cons Cv.fl (CvL.cons Cv.fl (CvL.cons Cv.fl (CvL.cons Cv.fl CvL.nil))))))) (Cv.close (T := []) (chConfig a0))))) (HasAll.cons (Has.fl (Has.cv (Has.s rfl) (Cv.trans (Cv.flds (CvL.cons Cv.fl (CvL.cons Cv.fl (CvL.cons Cv.fl (CvL.cons Cv.fl (CvL.cons Cv.fl (CvL.cons Cv.fl (CvL.cons Cv.fl CvL.nil)))))))) (Cv.close (T := []) (chLoss a1))))) (HasAll.cons (Has.fl (Has.s rfl)) HasAll.nil)))) ?_
 refine mv ?_
 refine wo (Spec.ext0 (Has.s rfl)) ?_
 refine wo (Spec.ext1 (Has.s rfl)) ?_
 refine wo (Spec.assign (Has.s rfl)) ?_
 refine wo (Spec.assign (Has.s rfl)) ?_
 refine Walk.nil ?_
 refine Leaf.thenN ?_
 refine CWalk.seq ?_
 refine CWalk.region ?_
 refine wo (Spec.loadObj (ls := [(false, 1, Fact.rep [] (a0.Id : UInt32)), (false, 1, Fact.rep [] (a0.Members : Int)), (false, 1, Fact.rep [] (a0.Chunk : Int)), (false, 1, Fact.rep [] (a0.Rows : Int)), (false, 1, Fact.rep [] (a0.Log : Int)), (false, 1, Fact.rep [] (a0.Heads : Int))]) ty24 rfl rfl (Has.s rfl) rfl (HasGs.cons (HasG.s rfl) (HasGs.cons (HasG.s rfl) (HasGs.cons (HasG.s rfl) (HasGs.cons (HasG.s rfl) (HasGs.cons (HasG.s rfl) (HasGs.cons (HasG.s rfl) HasGs.nil))))))) ?_
 refine wo (Spec.loadObj (ls := [(false, 1, Fact.rep [] (a1.Events : UInt32)), (false, 1, Fact.rep [] (a1.Lost : Int)), (false, 1, Fact.rep [] (a1.Spare : Bool)), (false, 1, Fact.rep [] (a1.Pos : Int)), (false, 1, Fact.rep [] (a1.Done : Int)), (false, 1, Fact.rep [] (a1.NoLog : Bool)), (false, 1, Fact.rep [] (a1.Broken : Bool))]) ty26 rfl rfl (Has.s rfl) rfl (HasGs.cons (HasG.s rfl) (HasGs.cons (HasG.s rfl) (HasGs.cons (HasG.s rfl) (HasGs.cons (HasG.s rfl) (HasGs.cons (HasG.s rfl) (HasGs.cons (HasG.s rfl) (HasGs.cons (HasG.s rfl) HasGs.nil)))))))) ?_
 refine mv ?_
 obtain ⟨x2, hx2, hm⟩ := bind_some hm
 refine wo (f := Fact.tup2 (Fact.rep [] (x2.1 : Int)) (Fact.rep [] (x2.2 : Int))) (Spec.callE [] 26 rfl en9 (ref23_Missing_c a0 a1 a2 hx2) (HasAll.cons (Has.fl (Has.cv (Has.s rfl) (Cv.trans (Cv.flds (CvL.cons Cv.fl (CvL.cons Cv.fl (CvL.cons Cv.fl (CvL.cons Cv.fl (CvL.cons Cv.fl (CvL.cons Cv.fl CvL.nil))))))) (Cv.close (T := []) (chConfig a0))))) (HasAll.cons (Has.fl (Has.cv (Has.s rfl) (Cv.trans (Cv.flds (CvL.cons Cv.fl (CvL.cons Cv.fl (CvL.cons Cv.fl (CvL.cons Cv.fl (CvL.cons Cv.fl (CvL.cons Cv.fl (CvL.cons Cv.fl CvL.nil)))))))) (Cv.close (T := []) (chLoss a1))))) (HasAll.cons (Has.fl (Has.s rfl)) HasAll.nil)))) ?_
 refine mv ?_
 refine wo (Spec.ext0 (Has.s rfl)) ?_
 refine wo (Spec.ext1 (Has.s rfl)) ?_
 refine wo (Spec.assign (Has.s rfl)) ?_
 refine wo (Spec.assign (Has.s rfl)) ?_
 refine Walk.nil ?_
 refine Leaf.thenN ?_
 refine CWalk.seq ?_
 refine CWalk.region ?_
 refine wo (Spec.loadObj (ls := [(false, 1, Fact.rep [] (a0.Id : UInt32)), (false, 1, Fact.rep [] (a0.Members : Int)), (false, 1, Fact.rep [] (a0.Chunk : Int)), (false, 1, Fact.rep [] (a0.Rows : Int)), (false, 1, Fact.rep [] (a0.Log : Int)), (false, 1, Fact.rep [] (a0.Heads : Int))]) ty24 rfl rfl (Has.s rfl) rfl (HasGs.cons (HasG.s rfl) (HasGs.cons (HasG.s rfl) (HasGs.cons (HasG.s rfl) (HasGs.cons (HasG.s rfl) (HasGs.cons (HasG.s rfl) (HasGs.cons (HasG.s rfl) HasGs.nil))))))) ?_
 refine wo (Spec.loadObj (ls := [(false, 1, Fact.rep [] (a1.Events : UInt32)), (false, 1, Fact.rep [] (a1.Lost : Int)), (false, 1, Fact.rep [] (a1.Spare : Bool)), (false, 1, Fact.rep [] (a1.Pos : Int)), (false, 1, Fact.rep [] (a1.Done : Int)), (false, 1, Fact.rep [] (a1.NoLog : Bool)), (false, 1, Fact.rep [] (a1.Broken : Bool))]) ty26 rfl rfl (Has.s rfl) rfl (HasGs.cons (HasG.s rfl) (HasGs.cons (HasG.s rfl) (HasGs.cons (HasG.s rfl) (HasGs.cons (HasG.s rfl) (HasGs.cons (HasG.s rfl) (HasGs.cons (HasG.s rfl) (HasGs.cons (HasG.s rfl) HasGs.nil)))))))) ?_
 refine mv ?_
 refine mv ?_
 obtain ⟨x3, hx3, hm⟩ := bind_some hm
 refine wo (f := Fact.tup2 (Fact.rep [] (x3.1 : Loss)) (Fact.rep [] (x3.2 : Int))) (Spec.callE [] 27 rfl en10 (loss_Die_c a0 a1 a3 a4 hx3) (HasAll.cons (Has.fl (Has.cv (Has.s rfl) (Cv.trans (Cv.flds (CvL.cons Cv.fl (CvL.cons Cv.fl (CvL.cons Cv.fl (CvL.cons Cv.fl (CvL.cons Cv.fl (CvL.cons Cv.fl CvL.nil))))))) (Cv.close (T := []) (chConfig a0))))) (HasAll.cons (Has.fl (Has.cv (Has.s rfl) (Cv.trans (Cv.flds (CvL.cons Cv.fl (CvL.cons Cv.fl (CvL.cons Cv.fl (CvL.cons Cv.fl (CvL.cons Cv.fl (CvL.cons Cv.fl (CvL.cons Cv.fl CvL.nil)))))))) (Cv.close (T := []) (chLoss a1))))) (HasAll.cons (Has.fl (Has.s rfl)) (HasAll.cons (Has.fl (Has.s rfl)) HasAll.nil))))) ?_
 refine mv ?_
 refine wo (Spec.ext0 (Has.s rfl)) ?_
 refine wo (Spec.ext1 (Has.s rfl)) ?_
 refine ws (Step.allocObj (ls := [(false, 1, Fact.rep [] ((0 : UInt32) : UInt32)), (false, 1, Fact.rep [] ((0 : Int) : Int)), (false, 1, Fact.rep [] (false : Bool)), (false, 1, Fact.rep [] ((0 : Int) : Int)), (false, 1, Fact.rep [] ((0 : Int) : Int)), (false, 1, Fact.rep [] (false : Bool)), (false, 1, Fact.rep [] (false : Bool))]) 28 rfl rfl rfl rfl zl26) ?_
 refine ws (Step.storeObj (ls := [(false, 1, Fact.rep [] (x3.1.Events : UInt32)), (false, 1, Fact.rep [] (x3.1.Lost : Int)), (false, 1, Fact.rep [] (x3.1.Spare : Bool)), (false, 1, Fact.rep [] (x3.1.Pos : Int)), (false, 1, Fact.rep [] (x3.1.Done : Int)), (false, 1, Fact.rep [] (x3.1.NoLog : Bool)), (false, 1, Fact.rep [] (x3.1.Broken : Bool))]) rfl ty26 rfl rfl (Has.s rfl) rfl (HasL.flds (Has.cv (Has.s rfl) (Cv.trans (Cv.opens (chLoss x3.1)) (Cv.flds (CvL.cons Cv.fl (CvL.cons Cv.fl (CvL.cons Cv.fl (CvL.cons Cv.fl (CvL.cons Cv.fl (CvL.cons Cv.fl (CvL.cons Cv.fl CvL.nil))))))))))) rfl) ?_
 refine wo (Spec.assign (Has.s rfl)) ?_
 refine Walk.nil ?_
 refine Leaf.thenN ?_
 refine CWalk.seq ?_
 refine CWalk.region ?_
 refine wo (Spec.loadObj (ls := [(false, 1, Fact.rep [] (a0.Id : UInt32)), (false, 1, Fact.rep [] (a0.Members : Int)), (false, 1, Fact.rep [] (a0.Chunk : Int)), (false, 1, Fact.rep [] (a0.Rows : Int)), (false, 1, Fact.rep [] (a0.Log : Int)), (false, 1, Fact.rep [] (a0.Heads : Int))]) ty24 rfl rfl (Has.s rfl) rfl (HasGs.cons (HasG.s rfl) (HasGs.cons (HasG.s rfl) (HasGs.cons (HasG.s rfl) (HasGs.cons (HasG.s rfl) (HasGs.cons (HasG.s rfl) (HasGs.cons (HasG.s rfl) HasGs.nil))))))) ?_
 refine wo (Spec.loadObj (ls := [(false, 1, Fact.rep [] (a1.Events : UInt32)), (false, 1, Fact.rep [] (a1.Lost : Int)), (false, 1, Fact.rep [] (a1.Spare : Bool)), (false, 1, Fact.rep [] (a1.Pos : Int)), (false, 1, Fact.rep [] (a1.Done : Int)), (false, 1, Fact.rep [] (a1.NoLog : Bool)), (false, 1, Fact.rep [] (a1.Broken : Bool))]) ty26 rfl rfl (Has.s rfl) rfl (HasGs.cons (HasG.s rfl) (HasGs.cons (HasG.s rfl) (HasGs.cons (HasG.s rfl) (HasGs.cons (HasG.s rfl) (HasGs.cons (HasG.s rfl) (HasGs.cons (HasG.s rfl) (HasGs.cons (HasG.s rfl) HasGs.nil)))))))) ?_
 refine mv ?_
 refine mv ?_
 obtain ⟨x4, hx4, hm⟩ := bind_some hm
 refine wo (f := Fact.tup2 (Fact.rep [] (x4.1 : Loss)) (Fact.rep [] (x4.2 : Int))) (Spec.callE [] 36 rfl en11 (ref23_Die_c a0 a1 a3 a4 hx4) (HasAll.cons (Has.fl (Has.cv (Has.s rfl) (Cv.trans (Cv.flds (CvL.cons Cv.fl (CvL.cons Cv.fl (CvL.cons Cv.fl (CvL.cons Cv.fl (CvL.cons Cv.fl (CvL.cons Cv.fl CvL.nil))))))) (Cv.close (T := []) (chConfig a0))))) (HasAll.cons (Has.fl (Has.cv (Has.s rfl) (Cv.trans (Cv.flds (CvL.cons Cv.fl (CvL.cons Cv.fl (CvL.cons Cv.fl (CvL.cons Cv.fl (CvL.cons Cv.fl (CvL.cons Cv.fl (CvL.cons Cv.fl CvL.nil)))))))) (Cv.close (T := []) (chLoss a1))))) (HasAll.cons (Has.fl (Has.s rfl)) (HasAll.cons (Has.fl (Has.s rfl)) HasAll.nil))))) ?_
 refine mv ?_
 refine wo (Spec.ext0 (Has.s rfl)) ?_
 refine wo (Spec.ext1 (Has.s rfl)) ?_
 refine ws (Step.allocObj (ls := [(false, 1, Fact.rep [] ((0 : UInt32) : UInt32)), (false, 1, Fact.rep [] ((0 : Int) : Int)), (false, 1, Fact.rep [] (false : Bool)), (false, 1, Fact.rep [] ((0 : Int) : Int)), (false, 1, Fact.rep [] ((0 : Int) : Int)), (false, 1, Fact.rep [] (false : Bool)), (false, 1, Fact.rep [] (false : Bool))]) 37 rfl rfl rfl rfl zl26) ?_
 refine ws (Step.storeObj (ls := [(false, 1, Fact.rep [] (x4.1.Events : UInt32)), (false, 1, Fact.rep [] (x4.1.Lost : Int)), (false, 1, Fact.rep [] (x4.1.Spare : Bool)), (false, 1, Fact.rep [] (x4.1.Pos : Int)), (false, 1, Fact.rep [] (x4.1.Done : Int)), (false, 1, Fact.rep [] (x4.1.NoLog : Bool)), (false, 1, Fact.rep [] (x4.1.Broken : Bool))]) rfl ty26 rfl rfl (Has.s rfl) rfl (HasL.flds (Has.cv (Has.s rfl) (Cv.trans (Cv.opens (chLoss x4.1)) (Cv.flds (CvL.cons Cv.fl (CvL.cons Cv.fl (CvL.cons Cv.fl (CvL.cons Cv.fl (CvL.cons Cv.fl (CvL.cons Cv.fl (CvL.cons Cv.fl CvL.nil))))))))))) rfl) ?_
 refine wo (Spec.assign (Has.s rfl)) ?_
 refine Walk.nil ?_
 refine Leaf.thenN ?_
 refine CWalk.seq ?_
 refine CWalk.region ?_
 refine wo (Spec.loadObj (ls := [(false, 1, Fact.rep [] (a0.Id : UInt32)), (false, 1, Fact.rep [] (a0.Members : Int)), (false, 1, Fact.rep [] (a0.Chunk : Int)), (false, 1, Fact.rep [] (a0.Rows : Int)), (false, 1, Fact.rep [] (a0.Log : Int)), (false, 1, Fact.rep [] (a0.Heads : Int))]) ty24 rfl rfl (Has.s rfl) rfl (HasGs.cons (HasG.s rfl) (HasGs.cons (HasG.s rfl) (HasGs.cons (HasG.s rfl) (HasGs.cons (HasG.s rfl) (HasGs.cons (HasG.s rfl) (HasGs.cons (HasG.s rfl) HasGs.nil))))))) ?_
 refine wo (Spec.loadObj (ls := [(false, 1, Fact.rep [] (a1.Events : UInt32)), (false, 1, Fact.rep [] (a1.Lost : Int)), (false, 1, Fact.rep [] (a1.Spare : Bool)), (false, 1, Fact.rep [] (a1.Pos : Int)), (false, 1, Fact.rep [] (a1.Done : Int)), (false, 1, Fact.rep [] (a1.NoLog : Bool)), (false, 1, Fact.rep [] (a1.Broken : Bool))]) ty26 rfl rfl (Has.s rfl) rfl (HasGs.cons (HasG.s rfl) (HasGs.cons (HasG.s rfl) (HasGs.cons (HasG.s rfl) (HasGs.cons (HasG.s rfl) (HasGs.cons (HasG.s rfl) (HasGs.cons (HasG.s rfl) (HasGs.cons (HasG.s rfl) HasGs.nil)))))))) ?_
 obtain ⟨x5, hx5, hm⟩ := bind_some hm
 refine wo (f := Fact.tup2 (Fact.rep [] (x5.1 : Loss)) (Fact.rep [] (x5.2 : Int))) (Spec.callE [] 45 rfl en12 (loss_Spare_c a0 a1 hx5) (HasAll.cons (Has.fl (Has.cv (Has.s rfl) (Cv.trans (Cv.flds (CvL.cons Cv.fl (CvL.cons Cv.fl (CvL.cons Cv.fl (CvL.cons Cv.fl (CvL.cons Cv.fl (CvL.cons Cv.fl CvL.nil))))))) (Cv.close (T := []) (chConfig a0))))) (HasAll.cons (Has.fl (Has.cv (Has.s rfl) (Cv.trans (Cv.flds (CvL.cons Cv.fl (CvL.cons Cv.fl (CvL.cons Cv.fl (CvL.cons Cv.fl (CvL.cons Cv.fl (CvL.cons Cv.fl (CvL.cons Cv.fl CvL.nil)))))))) (Cv.close (T := []) (chLoss a1))))) HasAll.nil))) ?_
 refine mv ?_
 refine wo (Spec.ext0 (Has.s rfl)) ?_
 refine wo (Spec.ext1 (Has.s rfl)) ?_
 refine ws (Step.allocObj (ls := [(false, 1, Fact.rep [] ((0 : UInt32) : UInt32)), (false, 1, Fact.rep [] ((0 : Int) : Int)), (false, 1, Fact.rep [] (false : Bool)), (false, 1, Fact.rep [] ((0 : Int) : Int)), (false, 1, Fact.rep [] ((0 : Int) : Int)), (false, 1, Fact.rep [] (false : Bool)), (false, 1, Fact.rep [] (false : Bool))]) 46 rfl rfl rfl rfl zl26) ?_
 refine ws (Step.storeObj (ls := [(false, 1, Fact.rep [] (x5.1.Events : UInt32)), (false, 1, Fact.rep [] (x5.1.Lost : Int)), (false, 1, Fact.rep [] (x5.1.Spare : Bool)), (false, 1, Fact.rep [] (x5.1.Pos : Int)), (false, 1, Fact.rep [] (x5.1.Done : Int)), (false, 1, Fact.rep [] (x5.1.NoLog : Bool)), (false, 1, Fact.rep [] (x5.1.Broken : Bool))]) rfl ty26 rfl rfl (Has.s rfl) rfl (HasL.flds (Has.cv (Has.s rfl) (Cv.trans (Cv.opens (chLoss x5.1)) (Cv.flds (CvL.cons Cv.fl (CvL.cons Cv.fl (CvL.cons Cv.fl (CvL.cons Cv.fl (CvL.cons Cv.fl (CvL.cons Cv.fl (CvL.cons Cv.fl CvL.nil))))))))))) rfl) ?_
 refine wo (Spec.assign (Has.s rfl)) ?_
 refine Walk.nil ?_
 refine Leaf.thenN ?_
 refine CWalk.seq ?_
 refine CWalk.region ?_
 refine wo (Spec.loadObj (ls := [(false, 1, Fact.rep [] (a0.Id : UInt32)), (false, 1, Fact.rep [] (a0.Members : Int)), (false, 1, Fact.rep [] (a0.Chunk : Int)), (false, 1, Fact.rep [] (a0.Rows : Int)), (false, 1, Fact.rep [] (a0.Log : Int)), (false, 1, Fact.rep [] (a0.Heads : Int))]) ty24 rfl rfl (Has.s rfl) rfl (HasGs.cons (HasG.s rfl) (HasGs.cons (HasG.s rfl) (HasGs.cons (HasG.s rfl) (HasGs.cons (HasG.s rfl) (HasGs.cons (HasG.s rfl) (HasGs.cons (HasG.s rfl) HasGs.nil))))))) ?_
 refine wo (Spec.loadObj (ls := [(false, 1, Fact.rep [] (a1.Events : UInt32)), (false, 1, Fact.rep [] (a1.Lost : Int)), (false, 1, Fact.rep [] (a1.Spare : Bool)), (false, 1, Fact.rep [] (a1.Pos : Int)), (false, 1, Fact.rep [] (a1.Done : Int)), (false, 1, Fact.rep [] (a1.NoLog : Bool)), (false, 1, Fact.rep [] (a1.Broken : Bool))]) ty26 rfl rfl (Has.s rfl) rfl (HasGs.cons (HasG.s rfl) (HasGs.cons (HasG.s rfl) (HasGs.cons (HasG.s rfl) (HasGs.cons (HasG.s rfl) (HasGs.cons (HasG.s rfl) (HasGs.cons (HasG.s rfl) (HasGs.cons (HasG.s rfl) HasGs.nil)))))))) ?_
 obtain ⟨x6, hx6, hm⟩ := bind_some hm
 refine wo (f := Fact.tup2 (Fact.rep [] (x6.1 : Loss)) (Fact.rep [] (x6.2 : Int))) (Spec.callE [] 54 rfl en13 (ref23_Spare_c a0 a1 hx6) (HasAll.cons (Has.fl (Has.cv (Has.s rfl) (Cv.trans (Cv.flds (CvL.cons Cv.fl (CvL.cons Cv.fl (CvL.cons Cv.fl (CvL.cons Cv.fl (CvL.cons Cv.fl (CvL.cons Cv.fl CvL.nil))))))) (Cv.close (T := []) (chConfig a0))))) (HasAll.cons (Has.fl (Has.cv (Has.s rfl) (Cv.trans (Cv.flds (CvL.cons Cv.fl (CvL.cons Cv.fl (CvL.cons Cv.fl (CvL.cons Cv.fl (CvL.cons Cv.fl (CvL.cons Cv.fl (CvL.cons Cv.fl CvL.nil)))))))) (Cv.close (T := []) (chLoss a1))))) HasAll.nil))) ?_
 refine mv ?_
 refine wo (Spec.ext0 (Has.s rfl)) ?_
 refine wo (Spec.ext1 (Has.s rfl)) ?_
 refine ws (Step.allocObj (ls := [(false, 1, Fact.rep [] ((0 : UInt32) : UInt32)), (false, 1, Fact.rep [] ((0 : Int) : Int)), (false, 1, Fact.rep [] (false : Bool)), (false, 1, Fact.rep [] ((0 : Int) : Int)), (false, 1, Fact.rep [] ((0 : Int) : Int)), (false, 1, Fact.rep [] (false : Bool)), (false, 1, Fact.rep [] (false : Bool))]) 55 rfl rfl rfl rfl zl26) ?_
 refine ws (Step.storeObj (ls := [(false, 1, Fact.rep [] (x6.1.Events : UInt32)), (false, 1, Fact.rep [] (x6.1.Lost : Int)), (false, 1, Fact.rep [] (x6.1.Spare : Bool)), (false, 1, Fact.rep [] (x6.1.Pos : Int)), (false, 1, Fact.rep [] (x6.1.Done : Int)), (false, 1, Fact.rep [] (x6.1.NoLog : Bool)), (false, 1, Fact.rep [] (x6.1.Broken : Bool))]) rfl ty26 rfl rfl (Has.s rfl) rfl (HasL.flds (Has.cv (Has.s rfl) (Cv.trans (Cv.opens (chLoss x6.1)) (Cv.flds (CvL.cons Cv.fl (CvL.cons Cv.fl (CvL.cons Cv.fl (CvL.cons Cv.fl (CvL.cons Cv.fl (CvL.cons Cv.fl (CvL.cons Cv.fl CvL.nil))))))))))) rfl) ?_
 refine wo (Spec.assign (Has.s rfl)) ?_
 refine Walk.nil ?_
 refine Leaf.thenN ?_
 refine CWalk.seq ?_
 refine CWalk.region ?_
 refine wo (Spec.loadObj (ls := [(false, 1, Fact.rep [] (a0.Id : UInt32)), (false, 1, Fact.rep [] (a0.Members : Int)), (false, 1, Fact.rep [] (a0.Chunk : Int)), (false, 1, Fact.rep [] (a0.Rows : Int)), (false, 1, Fact.rep [] (a0.Log : Int)), (false, 1, Fact.rep [] (a0.Heads : Int))]) ty24 rfl rfl (Has.s rfl) rfl (HasGs.cons (HasG.s rfl) (HasGs.cons (HasG.s rfl) (HasGs.cons (HasG.s rfl) (HasGs.cons (HasG.s rfl) (HasGs.cons (HasG.s rfl) (HasGs.cons (HasG.s rfl) HasGs.nil))))))) ?_
 refine wo (Spec.loadObj (ls := [(false, 1, Fact.rep [] (a1.Events : UInt32)), (false, 1, Fact.rep [] (a1.Lost : Int)), (false, 1, Fact.rep [] (a1.Spare : Bool)), (false, 1, Fact.rep [] (a1.Pos : Int)), (false, 1, Fact.rep [] (a1.Done : Int)), (false, 1, Fact.rep [] (a1.NoLog : Bool)), (false, 1, Fact.rep [] (a1.Broken : Bool))]) ty26 rfl rfl (Has.s rfl) rfl (HasGs.cons (HasG.s rfl) (HasGs.cons (HasG.s rfl) (HasGs.cons (HasG.s rfl) (HasGs.cons (HasG.s rfl) (HasGs.cons (HasG.s rfl) (HasGs.cons (HasG.s rfl) (HasGs.cons (HasG.s rfl) HasGs.nil)))))))) ?_
 obtain ⟨x7, hx7, hm⟩ := bind_some hm
 refine wo (f := Fact.tup2 (Fact.rep [] (x7.1 : Loss)) (Fact.rep [] (x7.2 : Int))) (Spec.callE [] 63 rfl en14 (loss_Go_c a0 a1 hx7) (HasAll.cons (Has.fl (Has.cv (Has.s rfl) (Cv.trans (Cv.flds (CvL.cons Cv.fl (CvL.cons Cv.fl (CvL.cons Cv.fl (CvL.cons Cv.fl (CvL.cons Cv.fl (CvL.cons Cv.fl CvL.nil))))))) (Cv.close (T := []) (chConfig a0))))) (HasAll.cons (Has.fl (Has.cv (Has.s rfl) (Cv.trans (Cv.flds (CvL.cons Cv.fl (CvL.cons Cv.fl (CvL.cons Cv.fl (CvL.cons Cv.fl (CvL.cons Cv.fl (CvL.cons Cv.fl (CvL.cons Cv.fl CvL.nil)))))))) (Cv.close (T := []) (chLoss a1))))) HasAll.nil))) ?_
 refine mv ?_
 refine wo (Spec.ext0 (Has.s rfl)) ?_
 refine wo (Spec.ext1 (Has.s rfl)) ?_
 refine ws (Step.allocObj (ls := [(false, 1, Fact.rep [] ((0 : UInt32) : UInt32)), (false, 1, Fact.rep [] ((0 : Int) : Int)), (false, 1, Fact.rep [] (false : Bool)), (false, 1, Fact.rep [] ((0 : Int) : Int)), (false, 1, Fact.rep [] ((0 : Int) : Int)), (false, 1, Fact.rep [] (false : Bool)), (false, 1, Fact.rep [] (false : Bool))]) 64 rfl rfl rfl rfl zl26) ?_
 refine ws (Step.storeObj (ls := [(false, 1, Fact.rep [] (x7.1.Events : UInt32)), (false, 1, Fact.rep [] (x7.1.Lost : Int)), (false, 1, Fact.rep [] (x7.1.Spare : Bool)), (false, 1, Fact.rep [] (x7.1.Pos : Int)), (false, 1, Fact.rep [] (x7.1.Done : Int)), (false, 1, Fact.rep [] (x7.1.NoLog : Bool)), (false, 1, Fact.rep [] (x7.1.Broken : Bool))]) rfl ty26 rfl rfl (Has.s rfl) rfl (HasL.flds (Has.cv (Has.s rfl) (Cv.trans (Cv.opens (chLoss x7.1)) (Cv.flds (CvL.cons Cv.fl (CvL.cons Cv.fl (CvL.cons Cv.fl (CvL.cons Cv.fl (CvL.cons Cv.fl (CvL.cons Cv.fl (CvL.cons Cv.fl CvL.nil))))))))))) rfl) ?_
 refine wo (Spec.assign (Has.s rfl)) ?_
 refine Walk.nil ?_
 refine Leaf.thenN ?_
 refine CWalk.seq ?_
 refine CWalk.region ?_
 refine wo (Spec.loadObj (ls := [(false, 1, Fact.rep [] (a0.Id : UInt32)), (false, 1, Fact.rep [] (a0.Members : Int)), (false, 1, Fact.rep [] (a0.Chunk : Int)), (false, 1, Fact.rep [] (a0.Rows : Int)), (false, 1, Fact.rep [] (a0.Log : Int)), (false, 1, Fact.rep [] (a0.Heads : Int))]) ty24 rfl rfl (Has.s rfl) rfl (HasGs.cons (HasG.s rfl) (HasGs.cons (HasG.s rfl) (HasGs.cons (HasG.s rfl) (HasGs.cons (HasG.s rfl) (HasGs.cons (HasG.s rfl) (HasGs.cons (HasG.s rfl) HasGs.nil))))))) ?_
 refine wo (Spec.loadObj (ls := [(false, 1, Fact.rep [] (a1.Events : UInt32)), (false, 1, Fact.rep [] (a1.Lost : Int)), (false, 1, Fact.rep [] (a1.Spare : Bool)), (false, 1, Fact.rep [] (a1.Pos : Int)), (false, 1, Fact.rep [] (a1.Done : Int)), (false, 1, Fact.rep [] (a1.NoLog : Bool)), (false, 1, Fact.rep [] (a1.Broken : Bool))]) ty26 rfl rfl (Has.s rfl) rfl (HasGs.cons (HasG.s rfl) (HasGs.cons (HasG.s rfl) (HasGs.cons (HasG.s rfl) (HasGs.cons (HasG.s rfl) (HasGs.cons (HasG.s rfl) (HasGs.cons (HasG.s rfl) (HasGs.cons (HasG.s rfl) HasGs.nil)))))))) ?_
 obtain ⟨x8, hx8, hm⟩ := bind_some hm
 refine wo (f := Fact.tup2 (Fact.rep [] (x8.1 : Loss)) (Fact.rep [] (x8.2 : Int))) (Spec.callE [] 72 rfl en15 (ref23_Go_c a0 a1 hx8) (HasAll.cons (Has.fl (Has.cv (Has.s rfl) (Cv.trans (Cv.flds (CvL.cons Cv.fl (CvL.cons Cv.fl (CvL.cons Cv.fl (CvL.cons Cv.fl (CvL.cons Cv.fl (CvL.cons Cv.fl CvL.nil))))))) (Cv.close (T := []) (chConfig a0))))) (HasAll.cons (Has.fl (Has.cv (Has.s rfl) (Cv.trans (Cv.flds (CvL.cons Cv.fl (CvL.cons Cv.fl (CvL.cons Cv.fl (CvL.cons Cv.fl (CvL.cons Cv.fl (CvL.cons Cv.fl (CvL.cons Cv.fl CvL.nil)))))))) (Cv.close (T := []) (chLoss a1))))) HasAll.nil))) ?_
 refine mv ?_
 refine wo (Spec.ext0 (Has.s rfl)) ?_
 refine wo (Spec.ext1 (Has.s rfl)) ?_
 refine ws (Step.allocObj (ls := [(false, 1, Fact.rep [] ((0 : UInt32) : UInt32)), (false, 1, Fact.rep [] ((0 : Int) : Int)), (false, 1, Fact.rep [] (false : Bool)), (false, 1, Fact.rep [] ((0 : Int) : Int)), (false, 1, Fact.rep [] ((0 : Int) : Int)), (false, 1, Fact.rep [] (false : Bool)), (false, 1, Fact.rep [] (false : Bool))]) 73 rfl rfl rfl rfl zl26) ?_
 refine ws (Step.storeObj (ls := [(false, 1, Fact.rep [] (x8.1.Events : UInt32)), (false, 1, Fact.rep [] (x8.1.Lost : Int)), (false, 1, Fact.rep [] (x8.1.Spare : Bool)), (false, 1, Fact.rep [] (x8.1.Pos : Int)), (false, 1, Fact.rep [] (x8.1.Done : Int)), (false, 1, Fact.rep [] (x8.1.NoLog : Bool)), (false, 1, Fact.rep [] (x8.1.Broken : Bool))]) rfl ty26 rfl rfl (Has.s rfl) rfl (HasL.flds (Has.cv (Has.s rfl) (Cv.trans (Cv.opens (chLoss x8.1)) (Cv.flds (CvL.cons Cv.fl (CvL.cons Cv.fl (CvL.cons Cv.fl (CvL.cons Cv.fl (CvL.cons Cv.fl (CvL.cons Cv.fl (CvL.cons Cv.fl CvL.nil))))))))))) rfl) ?_
 refine wo (Spec.assign (Has.s rfl)) ?_
 refine Walk.nil ?_
 refine Leaf.thenN ?_
 refine CWalk.seq ?_
 refine CWalk.region ?_
 refine wo (Spec.loadObj (ls := [(false, 1, Fact.rep [] (a0.Id : UInt32)), (false, 1, Fact.rep [] (a0.Members : Int)), (false, 1, Fact.rep [] (a0.Chunk : Int)), (false, 1, Fact.rep [] (a0.Rows : Int)), (false, 1, Fact.rep [] (a0.Log : Int)), (false, 1, Fact.rep [] (a0.Heads : Int))]) ty24 rfl rfl (Has.s rfl) rfl (HasGs.cons (HasG.s rfl) (HasGs.cons (HasG.s rfl) (HasGs.cons (HasG.s rfl) (HasGs.cons (HasG.s rfl) (HasGs.cons (HasG.s rfl) (HasGs.cons (HasG.s rfl) HasGs.nil))))))) ?_
 refine wo (Spec.loadObj (ls := [(false, 1, Fact.rep [] (a1.Events : UInt32)), (false, 1, Fact.rep [] (a1.Lost : Int)), (false, 1, Fact.rep [] (a1.Spare : Bool)), (false, 1, Fact.rep [] (a1.Pos : Int)), (false, 1, Fact.rep [] (a1.Done : Int)), (false, 1, Fact.rep [] (a1.NoLog : Bool)), (false, 1, Fact.rep [] (a1.Broken : Bool))]) ty26 rfl rfl (Has.s rfl) rfl (HasGs.cons (HasG.s rfl) (HasGs.cons (HasG.s rfl) (HasGs.cons (HasG.s rfl) (HasGs.cons (HasG.s rfl) (HasGs.cons (HasG.s rfl) (HasGs.cons (HasG.s rfl) (HasGs.cons (HasG.s rfl) HasGs.nil)))))))) ?_
 obtain ⟨x9, hx9, hm⟩ := bind_some hm
 refine wo (f := Fact.tup2 (Fact.rep [] (x9.1 : Loss)) (Fact.rep [] (x9.2 : Int))) (Spec.callE [] 81 rfl en16 (loss_Mark_c a0 a1 hx9) (HasAll.cons (Has.fl (Has.cv (Has.s rfl) (Cv.trans (Cv.flds (CvL.cons Cv.fl (CvL.cons Cv.fl (CvL.cons Cv.fl (CvL.cons Cv.fl (CvL.cons Cv.fl (CvL.cons Cv.fl CvL.nil))))))) (Cv.close (T := []) (chConfig a0))))) (HasAll.cons (Has.fl (Has.cv (Has.s rfl) (Cv.trans (Cv.flds (CvL.cons Cv.fl (CvL.cons Cv.fl (CvL.cons Cv.fl (CvL.cons Cv.fl (CvL.cons Cv.fl (CvL.cons Cv.fl (CvL.cons Cv.fl CvL.nil)))))))) (Cv.close (T := []) (chLoss a1))))) HasAll.nil))) ?_
 refine mv ?_
 refine wo (Spec.ext0 (Has.s rfl)) ?_
 refine wo (Spec.ext1 (Has.s rfl)) ?_
 refine ws (Step.allocObj (ls := [(false, 1, Fact.rep [] ((0 : UInt32) : UInt32)), (false, 1, Fact.rep [] ((0 : Int) : Int)), (false, 1, Fact.rep [] (false : Bool)), (false, 1, Fact.rep [] ((0 : Int) : Int)), (false, 1, Fact.rep [] ((0 : Int) : Int)), (false, 1, Fact.rep [] (false : Bool)), (false, 1, Fact.rep [] (false : Bool))]) 82 rfl rfl rfl rfl zl26) ?_
 refine ws (Step.storeObj (ls := [(false, 1, Fact.rep [] (x9.1.Events : UInt32)), (false, 1, Fact.rep [] (x9.1.Lost : Int)), (false, 1, Fact.rep [] (x9.1.Spare : Bool)), (false, 1, Fact.rep [] (x9.1.Pos : Int)), (false, 1, Fact.rep [] (x9.1.Done : Int)), (false, 1, Fact.rep [] (x9.1.NoLog : Bool)), (false, 1, Fact.rep [] (x9.1.Broken : Bool))]) rfl ty26 rfl rfl (Has.s rfl) rfl (HasL.flds (Has.cv (Has.s rfl) (Cv.trans (Cv.opens (chLoss x9.1)) (Cv.flds (CvL.cons Cv.fl (CvL.cons Cv.fl (CvL.cons Cv.fl (CvL.cons Cv.fl (CvL.cons Cv.fl (CvL.cons Cv.fl (CvL.cons Cv.fl CvL.nil))))))))))) rfl) ?_
 refine wo (Spec.assign (Has.s rfl)) ?_
 refine Walk.nil ?_
 refine Leaf.thenN ?_
 refine CWalk.seq ?_
 refine CWalk.region ?_
 refine wo (Spec.loadObj (ls := [(false, 1, Fact.rep [] (a0.Id : UInt32)), (false, 1, Fact.rep [] (a0.Members : Int)), (false, 1, Fact.rep [] (a0.Chunk : Int)), (false, 1, Fact.rep [] (a0.Rows : Int)), (false, 1, Fact.rep [] (a0.Log : Int)), (false, 1, Fact.rep [] (a0.Heads : Int))]) ty24 rfl rfl (Has.s rfl) rfl (HasGs.cons (HasG.s rfl) (HasGs.cons (HasG.s rfl) (HasGs.cons (HasG.s rfl) (HasGs.cons (HasG.s rfl) (HasGs.cons (HasG.s rfl) (HasGs.cons (HasG.s rfl) HasGs.nil))))))) ?_
 refine wo (Spec.loadObj (ls := [(false, 1, Fact.rep [] (a1.Events : UInt32)), (false, 1, Fact.rep [] (a1.Lost : Int)), (false, 1, Fact.rep [] (a1.Spare : Bool)), (false, 1, Fact.rep [] (a1.Pos : Int)), (false, 1, Fact.rep [] (a1.Done : Int)), (false, 1, Fact.rep [] (a1.NoLog : Bool)), (false, 1, Fact.rep [] (a1.Broken : Bool))]) ty26 rfl rfl (Has.s rfl) rfl (HasGs.cons (HasG.s rfl) (HasGs.cons (HasG.s rfl) (HasGs.cons (HasG.s rfl) (HasGs.cons (HasG.s rfl) (HasGs.cons (HasG.s rfl) (HasGs.cons (HasG.s rfl) (HasGs.cons (HasG.s rfl) HasGs.nil)))))))) ?_
 obtain ⟨x10, hx10, hm⟩ := bind_some hm
 refine wo (f := Fact.tup2 (Fact.rep [] (x10.1 : Loss)) (Fact.rep [] (x10.2 : Int))) (Spec.callE [] 90 rfl en17 (ref23_Mark_c a0 a1 hx10) (HasAll.cons (Has.fl (Has.cv (Has.s rfl) (Cv.trans (Cv.flds (CvL.cons Cv.fl (CvL.cons Cv.fl (CvL.cons Cv.fl (CvL.cons Cv.fl (CvL.cons Cv.fl (CvL.cons Cv.fl CvL.nil))))))) (Cv.close (T := []) (chConfig a0))))) (HasAll.cons (Has.fl (Has.cv (Has.s rfl) (Cv.trans (Cv.flds (CvL.cons Cv.fl (CvL.cons Cv.fl (CvL.cons Cv.fl (CvL.cons Cv.fl (CvL.cons Cv.fl (CvL.cons Cv.fl (CvL.cons Cv.fl CvL.nil)))))))) (Cv.close (T := []) (chLoss a1))))) HasAll.nil))) ?_
 refine mv ?_
 refine wo (Spec.ext0 (Has.s rfl)) ?_
 refine wo (Spec.ext1 (Has.s rfl)) ?_
 refine ws (Step.allocObj (ls := [(false, 1, Fact.rep [] ((0 : UInt32) : UInt32)), (false, 1, Fact.rep [] ((0 : Int) : Int)), (false, 1, Fact.rep [] (false : Bool)), (false, 1, Fact.rep [] ((0 : Int) : Int)), (false, 1, Fact.rep [] ((0 : Int) : Int)), (false, 1, Fact.rep [] (false : Bool)), (false, 1, Fact.rep [] (false : Bool))]) 91 rfl rfl rfl rfl zl26) ?_
 refine ws (Step.storeObj (ls := [(false, 1, Fact.rep [] (x10.1.Events : UInt32)), (false, 1, Fact.rep [] (x10.1.Lost : Int)), (false, 1, Fact.rep [] (x10.1.Spare : Bool)), (false, 1, Fact.rep [] (x10.1.Pos : Int)), (false, 1, Fact.rep [] (x10.1.Done : Int)), (false, 1, Fact.rep [] (x10.1.NoLog : Bool)), (false, 1, Fact.rep [] (x10.1.Broken : Bool))]) rfl ty26 rfl rfl (Has.s rfl) rfl (HasL.flds (Has.cv (Has.s rfl) (Cv.trans (Cv.opens (chLoss x10.1)) (Cv.flds (CvL.cons Cv.fl (CvL.cons Cv.fl (CvL.cons Cv.fl (CvL.cons Cv.fl (CvL.cons Cv.fl (CvL.cons Cv.fl (CvL.cons Cv.fl CvL.nil))))))))))) rfl) ?_
 refine wo (Spec.assign (Has.s rfl)) ?_
 refine Walk.nil ?_
 refine Leaf.thenN ?_
 refine CWalk.seq ?_
 refine CWalk.region ?_
 refine mv ?_
 refine mv ?_
 refine wo (Spec.eqlI (Has.s rfl) (Has.s rfl)) ?_
 refine mv ?_
 refine wg rfl rfl (fun hb => Spec.move (Has.s rfl)) ?_
 refine wg rfl rfl (fun hb => Spec.move (Has.s rfl)) ?_
 refine wg rfl rfl (fun hb => Spec.eqlI (Has.u rfl hb) (Has.u rfl hb)) ?_
 refine wo (Spec.and (Has.s rfl) (fun h => Has.u rfl h)) ?_
 refine mv ?_
 refine wg rfl rfl (fun hb => Spec.loadObj (ls := [(false, 1, Fact.rep [] (x3.1.Events : UInt32)), (false, 1, Fact.rep [] (x3.1.Lost : Int)), (false, 1, Fact.rep [] (x3.1.Spare : Bool)), (false, 1, Fact.rep [] (x3.1.Pos : Int)), (false, 1, Fact.rep [] (x3.1.Done : Int)), (false, 1, Fact.rep [] (x3.1.NoLog : Bool)), (false, 1, Fact.rep [] (x3.1.Broken : Bool))]) ty26 rfl rfl (Has.s rfl) rfl (HasGs.cons (HasG.s rfl) (HasGs.cons (HasG.s rfl) (HasGs.cons (HasG.s rfl) (HasGs.cons (HasG.s rfl) (HasGs.cons (HasG.s rfl) (HasGs.cons (HasG.s rfl) (HasGs.cons (HasG.s rfl) HasGs.nil)))))))) ?_
 refine wg rfl rfl (fun hb => Spec.loadObj (ls := [(false, 1, Fact.rep [] (x4.1.Events : UInt32)), (false, 1, Fact.rep [] (x4.1.Lost : Int)), (false, 1, Fact.rep [] (x4.1.Spare : Bool)), (false, 1, Fact.rep [] (x4.1.Pos : Int)), (false, 1, Fact.rep [] (x4.1.Done : Int)), (false, 1, Fact.rep [] (x4.1.NoLog : Bool)), (false, 1, Fact.rep [] (x4.1.Broken : Bool))]) ty26 rfl rfl (Has.s rfl) rfl (HasGs.cons (HasG.s rfl) (HasGs.cons (HasG.s rfl) (HasGs.cons (HasG.s rfl) (HasGs.cons (HasG.s rfl) (HasGs.cons (HasG.s rfl) (HasGs.cons (HasG.s rfl) (HasGs.cons (HasG.s rfl) HasGs.nil)))))))) ?_
 refine wg rfl rfl (fun hb => Spec.eqlSt eqs26 eqg26 rfl (Has.cv (Has.u rfl hb) (Cv.trans (Cv.flds (CvL.cons Cv.fl (CvL.cons Cv.fl (CvL.cons Cv.fl (CvL.cons Cv.fl (CvL.cons Cv.fl (CvL.cons Cv.fl (CvL.cons Cv.fl CvL.nil)))))))) (Cv.close (T := []) (chLoss x3.1)))) (Has.cv (Has.u rfl hb) (Cv.trans (Cv.flds (CvL.cons Cv.fl (CvL.cons Cv.fl (CvL.cons Cv.fl (CvL.cons Cv.fl (CvL.cons Cv.fl (CvL.cons Cv.fl (CvL.cons Cv.fl CvL.nil)))))))) (Cv.close (T := []) (chLoss x4.1))))) ?_
 refine wo (Spec.and (Has.s rfl) (fun h => Has.u rfl h)) ?_
 refine mv ?_
 refine wg rfl rfl (fun hb => Spec.move (Has.s rfl)) ?_
 refine wg rfl rfl (fun hb => Spec.move (Has.s rfl)) ?_
 refine wg rfl rfl (fun hb => Spec.eqlI (Has.u rfl hb) (Has.u rfl hb)) ?_
 refine wo (Spec.and (Has.s rfl) (fun h => Has.u rfl h)) ?_
 refine mv ?_
 refine wg rfl rfl (fun hb => Spec.loadObj (ls := [(false, 1, Fact.rep [] (x5.1.Events : UInt32)), (false, 1, Fact.rep [] (x5.1.Lost : Int)), (false, 1, Fact.rep [] (x5.1.Spare : Bool)), (false, 1, Fact.rep [] (x5.1.Pos : Int)), (false, 1, Fact.rep [] (x5.1.Done : Int)), (false, 1, Fact.rep [] (x5.1.NoLog : Bool)), (false, 1, Fact.rep [] (x5.1.Broken : Bool))]) ty26 rfl rfl (Has.s rfl) rfl (HasGs.cons (HasG.s rfl) (HasGs.cons (HasG.s rfl) (HasGs.cons (HasG.s rfl) (HasGs.cons (HasG.s rfl) (HasGs.cons (HasG.s rfl) (HasGs.cons (HasG.s rfl) (HasGs.cons (HasG.s rfl) HasGs.nil)))))))) ?_
 refine wg rfl rfl (fun hb => Spec.loadObj (ls := [(false, 1, Fact.rep [] (x6.1.Events : UInt32)), (false, 1, Fact.rep [] (x6.1.Lost : Int)), (false, 1, Fact.rep [] (x6.1.Spare : Bool)), (false, 1, Fact.rep [] (x6.1.Pos : Int)), (false, 1, Fact.rep [] (x6.1.Done : Int)), (false, 1, Fact.rep [] (x6.1.NoLog : Bool)), (false, 1, Fact.rep [] (x6.1.Broken : Bool))]) ty26 rfl rfl (Has.s rfl) rfl (HasGs.cons (HasG.s rfl) (HasGs.cons (HasG.s rfl) (HasGs.cons (HasG.s rfl) (HasGs.cons (HasG.s rfl) (HasGs.cons (HasG.s rfl) (HasGs.cons (HasG.s rfl) (HasGs.cons (HasG.s rfl) HasGs.nil)))))))) ?_
 refine wg rfl rfl (fun hb => Spec.eqlSt eqs26 eqg26 rfl (Has.cv (Has.u rfl hb) (Cv.trans (Cv.flds (CvL.cons Cv.fl (CvL.cons Cv.fl (CvL.cons Cv.fl (CvL.cons Cv.fl (CvL.cons Cv.fl (CvL.cons Cv.fl (CvL.cons Cv.fl CvL.nil)))))))) (Cv.close (T := []) (chLoss x5.1)))) (Has.cv (Has.u rfl hb) (Cv.trans (Cv.flds (CvL.cons Cv.fl (CvL.cons Cv.fl (CvL.cons Cv.fl (CvL.cons Cv.fl (CvL.cons Cv.fl (CvL.cons Cv.fl (CvL.cons Cv.fl CvL.nil)))))))) (Cv.close (T := []) (chLoss x6.1))))) ?_
 refine wo (Spec.and (Has.s rfl) (fun h => Has.u rfl h)) ?_
 refine mv ?_
 refine wg rfl rfl (fun hb => Spec.move (Has.s rfl)) ?_
 refine wg rfl rfl (fun hb => Spec.move (Has.s rfl)) ?_
 refine wg rfl rfl (fun hb => Spec.eqlI (Has.u rfl hb) (Has.u rfl hb)) ?_
 refine wo (Spec.and (Has.s rfl) (fun h => Has.u rfl h)) ?_
 refine wo (Spec.assign (Has.s rfl)) ?_
 refine Walk.nil ?_
 refine Leaf.thenN ?_
 refine CWalk.seq ?_
 obtain ⟨x11, hx11, hm⟩ := bind_some hm
 obtain ⟨x12, hx12, hm⟩ := bind_some hm
 refine CWalk.drawM [[], [0], [0, 1], [0, 1], [0, 1, 2, 3], [0, 1, 2, 3, 4], [0, 1, 2, 3, 4, 5], [0, 1, 2, 3, 4, 5, 6], [0, 1, 2, 3, 4, 5, 6], [0, 1, 2, 3, 4, 5, 6, 7, 8], [0, 1, 2, 3, 4, 5, 6, 7, 8, 9], [0, 1, 2, 3, 4, 5, 6, 7, 8, 9, 10], [0, 1, 2, 3, 4, 5, 6, 7, 8, 9, 10, 11], [0, 1, 2, 3, 4, 5, 6, 7, 8, 9, 10, 11], [0, 1, 2, 3, 4, 5, 6, 7, 8, 9, 10, 11, 12, 13], [0, 1, 2, 3, 4, 5, 6, 7, 8, 9, 10, 11, 12, 13, 14], [0, 1, 2, 3, 4, 5, 6, 7, 8, 9, 10, 11, 12, 13, 14, 15], [0, 1, 2, 3, 4, 5, 6, 7, 8, 9, 10, 11, 12, 13, 14, 15, 16], [0, 1, 2, 3, 4, 5, 6, 7, 8, 9, 10, 11, 12, 13, 14, 15, 16], [0, 1, 2, 3, 4, 5, 6, 7, 8, 9, 10, 11, 12, 13, 14, 15, 16, 17, 18], [0, 1, 2, 3, 4, 5, 6, 7, 8, 9, 10, 11, 12, 13, 14, 15, 16, 17, 18, 19], [0, 1, 2, 3, 4, 5, 6, 7, 8, 9, 10, 11, 12, 13, 14, 15, 16, 17, 18, 19, 20], [0, 1, 2, 3, 4, 5, 6, 7, 8, 9, 10, 11, 12, 13, 14, 15, 16, 17, 18, 19, 20, 21], [0, 1, 2, 3, 4, 5, 6, 7, 8, 9, 10, 11, 12, 13, 14, 15, 16, 17, 18, 19, 20, 21], [0, 1, 2, 3, 4, 5, 6, 7, 8, 9, 10, 11, 12, 13, 14, 15, 16, 17, 18, 19, 20, 21, 22, 23], [0, 1, 2, 3, 4, 5, 6, 7, 8, 9, 10, 11, 12, 13, 14, 15, 16, 17, 18, 19, 20, 21], [0, 1, 2, 3, 4, 5, 6, 7, 8, 9, 10, 11, 12, 13, 14, 15, 16, 17, 18, 19, 20, 21], [0, 1, 2, 3, 4, 5, 6, 7, 8, 9, 10, 11, 12, 13, 14, 15, 16, 17, 18, 19, 20, 21, 22, 23, 24, 25, 26], [0, 1, 2, 3, 4, 5, 6, 7, 8, 9, 10, 11, 12, 13, 14, 15, 16, 17, 18, 19, 20, 21, 22, 23, 24, 25, 26, 27], [0, 1, 2, 3, 4, 5, 6, 7, 8, 9, 10, 11, 12, 13, 14, 15, 16, 17, 18, 19, 20, 21, 22, 23, 24, 25, 26, 27, 28], [0, 1, 2, 3, 4, 5, 6, 7, 8, 9, 10, 11, 12, 13, 14, 15, 16, 17, 18, 19, 20, 21, 22, 23, 24, 25, 26, 27, 28, 29]] [[.fact 126 (Fact.rep [] (((((((x1.1 == x2.1) && (x1.2 == x2.2)) && (decide (x3.1 = x4.1))) && (x3.2 == x4.2)) && (decide (x5.1 = x6.1))) && (x5.2 == x6.2)) : Bool))], [.fact 127 (Fact.rep [] (((((((x1.1 == x2.1) && (x1.2 == x2.2)) && (decide (x3.1 = x4.1))) && (x3.2 == x4.2)) && (decide (x5.1 = x6.1))) && (x5.2 == x6.2)) : Bool))], [.fact 128 (Fact.under (((((((x1.1 == x2.1) && (x1.2 == x2.2)) && (decide (x3.1 = x4.1))) && (x3.2 == x4.2)) && (decide (x5.1 = x6.1))) && (x5.2 == x6.2)) = true) (.flds [(false, 1, Fact.rep [] (x7.1.Events : UInt32)), (false, 1, Fact.rep [] (x7.1.Lost : Int)), (false, 1, Fact.rep [] (x7.1.Spare : Bool)), (false, 1, Fact.rep [] (x7.1.Pos : Int)), (false, 1, Fact.rep [] (x7.1.Done : Int)), (false, 1, Fact.rep [] (x7.1.NoLog : Bool)), (false, 1, Fact.rep [] (x7.1.Broken : Bool))]))], [.fact 129 (Fact.under (((((((x1.1 == x2.1) && (x1.2 == x2.2)) && (decide (x3.1 = x4.1))) && (x3.2 == x4.2)) && (decide (x5.1 = x6.1))) && (x5.2 == x6.2)) = true) (.flds [(false, 1, Fact.rep [] (x8.1.Events : UInt32)), (false, 1, Fact.rep [] (x8.1.Lost : Int)), (false, 1, Fact.rep [] (x8.1.Spare : Bool)), (false, 1, Fact.rep [] (x8.1.Pos : Int)), (false, 1, Fact.rep [] (x8.1.Done : Int)), (false, 1, Fact.rep [] (x8.1.NoLog : Bool)), (false, 1, Fact.rep [] (x8.1.Broken : Bool))]))], [.fact 130 (Fact.under (((((((x1.1 == x2.1) && (x1.2 == x2.2)) && (decide (x3.1 = x4.1))) && (x3.2 == x4.2)) && (decide (x5.1 = x6.1))) && (x5.2 == x6.2)) = true) (.rep [] ((decide (x7.1 = x8.1)) : Bool)))], [.fact 131 (Fact.rep [] ((((((((x1.1 == x2.1) && (x1.2 == x2.2)) && (decide (x3.1 = x4.1))) && (x3.2 == x4.2)) && (decide (x5.1 = x6.1))) && (x5.2 == x6.2)) && (decide (x7.1 = x8.1))) : Bool))], [.fact 132 (Fact.rep [] ((((((((x1.1 == x2.1) && (x1.2 == x2.2)) && (decide (x3.1 = x4.1))) && (x3.2 == x4.2)) && (decide (x5.1 = x6.1))) && (x5.2 == x6.2)) && (decide (x7.1 = x8.1))) : Bool))], [.fact 133 (Fact.under ((((((((x1.1 == x2.1) && (x1.2 == x2.2)) && (decide (x3.1 = x4.1))) && (x3.2 == x4.2)) && (decide (x5.1 = x6.1))) && (x5.2 == x6.2)) && (decide (x7.1 = x8.1))) = true) (.rep [] (x7.2 : Int)))], [.fact 134 (Fact.under ((((((((x1.1 == x2.1) && (x1.2 == x2.2)) && (decide (x3.1 = x4.1))) && (x3.2 == x4.2)) && (decide (x5.1 = x6.1))) && (x5.2 == x6.2)) && (decide (x7.1 = x8.1))) = true) (.rep [] (x8.2 : Int)))], [.fact 135 (Fact.under ((((((((x1.1 == x2.1) && (x1.2 == x2.2)) && (decide (x3.1 = x4.1))) && (x3.2 == x4.2)) && (decide (x5.1 = x6.1))) && (x5.2 == x6.2)) && (decide (x7.1 = x8.1))) = true) (.rep [] ((x7.2 == x8.2) : Bool)))], [.fact 136 (Fact.rep [] (((((((((x1.1 == x2.1) && (x1.2 == x2.2)) && (decide (x3.1 = x4.1))) && (x3.2 == x4.2)) && (decide (x5.1 = x6.1))) && (x5.2 == x6.2)) && (decide (x7.1 = x8.1))) && (x7.2 == x8.2)) : Bool))], [.fact 137 (Fact.rep [] (((((((((x1.1 == x2.1) && (x1.2 == x2.2)) && (decide (x3.1 = x4.1))) && (x3.2 == x4.2)) && (decide (x5.1 = x6.1))) && (x5.2 == x6.2)) && (decide (x7.1 = x8.1))) && (x7.2 == x8.2)) : Bool))], [.fact 138 (Fact.under (((((((((x1.1 == x2.1) && (x1.2 == x2.2)) && (decide (x3.1 = x4.1))) && (x3.2 == x4.2)) && (decide (x5.1 = x6.1))) && (x5.2 == x6.2)) && (decide (x7.1 = x8.1))) && (x7.2 == x8.2)) = true) (.flds [(false, 1, Fact.rep [] (x9.1.Events : UInt32)), (false, 1, Fact.rep [] (x9.1.Lost : Int)), (false, 1, Fact.rep [] (x9.1.Spare : Bool)), (false, 1, Fact.rep [] (x9.1.Pos : Int)), (false, 1, Fact.rep [] (x9.1.Done : Int)), (false, 1, Fact.rep [] (x9.1.NoLog : Bool)), (false, 1, Fact.rep [] (x9.1.Broken : Bool))]))], [.fact 139 (Fact.under (((((((((x1.1 == x2.1) && (x1.2 == x2.2)) && (decide (x3.1 = x4.1))) && (x3.2 == x4.2)) && (decide (x5.1 = x6.1))) && (x5.2 == x6.2)) && (decide (x7.1 = x8.1))) && (x7.2 == x8.2)) = true) (.flds [(false, 1, Fact.rep [] (x10.1.Events : UInt32)), (false, 1, Fact.rep [] (x10.1.Lost : Int)), (false, 1, Fact.rep [] (x10.1.Spare : Bool)), (false, 1, Fact.rep [] (x10.1.Pos : Int)), (false, 1, Fact.rep [] (x10.1.Done : Int)), (false, 1, Fact.rep [] (x10.1.NoLog : Bool)), (false, 1, Fact.rep [] (x10.1.Broken : Bool))]))], [.fact 140 (Fact.under (((((((((x1.1 == x2.1) && (x1.2 == x2.2)) && (decide (x3.1 = x4.1))) && (x3.2 == x4.2)) && (decide (x5.1 = x6.1))) && (x5.2 == x6.2)) && (decide (x7.1 = x8.1))) && (x7.2 == x8.2)) = true) (.rep [] ((decide (x9.1 = x10.1)) : Bool)))], [.fact 141 (Fact.rep [] ((((((((((x1.1 == x2.1) && (x1.2 == x2.2)) && (decide (x3.1 = x4.1))) && (x3.2 == x4.2)) && (decide (x5.1 = x6.1))) && (x5.2 == x6.2)) && (decide (x7.1 = x8.1))) && (x7.2 == x8.2)) && (decide (x9.1 = x10.1))) : Bool))], [.fact 142 (Fact.rep [] ((((((((((x1.1 == x2.1) && (x1.2 == x2.2)) && (decide (x3.1 = x4.1))) && (x3.2 == x4.2)) && (decide (x5.1 = x6.1))) && (x5.2 == x6.2)) && (decide (x7.1 = x8.1))) && (x7.2 == x8.2)) && (decide (x9.1 = x10.1))) : Bool))], [.fact 143 (Fact.under ((((((((((x1.1 == x2.1) && (x1.2 == x2.2)) && (decide (x3.1 = x4.1))) && (x3.2 == x4.2)) && (decide (x5.1 = x6.1))) && (x5.2 == x6.2)) && (decide (x7.1 = x8.1))) && (x7.2 == x8.2)) && (decide (x9.1 = x10.1))) = true) (.rep [] (x9.2 : Int)))], [.fact 144 (Fact.under ((((((((((x1.1 == x2.1) && (x1.2 == x2.2)) && (decide (x3.1 = x4.1))) && (x3.2 == x4.2)) && (decide (x5.1 = x6.1))) && (x5.2 == x6.2)) && (decide (x7.1 = x8.1))) && (x7.2 == x8.2)) && (decide (x9.1 = x10.1))) = true) (.rep [] (x10.2 : Int)))], [.fact 145 (Fact.under ((((((((((x1.1 == x2.1) && (x1.2 == x2.2)) && (decide (x3.1 = x4.1))) && (x3.2 == x4.2)) && (decide (x5.1 = x6.1))) && (x5.2 == x6.2)) && (decide (x7.1 = x8.1))) && (x7.2 == x8.2)) && (decide (x9.1 = x10.1))) = true) (.rep [] ((x9.2 == x10.2) : Bool)))], [.fact 146 (Fact.rep [] (((((((((((x1.1 == x2.1) && (x1.2 == x2.2)) && (decide (x3.1 = x4.1))) && (x3.2 == x4.2)) && (decide (x5.1 = x6.1))) && (x5.2 == x6.2)) && (decide (x7.1 = x8.1))) && (x7.2 == x8.2)) && (decide (x9.1 = x10.1))) && (x9.2 == x10.2)) : Bool))], [.fact 147 (Fact.rep [] (((((((((((x1.1 == x2.1) && (x1.2 == x2.2)) && (decide (x3.1 = x4.1))) && (x3.2 == x4.2)) && (decide (x5.1 = x6.1))) && (x5.2 == x6.2)) && (decide (x7.1 = x8.1))) && (x7.2 == x8.2)) && (decide (x9.1 = x10.1))) && (x9.2 == x10.2)) : Bool))], [.fact 148 (Fact.under (((((((((((x1.1 == x2.1) && (x1.2 == x2.2)) && (decide (x3.1 = x4.1))) && (x3.2 == x4.2)) && (decide (x5.1 = x6.1))) && (x5.2 == x6.2)) && (decide (x7.1 = x8.1))) && (x7.2 == x8.2)) && (decide (x9.1 = x10.1))) && (x9.2 == x10.2)) = true) (.flds [(false, 1, Fact.rep [] (a0.Id : UInt32)), (false, 1, Fact.rep [] (a0.Members : Int)), (false, 1, Fact.rep [] (a0.Chunk : Int)), (false, 1, Fact.rep [] (a0.Rows : Int)), (false, 1, Fact.rep [] (a0.Log : Int)), (false, 1, Fact.rep [] (a0.Heads : Int))]))], [.fact 149 (Fact.under (((((((((((x1.1 == x2.1) && (x1.2 == x2.2)) && (decide (x3.1 = x4.1))) && (x3.2 == x4.2)) && (decide (x5.1 = x6.1))) && (x5.2 == x6.2)) && (decide (x7.1 = x8.1))) && (x7.2 == x8.2)) && (decide (x9.1 = x10.1))) && (x9.2 == x10.2)) = true) (.flds [(false, 1, Fact.rep [] (a1.Events : UInt32)), (false, 1, Fact.rep [] (a1.Lost : Int)), (false, 1, Fact.rep [] (a1.Spare : Bool)), (false, 1, Fact.rep [] (a1.Pos : Int)), (false, 1, Fact.rep [] (a1.Done : Int)), (false, 1, Fact.rep [] (a1.NoLog : Bool)), (false, 1, Fact.rep [] (a1.Broken : Bool))]))], [.fact 150 (Fact.under (((((((((((x1.1 == x2.1) && (x1.2 == x2.2)) && (decide (x3.1 = x4.1))) && (x3.2 == x4.2)) && (decide (x5.1 = x6.1))) && (x5.2 == x6.2)) && (decide (x7.1 = x8.1))) && (x7.2 == x8.2)) && (decide (x9.1 = x10.1))) && (x9.2 == x10.2)) = true) (.rep [] (x11 : Int)))], [.fact 151 (Fact.under (((((((((((x1.1 == x2.1) && (x1.2 == x2.2)) && (decide (x3.1 = x4.1))) && (x3.2 == x4.2)) && (decide (x5.1 = x6.1))) && (x5.2 == x6.2)) && (decide (x7.1 = x8.1))) && (x7.2 == x8.2)) && (decide (x9.1 = x10.1))) && (x9.2 == x10.2)) = true) (.flds [(false, 1, Fact.rep [] (a0.Id : UInt32)), (false, 1, Fact.rep [] (a0.Members : Int)), (false, 1, Fact.rep [] (a0.Chunk : Int)), (false, 1, Fact.rep [] (a0.Rows : Int)), (false, 1, Fact.rep [] (a0.Log : Int)), (false, 1, Fact.rep [] (a0.Heads : Int))]))], [.fact 152 (Fact.under (((((((((((x1.1 == x2.1) && (x1.2 == x2.2)) && (decide (x3.1 = x4.1))) && (x3.2 == x4.2)) && (decide (x5.1 = x6.1))) && (x5.2 == x6.2)) && (decide (x7.1 = x8.1))) && (x7.2 == x8.2)) && (decide (x9.1 = x10.1))) && (x9.2 == x10.2)) = true) (.flds [(false, 1, Fact.rep [] (a1.Events : UInt32)), (false, 1, Fact.rep [] (a1.Lost : Int)), (false, 1, Fact.rep [] (a1.Spare : Bool)), (false, 1, Fact.rep [] (a1.Pos : Int)), (false, 1, Fact.rep [] (a1.Done : Int)), (false, 1, Fact.rep [] (a1.NoLog : Bool)), (false, 1, Fact.rep [] (a1.Broken : Bool))]))], [.fact 153 (Fact.under (((((((((((x1.1 == x2.1) && (x1.2 == x2.2)) && (decide (x3.1 = x4.1))) && (x3.2 == x4.2)) && (decide (x5.1 = x6.1))) && (x5.2 == x6.2)) && (decide (x7.1 = x8.1))) && (x7.2 == x8.2)) && (decide (x9.1 = x10.1))) && (x9.2 == x10.2)) = true) (.rep [] (x12 : Int)))], [.fact 154 (Fact.under (((((((((((x1.1 == x2.1) && (x1.2 == x2.2)) && (decide (x3.1 = x4.1))) && (x3.2 == x4.2)) && (decide (x5.1 = x6.1))) && (x5.2 == x6.2)) && (decide (x7.1 = x8.1))) && (x7.2 == x8.2)) && (decide (x9.1 = x10.1))) && (x9.2 == x10.2)) = true) (.rep [] ((x11 == x12) : Bool)))], [.fact 155 (Fact.rep [] ((((((((((((x1.1 == x2.1) && (x1.2 == x2.2)) && (decide (x3.1 = x4.1))) && (x3.2 == x4.2)) && (decide (x5.1 = x6.1))) && (x5.2 == x6.2)) && (decide (x7.1 = x8.1))) && (x7.2 == x8.2)) && (decide (x9.1 = x10.1))) && (x9.2 == x10.2)) && (x11 == x12)) : Bool))], [.fact 10 (Fact.rep [] ((((((((((((x1.1 == x2.1) && (x1.2 == x2.2)) && (decide (x3.1 = x4.1))) && (x3.2 == x4.2)) && (decide (x5.1 = x6.1))) && (x5.2 == x6.2)) && (decide (x7.1 = x8.1))) && (x7.2 == x8.2)) && (decide (x9.1 = x10.1))) && (x9.2 == x10.2)) && (x11 == x12)) : Bool))]] mixed (by kernel_rfl) (ao (so (Spec.move (Has.s rfl))) (ao (so (Spec.move (Has.s rfl))) (ao (StepG.opg rfl rfl rfl (fun hb => Spec.loadObj (ls := [(false, 1, Fact.rep [] (x7.1.Events : UInt32)), (false, 1, Fact.rep [] (x7.1.Lost : Int)), (false, 1, Fact.rep [] (x7.1.Spare : Bool)), (false, 1, Fact.rep [] (x7.1.Pos : Int)), (false, 1, Fact.rep [] (x7.1.Done : Int)), (false, 1, Fact.rep [] (x7.1.NoLog : Bool)), (false, 1, Fact.rep [] (x7.1.Broken : Bool))]) ty26 rfl rfl (Has.s rfl) rfl (HasGs.cons (HasG.s rfl) (HasGs.cons (HasG.s rfl) (HasGs.cons (HasG.s rfl) (HasGs.cons (HasG.s rfl) (HasGs.cons (HasG.s rfl) (HasGs.cons (HasG.s rfl) (HasGs.cons (HasG.s rfl) HasGs.nil))))))))) (ao (StepG.opg rfl rfl rfl (fun hb => Spec.loadObj (ls := [(false, 1, Fact.rep [] (x8.1.Events : UInt32)), (false, 1, Fact.rep [] (x8.1.Lost : Int)), (false, 1, Fact.rep [] (x8.1.Spare : Bool)), (false, 1, Fact.rep [] (x8.1.Pos : Int)), (false, 1, Fact.rep [] (x8.1.Done : Int)), (false, 1, Fact.rep [] (x8.1.NoLog : Bool)), (false, 1, Fact.rep [] (x8.1.Broken : Bool))]) ty26 rfl rfl (Has.s rfl) rfl (HasGs.cons (HasG.s rfl) (HasGs.cons (HasG.s rfl) (HasGs.cons (HasG.s rfl) (HasGs.cons (HasG.s rfl) (HasGs.cons (HasG.s rfl) (HasGs.cons (HasG.s rfl) (HasGs.cons (HasG.s rfl) HasGs.nil))))))))) (ao (StepG.opg rfl rfl rfl (fun hb => Spec.eqlSt eqs26 eqg26 rfl (Has.cv (Has.u rfl hb) (Cv.trans (Cv.flds (CvL.cons Cv.fl (CvL.cons Cv.fl (CvL.cons Cv.fl (CvL.cons Cv.fl (CvL.cons Cv.fl (CvL.cons Cv.fl (CvL.cons Cv.fl CvL.nil)))))))) (Cv.close (T := []) (chLoss x7.1)))) (Has.cv (Has.u rfl hb) (Cv.trans (Cv.flds (CvL.cons Cv.fl (CvL.cons Cv.fl (CvL.cons Cv.fl (CvL.cons Cv.fl (CvL.cons Cv.fl (CvL.cons Cv.fl (CvL.cons Cv.fl CvL.nil)))))))) (Cv.close (T := []) (chLoss x8.1)))))) (ao (so (Spec.and (Has.s rfl) (fun h => Has.u rfl h))) (ao (so (Spec.move (Has.s rfl))) (ao (StepG.opg rfl rfl rfl (fun hb => Spec.move (Has.s rfl))) (ao (StepG.opg rfl rfl rfl (fun hb => Spec.move (Has.s rfl))) (ao (StepG.opg rfl rfl rfl (fun hb => Spec.eqlI (Has.u rfl hb) (Has.u rfl hb))) (ao (so (Spec.and (Has.s rfl) (fun h => Has.u rfl h))) (ao (so (Spec.move (Has.s rfl))) (ao (StepG.opg rfl rfl rfl (fun hb => Spec.loadObj (ls := [(false, 1, Fact.rep [] (x9.1.Events : UInt32)), (false, 1, Fact.rep [] (x9.1.Lost : Int)), (false, 1, Fact.rep [] (x9.1.Spare : Bool)), (false, 1, Fact.rep [] (x9.1.Pos : Int)), (false, 1, Fact.rep [] (x9.1.Done : Int)), (false, 1, Fact.rep [] (x9.1.NoLog : Bool)), (false, 1, Fact.rep [] (x9.1.Broken : Bool))]) ty26 rfl rfl (Has.s rfl) rfl (HasGs.cons (HasG.s rfl) (HasGs.cons (HasG.s rfl) (HasGs.cons (HasG.s rfl) (HasGs.cons (HasG.s rfl) (HasGs.cons (HasG.s rfl) (HasGs.cons (HasG.s rfl) (HasGs.cons (HasG.s rfl) HasGs.nil))))))))) (ao (StepG.opg rfl rfl rfl (fun hb => Spec.loadObj (ls := [(false, 1, Fact.rep [] (x10.1.Events : UInt32)), (false, 1, Fact.rep [] (x10.1.Lost : Int)), (false, 1, Fact.rep [] (x10.1.Spare : Bool)), (false, 1, Fact.rep [] (x10.1.Pos : Int)), (false, 1, Fact.rep [] (x10.1.Done : Int)), (false, 1, Fact.rep [] (x10.1.NoLog : Bool)), (false, 1, Fact.rep [] (x10.1.Broken : Bool))]) ty26 rfl rfl (Has.s rfl) rfl (HasGs.cons (HasG.s rfl) (HasGs.cons (HasG.s rfl) (HasGs.cons (HasG.s rfl) (HasGs.cons (HasG.s rfl) (HasGs.cons (HasG.s rfl) (HasGs.cons (HasG.s rfl) (HasGs.cons (HasG.s rfl) HasGs.nil))))))))) (ao (StepG.opg rfl rfl rfl (fun hb => Spec.eqlSt eqs26 eqg26 rfl (Has.cv (Has.u rfl hb) (Cv.trans (Cv.flds (CvL.cons Cv.fl (CvL.cons Cv.fl (CvL.cons Cv.fl (CvL.cons Cv.fl (CvL.cons Cv.fl (CvL.cons Cv.fl (CvL.cons Cv.fl CvL.nil)))))))) (Cv.close (T := []) (chLoss x9.1)))) (Has.cv (Has.u rfl hb) (Cv.trans (Cv.flds (CvL.cons Cv.fl (CvL.cons Cv.fl (CvL.cons Cv.fl (CvL.cons Cv.fl (CvL.cons Cv.fl (CvL.cons Cv.fl (CvL.cons Cv.fl CvL.nil)))))))) (Cv.close (T := []) (chLoss x10.1)))))) (ao (so (Spec.and (Has.s rfl) (fun h => Has.u rfl h))) (ao (so (Spec.move (Has.s rfl))) (ao (StepG.opg rfl rfl rfl (fun hb => Spec.move (Has.s rfl))) (ao (StepG.opg rfl rfl rfl (fun hb => Spec.move (Has.s rfl))) (ao (StepG.opg rfl rfl rfl (fun hb => Spec.eqlI (Has.u rfl hb) (Has.u rfl hb))) (ao (so (Spec.and (Has.s rfl) (fun h => Has.u rfl h))) (ao (so (Spec.move (Has.s rfl))) (ao (StepG.opg rfl rfl rfl (fun hb => Spec.loadObj (ls := [(false, 1, Fact.rep [] (a0.Id : UInt32)), (false, 1, Fact.rep [] (a0.Members : Int)), (false, 1, Fact.rep [] (a0.Chunk : Int)), (false, 1, Fact.rep [] (a0.Rows : Int)), (false, 1, Fact.rep [] (a0.Log : Int)), (false, 1, Fact.rep [] (a0.Heads : Int))]) ty24 rfl rfl (Has.s rfl) rfl (HasGs.cons (HasG.s rfl) (HasGs.cons (HasG.s rfl) (HasGs.cons (HasG.s rfl) (HasGs.cons (HasG.s rfl) (HasGs.cons (HasG.s rfl) (HasGs.cons (HasG.s rfl) HasGs.nil)))))))) (ao (StepG.opg rfl rfl rfl (fun hb => Spec.loadObj (ls := [(false, 1, Fact.rep [] (a1.Events : UInt32)), (false, 1, Fact.rep [] (a1.Lost : Int)), (false, 1, Fact.rep [] (a1.Spare : Bool)), (false, 1, Fact.rep [] (a1.Pos : Int)), (false, 1, Fact.rep [] (a1.Done : Int)), (false, 1, Fact.rep [] (a1.NoLog : Bool)), (false, 1, Fact.rep [] (a1.Broken : Bool))]) ty26 rfl rfl (Has.s rfl) rfl (HasGs.cons (HasG.s rfl) (HasGs.cons (HasG.s rfl) (HasGs.cons (HasG.s rfl) (HasGs.cons (HasG.s rfl) (HasGs.cons (HasG.s rfl) (HasGs.cons (HasG.s rfl) (HasGs.cons (HasG.s rfl) HasGs.nil))))))))) (ao (StepG.opg rfl rfl rfl (fun hb => Spec.callE [] 99 rfl en18 (loss_Check_c a0 a1 (gO_t hx11 hb)) (HasAll.cons (Has.fl (Has.cv (Has.u rfl hb) (Cv.trans (Cv.flds (CvL.cons Cv.fl (CvL.cons Cv.fl (CvL.cons Cv.fl (CvL.cons Cv.fl (CvL.cons Cv.fl (CvL.cons Cv.fl CvL.nil))))))) (Cv.close (T := []) (chConfig a0))))) (HasAll.cons (Has.fl (Has.cv (Has.u rfl hb) (Cv.trans (Cv.flds (CvL.cons Cv.fl (CvL.cons Cv.fl (CvL.cons Cv.fl (CvL.cons Cv.fl (CvL.cons Cv.fl (CvL.cons Cv.fl (CvL.cons Cv.fl CvL.nil)))))))) (Cv.close (T := []) (chLoss a1))))) HasAll.nil)))) (ao (StepG.opg rfl rfl rfl (fun hb => Spec.loadObj (ls := [(false, 1, Fact.rep [] (a0.Id : UInt32)), (false, 1, Fact.rep [] (a0.Members : Int)), (false, 1, Fact.rep [] (a0.Chunk : Int)), (false, 1, Fact.rep [] (a0.Rows : Int)), (false, 1, Fact.rep [] (a0.Log : Int)), (false, 1, Fact.rep [] (a0.Heads : Int))]) ty24 rfl rfl (Has.s rfl) rfl (HasGs.cons (HasG.s rfl) (HasGs.cons (HasG.s rfl) (HasGs.cons (HasG.s rfl) (HasGs.cons (HasG.s rfl) (HasGs.cons (HasG.s rfl) (HasGs.cons (HasG.s rfl) HasGs.nil)))))))) (ao (StepG.opg rfl rfl rfl (fun hb => Spec.loadObj (ls := [(false, 1, Fact.rep [] (a1.Events : UInt32)), (false, 1, Fact.rep [] (a1.Lost : Int)), (false, 1, Fact.rep [] (a1.Spare : Bool)), (false, 1, Fact.rep [] (a1.Pos : Int)), (false, 1, Fact.rep [] (a1.Done : Int)), (false, 1, Fact.rep [] (a1.NoLog : Bool)), (false, 1, Fact.rep [] (a1.Broken : Bool))]) ty26 rfl rfl (Has.s rfl) rfl (HasGs.cons (HasG.s rfl) (HasGs.cons (HasG.s rfl) (HasGs.cons (HasG.s rfl) (HasGs.cons (HasG.s rfl) (HasGs.cons (HasG.s rfl) (HasGs.cons (HasG.s rfl) (HasGs.cons (HasG.s rfl) HasGs.nil))))))))) (ao (StepG.opg rfl rfl rfl (fun hb => Spec.callE [] 100 rfl en19 (ref23_Check_c a0 a1 (gO_t hx12 hb)) (HasAll.cons (Has.fl (Has.cv (Has.u rfl hb) (Cv.trans (Cv.flds (CvL.cons Cv.fl (CvL.cons Cv.fl (CvL.cons Cv.fl (CvL.cons Cv.fl (CvL.cons Cv.fl (CvL.cons Cv.fl CvL.nil))))))) (Cv.close (T := []) (chConfig a0))))) (HasAll.cons (Has.fl (Has.cv (Has.u rfl hb) (Cv.trans (Cv.flds (CvL.cons Cv.fl (CvL.cons Cv.fl (CvL.cons Cv.fl (CvL.cons Cv.fl (CvL.cons Cv.fl (CvL.cons Cv.fl (CvL.cons Cv.fl CvL.nil)))))))) (Cv.close (T := []) (chLoss a1))))) HasAll.nil)))) (ao (StepG.opg rfl rfl rfl (fun hb => Spec.eqlI (Has.u rfl hb) (Has.u rfl hb))) (ao (so (Spec.and (Has.s rfl) (fun h => Has.u rfl h))) (ao (so (Spec.assign (Has.s rfl))) AllM.nil))))))))))))))))))))))))))))))) ?_
 refine Leaf.thenN ?_
 refine CWalk.ret ?_
 obtain rfl := Option.some.inj hm
 exact Leaf.retC1 rfl (HasR.cv (HasR.tmp (Has.s rfl)) Cv.fl)

/-- freeboard/freeboardlaw23.three -/
def law23_three : Option (Config) :=
  some (Config.mk (0 : UInt32) (3 : Int) (1 : Int) (2 : Int) (12 : Int) (2 : Int))
set_option maxRecDepth 100000 in
set_option maxHeartbeats 2000000 in
theorem law23_three_c {r : Config} (hm : law23_three = some r) : Ctr Try.prog 24 [] (.fl r) [] := by
 refine ctr_of_walk [[]] 2 Try.func24 rfl rfl rfl rfl (fun w0 om => ?_)
 unfold law23_three at hm
 refine CWalk.sub (G' := []) (Sub.nil) ?_
 refine CWalk.seq ?_
 refine CWalk.region ?_
 refine ws (Step.allocObj (ls := [(false, 1, Fact.rep [] ((0 : UInt32) : UInt32)), (false, 1, Fact.rep [] ((0 : Int) : Int)), (false, 1, Fact.rep [] ((0 : Int) : Int)), (false, 1, Fact.rep [] ((0 : Int) : Int)), (false, 1, Fact.rep [] ((0 : Int) : Int)), (false, 1, Fact.rep [] ((0 : Int) : Int))]) 10 rfl rfl rfl rfl zl24) ?_
 refine Walk.nil ?_
 refine Leaf.thenN ?_
 refine CWalk.seq ?_
 refine CWalk.region ?_
 refine wo (Spec.build (us := [(1, .const (.int .i64 3)), (2, .const (.int .i64 1)), (3, .const (.int .i64 2)), (4, .const (.int .i64 12)), (5, .const (.int .i64 2))]) (ls' := [(false, 1, Fact.rep [] ((0 : UInt32) : UInt32)), (false, 1, Fact.rep [] ((3 : Int) : Int)), (false, 1, Fact.rep [] ((1 : Int) : Int)), (false, 1, Fact.rep [] ((2 : Int) : Int)), (false, 1, Fact.rep [] ((12 : Int) : Int)), (false, 1, Fact.rep [] ((2 : Int) : Int))]) bd24 rfl (BP.cons rfl rfl Has.int Has.int (BP.cons rfl rfl Has.int Has.int (BP.cons rfl rfl Has.int Has.int (BP.cons rfl rfl Has.int Has.int (BP.cons rfl rfl Has.int Has.int BP.nil)))))) ?_
 refine ws (Step.storeObj (ls := [(false, 1, Fact.rep [] ((0 : UInt32) : UInt32)), (false, 1, Fact.rep [] ((3 : Int) : Int)), (false, 1, Fact.rep [] ((1 : Int) : Int)), (false, 1, Fact.rep [] ((2 : Int) : Int)), (false, 1, Fact.rep [] ((12 : Int) : Int)), (false, 1, Fact.rep [] ((2 : Int) : Int))]) rfl ty24 rfl rfl (Has.s rfl) rfl (HasL.flds (Has.s rfl)) rfl) ?_
 refine Walk.nil ?_
 refine Leaf.thenN ?_
 refine CWalk.ret ?_
 obtain rfl := Option.some.inj hm
 exact Leaf.retC1 rfl (HasR.cv (HasR.obj (ls := [(false, 1, Fact.rep [] ((0 : UInt32) : UInt32)), (false, 1, Fact.rep [] ((3 : Int) : Int)), (false, 1, Fact.rep [] ((1 : Int) : Int)), (false, 1, Fact.rep [] ((2 : Int) : Int)), (false, 1, Fact.rep [] ((12 : Int) : Int)), (false, 1, Fact.rep [] ((2 : Int) : Int))]) ty24 rfl rfl (Has.s rfl) rfl (HasGs.cons (HasG.s rfl) (HasGs.cons (HasG.s rfl) (HasGs.cons (HasG.s rfl) (HasGs.cons (HasG.s rfl) (HasGs.cons (HasG.s rfl) (HasGs.cons (HasG.s rfl) HasGs.nil))))))) (Cv.trans (Cv.trans (Cv.flds (CvL.cons Cv.fl (CvL.cons Cv.fl (CvL.cons Cv.fl (CvL.cons Cv.fl (CvL.cons Cv.fl (CvL.cons Cv.fl CvL.nil))))))) (Cv.close (T := []) (chConfig (Config.mk (0 : UInt32) (3 : Int) (1 : Int) (2 : Int) (12 : Int) (2 : Int))))) Cv.fl))

/-- freeboard/freeboardlaw23.nobody -/
def law23_nobody : Option (Loss) :=
  some (Loss.mk (5 : UInt32) (-1 : Int) false (0 : Int) (0 : Int) false false)
set_option maxRecDepth 100000 in
set_option maxHeartbeats 2000000 in
theorem law23_nobody_c {r : Loss} (hm : law23_nobody = some r) : Ctr Try.prog 21 [] (.fl r) [] := by
 refine ctr_of_walk [[]] 2 Try.func21 rfl rfl rfl rfl (fun w0 om => ?_)
 unfold law23_nobody at hm
 refine CWalk.sub (G' := []) (Sub.nil) ?_
 refine CWalk.seq ?_
 refine CWalk.region ?_
 refine ws (Step.allocObj (ls := [(false, 1, Fact.rep [] ((0 : UInt32) : UInt32)), (false, 1, Fact.rep [] ((0 : Int) : Int)), (false, 1, Fact.rep [] (false : Bool)), (false, 1, Fact.rep [] ((0 : Int) : Int)), (false, 1, Fact.rep [] ((0 : Int) : Int)), (false, 1, Fact.rep [] (false : Bool)), (false, 1, Fact.rep [] (false : Bool))]) 10 rfl rfl rfl rfl zl26) ?_
 refine Walk.nil ?_
 refine Leaf.thenN ?_
 refine CWalk.seq ?_
 refine CWalk.region ?_
 refine wo (Spec.build (us := [(0, .const (.int .u32 5)), (1, .const (.int .i64 (-1)))]) (ls' := [(false, 1, Fact.rep [] ((5 : UInt32) : UInt32)), (false, 1, Fact.rep [] ((-1 : Int) : Int)), (false, 1, Fact.rep [] (false : Bool)), (false, 1, Fact.rep [] ((0 : Int) : Int)), (false, 1, Fact.rep [] ((0 : Int) : Int)), (false, 1, Fact.rep [] (false : Bool)), (false, 1, Fact.rep [] (false : Bool))]) bd26 rfl (BP.cons rfl rfl (Has.u32 5 rfl) (Has.u32 5 rfl) (BP.cons rfl rfl Has.int Has.int BP.nil))) ?_
 refine ws (Step.storeObj (ls := [(false, 1, Fact.rep [] ((5 : UInt32) : UInt32)), (false, 1, Fact.rep [] ((-1 : Int) : Int)), (false, 1, Fact.rep [] (false : Bool)), (false, 1, Fact.rep [] ((0 : Int) : Int)), (false, 1, Fact.rep [] ((0 : Int) : Int)), (false, 1, Fact.rep [] (false : Bool)), (false, 1, Fact.rep [] (false : Bool))]) rfl ty26 rfl rfl (Has.s rfl) rfl (HasL.flds (Has.s rfl)) rfl) ?_
 refine Walk.nil ?_
 refine Leaf.thenN ?_
 refine CWalk.ret ?_
 obtain rfl := Option.some.inj hm
 exact Leaf.retC1 rfl (HasR.cv (HasR.obj (ls := [(false, 1, Fact.rep [] ((5 : UInt32) : UInt32)), (false, 1, Fact.rep [] ((-1 : Int) : Int)), (false, 1, Fact.rep [] (false : Bool)), (false, 1, Fact.rep [] ((0 : Int) : Int)), (false, 1, Fact.rep [] ((0 : Int) : Int)), (false, 1, Fact.rep [] (false : Bool)), (false, 1, Fact.rep [] (false : Bool))]) ty26 rfl rfl (Has.s rfl) rfl (HasGs.cons (HasG.s rfl) (HasGs.cons (HasG.s rfl) (HasGs.cons (HasG.s rfl) (HasGs.cons (HasG.s rfl) (HasGs.cons (HasG.s rfl) (HasGs.cons (HasG.s rfl) (HasGs.cons (HasG.s rfl) HasGs.nil)))))))) (Cv.trans (Cv.trans (Cv.flds (CvL.cons Cv.fl (CvL.cons Cv.fl (CvL.cons Cv.fl (CvL.cons Cv.fl (CvL.cons Cv.fl (CvL.cons Cv.fl (CvL.cons Cv.fl CvL.nil)))))))) (Cv.close (T := []) (chLoss (Loss.mk (5 : UInt32) (-1 : Int) false (0 : Int) (0 : Int) false false)))) Cv.fl))

/-- freeboard/freeboardlaw23.misses -/
def law23_misses (a0 : Loss) (a1 : Int) (a2 : Int) : Option (Bool) :=
  Option.bind (law23_three) (fun x1 => Option.bind (loss_Missing x1 a0 (0 : Int)) (fun x2 => Option.bind (law23_three) (fun x3 => Option.bind (loss_Missing x3 a0 (1 : Int)) (fun x4 => some ((((x2.2 == (0 : Int)) && (x4.2 == (0 : Int))) && (x2.1 == a1)) && (x4.1 == a2))))))
set_option maxRecDepth 100000 in
set_option maxHeartbeats 2000000 in
theorem law23_misses_c (a0 : Loss) (a1 : Int) (a2 : Int) {r : Bool} (hm : law23_misses a0 a1 a2 = some r) : Ctr Try.prog 23 [.rep 0 a0, .rep 0 a1, .rep 0 a2] (.fl r) [] := by
 refine ctr_of_walk [[]] 39 Try.func23 rfl rfl rfl rfl (fun w0 om => ?_)
 unfold law23_misses at hm
 refine CWalk.sub (G' := [.fact 0 (Fact.rep [] (a0 : Loss)), .fact 1 (Fact.rep [] (a1 : Int)), .fact 2 (Fact.rep [] (a2 : Int))]) (Sub.cons (Has.fl (Has.s rfl)) (Sub.cons (Has.fl (Has.s rfl)) (Sub.cons (Has.fl (Has.s rfl)) Sub.nil))) ?_
 refine CWalk.seq ?_
 refine CWalk.region ?_
 refine ws (Step.boxObj (ls := [(false, 1, Fact.rep [] (a0.Events : UInt32)), (false, 1, Fact.rep [] (a0.Lost : Int)), (false, 1, Fact.rep [] (a0.Spare : Bool)), (false, 1, Fact.rep [] (a0.Pos : Int)), (false, 1, Fact.rep [] (a0.Done : Int)), (false, 1, Fact.rep [] (a0.NoLog : Bool)), (false, 1, Fact.rep [] (a0.Broken : Bool))]) 10 rfl rfl rfl rfl (HasL.flds (Has.cv (Has.s rfl) (Cv.trans (Cv.opens (chLoss a0)) (Cv.flds (CvL.cons Cv.fl (CvL.cons Cv.fl (CvL.cons Cv.fl (CvL.cons Cv.fl (CvL.cons Cv.fl (CvL.cons Cv.fl (CvL.cons Cv.fl CvL.nil)))))))))))) ?_
 refine wo (Spec.assign Has.bool) ?_
 refine Walk.nil ?_
 refine Leaf.thenN ?_
 refine CWalk.seq ?_
 obtain ⟨x1, hx1, hm⟩ := bind_some hm
 obtain ⟨x2, hx2, hm⟩ := bind_some hm
 refine CWalk.drawM [[], [], [0, 1], [0, 1, 2], [0, 1, 2, 3], [0, 1, 2, 3], [0, 1, 2, 3, 4], [0, 1, 2, 3, 4, 5, 6]] [[.fact 12 (Fact.rep [] (x1 : Config))], [.fact 13 (Fact.flds [(false, 1, Fact.rep [] (a0.Events : UInt32)), (false, 1, Fact.rep [] (a0.Lost : Int)), (false, 1, Fact.rep [] (a0.Spare : Bool)), (false, 1, Fact.rep [] (a0.Pos : Int)), (false, 1, Fact.rep [] (a0.Done : Int)), (false, 1, Fact.rep [] (a0.NoLog : Bool)), (false, 1, Fact.rep [] (a0.Broken : Bool))])], [.fact 14 (Fact.tup2 (Fact.rep [] (x2.1 : Int)) (Fact.rep [] (x2.2 : Int)))], [.fact 11 (Fact.tup2 (Fact.rep [] (x2.1 : Int)) (Fact.rep [] (x2.2 : Int)))], [.fact 15 (Fact.rep [] (x2.1 : Int))], [.fact 16 (Fact.rep [] (x2.2 : Int))], [.fact 7 (Fact.rep [] (x2.1 : Int))], [.fact 8 (Fact.rep [] (x2.2 : Int))]] mixed (by kernel_rfl) (ao (so (Spec.callE [] 18 rfl en24 (law23_three_c  hx1) HasAll.nil)) (ao (so (Spec.loadObj (ls := [(false, 1, Fact.rep [] (a0.Events : UInt32)), (false, 1, Fact.rep [] (a0.Lost : Int)), (false, 1, Fact.rep [] (a0.Spare : Bool)), (false, 1, Fact.rep [] (a0.Pos : Int)), (false, 1, Fact.rep [] (a0.Done : Int)), (false, 1, Fact.rep [] (a0.NoLog : Bool)), (false, 1, Fact.rep [] (a0.Broken : Bool))]) ty26 rfl rfl (Has.s rfl) rfl (HasGs.cons (HasG.s rfl) (HasGs.cons (HasG.s rfl) (HasGs.cons (HasG.s rfl) (HasGs.cons (HasG.s rfl) (HasGs.cons (HasG.s rfl) (HasGs.cons (HasG.s rfl) (HasGs.cons (HasG.s rfl) HasGs.nil))))))))) (ao (so (Spec.callE [] 19 rfl en8 (loss_Missing_c x1 a0 (0 : Int) hx2) (HasAll.cons (Has.fl (Has.s rfl)) (HasAll.cons (Has.fl (Has.cv (Has.s rfl) (Cv.trans (Cv.flds (CvL.cons Cv.fl (CvL.cons Cv.fl (CvL.cons Cv.fl (CvL.cons Cv.fl (CvL.cons Cv.fl (CvL.cons Cv.fl (CvL.cons Cv.fl CvL.nil)))))))) (Cv.close (T := []) (chLoss a0))))) (HasAll.cons (Has.fl Has.int) HasAll.nil))))) (ao (so (Spec.move (Has.s rfl))) (ao (so (Spec.ext0 (Has.s rfl))) (ao (so (Spec.ext1 (Has.s rfl))) (ao (so (Spec.assign (Has.s rfl))) (ao (so (Spec.assign (Has.s rfl))) AllM.nil)))))))) ?_
 refine Leaf.thenN ?_
 refine CWalk.seq ?_
 obtain ⟨x3, hx3, hm⟩ := bind_some hm
 obtain ⟨x4, hx4, hm⟩ := bind_some hm
 refine CWalk.drawM [[], [], [0, 1], [0, 1, 2], [0, 1, 2, 3], [0, 1, 2, 3], [0, 1, 2, 3, 4], [0, 1, 2, 3, 4, 5, 6]] [[.fact 18 (Fact.rep [] (x3 : Config))], [.fact 19 (Fact.flds [(false, 1, Fact.rep [] (a0.Events : UInt32)), (false, 1, Fact.rep [] (a0.Lost : Int)), (false, 1, Fact.rep [] (a0.Spare : Bool)), (false, 1, Fact.rep [] (a0.Pos : Int)), (false, 1, Fact.rep [] (a0.Done : Int)), (false, 1, Fact.rep [] (a0.NoLog : Bool)), (false, 1, Fact.rep [] (a0.Broken : Bool))])], [.fact 20 (Fact.tup2 (Fact.rep [] (x4.1 : Int)) (Fact.rep [] (x4.2 : Int)))], [.fact 17 (Fact.tup2 (Fact.rep [] (x4.1 : Int)) (Fact.rep [] (x4.2 : Int)))], [.fact 21 (Fact.rep [] (x4.1 : Int))], [.fact 22 (Fact.rep [] (x4.2 : Int))], [.fact 9 (Fact.rep [] (x4.1 : Int))], [.fact 10 (Fact.rep [] (x4.2 : Int))]] mixed (by kernel_rfl) (ao (so (Spec.callE [] 20 rfl en24 (law23_three_c  hx3) HasAll.nil)) (ao (so (Spec.loadObj (ls := [(false, 1, Fact.rep [] (a0.Events : UInt32)), (false, 1, Fact.rep [] (a0.Lost : Int)), (false, 1, Fact.rep [] (a0.Spare : Bool)), (false, 1, Fact.rep [] (a0.Pos : Int)), (false, 1, Fact.rep [] (a0.Done : Int)), (false, 1, Fact.rep [] (a0.NoLog : Bool)), (false, 1, Fact.rep [] (a0.Broken : Bool))]) ty26 rfl rfl (Has.s rfl) rfl (HasGs.cons (HasG.s rfl) (HasGs.cons (HasG.s rfl) (HasGs.cons (HasG.s rfl) (HasGs.cons (HasG.s rfl) (HasGs.cons (HasG.s rfl) (HasGs.cons (HasG.s rfl) (HasGs.cons (HasG.s rfl) HasGs.nil))))))))) (ao (so (Spec.callE [] 21 rfl en8 (loss_Missing_c x3 a0 (1 : Int) hx4) (HasAll.cons (Has.fl (Has.s rfl)) (HasAll.cons (Has.fl (Has.cv (Has.s rfl) (Cv.trans (Cv.flds (CvL.cons Cv.fl (CvL.cons Cv.fl (CvL.cons Cv.fl (CvL.cons Cv.fl (CvL.cons Cv.fl (CvL.cons Cv.fl (CvL.cons Cv.fl CvL.nil)))))))) (Cv.close (T := []) (chLoss a0))))) (HasAll.cons (Has.fl Has.int) HasAll.nil))))) (ao (so (Spec.move (Has.s rfl))) (ao (so (Spec.ext0 (Has.s rfl))) (ao (so (Spec.ext1 (Has.s rfl))) (ao (so (Spec.assign (Has.s rfl))) (ao (so (Spec.assign (Has.s rfl))) AllM.nil)))))))) ?_
 refine Leaf.thenN ?_
 refine CWalk.seq ?_
 refine CWalk.region ?_
 refine mv ?_
 refine wo (Spec.eqlI (Has.s rfl) Has.int) ?_
 refine mv ?_
 refine wg rfl rfl (fun hb => Spec.move (Has.s rfl)) ?_
 refine wg rfl rfl (fun hb => Spec.eqlI (Has.u rfl hb) Has.int) ?_
 refine wo (Spec.and (Has.s rfl) (fun h => Has.u rfl h)) ?_
 refine mv ?_
 refine wg rfl rfl (fun hb => Spec.move (Has.s rfl)) ?_
 refine wg rfl rfl (fun hb => Spec.move (Has.s rfl)) ?_
 refine wg rfl rfl (fun hb => Spec.eqlI (Has.u rfl hb) (Has.u rfl hb)) ?_
 refine wo (Spec.and (Has.s rfl) (fun h => Has.u rfl h)) ?_
 refine mv ?_
 refine wg rfl rfl (fun hb => Spec.move (Has.s rfl)) ?_
 refine wg rfl rfl (fun hb => Spec.move (Has.s rfl)) ?_
 refine wg rfl rfl (fun hb => Spec.eqlI (Has.u rfl hb) (Has.u rfl hb)) ?_
 refine wo (Spec.and (Has.s rfl) (fun h => Has.u rfl h)) ?_
 refine wo (Spec.assign (Has.s rfl)) ?_
 refine Walk.nil ?_
 refine Leaf.thenN ?_
 refine CWalk.ret ?_
 obtain rfl := Option.some.inj hm
 exact Leaf.retC1 rfl (HasR.cv (HasR.tmp (Has.s rfl)) Cv.fl)

/-- freeboard/freeboardlaw23.alive -/
def law23_alive : Option (Bool) :=
  Option.bind (law23_three) (fun x1 => Option.bind (law23_nobody) (fun x2 => Option.bind (loss_Die x1 x2 (1 : Int) false) (fun x3 => Option.bind (law23_three) (fun x4 => Option.bind (loss_Spare x4 x3.1) (fun x5 => Option.bind (law23_three) (fun x6 => Option.bind (loss_Go x6 x5.1) (fun x7 => Option.bind (gO ((((x3.2 == (0 : Int)) && (x5.2 == (0 : Int))) && (x7.2 == (0 : Int)))) (law23_nobody)) (fun x8 => Option.bind (gO ((((x3.2 == (0 : Int)) && (x5.2 == (0 : Int))) && (x7.2 == (0 : Int)))) (law23_misses x8 (-1 : Int) (-1 : Int))) (fun x9 => Option.bind (gO (((((x3.2 == (0 : Int)) && (x5.2 == (0 : Int))) && (x7.2 == (0 : Int))) && x9)) (law23_misses x3.1 (1 : Int) (1 : Int))) (fun x10 => Option.bind (gO ((((((x3.2 == (0 : Int)) && (x5.2 == (0 : Int))) && (x7.2 == (0 : Int))) && x9) && x10)) (law23_misses x5.1 (1 : Int) (1 : Int))) (fun x11 => Option.bind (gO (((((((x3.2 == (0 : Int)) && (x5.2 == (0 : Int))) && (x7.2 == (0 : Int))) && x9) && x10) && x11)) (law23_misses x7.1 (-1 : Int) (1 : Int))) (fun x12 => some (((((((x3.2 == (0 : Int)) && (x5.2 == (0 : Int))) && (x7.2 == (0 : Int))) && x9) && x10) && x11) && x12)))))))))))))
set_option maxRecDepth 100000 in
set_option maxHeartbeats 2000000 in
theorem law23_alive_c {r : Bool} (hm : law23_alive = some r) : Ctr Try.prog 20 [] (.fl r) [] := by
 refine ctr_of_walk [[]] 51 Try.func20 rfl rfl rfl rfl (fun w0 om => ?_)
 unfold law23_alive at hm
 refine CWalk.sub (G' := []) (Sub.nil) ?_
 refine CWalk.seq ?_
 refine CWalk.region ?_
 refine wo (Spec.assign Has.bool) ?_
 refine Walk.nil ?_
 refine Leaf.thenN ?_
 refine CWalk.seq ?_
 refine CWalk.region ?_
 obtain ⟨x1, hx1, hm⟩ := bind_some hm
 refine wo (f := Fact.rep [] (x1 : Config)) (Spec.callE [] 10 rfl en24 (law23_three_c  hx1) HasAll.nil) ?_
 obtain ⟨x2, hx2, hm⟩ := bind_some hm
 refine wo (f := Fact.rep [] (x2 : Loss)) (Spec.callE [] 11 rfl en21 (law23_nobody_c  hx2) HasAll.nil) ?_
 obtain ⟨x3, hx3, hm⟩ := bind_some hm
 refine wo (f := Fact.tup2 (Fact.rep [] (x3.1 : Loss)) (Fact.rep [] (x3.2 : Int))) (Spec.callE [] 12 rfl en10 (loss_Die_c x1 x2 (1 : Int) false hx3) (HasAll.cons (Has.fl (Has.s rfl)) (HasAll.cons (Has.fl (Has.s rfl)) (HasAll.cons (Has.fl Has.int) (HasAll.cons (Has.fl Has.bool) HasAll.nil))))) ?_
 refine mv ?_
 refine wo (Spec.ext0 (Has.s rfl)) ?_
 refine wo (Spec.ext1 (Has.s rfl)) ?_
 refine ws (Step.allocObj (ls := [(false, 1, Fact.rep [] ((0 : UInt32) : UInt32)), (false, 1, Fact.rep [] ((0 : Int) : Int)), (false, 1, Fact.rep [] (false : Bool)), (false, 1, Fact.rep [] ((0 : Int) : Int)), (false, 1, Fact.rep [] ((0 : Int) : Int)), (false, 1, Fact.rep [] (false : Bool)), (false, 1, Fact.rep [] (false : Bool))]) 13 rfl rfl rfl rfl zl26) ?_
 refine ws (Step.storeObj (ls := [(false, 1, Fact.rep [] (x3.1.Events : UInt32)), (false, 1, Fact.rep [] (x3.1.Lost : Int)), (false, 1, Fact.rep [] (x3.1.Spare : Bool)), (false, 1, Fact.rep [] (x3.1.Pos : Int)), (false, 1, Fact.rep [] (x3.1.Done : Int)), (false, 1, Fact.rep [] (x3.1.NoLog : Bool)), (false, 1, Fact.rep [] (x3.1.Broken : Bool))]) rfl ty26 rfl rfl (Has.s rfl) rfl (HasL.flds (Has.cv (Has.s rfl) (Cv.trans (Cv.opens (chLoss x3.1)) (Cv.flds (CvL.cons Cv.fl (CvL.cons Cv.fl (CvL.cons Cv.fl (CvL.cons Cv.fl (CvL.cons Cv.fl (CvL.cons Cv.fl (CvL.cons Cv.fl CvL.nil))))))))))) rfl) ?_
 refine wo (Spec.assign (Has.s rfl)) ?_
 refine Walk.nil ?_
 refine Leaf.thenN ?_
 refine CWalk.seq ?_
 obtain ⟨x4, hx4, hm⟩ := bind_some hm
 obtain ⟨x5, hx5, hm⟩ := bind_some hm
 refine CWalk.drawM [[], [], [0, 1], [0, 1, 2], [0, 1, 2, 3], [0, 1, 2, 3], [], [0, 1, 2, 3, 4, 6], [0, 1, 2, 3, 4, 5, 6, 7]] [[.fact 14 (Fact.rep [] (x4 : Config))], [.fact 15 (Fact.flds [(false, 1, Fact.rep [] (x3.1.Events : UInt32)), (false, 1, Fact.rep [] (x3.1.Lost : Int)), (false, 1, Fact.rep [] (x3.1.Spare : Bool)), (false, 1, Fact.rep [] (x3.1.Pos : Int)), (false, 1, Fact.rep [] (x3.1.Done : Int)), (false, 1, Fact.rep [] (x3.1.NoLog : Bool)), (false, 1, Fact.rep [] (x3.1.Broken : Bool))])], [.fact 16 (Fact.tup2 (Fact.rep [] (x5.1 : Loss)) (Fact.rep [] (x5.2 : Int)))], [.fact 13 (Fact.tup2 (Fact.rep [] (x5.1 : Loss)) (Fact.rep [] (x5.2 : Int)))], [.fact 17 (Fact.rep [] (x5.1 : Loss))], [.fact 18 (Fact.rep [] (x5.2 : Int))], [.fact 3 (.isv 23), .fact 100023 (Fact.obj 23 [(false, 1), (false, 1), (false, 1), (false, 1), (false, 1), (false, 1), (false, 1)]), .fact 100024 (Fact.at 24 (Fact.rep [] ((0 : UInt32) : UInt32))), .fact 100025 (Fact.at 25 (Fact.rep [] ((0 : Int) : Int))), .fact 100026 (Fact.at 26 (Fact.rep [] (false : Bool))), .fact 100027 (Fact.at 27 (Fact.rep [] ((0 : Int) : Int))), .fact 100028 (Fact.at 28 (Fact.rep [] ((0 : Int) : Int))), .fact 100029 (Fact.at 29 (Fact.rep [] (false : Bool))), .fact 100030 (Fact.at 30 (Fact.rep [] (false : Bool))), .killId 23, .killId 24, .killId 25, .killId 26, .killId 27, .killId 28, .killId 29, .killId 30], [.fact 100023 (Fact.obj 23 [(false, 1), (false, 1), (false, 1), (false, 1), (false, 1), (false, 1), (false, 1)]), .fact 100024 (Fact.at 24 (Fact.rep [] (x5.1.Events : UInt32))), .fact 100025 (Fact.at 25 (Fact.rep [] (x5.1.Lost : Int))), .fact 100026 (Fact.at 26 (Fact.rep [] (x5.1.Spare : Bool))), .fact 100027 (Fact.at 27 (Fact.rep [] (x5.1.Pos : Int))), .fact 100028 (Fact.at 28 (Fact.rep [] (x5.1.Done : Int))), .fact 100029 (Fact.at 29 (Fact.rep [] (x5.1.NoLog : Bool))), .fact 100030 (Fact.at 30 (Fact.rep [] (x5.1.Broken : Bool))), .kill 23, .killId 24, .killId 25, .killId 26, .killId 27, .killId 28, .killId 29, .killId 30], [.fact 4 (Fact.rep [] (x5.2 : Int))]] mixed (by kernel_rfl) (ao (so (Spec.callE [] 21 rfl en24 (law23_three_c  hx4) HasAll.nil)) (ao (so (Spec.loadObj (ls := [(false, 1, Fact.rep [] (x3.1.Events : UInt32)), (false, 1, Fact.rep [] (x3.1.Lost : Int)), (false, 1, Fact.rep [] (x3.1.Spare : Bool)), (false, 1, Fact.rep [] (x3.1.Pos : Int)), (false, 1, Fact.rep [] (x3.1.Done : Int)), (false, 1, Fact.rep [] (x3.1.NoLog : Bool)), (false, 1, Fact.rep [] (x3.1.Broken : Bool))]) ty26 rfl rfl (Has.s rfl) rfl (HasGs.cons (HasG.s rfl) (HasGs.cons (HasG.s rfl) (HasGs.cons (HasG.s rfl) (HasGs.cons (HasG.s rfl) (HasGs.cons (HasG.s rfl) (HasGs.cons (HasG.s rfl) (HasGs.cons (HasG.s rfl) HasGs.nil))))))))) (ao (so (Spec.callE [] 22 rfl en12 (loss_Spare_c x4 x3.1 hx5) (HasAll.cons (Has.fl (Has.s rfl)) (HasAll.cons (Has.fl (Has.cv (Has.s rfl) (Cv.trans (Cv.flds (CvL.cons Cv.fl (CvL.cons Cv.fl (CvL.cons Cv.fl (CvL.cons Cv.fl (CvL.cons Cv.fl (CvL.cons Cv.fl (CvL.cons Cv.fl CvL.nil)))))))) (Cv.close (T := []) (chLoss x3.1))))) HasAll.nil)))) (ao (so (Spec.move (Has.s rfl))) (ao (so (Spec.ext0 (Has.s rfl))) (ao (so (Spec.ext1 (Has.s rfl))) (ao (StepG.stE (Step.allocObj (ls := [(false, 1, Fact.rep [] ((0 : UInt32) : UInt32)), (false, 1, Fact.rep [] ((0 : Int) : Int)), (false, 1, Fact.rep [] (false : Bool)), (false, 1, Fact.rep [] ((0 : Int) : Int)), (false, 1, Fact.rep [] ((0 : Int) : Int)), (false, 1, Fact.rep [] (false : Bool)), (false, 1, Fact.rep [] (false : Bool))]) 23 rfl rfl rfl rfl zl26)) (ao (StepG.stE (Step.storeObj (ls := [(false, 1, Fact.rep [] (x5.1.Events : UInt32)), (false, 1, Fact.rep [] (x5.1.Lost : Int)), (false, 1, Fact.rep [] (x5.1.Spare : Bool)), (false, 1, Fact.rep [] (x5.1.Pos : Int)), (false, 1, Fact.rep [] (x5.1.Done : Int)), (false, 1, Fact.rep [] (x5.1.NoLog : Bool)), (false, 1, Fact.rep [] (x5.1.Broken : Bool))]) rfl ty26 rfl rfl (Has.s rfl) rfl (HasL.flds (Has.cv (Has.s rfl) (Cv.trans (Cv.opens (chLoss x5.1)) (Cv.flds (CvL.cons Cv.fl (CvL.cons Cv.fl (CvL.cons Cv.fl (CvL.cons Cv.fl (CvL.cons Cv.fl (CvL.cons Cv.fl (CvL.cons Cv.fl CvL.nil))))))))))) rfl)) (ao (so (Spec.assign (Has.s rfl))) AllM.nil))))))))) ?_
 refine Leaf.thenN ?_
 refine CWalk.seq ?_
 obtain ⟨x6, hx6, hm⟩ := bind_some hm
 obtain ⟨x7, hx7, hm⟩ := bind_some hm
 refine CWalk.drawM [[], [], [0, 1], [0, 1, 2], [0, 1, 2, 3], [0, 1, 2, 3], [], [0, 1, 2, 3, 4, 6], [0, 1, 2, 3, 4, 5, 6, 7]] [[.fact 20 (Fact.rep [] (x6 : Config))], [.fact 21 (Fact.flds [(false, 1, Fact.rep [] (x5.1.Events : UInt32)), (false, 1, Fact.rep [] (x5.1.Lost : Int)), (false, 1, Fact.rep [] (x5.1.Spare : Bool)), (false, 1, Fact.rep [] (x5.1.Pos : Int)), (false, 1, Fact.rep [] (x5.1.Done : Int)), (false, 1, Fact.rep [] (x5.1.NoLog : Bool)), (false, 1, Fact.rep [] (x5.1.Broken : Bool))])], [.fact 22 (Fact.tup2 (Fact.rep [] (x7.1 : Loss)) (Fact.rep [] (x7.2 : Int)))], [.fact 19 (Fact.tup2 (Fact.rep [] (x7.1 : Loss)) (Fact.rep [] (x7.2 : Int)))], [.fact 23 (Fact.rep [] (x7.1 : Loss))], [.fact 24 (Fact.rep [] (x7.2 : Int))], [.fact 5 (.isv 33), .fact 100033 (Fact.obj 33 [(false, 1), (false, 1), (false, 1), (false, 1), (false, 1), (false, 1), (false, 1)]), .fact 100034 (Fact.at 34 (Fact.rep [] ((0 : UInt32) : UInt32))), .fact 100035 (Fact.at 35 (Fact.rep [] ((0 : Int) : Int))), .fact 100036 (Fact.at 36 (Fact.rep [] (false : Bool))), .fact 100037 (Fact.at 37 (Fact.rep [] ((0 : Int) : Int))), .fact 100038 (Fact.at 38 (Fact.rep [] ((0 : Int) : Int))), .fact 100039 (Fact.at 39 (Fact.rep [] (false : Bool))), .fact 100040 (Fact.at 40 (Fact.rep [] (false : Bool))), .killId 33, .killId 34, .killId 35, .killId 36, .killId 37, .killId 38, .killId 39, .killId 40], [.fact 100033 (Fact.obj 33 [(false, 1), (false, 1), (false, 1), (false, 1), (false, 1), (false, 1), (false, 1)]), .fact 100034 (Fact.at 34 (Fact.rep [] (x7.1.Events : UInt32))), .fact 100035 (Fact.at 35 (Fact.rep [] (x7.1.Lost : Int))), .fact 100036 (Fact.at 36 (Fact.rep [] (x7.1.Spare : Bool))), .fact 100037 (Fact.at 37 (Fact.rep [] (x7.1.Pos : Int))), .fact 100038 (Fact.at 38 (Fact.rep [] (x7.1.Done : Int))), .fact 100039 (Fact.at 39 (Fact.rep [] (x7.1.NoLog : Bool))), .fact 100040 (Fact.at 40 (Fact.rep [] (x7.1.Broken : Bool))), .kill 33, .killId 34, .killId 35, .killId 36, .killId 37, .killId 38, .killId 39, .killId 40], [.fact 6 (Fact.rep [] (x7.2 : Int))]] mixed (by kernel_rfl) (ao (so (Spec.callE [] 31 rfl en24 (law23_three_c  hx6) HasAll.nil)) (ao (so (Spec.loadObj (ls := [(false, 1, Fact.rep [] (x5.1.Events : UInt32)), (false, 1, Fact.rep [] (x5.1.Lost : Int)), (false, 1, Fact.rep [] (x5.1.Spare : Bool)), (false, 1, Fact.rep [] (x5.1.Pos : Int)), (false, 1, Fact.rep [] (x5.1.Done : Int)), (false, 1, Fact.rep [] (x5.1.NoLog : Bool)), (false, 1, Fact.rep [] (x5.1.Broken : Bool))]) ty26 rfl rfl (Has.s rfl) rfl (HasGs.cons (HasG.s rfl) (HasGs.cons (HasG.s rfl) (HasGs.cons (HasG.s rfl) (HasGs.cons (HasG.s rfl) (HasGs.cons (HasG.s rfl) (HasGs.cons (HasG.s rfl) (HasGs.cons (HasG.s rfl) HasGs.nil))))))))) (ao (so (Spec.callE [] 32 rfl en14 (loss_Go_c x6 x5.1 hx7) (HasAll.cons (Has.fl (Has.s rfl)) (HasAll.cons (Has.fl (Has.cv (Has.s rfl) (Cv.trans (Cv.flds (CvL.cons Cv.fl (CvL.cons Cv.fl (CvL.cons Cv.fl (CvL.cons Cv.fl (CvL.cons Cv.fl (CvL.cons Cv.fl (CvL.cons Cv.fl CvL.nil)))))))) (Cv.close (T := []) (chLoss x5.1))))) HasAll.nil)))) (ao (so (Spec.move (Has.s rfl))) (ao (so (Spec.ext0 (Has.s rfl))) (ao (so (Spec.ext1 (Has.s rfl))) (ao (StepG.stE (Step.allocObj (ls := [(false, 1, Fact.rep [] ((0 : UInt32) : UInt32)), (false, 1, Fact.rep [] ((0 : Int) : Int)), (false, 1, Fact.rep [] (false : Bool)), (false, 1, Fact.rep [] ((0 : Int) : Int)), (false, 1, Fact.rep [] ((0 : Int) : Int)), (false, 1, Fact.rep [] (false : Bool)), (false, 1, Fact.rep [] (false : Bool))]) 33 rfl rfl rfl rfl zl26)) (ao (StepG.stE (Step.storeObj (ls := [(false, 1, Fact.rep [] (x7.1.Events : UInt32)), (false, 1, Fact.rep [] (x7.1.Lost : Int)), (false, 1, Fact.rep [] (x7.1.Spare : Bool)), (false, 1, Fact.rep [] (x7.1.Pos : Int)), (false, 1, Fact.rep [] (x7.1.Done : Int)), (false, 1, Fact.rep [] (x7.1.NoLog : Bool)), (false, 1, Fact.rep [] (x7.1.Broken : Bool))]) rfl ty26 rfl rfl (Has.s rfl) rfl (HasL.flds (Has.cv (Has.s rfl) (Cv.trans (Cv.opens (chLoss x7.1)) (Cv.flds (CvL.cons Cv.fl (CvL.cons Cv.fl (CvL.cons Cv.fl (CvL.cons Cv.fl (CvL.cons Cv.fl (CvL.cons Cv.fl (CvL.cons Cv.fl CvL.nil))))))))))) rfl)) (ao (so (Spec.assign (Has.s rfl))) AllM.nil))))))))) ?_
 refine Leaf.thenN ?_
 refine CWalk.seq ?_
 refine CWalk.region ?_
 refine mv ?_
 refine wo (Spec.eqlI (Has.s rfl) Has.int) ?_
 refine mv ?_
 refine wg rfl rfl (fun hb => Spec.move (Has.s rfl)) ?_
 refine wg rfl rfl (fun hb => Spec.eqlI (Has.u rfl hb) Has.int) ?_
 refine wo (Spec.and (Has.s rfl) (fun h => Has.u rfl h)) ?_
 refine mv ?_
 refine wg rfl rfl (fun hb => Spec.move (Has.s rfl)) ?_
 refine wg rfl rfl (fun hb => Spec.eqlI (Has.u rfl hb) Has.int) ?_
 refine wo (Spec.and (Has.s rfl) (fun h => Has.u rfl h)) ?_
 refine mv ?_
 obtain ⟨x8, hx8, hm⟩ := bind_some hm
 refine wg (f := Fact.rep [] (x8 : Loss)) rfl rfl (fun hb => Spec.callE [] 41 rfl en21 (law23_nobody_c  (gO_t hx8 hb)) HasAll.nil) ?_
 obtain ⟨x9, hx9, hm⟩ := bind_some hm
 refine wg (f := Fact.rep [] (x9 : Bool)) rfl rfl (fun hb => Spec.callE [] 42 rfl en23 (law23_misses_c x8 (-1 : Int) (-1 : Int) (gO_t hx9 hb)) (HasAll.cons (Has.fl (Has.u rfl hb)) (HasAll.cons (Has.fl Has.int) (HasAll.cons (Has.fl Has.int) HasAll.nil)))) ?_
 refine wo (Spec.and (Has.s rfl) (fun h => Has.u rfl h)) ?_
 refine mv ?_
 refine wg rfl rfl (fun hb => Spec.loadObj (ls := [(false, 1, Fact.rep [] (x3.1.Events : UInt32)), (false, 1, Fact.rep [] (x3.1.Lost : Int)), (false, 1, Fact.rep [] (x3.1.Spare : Bool)), (false, 1, Fact.rep [] (x3.1.Pos : Int)), (false, 1, Fact.rep [] (x3.1.Done : Int)), (false, 1, Fact.rep [] (x3.1.NoLog : Bool)), (false, 1, Fact.rep [] (x3.1.Broken : Bool))]) ty26 rfl rfl (Has.s rfl) rfl (HasGs.cons (HasG.s rfl) (HasGs.cons (HasG.s rfl) (HasGs.cons (HasG.s rfl) (HasGs.cons (HasG.s rfl) (HasGs.cons (HasG.s rfl) (HasGs.cons (HasG.s rfl) (HasGs.cons (HasG.s rfl) HasGs.nil)))))))) ?_
 obtain ⟨x10, hx10, hm⟩ := bind_some hm
 refine wg (f := Fact.rep [] (x10 : Bool)) rfl rfl (fun hb => Spec.callE [] 43 rfl en23 (law23_misses_c x3.1 (1 : Int) (1 : Int) (gO_t hx10 hb)) (HasAll.cons (Has.fl (Has.cv (Has.u rfl hb) (Cv.trans (Cv.flds (CvL.cons Cv.fl (CvL.cons Cv.fl (CvL.cons Cv.fl (CvL.cons Cv.fl (CvL.cons Cv.fl (CvL.cons Cv.fl (CvL.cons Cv.fl CvL.nil)))))))) (Cv.close (T := []) (chLoss x3.1))))) (HasAll.cons (Has.fl Has.int) (HasAll.cons (Has.fl Has.int) HasAll.nil)))) ?_
 refine wo (Spec.and (Has.s rfl) (fun h => Has.u rfl h)) ?_
 refine mv ?_
 refine wg rfl rfl (fun hb => Spec.loadObj (ls := [(false, 1, Fact.rep [] (x5.1.Events : UInt32)), (false, 1, Fact.rep [] (x5.1.Lost : Int)), (false, 1, Fact.rep [] (x5.1.Spare : Bool)), (false, 1, Fact.rep [] (x5.1.Pos : Int)), (false, 1, Fact.rep [] (x5.1.Done : Int)), (false, 1, Fact.rep [] (x5.1.NoLog : Bool)), (false, 1, Fact.rep [] (x5.1.Broken : Bool))]) ty26 rfl rfl (Has.s rfl) rfl (HasGs.cons (HasG.s rfl) (HasGs.cons (HasG.s rfl) (HasGs.cons (HasG.s rfl) (HasGs.cons (HasG.s rfl) (HasGs.cons (HasG.s rfl) (HasGs.cons (HasG.s rfl) (HasGs.cons (HasG.s rfl) HasGs.nil)))))))) ?_
 obtain ⟨x11, hx11, hm⟩ := bind_some hm
 refine wg (f := Fact.rep [] (x11 : Bool)) rfl rfl (fun hb => Spec.callE [] 44 rfl en23 (law23_misses_c x5.1 (1 : Int) (1 : Int) (gO_t hx11 hb)) (HasAll.cons (Has.fl (Has.cv (Has.u rfl hb) (Cv.trans (Cv.flds (CvL.cons Cv.fl (CvL.cons Cv.fl (CvL.cons Cv.fl (CvL.cons Cv.fl (CvL.cons Cv.fl (CvL.cons Cv.fl (CvL.cons Cv.fl CvL.nil)))))))) (Cv.close (T := []) (chLoss x5.1))))) (HasAll.cons (Has.fl Has.int) (HasAll.cons (Has.fl Has.int) HasAll.nil)))) ?_
 refine wo (Spec.and (Has.s rfl) (fun h => Has.u rfl h)) ?_
 refine mv ?_
 refine wg rfl rfl (fun hb => Spec.loadObj (ls := [(false, 1, Fact.rep [] (x7.1.Events : UInt32)), (false, 1, Fact.rep [] (x7.1.Lost : Int)), (false, 1, Fact.rep [] (x7.1.Spare : Bool)), (false, 1, Fact.rep [] (x7.1.Pos : Int)), (false, 1, Fact.rep [] (x7.1.Done : Int)), (false, 1, Fact.rep [] (x7.1.NoLog : Bool)), (false, 1, Fact.rep [] (x7.1.Broken : Bool))]) ty26 rfl rfl (Has.s rfl) rfl (HasGs.cons (HasG.s rfl) (HasGs.cons (HasG.s rfl) (HasGs.cons (HasG.s rfl) (HasGs.cons (HasG.s rfl) (HasGs.cons (HasG.s rfl) (HasGs.cons (HasG.s rfl) (HasGs.cons (HasG.s rfl) HasGs.nil)))))))) ?_
 obtain ⟨x12, hx12, hm⟩ := bind_some hm
 refine wg (f := Fact.rep [] (x12 : Bool)) rfl rfl (fun hb => Spec.callE [] 45 rfl en23 (law23_misses_c x7.1 (-1 : Int) (1 : Int) (gO_t hx12 hb)) (HasAll.cons (Has.fl (Has.cv (Has.u rfl hb) (Cv.trans (Cv.flds (CvL.cons Cv.fl (CvL.cons Cv.fl (CvL.cons Cv.fl (CvL.cons Cv.fl (CvL.cons Cv.fl (CvL.cons Cv.fl (CvL.cons Cv.fl CvL.nil)))))))) (Cv.close (T := []) (chLoss x7.1))))) (HasAll.cons (Has.fl Has.int) (HasAll.cons (Has.fl Has.int) HasAll.nil)))) ?_
 refine wo (Spec.and (Has.s rfl) (fun h => Has.u rfl h)) ?_
 refine wo (Spec.assign (Has.s rfl)) ?_
 refine Walk.nil ?_
 refine Leaf.thenN ?_
 refine CWalk.ret ?_
 obtain rfl := Option.some.inj hm
 exact Leaf.retC1 rfl (HasR.cv (HasR.tmp (Has.s rfl)) Cv.fl)

/-- freeboard/freeboardlaw23.step -/
def law23_step (a0 : Loss) (a1 : UInt8) (a2 : Int) : Option (Loss × Int) :=
  Option.bind (remB a1 (4 : UInt8)) (fun x1 => (bif (x1 == (0 : UInt8)) then Option.bind (law23_three) (fun x2 => Option.bind (loss_Die x2 a0 a2 false) (fun x3 => some (x3.1, x3.2))) else (bif (x1 == (1 : UInt8)) then Option.bind (law23_three) (fun x4 => Option.bind (loss_Spare x4 a0) (fun x5 => some (x5.1, x5.2))) else (bif (x1 == (2 : UInt8)) then Option.bind (law23_three) (fun x6 => Option.bind (loss_Go x6 a0) (fun x7 => some (x7.1, x7.2))) else Option.bind (law23_three) (fun x8 => Option.bind (loss_Mark x8 a0) (fun x9 => some (x9.1, x9.2)))))))
set_option maxRecDepth 100000 in
set_option maxHeartbeats 2000000 in
theorem law23_step_c (a0 : Loss) (a1 : UInt8) (a2 : Int) {r : Loss × Int} (hm : law23_step a0 a1 a2 = some r) : Ctr Try.prog 22 [.rep 0 a0, .rep 0 a1, .rep 0 a2] (.tup2 (.fl r.1) (.fl r.2)) [] := by
 refine ctr_of_walk [[]] 37 Try.func22 rfl rfl rfl rfl (fun w0 om => ?_)
 unfold law23_step at hm
 refine CWalk.sub (G' := [.fact 0 (Fact.rep [] (a0 : Loss)), .fact 1 (Fact.rep [] (a1 : UInt8)), .fact 2 (Fact.rep [] (a2 : Int))]) (Sub.cons (Has.fl (Has.s rfl)) (Sub.cons (Has.fl (Has.s rfl)) (Sub.cons (Has.fl (Has.s rfl)) Sub.nil))) ?_
 refine CWalk.seq ?_
 refine CWalk.region ?_
 refine ws (Step.boxObj (ls := [(false, 1, Fact.rep [] (a0.Events : UInt32)), (false, 1, Fact.rep [] (a0.Lost : Int)), (false, 1, Fact.rep [] (a0.Spare : Bool)), (false, 1, Fact.rep [] (a0.Pos : Int)), (false, 1, Fact.rep [] (a0.Done : Int)), (false, 1, Fact.rep [] (a0.NoLog : Bool)), (false, 1, Fact.rep [] (a0.Broken : Bool))]) 10 rfl rfl rfl rfl (HasL.flds (Has.cv (Has.s rfl) (Cv.trans (Cv.opens (chLoss a0)) (Cv.flds (CvL.cons Cv.fl (CvL.cons Cv.fl (CvL.cons Cv.fl (CvL.cons Cv.fl (CvL.cons Cv.fl (CvL.cons Cv.fl (CvL.cons Cv.fl CvL.nil)))))))))))) ?_
 refine ws (Step.allocObj (ls := [(false, 1, Fact.rep [] ((0 : UInt32) : UInt32)), (false, 1, Fact.rep [] ((0 : Int) : Int)), (false, 1, Fact.rep [] (false : Bool)), (false, 1, Fact.rep [] ((0 : Int) : Int)), (false, 1, Fact.rep [] ((0 : Int) : Int)), (false, 1, Fact.rep [] (false : Bool)), (false, 1, Fact.rep [] (false : Bool))]) 18 rfl rfl rfl rfl zl26) ?_
 refine wo (Spec.assign Has.int) ?_
 refine Walk.nil ?_
 refine Leaf.thenN ?_
 refine CWalk.seq ?_
 refine CWalk.seq ?_
 refine CWalk.region ?_
 refine mv ?_
 obtain ⟨x1, hx1, hm⟩ := bind_some hm
 refine wo (Spec.remB hx1 (Has.s rfl) (Has.u8 4 rfl)) ?_
 refine Walk.nil ?_
 refine Leaf.thenN ?_
 refine CWalk.block ?_
 refine CWalk.seq ?_
 refine CWalk.region ?_
 refine wo (Spec.eqlB (Has.s rfl) (Has.u8 0 rfl)) ?_
 refine wo (Spec.assign (Has.s rfl)) ?_
 refine Walk.nil ?_
 refine Leaf.thenN ?_
 refine CWalk.cond rfl (fun hb => ?_) (fun hb => ?_)
 ·have hm := cond_t hb hm
  refine CWalk.seq ?_
  obtain ⟨x2, hx2, hm⟩ := bind_some hm
  obtain ⟨x3, hx3, hm⟩ := bind_some hm
  refine CWalk.drawM [[], [], [], [0, 1, 2], [0, 1, 2, 3], [0, 1, 2, 3], [0, 1, 2, 3, 4, 5], [0, 1, 2, 3, 4, 5, 6]] [[.fact 12 (Fact.rep [] (x2 : Config))], [.fact 13 (Fact.flds [(false, 1, Fact.rep [] (a0.Events : UInt32)), (false, 1, Fact.rep [] (a0.Lost : Int)), (false, 1, Fact.rep [] (a0.Spare : Bool)), (false, 1, Fact.rep [] (a0.Pos : Int)), (false, 1, Fact.rep [] (a0.Done : Int)), (false, 1, Fact.rep [] (a0.NoLog : Bool)), (false, 1, Fact.rep [] (a0.Broken : Bool))])], [.fact 14 (Fact.rep [] (a2 : Int))], [.fact 15 (Fact.tup2 (Fact.rep [] (x3.1 : Loss)) (Fact.rep [] (x3.2 : Int)))], [.fact 16 (Fact.rep [] (x3.1 : Loss))], [.fact 17 (Fact.rep [] (x3.2 : Int))], [.fact 100018 (Fact.obj 18 [(false, 1), (false, 1), (false, 1), (false, 1), (false, 1), (false, 1), (false, 1)]), .fact 100019 (Fact.at 19 (Fact.rep [] (x3.1.Events : UInt32))), .fact 100020 (Fact.at 20 (Fact.rep [] (x3.1.Lost : Int))), .fact 100021 (Fact.at 21 (Fact.rep [] (x3.1.Spare : Bool))), .fact 100022 (Fact.at 22 (Fact.rep [] (x3.1.Pos : Int))), .fact 100023 (Fact.at 23 (Fact.rep [] (x3.1.Done : Int))), .fact 100024 (Fact.at 24 (Fact.rep [] (x3.1.NoLog : Bool))), .fact 100025 (Fact.at 25 (Fact.rep [] (x3.1.Broken : Bool))), .kill 18, .killId 19, .killId 20, .killId 21, .killId 22, .killId 23, .killId 24, .killId 25], [.fact 7 (Fact.rep [] (x3.2 : Int))]] mixed (by kernel_rfl) (ao (so (Spec.callE [] 26 rfl en24 (law23_three_c  hx2) HasAll.nil)) (ao (so (Spec.loadObj (ls := [(false, 1, Fact.rep [] (a0.Events : UInt32)), (false, 1, Fact.rep [] (a0.Lost : Int)), (false, 1, Fact.rep [] (a0.Spare : Bool)), (false, 1, Fact.rep [] (a0.Pos : Int)), (false, 1, Fact.rep [] (a0.Done : Int)), (false, 1, Fact.rep [] (a0.NoLog : Bool)), (false, 1, Fact.rep [] (a0.Broken : Bool))]) ty26 rfl rfl (Has.s rfl) rfl (HasGs.cons (HasG.s rfl) (HasGs.cons (HasG.s rfl) (HasGs.cons (HasG.s rfl) (HasGs.cons (HasG.s rfl) (HasGs.cons (HasG.s rfl) (HasGs.cons (HasG.s rfl) (HasGs.cons (HasG.s rfl) HasGs.nil))))))))) (ao (so (Spec.move (Has.s rfl))) (ao (so (Spec.callE [] 27 rfl en10 (loss_Die_c x2 a0 a2 false hx3) (HasAll.cons (Has.fl (Has.s rfl)) (HasAll.cons (Has.fl (Has.cv (Has.s rfl) (Cv.trans (Cv.flds (CvL.cons Cv.fl (CvL.cons Cv.fl (CvL.cons Cv.fl (CvL.cons Cv.fl (CvL.cons Cv.fl (CvL.cons Cv.fl (CvL.cons Cv.fl CvL.nil)))))))) (Cv.close (T := []) (chLoss a0))))) (HasAll.cons (Has.fl (Has.s rfl)) (HasAll.cons (Has.fl Has.bool) HasAll.nil)))))) (ao (so (Spec.ext0 (Has.s rfl))) (ao (so (Spec.ext1 (Has.s rfl))) (ao (StepG.stE (Step.storeObj (ls := [(false, 1, Fact.rep [] (x3.1.Events : UInt32)), (false, 1, Fact.rep [] (x3.1.Lost : Int)), (false, 1, Fact.rep [] (x3.1.Spare : Bool)), (false, 1, Fact.rep [] (x3.1.Pos : Int)), (false, 1, Fact.rep [] (x3.1.Done : Int)), (false, 1, Fact.rep [] (x3.1.NoLog : Bool)), (false, 1, Fact.rep [] (x3.1.Broken : Bool))]) rfl ty26 rfl rfl (Has.s rfl) rfl (HasL.flds (Has.cv (Has.s rfl) (Cv.trans (Cv.opens (chLoss x3.1)) (Cv.flds (CvL.cons Cv.fl (CvL.cons Cv.fl (CvL.cons Cv.fl (CvL.cons Cv.fl (CvL.cons Cv.fl (CvL.cons Cv.fl (CvL.cons Cv.fl CvL.nil))))))))))) rfl)) (ao (so (Spec.assign (Has.s rfl))) AllM.nil)))))))) ?_
  refine Leaf.thenN ?_
  refine CWalk.ret ?_
  refine Leaf.blockR ?_
  refine Leaf.thenR ?_
  obtain rfl := Option.some.inj hm
  exact Leaf.retC2 rfl (HasR.cv (HasR.obj (ls := [(false, 1, Fact.rep [] (x3.1.Events : UInt32)), (false, 1, Fact.rep [] (x3.1.Lost : Int)), (false, 1, Fact.rep [] (x3.1.Spare : Bool)), (false, 1, Fact.rep [] (x3.1.Pos : Int)), (false, 1, Fact.rep [] (x3.1.Done : Int)), (false, 1, Fact.rep [] (x3.1.NoLog : Bool)), (false, 1, Fact.rep [] (x3.1.Broken : Bool))]) ty26 rfl rfl (Has.s rfl) rfl (HasGs.cons (HasG.s rfl) (HasGs.cons (HasG.s rfl) (HasGs.cons (HasG.s rfl) (HasGs.cons (HasG.s rfl) (HasGs.cons (HasG.s rfl) (HasGs.cons (HasG.s rfl) (HasGs.cons (HasG.s rfl) HasGs.nil)))))))) (Cv.trans (Cv.trans (Cv.flds (CvL.cons Cv.fl (CvL.cons Cv.fl (CvL.cons Cv.fl (CvL.cons Cv.fl (CvL.cons Cv.fl (CvL.cons Cv.fl (CvL.cons Cv.fl CvL.nil)))))))) (Cv.close (T := []) (chLoss x3.1))) Cv.fl)) (HasR.cv (HasR.tmp (Has.s rfl)) Cv.fl)
 ·have hm := cond_f hb hm
  refine CWalk.seq ?_
  refine CWalk.region ?_
  refine wo (Spec.eqlB (Has.s rfl) (Has.u8 1 rfl)) ?_
  refine wo (Spec.assign (Has.s rfl)) ?_
  refine Walk.nil ?_
  refine Leaf.thenN ?_
  refine CWalk.cond rfl (fun hb => ?_) (fun hb => ?_)
  ·have hm := cond_t hb hm
   refine CWalk.seq ?_
   obtain ⟨x4, hx4, hm⟩ := bind_some hm
   obtain ⟨x5, hx5, hm⟩ := bind_some hm
   refine CWalk.drawM [[], [], [0, 1], [0, 1, 2], [0, 1, 2], [0, 1, 2, 3, 4], [0, 1, 2, 3, 4, 5]] [[.fact 20 (Fact.rep [] (x4 : Config))], [.fact 21 (Fact.flds [(false, 1, Fact.rep [] (a0.Events : UInt32)), (false, 1, Fact.rep [] (a0.Lost : Int)), (false, 1, Fact.rep [] (a0.Spare : Bool)), (false, 1, Fact.rep [] (a0.Pos : Int)), (false, 1, Fact.rep [] (a0.Done : Int)), (false, 1, Fact.rep [] (a0.NoLog : Bool)), (false, 1, Fact.rep [] (a0.Broken : Bool))])], [.fact 22 (Fact.tup2 (Fact.rep [] (x5.1 : Loss)) (Fact.rep [] (x5.2 : Int)))], [.fact 23 (Fact.rep [] (x5.1 : Loss))], [.fact 24 (Fact.rep [] (x5.2 : Int))], [.fact 100018 (Fact.obj 18 [(false, 1), (false, 1), (false, 1), (false, 1), (false, 1), (false, 1), (false, 1)]), .fact 100019 (Fact.at 19 (Fact.rep [] (x5.1.Events : UInt32))), .fact 100020 (Fact.at 20 (Fact.rep [] (x5.1.Lost : Int))), .fact 100021 (Fact.at 21 (Fact.rep [] (x5.1.Spare : Bool))), .fact 100022 (Fact.at 22 (Fact.rep [] (x5.1.Pos : Int))), .fact 100023 (Fact.at 23 (Fact.rep [] (x5.1.Done : Int))), .fact 100024 (Fact.at 24 (Fact.rep [] (x5.1.NoLog : Bool))), .fact 100025 (Fact.at 25 (Fact.rep [] (x5.1.Broken : Bool))), .kill 18, .killId 19, .killId 20, .killId 21, .killId 22, .killId 23, .killId 24, .killId 25], [.fact 7 (Fact.rep [] (x5.2 : Int))]] mixed (by kernel_rfl) (ao (so (Spec.callE [] 28 rfl en24 (law23_three_c  hx4) HasAll.nil)) (ao (so (Spec.loadObj (ls := [(false, 1, Fact.rep [] (a0.Events : UInt32)), (false, 1, Fact.rep [] (a0.Lost : Int)), (false, 1, Fact.rep [] (a0.Spare : Bool)), (false, 1, Fact.rep [] (a0.Pos : Int)), (false, 1, Fact.rep [] (a0.Done : Int)), (false, 1, Fact.rep [] (a0.NoLog : Bool)), (false, 1, Fact.rep [] (a0.Broken : Bool))]) ty26 rfl rfl (Has.s rfl) rfl (HasGs.cons (HasG.s rfl) (HasGs.cons (HasG.s rfl) (HasGs.cons (HasG.s rfl) (HasGs.cons (HasG.s rfl) (HasGs.cons (HasG.s rfl) (HasGs.cons (HasG.s rfl) (HasGs.cons (HasG.s rfl) HasGs.nil))))))))) (ao (so (Spec.callE [] 29 rfl en12 (loss_Spare_c x4 a0 hx5) (HasAll.cons (Has.fl (Has.s rfl)) (HasAll.cons (Has.fl (Has.cv (Has.s rfl) (Cv.trans (Cv.flds (CvL.cons Cv.fl (CvL.cons Cv.fl (CvL.cons Cv.fl (CvL.cons Cv.fl (CvL.cons Cv.fl (CvL.cons Cv.fl (CvL.cons Cv.fl CvL.nil)))))))) (Cv.close (T := []) (chLoss a0))))) HasAll.nil)))) (ao (so (Spec.ext0 (Has.s rfl))) (ao (so (Spec.ext1 (Has.s rfl))) (ao (StepG.stE (Step.storeObj (ls := [(false, 1, Fact.rep [] (x5.1.Events : UInt32)), (false, 1, Fact.rep [] (x5.1.Lost : Int)), (false, 1, Fact.rep [] (x5.1.Spare : Bool)), (false, 1, Fact.rep [] (x5.1.Pos : Int)), (false, 1, Fact.rep [] (x5.1.Done : Int)), (false, 1, Fact.rep [] (x5.1.NoLog : Bool)), (false, 1, Fact.rep [] (x5.1.Broken : Bool))]) rfl ty26 rfl rfl (Has.s rfl) rfl (HasL.flds (Has.cv (Has.s rfl) (Cv.trans (Cv.opens (chLoss x5.1)) (Cv.flds (CvL.cons Cv.fl (CvL.cons Cv.fl (CvL.cons Cv.fl (CvL.cons Cv.fl (CvL.cons Cv.fl (CvL.cons Cv.fl (CvL.cons Cv.fl CvL.nil))))))))))) rfl)) (ao (so (Spec.assign (Has.s rfl))) AllM.nil))))))) ?_
   refine Leaf.thenN ?_
   refine CWalk.ret ?_
   refine Leaf.blockR ?_
   refine Leaf.thenR ?_
   obtain rfl := Option.some.inj hm
   exact Leaf.retC2 rfl (HasR.cv (HasR.obj (ls := [(false, 1, Fact.rep [] (x5.1.Events : UInt32)), (false, 1, Fact.rep [] (x5.1.Lost : Int)), (false, 1, Fact.rep [] (x5.1.Spare : Bool)), (false, 1, Fact.rep [] (x5.1.Pos : Int)), (false, 1, Fact.rep [] (x5.1.Done : Int)), (false, 1, Fact.rep [] (x5.1.NoLog : Bool)), (false, 1, Fact.rep [] (x5.1.Broken : Bool))]) ty26 rfl rfl (Has.s rfl) rfl (HasGs.cons (HasG.s rfl) (HasGs.cons (HasG.s rfl) (HasGs.cons (HasG.s rfl) (HasGs.cons (HasG.s rfl) (HasGs.cons (HasG.s rfl) (HasGs.cons (HasG.s rfl) (HasGs.cons (HasG.s rfl) HasGs.nil)))))))) (Cv.trans (Cv.trans (Cv.flds (CvL.cons Cv.fl (CvL.cons Cv.fl (CvL.cons Cv.fl (CvL.cons Cv.fl (CvL.cons Cv.fl (CvL.cons Cv.fl (CvL.cons Cv.fl CvL.nil)))))))) (Cv.close (T := []) (chLoss x5.1))) Cv.fl)) (HasR.cv (HasR.tmp (Has.s rfl)) Cv.fl)
  ·have hm := cond_f hb hm
   refine CWalk.seq ?_
   refine CWalk.region ?_
   refine wo (Spec.eqlB (Has.s rfl) (Has.u8 2 rfl)) ?_
   refine wo (Spec.assign (Has.s rfl)) ?_
   refine Walk.nil ?_
   refine Leaf.thenN ?_
   refine CWalk.cond rfl (fun hb => ?_) (fun hb => ?_)
   ·have hm := cond_t hb hm
    refine CWalk.seq ?_
    obtain ⟨x6, hx6, hm⟩ := bind_some hm
    obtain ⟨x7, hx7, hm⟩ := bind_some hm
    refine CWalk.drawM [[], [], [0, 1], [0, 1, 2], [0, 1, 2], [0, 1, 2, 3, 4], [0, 1, 2, 3, 4, 5]] [[.fact 27 (Fact.rep [] (x6 : Config))], [.fact 28 (Fact.flds [(false, 1, Fact.rep [] (a0.Events : UInt32)), (false, 1, Fact.rep [] (a0.Lost : Int)), (false, 1, Fact.rep [] (a0.Spare : Bool)), (false, 1, Fact.rep [] (a0.Pos : Int)), (false, 1, Fact.rep [] (a0.Done : Int)), (false, 1, Fact.rep [] (a0.NoLog : Bool)), (false, 1, Fact.rep [] (a0.Broken : Bool))])], [.fact 29 (Fact.tup2 (Fact.rep [] (x7.1 : Loss)) (Fact.rep [] (x7.2 : Int)))], [.fact 30 (Fact.rep [] (x7.1 : Loss))], [.fact 31 (Fact.rep [] (x7.2 : Int))], [.fact 100018 (Fact.obj 18 [(false, 1), (false, 1), (false, 1), (false, 1), (false, 1), (false, 1), (false, 1)]), .fact 100019 (Fact.at 19 (Fact.rep [] (x7.1.Events : UInt32))), .fact 100020 (Fact.at 20 (Fact.rep [] (x7.1.Lost : Int))), .fact 100021 (Fact.at 21 (Fact.rep [] (x7.1.Spare : Bool))), .fact 100022 (Fact.at 22 (Fact.rep [] (x7.1.Pos : Int))), .fact 100023 (Fact.at 23 (Fact.rep [] (x7.1.Done : Int))), .fact 100024 (Fact.at 24 (Fact.rep [] (x7.1.NoLog : Bool))), .fact 100025 (Fact.at 25 (Fact.rep [] (x7.1.Broken : Bool))), .kill 18, .killId 19, .killId 20, .killId 21, .killId 22, .killId 23, .killId 24, .killId 25], [.fact 7 (Fact.rep [] (x7.2 : Int))]] mixed (by kernel_rfl) (ao (so (Spec.callE [] 30 rfl en24 (law23_three_c  hx6) HasAll.nil)) (ao (so (Spec.loadObj (ls := [(false, 1, Fact.rep [] (a0.Events : UInt32)), (false, 1, Fact.rep [] (a0.Lost : Int)), (false, 1, Fact.rep [] (a0.Spare : Bool)), (false, 1, Fact.rep [] (a0.Pos : Int)), (false, 1, Fact.rep [] (a0.Done : Int)), (false, 1, Fact.rep [] (a0.NoLog : Bool)), (false, 1, Fact.rep [] (a0.Broken : Bool))]) ty26 rfl rfl (Has.s rfl) rfl (HasGs.cons (HasG.s rfl) (HasGs.cons (HasG.s rfl) (HasGs.cons (HasG.s rfl) (HasGs.cons (HasG.s rfl) (HasGs.cons (HasG.s rfl) (HasGs.cons (HasG.s rfl) (HasGs.cons (HasG.s rfl) HasGs.nil))))))))) (ao (so (Spec.callE [] 31 rfl en14 (loss_Go_c x6 a0 hx7) (HasAll.cons (Has.fl (Has.s rfl)) (HasAll.cons (Has.fl (Has.cv (Has.s rfl) (Cv.trans (Cv.flds (CvL.cons Cv.fl (CvL.cons Cv.fl (CvL.cons Cv.fl (CvL.cons Cv.fl (CvL.cons Cv.fl (CvL.cons Cv.fl (CvL.cons Cv.fl CvL.nil)))))))) (Cv.close (T := []) (chLoss a0))))) HasAll.nil)))) (ao (so (Spec.ext0 (Has.s rfl))) (ao (so (Spec.ext1 (Has.s rfl))) (ao (StepG.stE (Step.storeObj (ls := [(false, 1, Fact.rep [] (x7.1.Events : UInt32)), (false, 1, Fact.rep [] (x7.1.Lost : Int)), (false, 1, Fact.rep [] (x7.1.Spare : Bool)), (false, 1, Fact.rep [] (x7.1.Pos : Int)), (false, 1, Fact.rep [] (x7.1.Done : Int)), (false, 1, Fact.rep [] (x7.1.NoLog : Bool)), (false, 1, Fact.rep [] (x7.1.Broken : Bool))]) rfl ty26 rfl rfl (Has.s rfl) rfl (HasL.flds (Has.cv (Has.s rfl) (Cv.trans (Cv.opens (chLoss x7.1)) (Cv.flds (CvL.cons Cv.fl (CvL.cons Cv.fl (CvL.cons Cv.fl (CvL.cons Cv.fl (CvL.cons Cv.fl (CvL.cons Cv.fl (CvL.cons Cv.fl CvL.nil))))))))))) rfl)) (ao (so (Spec.assign (Has.s rfl))) AllM.nil))))))) ?_
    refine Leaf.thenN ?_
    refine CWalk.ret ?_
    refine Leaf.blockR ?_
    refine Leaf.thenR ?_
    obtain rfl := Option.some.inj hm
    exact Leaf.retC2 rfl (HasR.cv (HasR.obj (ls := [(false, 1, Fact.rep [] (x7.1.Events : UInt32)), (false, 1, Fact.rep [] (x7.1.Lost : Int)), (false, 1, Fact.rep [] (x7.1.Spare : Bool)), (false, 1, Fact.rep [] (x7.1.Pos : Int)), (false, 1, Fact.rep [] (x7.1.Done : Int)), (false, 1, Fact.rep [] (x7.1.NoLog : Bool)), (false, 1, Fact.rep [] (x7.1.Broken : Bool))]) ty26 rfl rfl (Has.s rfl) rfl (HasGs.cons (HasG.s rfl) (HasGs.cons (HasG.s rfl) (HasGs.cons (HasG.s rfl) (HasGs.cons (HasG.s rfl) (HasGs.cons (HasG.s rfl) (HasGs.cons (HasG.s rfl) (HasGs.cons (HasG.s rfl) HasGs.nil)))))))) (Cv.trans (Cv.trans (Cv.flds (CvL.cons Cv.fl (CvL.cons Cv.fl (CvL.cons Cv.fl (CvL.cons Cv.fl (CvL.cons Cv.fl (CvL.cons Cv.fl (CvL.cons Cv.fl CvL.nil)))))))) (Cv.close (T := []) (chLoss x7.1))) Cv.fl)) (HasR.cv (HasR.tmp (Has.s rfl)) Cv.fl)
   ·have hm := cond_f hb hm
    refine CWalk.skip ?_
    refine Leaf.blockN ?_
    refine Leaf.thenN ?_
    refine CWalk.seq ?_
    obtain ⟨x8, hx8, hm⟩ := bind_some hm
    obtain ⟨x9, hx9, hm⟩ := bind_some hm
    refine CWalk.drawM [[], [], [0, 1], [0, 1, 2], [0, 1, 2], [0, 1, 2, 3, 4], [0, 1, 2, 3, 4, 5]] [[.fact 32 (Fact.rep [] (x8 : Config))], [.fact 33 (Fact.flds [(false, 1, Fact.rep [] (a0.Events : UInt32)), (false, 1, Fact.rep [] (a0.Lost : Int)), (false, 1, Fact.rep [] (a0.Spare : Bool)), (false, 1, Fact.rep [] (a0.Pos : Int)), (false, 1, Fact.rep [] (a0.Done : Int)), (false, 1, Fact.rep [] (a0.NoLog : Bool)), (false, 1, Fact.rep [] (a0.Broken : Bool))])], [.fact 34 (Fact.tup2 (Fact.rep [] (x9.1 : Loss)) (Fact.rep [] (x9.2 : Int)))], [.fact 35 (Fact.rep [] (x9.1 : Loss))], [.fact 36 (Fact.rep [] (x9.2 : Int))], [.fact 100018 (Fact.obj 18 [(false, 1), (false, 1), (false, 1), (false, 1), (false, 1), (false, 1), (false, 1)]), .fact 100019 (Fact.at 19 (Fact.rep [] (x9.1.Events : UInt32))), .fact 100020 (Fact.at 20 (Fact.rep [] (x9.1.Lost : Int))), .fact 100021 (Fact.at 21 (Fact.rep [] (x9.1.Spare : Bool))), .fact 100022 (Fact.at 22 (Fact.rep [] (x9.1.Pos : Int))), .fact 100023 (Fact.at 23 (Fact.rep [] (x9.1.Done : Int))), .fact 100024 (Fact.at 24 (Fact.rep [] (x9.1.NoLog : Bool))), .fact 100025 (Fact.at 25 (Fact.rep [] (x9.1.Broken : Bool))), .kill 18, .killId 19, .killId 20, .killId 21, .killId 22, .killId 23, .killId 24, .killId 25], [.fact 7 (Fact.rep [] (x9.2 : Int))]] mixed (by kernel_rfl) (ao (so (Spec.callE [] 32 rfl en24 (law23_three_c  hx8) HasAll.nil)) (ao (so (Spec.loadObj (ls := [(false, 1, Fact.rep [] (a0.Events : UInt32)), (false, 1, Fact.rep [] (a0.Lost : Int)), (false, 1, Fact.rep [] (a0.Spare : Bool)), (false, 1, Fact.rep [] (a0.Pos : Int)), (false, 1, Fact.rep [] (a0.Done : Int)), (false, 1, Fact.rep [] (a0.NoLog : Bool)), (false, 1, Fact.rep [] (a0.Broken : Bool))]) ty26 rfl rfl (Has.s rfl) rfl (HasGs.cons (HasG.s rfl) (HasGs.cons (HasG.s rfl) (HasGs.cons (HasG.s rfl) (HasGs.cons (HasG.s rfl) (HasGs.cons (HasG.s rfl) (HasGs.cons (HasG.s rfl) (HasGs.cons (HasG.s rfl) HasGs.nil))))))))) (ao (so (Spec.callE [] 33 rfl en16 (loss_Mark_c x8 a0 hx9) (HasAll.cons (Has.fl (Has.s rfl)) (HasAll.cons (Has.fl (Has.cv (Has.s rfl) (Cv.trans (Cv.flds (CvL.cons Cv.fl (CvL.cons Cv.fl (CvL.cons Cv.fl (CvL.cons Cv.fl (CvL.cons Cv.fl (CvL.cons Cv.fl (CvL.cons Cv.fl CvL.nil)))))))) (Cv.close (T := []) (chLoss a0))))) HasAll.nil)))) (ao (so (Spec.ext0 (Has.s rfl))) (ao (so (Spec.ext1 (Has.s rfl))) (ao (StepG.stE (Step.storeObj (ls := [(false, 1, Fact.rep [] (x9.1.Events : UInt32)), (false, 1, Fact.rep [] (x9.1.Lost : Int)), (false, 1, Fact.rep [] (x9.1.Spare : Bool)), (false, 1, Fact.rep [] (x9.1.Pos : Int)), (false, 1, Fact.rep [] (x9.1.Done : Int)), (false, 1, Fact.rep [] (x9.1.NoLog : Bool)), (false, 1, Fact.rep [] (x9.1.Broken : Bool))]) rfl ty26 rfl rfl (Has.s rfl) rfl (HasL.flds (Has.cv (Has.s rfl) (Cv.trans (Cv.opens (chLoss x9.1)) (Cv.flds (CvL.cons Cv.fl (CvL.cons Cv.fl (CvL.cons Cv.fl (CvL.cons Cv.fl (CvL.cons Cv.fl (CvL.cons Cv.fl (CvL.cons Cv.fl CvL.nil))))))))))) rfl)) (ao (so (Spec.assign (Has.s rfl))) AllM.nil))))))) ?_
    refine Leaf.thenN ?_
    refine CWalk.ret ?_
    obtain rfl := Option.some.inj hm
    exact Leaf.retC2 rfl (HasR.cv (HasR.obj (ls := [(false, 1, Fact.rep [] (x9.1.Events : UInt32)), (false, 1, Fact.rep [] (x9.1.Lost : Int)), (false, 1, Fact.rep [] (x9.1.Spare : Bool)), (false, 1, Fact.rep [] (x9.1.Pos : Int)), (false, 1, Fact.rep [] (x9.1.Done : Int)), (false, 1, Fact.rep [] (x9.1.NoLog : Bool)), (false, 1, Fact.rep [] (x9.1.Broken : Bool))]) ty26 rfl rfl (Has.s rfl) rfl (HasGs.cons (HasG.s rfl) (HasGs.cons (HasG.s rfl) (HasGs.cons (HasG.s rfl) (HasGs.cons (HasG.s rfl) (HasGs.cons (HasG.s rfl) (HasGs.cons (HasG.s rfl) (HasGs.cons (HasG.s rfl) HasGs.nil)))))))) (Cv.trans (Cv.trans (Cv.flds (CvL.cons Cv.fl (CvL.cons Cv.fl (CvL.cons Cv.fl (CvL.cons Cv.fl (CvL.cons Cv.fl (CvL.cons Cv.fl (CvL.cons Cv.fl CvL.nil)))))))) (Cv.close (T := []) (chLoss x9.1))) Cv.fl)) (HasR.cv (HasR.tmp (Has.s rfl)) Cv.fl)

def law23_LossOne_J2 (s7 : Int) (j16 : Int) (j17 : Int) (j18 : Int) (j19 : Bool) (j20 : UInt32) (j21 : Int) (j22 : Bool) (j23 : Int) (j24 : Int) (j25 : Bool) (j26 : Bool) : Option (Ctl (Int × Int × Int × Bool × Int × UInt32 × Int × Bool × Int × Int × Bool × Bool) ((Unit) ⊕ (Unit))) :=
  some (Ctl.next (j16, j17, j18, j19, (wI (s7 + (1 : Int))), j20, j21, j22, j23, j24, j25, j26))
def law23_LossOne_J5 (s7 : Int) (x30 : Loss × Int) (j39 : Int) (j40 : Int) (j41 : Int) (j42 : Bool) (j43 : Int) (j44 : Int) : Option (Ctl (Int × Int × Int × Bool × Int × UInt32 × Int × Bool × Int × Int × Bool × Bool) ((Unit) ⊕ (Unit))) :=
  Option.bind (gO (!(x30.1.Broken != j42)) (law23_misses x30.1 j43 j44)) (fun x45 => Option.bind (gO (!((x30.1.Broken != j42) || (!x45))) (law23_three)) (fun x46 => Option.bind (gO (!((x30.1.Broken != j42) || (!x45))) (loss_Check x46 x30.1)) (fun x47 => (bif ((((x30.1.Broken != j42) || (!x45)) || (x47 != (0 : Int))) || x30.1.NoLog) then some (Ctl.brk (Sum.inr ())) else (law23_LossOne_J2 s7 j39 j40 j41 j42 x30.1.Events x30.1.Lost x30.1.Spare x30.1.Pos x30.1.Done x30.1.NoLog x30.1.Broken)))))
def law23_LossOne_J4 (s7 : Int) (x30 : Loss × Int) (j39 : Int) (j40 : Int) (j41 : Int) (j42 : Bool) (j43 : Int) : Option (Ctl (Int × Int × Int × Bool × Int × UInt32 × Int × Bool × Int × Int × Bool × Bool) ((Unit) ⊕ (Unit))) :=
  (bif (decide (j40 ≥ (2 : Int))) then (law23_LossOne_J5 s7 x30 j39 j40 j41 j42 j43 (-1 : Int)) else (law23_LossOne_J5 s7 x30 j39 j40 j41 j42 j43 j39))
def law23_LossOne_J3 (s7 : Int) (x30 : Loss × Int) (j39 : Int) (j40 : Int) (j41 : Int) (j42 : Bool) : Option (Ctl (Int × Int × Int × Bool × Int × UInt32 × Int × Bool × Int × Int × Bool × Bool) ((Unit) ⊕ (Unit))) :=
  (bif (decide (j40 ≥ (1 : Int))) then (law23_LossOne_J4 s7 x30 j39 j40 j41 j42 (-1 : Int)) else (law23_LossOne_J4 s7 x30 j39 j40 j41 j42 j39))
def law23_LossOne_L1 (a0 : List Op45) (s3 : Int) (s4 : Int) (s5 : Int) (s6 : Bool) (s7 : Int) (s8 : UInt32) (s9 : Int) (s10 : Bool) (s11 : Int) (s12 : Int) (s13 : Bool) (s14 : Bool) : Option (Ctl (Int × Int × Int × Bool × Int × UInt32 × Int × Bool × Int × Int × Bool × Bool) ((Unit) ⊕ (Unit))) :=
  (bif (decide (s7 < ((a0).length : Int))) then Option.bind (idx a0 s7) (fun x27 => Option.bind (remI (wI (x27.At.toNat : Int)) (3 : Int)) (fun x28 => Option.bind (idx a0 s7) (fun x29 => Option.bind (law23_step (Loss.mk s8 s9 s10 s11 s12 s13 s14) x29.Kind x28) (fun x30 => Option.bind (idx a0 s7) (fun x31 => Option.bind (remB x31.Kind (4 : UInt8)) (fun x32 => Option.bind (gO (!(x32 == (0 : UInt8))) (idx a0 s7)) (fun x33 => Option.bind (gO (!(x32 == (0 : UInt8))) (remB x33.Kind (4 : UInt8))) (fun x34 => Option.bind (gO (!((x32 == (0 : UInt8)) || ((((x34 == (1 : UInt8)) && (decide (s3 ≥ (0 : Int)))) && (decide (s4 < (0 : Int)))) && (!s6)))) (idx a0 s7)) (fun x35 => Option.bind (gO (!((x32 == (0 : UInt8)) || ((((x34 == (1 : UInt8)) && (decide (s3 ≥ (0 : Int)))) && (decide (s4 < (0 : Int)))) && (!s6)))) (remB x35.Kind (4 : UInt8))) (fun x36 => Option.bind (gO (!(((x32 == (0 : UInt8)) || ((((x34 == (1 : UInt8)) && (decide (s3 ≥ (0 : Int)))) && (decide (s4 < (0 : Int)))) && (!s6))) || (((x36 == (2 : UInt8)) && (decide (s4 ≥ (0 : Int)))) && (decide (s4 < (2 : Int)))))) (idx a0 s7)) (fun x37 => Option.bind (gO (!(((x32 == (0 : UInt8)) || ((((x34 == (1 : UInt8)) && (decide (s3 ≥ (0 : Int)))) && (decide (s4 < (0 : Int)))) && (!s6))) || (((x36 == (2 : UInt8)) && (decide (s4 ≥ (0 : Int)))) && (decide (s4 < (2 : Int)))))) (remB x37.Kind (4 : UInt8))) (fun x38 => (bif ((x30.2 == (0 : Int)) != ((((x32 == (0 : UInt8)) || ((((x34 == (1 : UInt8)) && (decide (s3 ≥ (0 : Int)))) && (decide (s4 < (0 : Int)))) && (!s6))) || (((x36 == (2 : UInt8)) && (decide (s4 ≥ (0 : Int)))) && (decide (s4 < (2 : Int))))) || ((x38 == (3 : UInt8)) && (decide (s4 > s5))))) then some (Ctl.brk (Sum.inr ())) else (bif (x30.2 != (0 : Int)) then (law23_LossOne_J2 s7 s3 s4 s5 s6 s8 s9 s10 s11 s12 s13 s14) else Option.bind (idx a0 s7) (fun x48 => Option.bind (remB x48.Kind (4 : UInt8)) (fun x49 => (bif (x49 == (0 : UInt8)) then (bif ((decide (s3 < (0 : Int))) || (s3 == x28)) then (law23_LossOne_J3 s7 x30 x28 (-1 : Int) (0 : Int) (s6 || ((decide (s3 ≥ (0 : Int))) && (s3 != x28)))) else (law23_LossOne_J3 s7 x30 s3 s4 s5 (s6 || ((decide (s3 ≥ (0 : Int))) && (s3 != x28))))) else (bif (x49 == (1 : UInt8)) then (law23_LossOne_J3 s7 x30 s3 (0 : Int) s5 s6) else (bif (x49 == (2 : UInt8)) then (law23_LossOne_J3 s7 x30 s3 (wI (s4 + (1 : Int))) s5 s6) else (bif (s4 == (2 : Int)) then (law23_LossOne_J3 s7 x30 (-1 : Int) (-1 : Int) (0 : Int) s6) else (law23_LossOne_J3 s7 x30 s3 s4 s4 s6))))))))))))))))))))) else some (Ctl.brk (Sum.inl ())))
/-- freeboard/freeboardlaw23.LossOne -/
def law23_LossOne (a0 : List Op45) : Option (Bool) :=
  Option.bind (law23_alive) (fun x1 => (bif ((decide (((a0).length : Int) > (100 : Int))) || (!x1)) then some x1 else Option.bind (law23_nobody) (fun x2 => Option.bind (loopM (fun s : Int × Int × Int × Bool × Int × UInt32 × Int × Bool × Int × Int × Bool × Bool => law23_LossOne_L1 a0 s.1 s.2.1 s.2.2.1 s.2.2.2.1 s.2.2.2.2.1 s.2.2.2.2.2.1 s.2.2.2.2.2.2.1 s.2.2.2.2.2.2.2.1 s.2.2.2.2.2.2.2.2.1 s.2.2.2.2.2.2.2.2.2.1 s.2.2.2.2.2.2.2.2.2.2.1 s.2.2.2.2.2.2.2.2.2.2.2) FUEL ((-1 : Int), (-1 : Int), (0 : Int), false, (0 : Int), x2.Events, x2.Lost, x2.Spare, x2.Pos, x2.Done, x2.NoLog, x2.Broken)) (fun b50 => Sum.elim (fun b51 => some true) (fun b52 => some false) b50))))
set_option maxRecDepth 100000 in
set_option maxHeartbeats 2000000 in
theorem law23_LossOne_c (a0 : List Op45) {r : Bool} (hm : law23_LossOne a0 = some r) : Ctr Try.prog 4 [.rep 0 a0] (.fl r) [] := by
 refine ctr_of_walk [[]] 178 Try.func4 rfl rfl rfl rfl (fun w0 om => ?_)
 unfold law23_LossOne at hm
 refine CWalk.sub (G' := [.fact 0 (Fact.rep [0] (a0 : List Op45))]) (sn Sub.nil) ?_
 refine CWalk.seq ?_
 refine CWalk.region ?_
 refine wo (Spec.assign Has.bool) ?_
 refine Walk.nil ?_
 refine Leaf.thenN ?_
 refine CWalk.seq ?_
 refine CWalk.region ?_
 obtain ⟨x1, hx1, hm⟩ := bind_some hm
 refine wo (f := Fact.rep [] (x1 : Bool)) (Spec.callE [] 10 rfl en20 (law23_alive_c  hx1) HasAll.nil) ?_
 refine wo (Spec.assign (Has.s rfl)) ?_
 refine Walk.nil ?_
 refine Leaf.thenN ?_
 refine CWalk.seq ?_
 refine CWalk.seq ?_
 refine CWalk.region ?_
 refine mv ?_
 refine wo (Spec.len (Has.s rfl) Try.underlying41) ?_
 refine wo (Spec.gtrI (Has.s rfl) Has.int) ?_
 refine mv ?_
 refine wg rfl rfl (fun hb => Spec.move (Has.s rfl)) ?_
 refine wg rfl rfl (fun hb => Spec.not (Has.u rfl hb)) ?_
 refine wo (Spec.or (Has.s rfl) (fun h => Has.u rfl h)) ?_
 refine Walk.nil ?_
 refine Leaf.thenN ?_
 refine CWalk.cond rfl (fun hb => ?_) (fun hb => ?_)
 ·have hm := cond_t hb hm
  refine CWalk.seq ?_
  refine CWalk.region ?_
  refine mv ?_
  refine wo (Spec.assign (Has.s rfl)) ?_
  refine Walk.nil ?_
  refine Leaf.thenN ?_
  refine CWalk.ret ?_
  refine Leaf.thenR ?_
  obtain rfl := Option.some.inj hm
  exact Leaf.retC1 rfl (HasR.cv (HasR.tmp (Has.s rfl)) Cv.fl)
 ·have hm := cond_f hb hm
  refine CWalk.skip ?_
  refine Leaf.thenN ?_
  refine CWalk.seq ?_
  refine CWalk.region ?_
  obtain ⟨x2, hx2, hm⟩ := bind_some hm
  refine wo (f := Fact.rep [] (x2 : Loss)) (Spec.callE [] 11 rfl en21 (law23_nobody_c  hx2) HasAll.nil) ?_
  refine ws (Step.allocObj (ls := [(false, 1, Fact.rep [] ((0 : UInt32) : UInt32)), (false, 1, Fact.rep [] ((0 : Int) : Int)), (false, 1, Fact.rep [] (false : Bool)), (false, 1, Fact.rep [] ((0 : Int) : Int)), (false, 1, Fact.rep [] ((0 : Int) : Int)), (false, 1, Fact.rep [] (false : Bool)), (false, 1, Fact.rep [] (false : Bool))]) 12 rfl rfl rfl rfl zl26) ?_
  refine ws (Step.storeObj (ls := [(false, 1, Fact.rep [] (x2.Events : UInt32)), (false, 1, Fact.rep [] (x2.Lost : Int)), (false, 1, Fact.rep [] (x2.Spare : Bool)), (false, 1, Fact.rep [] (x2.Pos : Int)), (false, 1, Fact.rep [] (x2.Done : Int)), (false, 1, Fact.rep [] (x2.NoLog : Bool)), (false, 1, Fact.rep [] (x2.Broken : Bool))]) rfl ty26 rfl rfl (Has.s rfl) rfl (HasL.flds (Has.cv (Has.s rfl) (Cv.trans (Cv.opens (chLoss x2)) (Cv.flds (CvL.cons Cv.fl (CvL.cons Cv.fl (CvL.cons Cv.fl (CvL.cons Cv.fl (CvL.cons Cv.fl (CvL.cons Cv.fl (CvL.cons Cv.fl CvL.nil))))))))))) rfl) ?_
  refine Walk.nil ?_
  refine Leaf.thenN ?_
  refine CWalk.seq ?_
  refine CWalk.region ?_
  refine wo (Spec.assign Has.int) ?_
  refine wo (Spec.assign Has.int) ?_
  refine wo (Spec.assign Has.int) ?_
  refine Walk.nil ?_
  refine Leaf.thenN ?_
  refine CWalk.seq ?_
  refine CWalk.region ?_
  refine wo (Spec.assign Has.bool) ?_
  refine Walk.nil ?_
  refine Leaf.thenN ?_
  refine CWalk.seq ?_
  refine CWalk.seq ?_
  refine CWalk.region ?_
  refine wo (Spec.assign Has.int) ?_
  refine Walk.nil ?_
  refine Leaf.thenN ?_
  refine CWalk.block ?_
  obtain ⟨b50, hb50, hm⟩ := bind_some hm
  refine CWalk.loop (fun s : Int × Int × Int × Bool × Int × UInt32 × Int × Bool × Int × Int × Bool × Bool => [.fact 0 (Fact.rep [0] (a0 : List Op45)), .fact 4 (Fact.isv 12), .fact 5 (Fact.rep [] (s.1 : Int)), .fact 6 (Fact.rep [] (s.2.1 : Int)), .fact 7 (Fact.rep [] (s.2.2.1 : Int)), .fact 8 (Fact.rep [] (s.2.2.2.1 : Bool)), .fact 9 (Fact.rep [] (s.2.2.2.2.1 : Int)), .fact 100013 (Fact.at 13 (Fact.rep [] (s.2.2.2.2.2.1 : UInt32))), .fact 100014 (Fact.at 14 (Fact.rep [] (s.2.2.2.2.2.2.1 : Int))), .fact 100015 (Fact.at 15 (Fact.rep [] (s.2.2.2.2.2.2.2.1 : Bool))), .fact 100016 (Fact.at 16 (Fact.rep [] (s.2.2.2.2.2.2.2.2.1 : Int))), .fact 100017 (Fact.at 17 (Fact.rep [] (s.2.2.2.2.2.2.2.2.2.1 : Int))), .fact 100018 (Fact.at 18 (Fact.rep [] (s.2.2.2.2.2.2.2.2.2.2.1 : Bool))), .fact 100019 (Fact.at 19 (Fact.rep [] (s.2.2.2.2.2.2.2.2.2.2.2 : Bool))), .fact 100012 (Fact.obj 12 [(false, 1), (false, 1), (false, 1), (false, 1), (false, 1), (false, 1), (false, 1)])]) (fun b : (Unit) ⊕ (Unit) => Sum.elim (fun b => (Exit.exit 0, [])) (fun b => (Exit.ret, [.fact 2 (Fact.rep [] (false : Bool))])) b) hb50 (su (sn (st (st (st (st (st (sf (sf (sf (sf (sf (sf (sf (sn Sub.nil))))))))))))))) ?_ ?_
  ·rintro ⟨s3, s4, s5, s6, s7, s8, s9, s10, s11, s12, s13, s14⟩ c15 hm
   replace hm : law23_LossOne_L1 a0 s3 s4 s5 s6 s7 s8 s9 s10 s11 s12 s13 s14 = some c15 := hm
   unfold law23_LossOne_L1 at hm
   show CWalk _ [.fact 0 (Fact.rep [0] (a0 : List Op45)), .fact 4 (Fact.isv 12), .fact 5 (Fact.rep [] (s3 : Int)), .fact 6 (Fact.rep [] (s4 : Int)), .fact 7 (Fact.rep [] (s5 : Int)), .fact 8 (Fact.rep [] (s6 : Bool)), .fact 9 (Fact.rep [] (s7 : Int)), .fact 100013 (Fact.at 13 (Fact.rep [] (s8 : UInt32))), .fact 100014 (Fact.at 14 (Fact.rep [] (s9 : Int))), .fact 100015 (Fact.at 15 (Fact.rep [] (s10 : Bool))), .fact 100016 (Fact.at 16 (Fact.rep [] (s11 : Int))), .fact 100017 (Fact.at 17 (Fact.rep [] (s12 : Int))), .fact 100018 (Fact.at 18 (Fact.rep [] (s13 : Bool))), .fact 100019 (Fact.at 19 (Fact.rep [] (s14 : Bool))), .fact 100012 (Fact.obj 12 [(false, 1), (false, 1), (false, 1), (false, 1), (false, 1), (false, 1), (false, 1)])] _ _
   refine CWalk.seq ?_
   refine CWalk.seq ?_
   refine CWalk.region ?_
   refine mv ?_
   refine mv ?_
   refine wo (Spec.len (Has.s rfl) Try.underlying41) ?_
   refine wo (Spec.lssI (Has.s rfl) (Has.s rfl)) ?_
   refine Walk.nil ?_
   refine Leaf.thenN ?_
   refine CWalk.cond rfl (fun hb => ?_) (fun hb => ?_)
   ·have hm := cond_t hb hm
    refine CWalk.skip ?_
    refine Leaf.thenN ?_
    refine CWalk.seqJ (fun p : Int × Int × Int × Bool × UInt32 × Int × Bool × Int × Int × Bool × Bool => [.fact 0 (Fact.rep [0] (a0 : List Op45)), .fact 4 (Fact.isv 12), .fact 5 (Fact.rep [] (p.1 : Int)), .fact 6 (Fact.rep [] (p.2.1 : Int)), .fact 7 (Fact.rep [] (p.2.2.1 : Int)), .fact 8 (Fact.rep [] (p.2.2.2.1 : Bool)), .fact 9 (Fact.rep [] (s7 : Int)), .fact 100013 (Fact.at 13 (Fact.rep [] (p.2.2.2.2.1 : UInt32))), .fact 100014 (Fact.at 14 (Fact.rep [] (p.2.2.2.2.2.1 : Int))), .fact 100015 (Fact.at 15 (Fact.rep [] (p.2.2.2.2.2.2.1 : Bool))), .fact 100016 (Fact.at 16 (Fact.rep [] (p.2.2.2.2.2.2.2.1 : Int))), .fact 100017 (Fact.at 17 (Fact.rep [] (p.2.2.2.2.2.2.2.2.1 : Int))), .fact 100018 (Fact.at 18 (Fact.rep [] (p.2.2.2.2.2.2.2.2.2.1 : Bool))), .fact 100019 (Fact.at 19 (Fact.rep [] (p.2.2.2.2.2.2.2.2.2.2 : Bool))), .fact 100012 (Fact.obj 12 [(false, 1), (false, 1), (false, 1), (false, 1), (false, 1), (false, 1), (false, 1)])]) (fun p : Int × Int × Int × Bool × UInt32 × Int × Bool × Int × Int × Bool × Bool => law23_LossOne_J2 s7 p.1 p.2.1 p.2.2.1 p.2.2.2.1 p.2.2.2.2.1 p.2.2.2.2.2.1 p.2.2.2.2.2.2.1 p.2.2.2.2.2.2.2.1 p.2.2.2.2.2.2.2.2.1 p.2.2.2.2.2.2.2.2.2.1 p.2.2.2.2.2.2.2.2.2.2 = some c15) ?_ ?_
    ·rintro ⟨j16, j17, j18, j19, j20, j21, j22, j23, j24, j25, j26⟩ hm
     replace hm : law23_LossOne_J2 s7 j16 j17 j18 j19 j20 j21 j22 j23 j24 j25 j26 = some c15 := hm
     unfold law23_LossOne_J2 at hm
     show CWalk _ [.fact 0 (Fact.rep [0] (a0 : List Op45)), .fact 4 (Fact.isv 12), .fact 5 (Fact.rep [] (j16 : Int)), .fact 6 (Fact.rep [] (j17 : Int)), .fact 7 (Fact.rep [] (j18 : Int)), .fact 8 (Fact.rep [] (j19 : Bool)), .fact 9 (Fact.rep [] (s7 : Int)), .fact 100013 (Fact.at 13 (Fact.rep [] (j20 : UInt32))), .fact 100014 (Fact.at 14 (Fact.rep [] (j21 : Int))), .fact 100015 (Fact.at 15 (Fact.rep [] (j22 : Bool))), .fact 100016 (Fact.at 16 (Fact.rep [] (j23 : Int))), .fact 100017 (Fact.at 17 (Fact.rep [] (j24 : Int))), .fact 100018 (Fact.at 18 (Fact.rep [] (j25 : Bool))), .fact 100019 (Fact.at 19 (Fact.rep [] (j26 : Bool))), .fact 100012 (Fact.obj 12 [(false, 1), (false, 1), (false, 1), (false, 1), (false, 1), (false, 1), (false, 1)])] _ _
     refine CWalk.region ?_
     refine mv ?_
     refine wo (Spec.addI (Has.s rfl) Has.int) ?_
     refine wo (Spec.assign (Has.s rfl)) ?_
     refine Walk.nil ?_
     exact Leaf.next hm (su (sn (st (st (st (st (st (sf (sf (sf (sf (sf (sf (sf (sn Sub.nil)))))))))))))))
    ·refine CWalk.block ?_
     refine CWalk.seq ?_
     refine CWalk.region ?_
     refine mv ?_
     refine mv ?_
     obtain ⟨x27, hx27, hm⟩ := bind_some hm
     refine wo (Spec.indexAddr hx27 sl41 (Has.s rfl) (Has.s rfl)) ?_
     refine wo (Spec.fieldAddrP fd45_1 (chOp45 x27) rfl (Has.s rfl)) ?_
     refine wo ((Spec.load ty5 (Has.s rfl)).flat (T' := [])) ?_
     refine wo (Spec.conv (α := UInt8) (β := Int) Try.underlying5 Try.underlying3 (Has.s rfl)) ?_
     obtain ⟨x28, hx28, hm⟩ := bind_some hm
     refine wo (Spec.remI hx28 (Has.s rfl) Has.int) ?_
     refine wo (Spec.assign (Has.s rfl)) ?_
     refine Walk.nil ?_
     refine Leaf.thenN ?_
     refine CWalk.seq ?_
     obtain ⟨x29, hx29, hm⟩ := bind_some hm
     obtain ⟨x30, hx30, hm⟩ := bind_some hm
     refine CWalk.drawM [[], [], [], [1, 2], [1, 2, 3], [1, 2, 3, 4], [], [0, 1, 2, 3, 4, 5, 6], [0, 1, 2, 3, 4, 5, 6, 7], [0, 1, 2, 3, 4, 5, 6, 7, 8], [0, 1, 2, 3, 4, 5, 6, 7, 8], [], [0, 1, 2, 3, 4, 5, 6, 7, 8, 9, 11], [0, 1, 2, 3, 4, 5, 6, 7, 8, 9, 10, 11, 12]] [[.fact 40 (Fact.flds [(false, 1, Fact.rep [] (s8 : UInt32)), (false, 1, Fact.rep [] (s9 : Int)), (false, 1, Fact.rep [] (s10 : Bool)), (false, 1, Fact.rep [] (s11 : Int)), (false, 1, Fact.rep [] (s12 : Int)), (false, 1, Fact.rep [] (s13 : Bool)), (false, 1, Fact.rep [] (s14 : Bool))])], [.fact 41 (Fact.rep [0] (a0 : List Op45))], [.fact 42 (Fact.rep [] (s7 : Int))], [.fact 43 (Fact.ptr [0] (x29 : Op45))], [.fact 44 (Fact.ptr [0] (x29.Kind : UInt8))], [.fact 45 (Fact.rep [] (x29.Kind : UInt8))], [.fact 46 (Fact.rep [] (x28 : Int))], [.fact 47 (Fact.tup2 (Fact.rep [] (x30.1 : Loss)) (Fact.rep [] (x30.2 : Int)))], [.fact 39 (Fact.tup2 (Fact.rep [] (x30.1 : Loss)) (Fact.rep [] (x30.2 : Int)))], [.fact 48 (Fact.rep [] (x30.1 : Loss))], [.fact 49 (Fact.rep [] (x30.2 : Int))], [.fact 11 (.isv 21), .fact 100021 (Fact.obj 21 [(false, 1), (false, 1), (false, 1), (false, 1), (false, 1), (false, 1), (false, 1)]), .fact 100022 (Fact.at 22 (Fact.rep [] ((0 : UInt32) : UInt32))), .fact 100023 (Fact.at 23 (Fact.rep [] ((0 : Int) : Int))), .fact 100024 (Fact.at 24 (Fact.rep [] (false : Bool))), .fact 100025 (Fact.at 25 (Fact.rep [] ((0 : Int) : Int))), .fact 100026 (Fact.at 26 (Fact.rep [] ((0 : Int) : Int))), .fact 100027 (Fact.at 27 (Fact.rep [] (false : Bool))), .fact 100028 (Fact.at 28 (Fact.rep [] (false : Bool))), .killId 21, .killId 22, .killId 23, .killId 24, .killId 25, .killId 26, .killId 27, .killId 28], [.fact 100021 (Fact.obj 21 [(false, 1), (false, 1), (false, 1), (false, 1), (false, 1), (false, 1), (false, 1)]), .fact 100022 (Fact.at 22 (Fact.rep [] (x30.1.Events : UInt32))), .fact 100023 (Fact.at 23 (Fact.rep [] (x30.1.Lost : Int))), .fact 100024 (Fact.at 24 (Fact.rep [] (x30.1.Spare : Bool))), .fact 100025 (Fact.at 25 (Fact.rep [] (x30.1.Pos : Int))), .fact 100026 (Fact.at 26 (Fact.rep [] (x30.1.Done : Int))), .fact 100027 (Fact.at 27 (Fact.rep [] (x30.1.NoLog : Bool))), .fact 100028 (Fact.at 28 (Fact.rep [] (x30.1.Broken : Bool))), .kill 21, .killId 22, .killId 23, .killId 24, .killId 25, .killId 26, .killId 27, .killId 28], [.fact 12 (Fact.rep [] (x30.2 : Int))]] mixed (by kernel_rfl) (ao (so (Spec.loadObj (ls := [(false, 1, Fact.rep [] (s8 : UInt32)), (false, 1, Fact.rep [] (s9 : Int)), (false, 1, Fact.rep [] (s10 : Bool)), (false, 1, Fact.rep [] (s11 : Int)), (false, 1, Fact.rep [] (s12 : Int)), (false, 1, Fact.rep [] (s13 : Bool)), (false, 1, Fact.rep [] (s14 : Bool))]) ty26 rfl rfl (Has.s rfl) rfl (HasGs.cons (HasG.s rfl) (HasGs.cons (HasG.s rfl) (HasGs.cons (HasG.s rfl) (HasGs.cons (HasG.s rfl) (HasGs.cons (HasG.s rfl) (HasGs.cons (HasG.s rfl) (HasGs.cons (HasG.s rfl) HasGs.nil))))))))) (ao (so (Spec.move (Has.s rfl))) (ao (so (Spec.move (Has.s rfl))) (ao (so (Spec.indexAddr hx29 sl41 (Has.s rfl) (Has.s rfl))) (ao (so (Spec.fieldAddrP fd45_0 (chOp45 x29) rfl (Has.s rfl))) (ao (so ((Spec.load ty5 (Has.s rfl)).flat (T' := []))) (ao (so (Spec.move (Has.s rfl))) (ao (so (Spec.callE [] 20 rfl en22 (law23_step_c (Loss.mk s8 s9 s10 s11 s12 s13 s14) x29.Kind x28 hx30) (HasAll.cons (Has.fl (Has.cv (Has.s rfl) (Cv.trans (Cv.flds (CvL.cons Cv.fl (CvL.cons Cv.fl (CvL.cons Cv.fl (CvL.cons Cv.fl (CvL.cons Cv.fl (CvL.cons Cv.fl (CvL.cons Cv.fl CvL.nil)))))))) (Cv.close (T := []) (chLoss (Loss.mk s8 s9 s10 s11 s12 s13 s14)))))) (HasAll.cons (Has.fl (Has.s rfl)) (HasAll.cons (Has.fl (Has.s rfl)) HasAll.nil))))) (ao (so (Spec.move (Has.s rfl))) (ao (so (Spec.ext0 (Has.s rfl))) (ao (so (Spec.ext1 (Has.s rfl))) (ao (StepG.stE (Step.allocObj (ls := [(false, 1, Fact.rep [] ((0 : UInt32) : UInt32)), (false, 1, Fact.rep [] ((0 : Int) : Int)), (false, 1, Fact.rep [] (false : Bool)), (false, 1, Fact.rep [] ((0 : Int) : Int)), (false, 1, Fact.rep [] ((0 : Int) : Int)), (false, 1, Fact.rep [] (false : Bool)), (false, 1, Fact.rep [] (false : Bool))]) 21 rfl rfl rfl rfl zl26)) (ao (StepG.stE (Step.storeObj (ls := [(false, 1, Fact.rep [] (x30.1.Events : UInt32)), (false, 1, Fact.rep [] (x30.1.Lost : Int)), (false, 1, Fact.rep [] (x30.1.Spare : Bool)), (false, 1, Fact.rep [] (x30.1.Pos : Int)), (false, 1, Fact.rep [] (x30.1.Done : Int)), (false, 1, Fact.rep [] (x30.1.NoLog : Bool)), (false, 1, Fact.rep [] (x30.1.Broken : Bool))]) rfl ty26 rfl rfl (Has.s rfl) rfl (HasL.flds (Has.cv (Has.s rfl) (Cv.trans (Cv.opens (chLoss x30.1)) (Cv.flds (CvL.cons Cv.fl (CvL.cons Cv.fl (CvL.cons Cv.fl (CvL.cons Cv.fl (CvL.cons Cv.fl (CvL.cons Cv.fl (CvL.cons Cv.fl CvL.nil))))))))))) rfl)) (ao (so (Spec.assign (Has.s rfl))) AllM.nil)))))))))))))) ?_
     refine Leaf.thenN ?_
     refine CWalk.seq ?_
     refine CWalk.region ?_
     refine mv ?_
     refine mv ?_
     obtain ⟨x31, hx31, hm⟩ := bind_some hm
     refine wo (Spec.indexAddr hx31 sl41 (Has.s rfl) (Has.s rfl)) ?_
     refine wo (Spec.fieldAddrP fd45_0 (chOp45 x31) rfl (Has.s rfl)) ?_
     refine wo ((Spec.load ty5 (Has.s rfl)).flat (T' := [])) ?_
     obtain ⟨x32, hx32, hm⟩ := bind_some hm
     refine wo (Spec.remB hx32 (Has.s rfl) (Has.u8 4 rfl)) ?_
     refine wo (Spec.eqlB (Has.s rfl) (Has.u8 0 rfl)) ?_
     refine mv ?_
     refine wg rfl rfl (fun hb => Spec.move (Has.s rfl)) ?_
     refine wg rfl rfl (fun hb => Spec.move (Has.s rfl)) ?_
     obtain ⟨x33, hx33, hm⟩ := bind_some hm
     refine wg rfl rfl (fun hb => Spec.indexAddr (gO_t hx33 (not_t hb)) sl41 (Has.u rfl hb) (Has.u rfl hb)) ?_
     refine wg rfl rfl (fun hb => Spec.fieldAddrP fd45_0 (chOp45 x33) rfl (Has.u rfl hb)) ?_
     refine wg rfl rfl (fun hb => (Spec.load ty5 (Has.u rfl hb)).flat (T' := [])) ?_
     obtain ⟨x34, hx34, hm⟩ := bind_some hm
     refine wg rfl rfl (fun hb => Spec.remB (gO_t hx34 (not_t hb)) (Has.u rfl hb) (Has.u8 4 rfl)) ?_
     refine wg rfl rfl (fun hb => Spec.eqlB (Has.u rfl hb) (Has.u8 1 rfl)) ?_
     refine wg rfl rfl (fun hb => Spec.move (Has.u rfl hb)) ?_
     refine Walk.opgu rfl rfl rfl (fun hb => Spec.move (Has.s rfl)) ?_
     refine Walk.opgu rfl rfl rfl (fun hb => Spec.geqI (Has.u rfl hb) Has.int) ?_
     refine wg rfl rfl (fun hb => Spec.and (Has.u rfl hb) (fun h => Has.u rfl ⟨hb, h⟩)) ?_
     refine wg rfl rfl (fun hb => Spec.move (Has.u rfl hb)) ?_
     refine Walk.opgu rfl rfl rfl (fun hb => Spec.move (Has.s rfl)) ?_
     refine Walk.opgu rfl rfl rfl (fun hb => Spec.lssI (Has.u rfl hb) Has.int) ?_
     refine wg rfl rfl (fun hb => Spec.and (Has.u rfl hb) (fun h => Has.u rfl ⟨hb, h⟩)) ?_
     refine wg rfl rfl (fun hb => Spec.move (Has.u rfl hb)) ?_
     refine Walk.opgu rfl rfl rfl (fun hb => Spec.move (Has.s rfl)) ?_
     refine Walk.opgu rfl rfl rfl (fun hb => Spec.not (Has.u rfl hb)) ?_
     refine wg rfl rfl (fun hb => Spec.and (Has.u rfl hb) (fun h => Has.u rfl ⟨hb, h⟩)) ?_
     refine wo (Spec.or (Has.s rfl) (fun h => Has.u rfl h)) ?_
     refine mv ?_
     refine wg rfl rfl (fun hb => Spec.move (Has.s rfl)) ?_
     refine wg rfl rfl (fun hb => Spec.move (Has.s rfl)) ?_
     obtain ⟨x35, hx35, hm⟩ := bind_some hm
     refine wg rfl rfl (fun hb => Spec.indexAddr (gO_t hx35 (not_t hb)) sl41 (Has.u rfl hb) (Has.u rfl hb)) ?_
     refine wg rfl rfl (fun hb => Spec.fieldAddrP fd45_0 (chOp45 x35) rfl (Has.u rfl hb)) ?_
     refine wg rfl rfl (fun hb => (Spec.load ty5 (Has.u rfl hb)).flat (T' := [])) ?_
     obtain ⟨x36, hx36, hm⟩ := bind_some hm
     refine wg rfl rfl (fun hb => Spec.remB (gO_t hx36 (not_t hb)) (Has.u rfl hb) (Has.u8 4 rfl)) ?_
     refine wg rfl rfl (fun hb => Spec.eqlB (Has.u rfl hb) (Has.u8 2 rfl)) ?_
     refine wg rfl rfl (fun hb => Spec.move (Has.u rfl hb)) ?_
     refine Walk.opgu rfl rfl rfl (fun hb => Spec.move (Has.s rfl)) ?_
     refine Walk.opgu rfl rfl rfl (fun hb => Spec.geqI (Has.u rfl hb) Has.int) ?_
     refine wg rfl rfl (fun hb => Spec.and (Has.u rfl hb) (fun h => Has.u rfl ⟨hb, h⟩)) ?_
     refine wg rfl rfl (fun hb => Spec.move (Has.u rfl hb)) ?_
     refine Walk.opgu rfl rfl rfl (fun hb => Spec.move (Has.s rfl)) ?_
     refine Walk.opgu rfl rfl rfl (fun hb => Spec.lssI (Has.u rfl hb) Has.int) ?_
     refine wg rfl rfl (fun hb => Spec.and (Has.u rfl hb) (fun h => Has.u rfl ⟨hb, h⟩)) ?_
     refine wo (Spec.or (Has.s rfl) (fun h => Has.u rfl h)) ?_
     refine mv ?_
     refine wg rfl rfl (fun hb => Spec.move (Has.s rfl)) ?_
     refine wg rfl rfl (fun hb => Spec.move (Has.s rfl)) ?_
     obtain ⟨x37, hx37, hm⟩ := bind_some hm
     refine wg rfl rfl (fun hb => Spec.indexAddr (gO_t hx37 (not_t hb)) sl41 (Has.u rfl hb) (Has.u rfl hb)) ?_
     refine wg rfl rfl (fun hb => Spec.fieldAddrP fd45_0 (chOp45 x37) rfl (Has.u rfl hb)) ?_
     refine wg rfl rfl (fun hb => (Spec.load ty5 (Has.u rfl hb)).flat (T' := [])) ?_
     obtain ⟨x38, hx38, hm⟩ := bind_some hm
     refine wg rfl rfl (fun hb => Spec.remB (gO_t hx38 (not_t hb)) (Has.u rfl hb) (Has.u8 4 rfl)) ?_
     refine wg rfl rfl (fun hb => Spec.eqlB (Has.u rfl hb) (Has.u8 3 rfl)) ?_
     refine wg rfl rfl (fun hb => Spec.move (Has.u rfl hb)) ?_
     refine Walk.opgu rfl rfl rfl (fun hb => Spec.move (Has.s rfl)) ?_
     refine Walk.opgu rfl rfl rfl (fun hb => Spec.move (Has.s rfl)) ?_
     refine Walk.opgu rfl rfl rfl (fun hb => Spec.gtrI (Has.u rfl hb) (Has.u rfl hb)) ?_
     refine wg rfl rfl (fun hb => Spec.and (Has.u rfl hb) (fun h => Has.u rfl ⟨hb, h⟩)) ?_
     refine wo (Spec.or (Has.s rfl) (fun h => Has.u rfl h)) ?_
     refine wo (Spec.assign (Has.s rfl)) ?_
     refine Walk.nil ?_
     refine Leaf.thenN ?_
     refine CWalk.seq ?_
     refine CWalk.seq ?_
     refine CWalk.region ?_
     refine mv ?_
     refine wo (Spec.eqlI (Has.s rfl) Has.int) ?_
     refine mv ?_
     refine wo (Spec.neqT (Has.s rfl) (Has.s rfl) Try.underlying4) ?_
     refine Walk.nil ?_
     refine Leaf.thenN ?_
     refine CWalk.cond rfl (fun hb => ?_) (fun hb => ?_)
     ·have hm := cond_t hb hm
      refine CWalk.seq ?_
      refine CWalk.region ?_
      refine wo (Spec.assign Has.bool) ?_
      refine Walk.nil ?_
      refine Leaf.thenN ?_
      refine CWalk.ret ?_
      refine Leaf.thenR ?_
      refine Leaf.blockR ?_
      refine Leaf.thenR ?_
      exact Leaf.brk hm (fun h => nomatch h) rfl (st Sub.nil)
     ·have hm := cond_f hb hm
      refine CWalk.skip ?_
      refine Leaf.thenN ?_
      refine CWalk.seq ?_
      refine CWalk.seq ?_
      refine CWalk.region ?_
      refine mv ?_
      refine wo (Spec.neqI (Has.s rfl) Has.int) ?_
      refine Walk.nil ?_
      refine Leaf.thenN ?_
      refine CWalk.cond rfl (fun hb => ?_) (fun hb => ?_)
      ·have hm := cond_t hb hm
       refine CWalk.exit ?_
       refine Leaf.thenE ?_
       refine Leaf.blockE ?_
       exact Leaf.join (s3, s4, s5, s6, s8, s9, s10, s11, s12, s13, s14) hm (su (sn (st (st (st (st (st (sf (sf (sf (sf (sf (sf (sf (sn Sub.nil)))))))))))))))
      ·have hm := cond_f hb hm
       refine CWalk.skip ?_
       refine Leaf.thenN ?_
       refine CWalk.seq ?_
       refine CWalk.region ?_
       refine wo (Spec.loadObj (ls := [(false, 1, Fact.rep [] (x30.1.Events : UInt32)), (false, 1, Fact.rep [] (x30.1.Lost : Int)), (false, 1, Fact.rep [] (x30.1.Spare : Bool)), (false, 1, Fact.rep [] (x30.1.Pos : Int)), (false, 1, Fact.rep [] (x30.1.Done : Int)), (false, 1, Fact.rep [] (x30.1.NoLog : Bool)), (false, 1, Fact.rep [] (x30.1.Broken : Bool))]) ty26 rfl rfl (Has.s rfl) rfl (HasGs.cons (HasG.s rfl) (HasGs.cons (HasG.s rfl) (HasGs.cons (HasG.s rfl) (HasGs.cons (HasG.s rfl) (HasGs.cons (HasG.s rfl) (HasGs.cons (HasG.s rfl) (HasGs.cons (HasG.s rfl) HasGs.nil)))))))) ?_
       refine ws (Step.storeObj (ls := [(false, 1, Fact.rep [] (x30.1.Events : UInt32)), (false, 1, Fact.rep [] (x30.1.Lost : Int)), (false, 1, Fact.rep [] (x30.1.Spare : Bool)), (false, 1, Fact.rep [] (x30.1.Pos : Int)), (false, 1, Fact.rep [] (x30.1.Done : Int)), (false, 1, Fact.rep [] (x30.1.NoLog : Bool)), (false, 1, Fact.rep [] (x30.1.Broken : Bool))]) rfl ty26 rfl rfl (Has.s rfl) rfl (HasL.flds (Has.s rfl)) rfl) ?_
       refine Walk.nil ?_
       refine Leaf.thenN ?_
       refine CWalk.seqJ (fun p : Int × Int × Int × Bool => [.fact 0 (Fact.rep [0] (a0 : List Op45)), .fact 4 (Fact.isv 12), .fact 5 (Fact.rep [] (p.1 : Int)), .fact 6 (Fact.rep [] (p.2.1 : Int)), .fact 7 (Fact.rep [] (p.2.2.1 : Int)), .fact 8 (Fact.rep [] (p.2.2.2 : Bool)), .fact 9 (Fact.rep [] (s7 : Int)), .fact 100013 (Fact.at 13 (Fact.rep [] (x30.1.Events : UInt32))), .fact 100014 (Fact.at 14 (Fact.rep [] (x30.1.Lost : Int))), .fact 100015 (Fact.at 15 (Fact.rep [] (x30.1.Spare : Bool))), .fact 100016 (Fact.at 16 (Fact.rep [] (x30.1.Pos : Int))), .fact 100017 (Fact.at 17 (Fact.rep [] (x30.1.Done : Int))), .fact 100018 (Fact.at 18 (Fact.rep [] (x30.1.NoLog : Bool))), .fact 100019 (Fact.at 19 (Fact.rep [] (x30.1.Broken : Bool))), .fact 100012 (Fact.obj 12 [(false, 1), (false, 1), (false, 1), (false, 1), (false, 1), (false, 1), (false, 1)])]) (fun p : Int × Int × Int × Bool => law23_LossOne_J3 s7 x30 p.1 p.2.1 p.2.2.1 p.2.2.2 = some c15) ?_ ?_
       ·rintro ⟨j39, j40, j41, j42⟩ hm
        replace hm : law23_LossOne_J3 s7 x30 j39 j40 j41 j42 = some c15 := hm
        unfold law23_LossOne_J3 at hm
        show CWalk _ [.fact 0 (Fact.rep [0] (a0 : List Op45)), .fact 4 (Fact.isv 12), .fact 5 (Fact.rep [] (j39 : Int)), .fact 6 (Fact.rep [] (j40 : Int)), .fact 7 (Fact.rep [] (j41 : Int)), .fact 8 (Fact.rep [] (j42 : Bool)), .fact 9 (Fact.rep [] (s7 : Int)), .fact 100013 (Fact.at 13 (Fact.rep [] (x30.1.Events : UInt32))), .fact 100014 (Fact.at 14 (Fact.rep [] (x30.1.Lost : Int))), .fact 100015 (Fact.at 15 (Fact.rep [] (x30.1.Spare : Bool))), .fact 100016 (Fact.at 16 (Fact.rep [] (x30.1.Pos : Int))), .fact 100017 (Fact.at 17 (Fact.rep [] (x30.1.Done : Int))), .fact 100018 (Fact.at 18 (Fact.rep [] (x30.1.NoLog : Bool))), .fact 100019 (Fact.at 19 (Fact.rep [] (x30.1.Broken : Bool))), .fact 100012 (Fact.obj 12 [(false, 1), (false, 1), (false, 1), (false, 1), (false, 1), (false, 1), (false, 1)])] _ _
        refine CWalk.seq ?_
        refine CWalk.region ?_
        refine mv ?_
        refine mv ?_
        refine wo (Spec.assign (Has.s rfl)) ?_
        refine wo (Spec.assign (Has.s rfl)) ?_
        refine Walk.nil ?_
        refine Leaf.thenN ?_
        refine CWalk.seqJ (fun p : Int => [.fact 0 (Fact.rep [0] (a0 : List Op45)), .fact 4 (Fact.isv 12), .fact 5 (Fact.rep [] (j39 : Int)), .fact 6 (Fact.rep [] (j40 : Int)), .fact 7 (Fact.rep [] (j41 : Int)), .fact 8 (Fact.rep [] (j42 : Bool)), .fact 9 (Fact.rep [] (s7 : Int)), .fact 14 (Fact.rep [] (p : Int)), .fact 15 (Fact.rep [] (j39 : Int)), .fact 100013 (Fact.at 13 (Fact.rep [] (x30.1.Events : UInt32))), .fact 100014 (Fact.at 14 (Fact.rep [] (x30.1.Lost : Int))), .fact 100015 (Fact.at 15 (Fact.rep [] (x30.1.Spare : Bool))), .fact 100016 (Fact.at 16 (Fact.rep [] (x30.1.Pos : Int))), .fact 100017 (Fact.at 17 (Fact.rep [] (x30.1.Done : Int))), .fact 100018 (Fact.at 18 (Fact.rep [] (x30.1.NoLog : Bool))), .fact 100019 (Fact.at 19 (Fact.rep [] (x30.1.Broken : Bool))), .fact 100012 (Fact.obj 12 [(false, 1), (false, 1), (false, 1), (false, 1), (false, 1), (false, 1), (false, 1)])]) (fun p : Int => law23_LossOne_J4 s7 x30 j39 j40 j41 j42 p = some c15) ?_ ?_
        ·rintro j43 hm
         replace hm : law23_LossOne_J4 s7 x30 j39 j40 j41 j42 j43 = some c15 := hm
         unfold law23_LossOne_J4 at hm
         show CWalk _ [.fact 0 (Fact.rep [0] (a0 : List Op45)), .fact 4 (Fact.isv 12), .fact 5 (Fact.rep [] (j39 : Int)), .fact 6 (Fact.rep [] (j40 : Int)), .fact 7 (Fact.rep [] (j41 : Int)), .fact 8 (Fact.rep [] (j42 : Bool)), .fact 9 (Fact.rep [] (s7 : Int)), .fact 14 (Fact.rep [] (j43 : Int)), .fact 15 (Fact.rep [] (j39 : Int)), .fact 100013 (Fact.at 13 (Fact.rep [] (x30.1.Events : UInt32))), .fact 100014 (Fact.at 14 (Fact.rep [] (x30.1.Lost : Int))), .fact 100015 (Fact.at 15 (Fact.rep [] (x30.1.Spare : Bool))), .fact 100016 (Fact.at 16 (Fact.rep [] (x30.1.Pos : Int))), .fact 100017 (Fact.at 17 (Fact.rep [] (x30.1.Done : Int))), .fact 100018 (Fact.at 18 (Fact.rep [] (x30.1.NoLog : Bool))), .fact 100019 (Fact.at 19 (Fact.rep [] (x30.1.Broken : Bool))), .fact 100012 (Fact.obj 12 [(false, 1), (false, 1), (false, 1), (false, 1), (false, 1), (false, 1), (false, 1)])] _ _
         refine CWalk.seqJ (fun p : Int => [.fact 0 (Fact.rep [0] (a0 : List Op45)), .fact 4 (Fact.isv 12), .fact 5 (Fact.rep [] (j39 : Int)), .fact 6 (Fact.rep [] (j40 : Int)), .fact 7 (Fact.rep [] (j41 : Int)), .fact 8 (Fact.rep [] (j42 : Bool)), .fact 9 (Fact.rep [] (s7 : Int)), .fact 14 (Fact.rep [] (j43 : Int)), .fact 15 (Fact.rep [] (p : Int)), .fact 100013 (Fact.at 13 (Fact.rep [] (x30.1.Events : UInt32))), .fact 100014 (Fact.at 14 (Fact.rep [] (x30.1.Lost : Int))), .fact 100015 (Fact.at 15 (Fact.rep [] (x30.1.Spare : Bool))), .fact 100016 (Fact.at 16 (Fact.rep [] (x30.1.Pos : Int))), .fact 100017 (Fact.at 17 (Fact.rep [] (x30.1.Done : Int))), .fact 100018 (Fact.at 18 (Fact.rep [] (x30.1.NoLog : Bool))), .fact 100019 (Fact.at 19 (Fact.rep [] (x30.1.Broken : Bool))), .fact 100012 (Fact.obj 12 [(false, 1), (false, 1), (false, 1), (false, 1), (false, 1), (false, 1), (false, 1)])]) (fun p : Int => law23_LossOne_J5 s7 x30 j39 j40 j41 j42 j43 p = some c15) ?_ ?_
         ·rintro j44 hm
          replace hm : law23_LossOne_J5 s7 x30 j39 j40 j41 j42 j43 j44 = some c15 := hm
          unfold law23_LossOne_J5 at hm
          show CWalk _ [.fact 0 (Fact.rep [0] (a0 : List Op45)), .fact 4 (Fact.isv 12), .fact 5 (Fact.rep [] (j39 : Int)), .fact 6 (Fact.rep [] (j40 : Int)), .fact 7 (Fact.rep [] (j41 : Int)), .fact 8 (Fact.rep [] (j42 : Bool)), .fact 9 (Fact.rep [] (s7 : Int)), .fact 14 (Fact.rep [] (j43 : Int)), .fact 15 (Fact.rep [] (j44 : Int)), .fact 100013 (Fact.at 13 (Fact.rep [] (x30.1.Events : UInt32))), .fact 100014 (Fact.at 14 (Fact.rep [] (x30.1.Lost : Int))), .fact 100015 (Fact.at 15 (Fact.rep [] (x30.1.Spare : Bool))), .fact 100016 (Fact.at 16 (Fact.rep [] (x30.1.Pos : Int))), .fact 100017 (Fact.at 17 (Fact.rep [] (x30.1.Done : Int))), .fact 100018 (Fact.at 18 (Fact.rep [] (x30.1.NoLog : Bool))), .fact 100019 (Fact.at 19 (Fact.rep [] (x30.1.Broken : Bool))), .fact 100012 (Fact.obj 12 [(false, 1), (false, 1), (false, 1), (false, 1), (false, 1), (false, 1), (false, 1)])] _ _
          refine CWalk.seq ?_
          obtain ⟨x45, hx45, hm⟩ := bind_some hm
          obtain ⟨x46, hx46, hm⟩ := bind_some hm
          obtain ⟨x47, hx47, hm⟩ := bind_some hm
          refine CWalk.drawM [[], [0], [], [0, 1, 2], [0, 1, 2, 3], [0, 1, 2, 3, 4], [0, 1, 2, 3, 4], [0, 1, 2, 3, 4], [0, 1, 2, 3, 4, 5, 6, 7], [0, 1, 2, 3, 4, 5, 6, 7, 8], [0, 1, 2, 3, 4, 5, 6, 7, 8, 9], [0, 1, 2, 3, 4, 5, 6, 7, 8, 9, 10], [0, 1, 2, 3, 4, 5, 6, 7, 8, 9, 10, 11], [0, 1, 2, 3, 4, 5, 6, 7, 8, 9, 10, 11], [0, 1, 2, 3, 4, 5, 6, 7, 8, 9, 10, 11, 12, 13], [0, 1, 2, 3, 4, 5, 6, 7, 8, 9, 10, 11, 12, 13, 14], [0, 1, 2, 3, 4, 5, 6, 7, 8, 9, 10, 11, 12, 13, 14, 15], [0, 1, 2, 3, 4, 5, 6, 7, 8, 9, 10, 11, 12, 13, 14, 15, 16], [0, 1, 2, 3, 4, 5, 6, 7, 8, 9, 10, 11, 12, 13, 14, 15, 16, 17], [0, 1, 2, 3, 4, 5, 6, 7, 8, 9, 10, 11, 12, 13, 14, 15, 16, 17, 18], [0, 1, 2, 3, 4, 5, 6, 7, 8, 9, 10, 11, 12, 13, 14, 15, 16, 17, 18, 19]] [[.fact 157 (Fact.pto 12 6)], [.fact 158 (Fact.rep [] (x30.1.Broken : Bool))], [.fact 159 (Fact.rep [] (j42 : Bool))], [.fact 160 (Fact.rep [] ((x30.1.Broken != j42) : Bool))], [.fact 161 (Fact.rep [] ((x30.1.Broken != j42) : Bool))], [.fact 162 (Fact.under ((x30.1.Broken != j42) = false) (.flds [(false, 1, Fact.rep [] (x30.1.Events : UInt32)), (false, 1, Fact.rep [] (x30.1.Lost : Int)), (false, 1, Fact.rep [] (x30.1.Spare : Bool)), (false, 1, Fact.rep [] (x30.1.Pos : Int)), (false, 1, Fact.rep [] (x30.1.Done : Int)), (false, 1, Fact.rep [] (x30.1.NoLog : Bool)), (false, 1, Fact.rep [] (x30.1.Broken : Bool))]))], [.fact 163 (Fact.under ((x30.1.Broken != j42) = false) (.rep [] (j43 : Int)))], [.fact 164 (Fact.under ((x30.1.Broken != j42) = false) (.rep [] (j44 : Int)))], [.fact 165 (Fact.under ((x30.1.Broken != j42) = false) (.rep [] (x45 : Bool)))], [.fact 166 (Fact.under ((x30.1.Broken != j42) = false) (.rep [] ((!x45) : Bool)))], [.fact 167 (Fact.rep [] (((x30.1.Broken != j42) || (!x45)) : Bool))], [.fact 168 (Fact.rep [] (((x30.1.Broken != j42) || (!x45)) : Bool))], [.fact 169 (Fact.under (((x30.1.Broken != j42) || (!x45)) = false) (.rep [] (x46 : Config)))], [.fact 170 (Fact.under (((x30.1.Broken != j42) || (!x45)) = false) (.flds [(false, 1, Fact.rep [] (x30.1.Events : UInt32)), (false, 1, Fact.rep [] (x30.1.Lost : Int)), (false, 1, Fact.rep [] (x30.1.Spare : Bool)), (false, 1, Fact.rep [] (x30.1.Pos : Int)), (false, 1, Fact.rep [] (x30.1.Done : Int)), (false, 1, Fact.rep [] (x30.1.NoLog : Bool)), (false, 1, Fact.rep [] (x30.1.Broken : Bool))]))], [.fact 171 (Fact.under (((x30.1.Broken != j42) || (!x45)) = false) (.rep [] (x47 : Int)))], [.fact 172 (Fact.under (((x30.1.Broken != j42) || (!x45)) = false) (.rep [] ((x47 != (0 : Int)) : Bool)))], [.fact 173 (Fact.rep [] ((((x30.1.Broken != j42) || (!x45)) || (x47 != (0 : Int))) : Bool))], [.fact 174 (Fact.rep [] ((((x30.1.Broken != j42) || (!x45)) || (x47 != (0 : Int))) : Bool))], [.fact 175 (Fact.under ((((x30.1.Broken != j42) || (!x45)) || (x47 != (0 : Int))) = false) (.pto 12 5))], [.fact 176 (Fact.under ((((x30.1.Broken != j42) || (!x45)) || (x47 != (0 : Int))) = false) (.rep [] (x30.1.NoLog : Bool)))], [.fact 177 (Fact.rep [] (((((x30.1.Broken != j42) || (!x45)) || (x47 != (0 : Int))) || x30.1.NoLog) : Bool))]] mixed (by kernel_rfl) (ao (so (Spec.fieldAddrO fd26_6 (Has.cv (Has.s rfl) (Cv.isvP rfl)))) (ao (so (Spec.loadF (i := 6) ty4 rfl (Has.s rfl) rfl (HasG.s rfl))) (ao (so (Spec.move (Has.s rfl))) (ao (so (Spec.neqT (Has.s rfl) (Has.s rfl) Try.underlying4)) (ao (so (Spec.move (Has.s rfl))) (ao (StepG.opg rfl rfl rfl (fun hb => Spec.loadObj (ls := [(false, 1, Fact.rep [] (x30.1.Events : UInt32)), (false, 1, Fact.rep [] (x30.1.Lost : Int)), (false, 1, Fact.rep [] (x30.1.Spare : Bool)), (false, 1, Fact.rep [] (x30.1.Pos : Int)), (false, 1, Fact.rep [] (x30.1.Done : Int)), (false, 1, Fact.rep [] (x30.1.NoLog : Bool)), (false, 1, Fact.rep [] (x30.1.Broken : Bool))]) ty26 rfl rfl (Has.s rfl) rfl (HasGs.cons (HasG.s rfl) (HasGs.cons (HasG.s rfl) (HasGs.cons (HasG.s rfl) (HasGs.cons (HasG.s rfl) (HasGs.cons (HasG.s rfl) (HasGs.cons (HasG.s rfl) (HasGs.cons (HasG.s rfl) HasGs.nil))))))))) (ao (StepG.opg rfl rfl rfl (fun hb => Spec.move (Has.s rfl))) (ao (StepG.opg rfl rfl rfl (fun hb => Spec.move (Has.s rfl))) (ao (StepG.opg rfl rfl rfl (fun hb => Spec.callE [] 29 rfl en23 (law23_misses_c x30.1 j43 j44 (gO_t hx45 (not_t hb))) (HasAll.cons (Has.fl (Has.cv (Has.u rfl hb) (Cv.trans (Cv.flds (CvL.cons Cv.fl (CvL.cons Cv.fl (CvL.cons Cv.fl (CvL.cons Cv.fl (CvL.cons Cv.fl (CvL.cons Cv.fl (CvL.cons Cv.fl CvL.nil)))))))) (Cv.close (T := []) (chLoss x30.1))))) (HasAll.cons (Has.fl (Has.u rfl hb)) (HasAll.cons (Has.fl (Has.u rfl hb)) HasAll.nil))))) (ao (StepG.opg rfl rfl rfl (fun hb => Spec.not (Has.u rfl hb))) (ao (so (Spec.or (Has.s rfl) (fun h => Has.u rfl h))) (ao (so (Spec.move (Has.s rfl))) (ao (StepG.opg rfl rfl rfl (fun hb => Spec.callE [] 30 rfl en24 (law23_three_c  (gO_t hx46 (not_t hb))) HasAll.nil)) (ao (StepG.opg rfl rfl rfl (fun hb => Spec.loadObj (ls := [(false, 1, Fact.rep [] (x30.1.Events : UInt32)), (false, 1, Fact.rep [] (x30.1.Lost : Int)), (false, 1, Fact.rep [] (x30.1.Spare : Bool)), (false, 1, Fact.rep [] (x30.1.Pos : Int)), (false, 1, Fact.rep [] (x30.1.Done : Int)), (false, 1, Fact.rep [] (x30.1.NoLog : Bool)), (false, 1, Fact.rep [] (x30.1.Broken : Bool))]) ty26 rfl rfl (Has.s rfl) rfl (HasGs.cons (HasG.s rfl) (HasGs.cons (HasG.s rfl) (HasGs.cons (HasG.s rfl) (HasGs.cons (HasG.s rfl) (HasGs.cons (HasG.s rfl) (HasGs.cons (HasG.s rfl) (HasGs.cons (HasG.s rfl) HasGs.nil))))))))) (ao (StepG.opg rfl rfl rfl (fun hb => Spec.callE [] 31 rfl en18 (loss_Check_c x46 x30.1 (gO_t hx47 (not_t hb))) (HasAll.cons (Has.fl (Has.u rfl hb)) (HasAll.cons (Has.fl (Has.cv (Has.u rfl hb) (Cv.trans (Cv.flds (CvL.cons Cv.fl (CvL.cons Cv.fl (CvL.cons Cv.fl (CvL.cons Cv.fl (CvL.cons Cv.fl (CvL.cons Cv.fl (CvL.cons Cv.fl CvL.nil)))))))) (Cv.close (T := []) (chLoss x30.1))))) HasAll.nil)))) (ao (StepG.opg rfl rfl rfl (fun hb => Spec.neqI (Has.u rfl hb) Has.int)) (ao (so (Spec.or (Has.s rfl) (fun h => Has.u rfl h))) (ao (so (Spec.move (Has.s rfl))) (ao (StepG.opg rfl rfl rfl (fun hb => Spec.fieldAddrO fd26_5 (Has.cv (Has.s rfl) (Cv.isvP rfl)))) (ao (StepG.opg rfl rfl rfl (fun hb => Spec.loadF (i := 5) ty4 rfl (Has.u rfl hb) rfl (HasG.s rfl))) (ao (so (Spec.or (Has.s rfl) (fun h => Has.u rfl h))) AllM.nil))))))))))))))))))))) ?_
          refine Leaf.thenN ?_
          refine CWalk.cond rfl (fun hb => ?_) (fun hb => ?_)
          ·have hm := cond_t hb hm
           refine CWalk.seq ?_
           refine CWalk.region ?_
           refine wo (Spec.assign Has.bool) ?_
           refine Walk.nil ?_
           refine Leaf.thenN ?_
           refine CWalk.ret ?_
           refine Leaf.blockR ?_
           refine Leaf.thenR ?_
           exact Leaf.brk hm (fun h => nomatch h) rfl (st Sub.nil)
          ·have hm := cond_f hb hm
           refine CWalk.skip ?_
           refine Leaf.blockN ?_
           exact Leaf.join (j39, j40, j41, j42, x30.1.Events, x30.1.Lost, x30.1.Spare, x30.1.Pos, x30.1.Done, x30.1.NoLog, x30.1.Broken) hm (su (sn (st (st (st (st (st (sf (sf (sf (sf (sf (sf (sf (sn Sub.nil)))))))))))))))
         ·refine CWalk.seq ?_
          refine CWalk.region ?_
          refine mv ?_
          refine wo (Spec.geqI (Has.s rfl) Has.int) ?_
          refine Walk.nil ?_
          refine Leaf.thenN ?_
          refine CWalk.cond rfl (fun hb => ?_) (fun hb => ?_)
          ·have hm := cond_t hb hm
           refine CWalk.region ?_
           refine wo (Spec.assign Has.int) ?_
           refine Walk.nil ?_
           exact Leaf.join (-1 : Int) hm (su (sn (st (st (st (st (st (st (st (sf (sf (sf (sf (sf (sf (sf (sn Sub.nil)))))))))))))))))
          ·have hm := cond_f hb hm
           refine CWalk.skip ?_
           exact Leaf.join j39 hm (su (sn (st (st (st (st (st (st (st (sf (sf (sf (sf (sf (sf (sf (sn Sub.nil)))))))))))))))))
        ·refine CWalk.seq ?_
         refine CWalk.region ?_
         refine mv ?_
         refine wo (Spec.geqI (Has.s rfl) Has.int) ?_
         refine Walk.nil ?_
         refine Leaf.thenN ?_
         refine CWalk.cond rfl (fun hb => ?_) (fun hb => ?_)
         ·have hm := cond_t hb hm
          refine CWalk.region ?_
          refine wo (Spec.assign Has.int) ?_
          refine Walk.nil ?_
          exact Leaf.join (-1 : Int) hm (su (sn (st (st (st (st (st (st (st (sf (sf (sf (sf (sf (sf (sf (sn Sub.nil)))))))))))))))))
         ·have hm := cond_f hb hm
          refine CWalk.skip ?_
          exact Leaf.join j39 hm (su (sn (st (st (st (st (st (st (st (sf (sf (sf (sf (sf (sf (sf (sn Sub.nil)))))))))))))))))
       ·refine CWalk.seq ?_
        refine CWalk.region ?_
        refine mv ?_
        refine mv ?_
        obtain ⟨x48, hx48, hm⟩ := bind_some hm
        refine wo (Spec.indexAddr hx48 sl41 (Has.s rfl) (Has.s rfl)) ?_
        refine wo (Spec.fieldAddrP fd45_0 (chOp45 x48) rfl (Has.s rfl)) ?_
        refine wo ((Spec.load ty5 (Has.s rfl)).flat (T' := [])) ?_
        obtain ⟨x49, hx49, hm⟩ := bind_some hm
        refine wo (Spec.remB hx49 (Has.s rfl) (Has.u8 4 rfl)) ?_
        refine Walk.nil ?_
        refine Leaf.thenN ?_
        refine CWalk.block ?_
        refine CWalk.seq ?_
        refine CWalk.region ?_
        refine wo (Spec.eqlB (Has.s rfl) (Has.u8 0 rfl)) ?_
        refine wo (Spec.assign (Has.s rfl)) ?_
        refine Walk.nil ?_
        refine Leaf.thenN ?_
        refine CWalk.cond rfl (fun hb => ?_) (fun hb => ?_)
        ·have hm := cond_t hb hm
         refine CWalk.seq ?_
         refine CWalk.region ?_
         refine mv ?_
         refine mv ?_
         refine wg rfl rfl (fun hb => Spec.move (Has.s rfl)) ?_
         refine wg rfl rfl (fun hb => Spec.geqI (Has.u rfl hb) Has.int) ?_
         refine wg rfl rfl (fun hb => Spec.move (Has.u rfl hb)) ?_
         refine Walk.opgu rfl rfl rfl (fun hb => Spec.move (Has.s rfl)) ?_
         refine Walk.opgu rfl rfl rfl (fun hb => Spec.move (Has.s rfl)) ?_
         refine Walk.opgu rfl rfl rfl (fun hb => Spec.neqI (Has.u rfl hb) (Has.u rfl hb)) ?_
         refine wg rfl rfl (fun hb => Spec.and (Has.u rfl hb) (fun h => Has.u rfl ⟨hb, h⟩)) ?_
         refine wo (Spec.or (Has.s rfl) (fun h => Has.u rfl h)) ?_
         refine wo (Spec.assign (Has.s rfl)) ?_
         refine Walk.nil ?_
         refine Leaf.thenN ?_
         refine CWalk.seq ?_
         refine CWalk.region ?_
         refine mv ?_
         refine wo (Spec.lssI (Has.s rfl) Has.int) ?_
         refine mv ?_
         refine wg rfl rfl (fun hb => Spec.move (Has.s rfl)) ?_
         refine wg rfl rfl (fun hb => Spec.move (Has.s rfl)) ?_
         refine wg rfl rfl (fun hb => Spec.eqlI (Has.u rfl hb) (Has.u rfl hb)) ?_
         refine wo (Spec.or (Has.s rfl) (fun h => Has.u rfl h)) ?_
         refine Walk.nil ?_
         refine Leaf.thenN ?_
         refine CWalk.cond rfl (fun hb => ?_) (fun hb => ?_)
         ·have hm := cond_t hb hm
          refine CWalk.region ?_
          refine mv ?_
          refine wo (Spec.assign (Has.s rfl)) ?_
          refine wo (Spec.assign Has.int) ?_
          refine wo (Spec.assign Has.int) ?_
          refine Walk.nil ?_
          refine Leaf.blockN ?_
          exact Leaf.join (x28, (-1 : Int), (0 : Int), (s6 || ((decide (s3 ≥ (0 : Int))) && (s3 != x28)))) hm (su (sn (st (st (st (st (st (sf (sf (sf (sf (sf (sf (sf (sn Sub.nil)))))))))))))))
         ·have hm := cond_f hb hm
          refine CWalk.skip ?_
          refine Leaf.blockN ?_
          exact Leaf.join (s3, s4, s5, (s6 || ((decide (s3 ≥ (0 : Int))) && (s3 != x28)))) hm (su (sn (st (st (st (st (st (sf (sf (sf (sf (sf (sf (sf (sn Sub.nil)))))))))))))))
        ·have hm := cond_f hb hm
         refine CWalk.seq ?_
         refine CWalk.region ?_
         refine wo (Spec.eqlB (Has.s rfl) (Has.u8 1 rfl)) ?_
         refine wo (Spec.assign (Has.s rfl)) ?_
         refine Walk.nil ?_
         refine Leaf.thenN ?_
         refine CWalk.cond rfl (fun hb => ?_) (fun hb => ?_)
         ·have hm := cond_t hb hm
          refine CWalk.region ?_
          refine wo (Spec.assign Has.int) ?_
          refine Walk.nil ?_
          refine Leaf.blockN ?_
          exact Leaf.join (s3, (0 : Int), s5, s6) hm (su (sn (st (st (st (st (st (sf (sf (sf (sf (sf (sf (sf (sn Sub.nil)))))))))))))))
         ·have hm := cond_f hb hm
          refine CWalk.seq ?_
          refine CWalk.region ?_
          refine wo (Spec.eqlB (Has.s rfl) (Has.u8 2 rfl)) ?_
          refine wo (Spec.assign (Has.s rfl)) ?_
          refine Walk.nil ?_
          refine Leaf.thenN ?_
          refine CWalk.cond rfl (fun hb => ?_) (fun hb => ?_)
          ·have hm := cond_t hb hm
           refine CWalk.region ?_
           refine mv ?_
           refine wo (Spec.addI (Has.s rfl) Has.int) ?_
           refine wo (Spec.assign (Has.s rfl)) ?_
           refine Walk.nil ?_
           refine Leaf.blockN ?_
           exact Leaf.join (s3, (wI (s4 + (1 : Int))), s5, s6) hm (su (sn (st (st (st (st (st (sf (sf (sf (sf (sf (sf (sf (sn Sub.nil)))))))))))))))
          ·have hm := cond_f hb hm
           refine CWalk.seq ?_
           refine CWalk.region ?_
           refine mv ?_
           refine wo (Spec.assign (Has.s rfl)) ?_
           refine Walk.nil ?_
           refine Leaf.thenN ?_
           refine CWalk.seq ?_
           refine CWalk.region ?_
           refine mv ?_
           refine wo (Spec.eqlI (Has.s rfl) Has.int) ?_
           refine Walk.nil ?_
           refine Leaf.thenN ?_
           refine CWalk.cond rfl (fun hb => ?_) (fun hb => ?_)
           ·have hm := cond_t hb hm
            refine CWalk.region ?_
            refine wo (Spec.assign Has.int) ?_
            refine wo (Spec.assign Has.int) ?_
            refine wo (Spec.assign Has.int) ?_
            refine Walk.nil ?_
            refine Leaf.blockN ?_
            exact Leaf.join ((-1 : Int), (-1 : Int), (0 : Int), s6) hm (su (sn (st (st (st (st (st (sf (sf (sf (sf (sf (sf (sf (sn Sub.nil)))))))))))))))
           ·have hm := cond_f hb hm
            refine CWalk.skip ?_
            refine Leaf.blockN ?_
            exact Leaf.join (s3, s4, s4, s6) hm (su (sn (st (st (st (st (st (sf (sf (sf (sf (sf (sf (sf (sn Sub.nil)))))))))))))))
   ·have hm := cond_f hb hm
    refine CWalk.exit ?_
    refine Leaf.thenE ?_
    exact Leaf.brk hm (fun h => nomatch h) rfl (Sub.nil)
  ·intro _
   rcases b50 with b51 | b52
   ·have hm := selim_l hm
    refine Leaf.blockE ?_
    refine Leaf.thenN ?_
    refine CWalk.seq ?_
    refine CWalk.region ?_
    refine wo (Spec.assign Has.bool) ?_
    refine Walk.nil ?_
    refine Leaf.thenN ?_
    refine CWalk.ret ?_
    obtain rfl := Option.some.inj hm
    exact Leaf.retC1 rfl (HasR.cv (HasR.tmp (Has.s rfl)) Cv.fl)
   ·have hm := selim_r hm
    refine Leaf.blockR ?_
    refine Leaf.thenR ?_
    obtain rfl := Option.some.inj hm
    exact Leaf.retC1 rfl (HasR.cv (HasR.tmp (Has.s rfl)) Cv.fl)

end Go.Proofs.Ytgjibgklailenaa
