/- Printed by a program of ours: models of functions, and that calls do what they say. -/
import Derived.Test.YtmlmlfghogoadaaGrt1
set_option linter.unusedVariables false
set_option linter.unusedSimpArgs false
set_option linter.unnecessarySimpa false
namespace Go.Proofs.Ytmlmlfghogoadaa
open Go GL
set_option maxRecDepth 100000
set_option maxHeartbeats 2000000
set_option linter.unusedVariables false

def redo_Acts_L2 (j5 : List Int) (j6 : List DRow) (s7 : List Deal) (s8 : Int) : Option (Ctl ((List Deal) × Int) ((List Deal))) :=
  (bif (decide (s8 < ((j5).length : Int))) then Option.bind (idx j5 s8) (fun x10 => Option.bind (gotK j6 x10) (fun x11 => Option.bind (app s7 ([(Deal.mk x10 x11.2.1 x11.2.2 ([] : List UInt8))])) (fun x12 => some (Ctl.next (x12, (wI (s8 + (1 : Int)))))))) else some (Ctl.brk s7))
def redo_Acts_J1 (j3 : Int) (j4 : List Act45) (j5 : List Int) (j6 : List DRow) : Option ((List Act45) × (List Deal) × Int) :=
  (bif (j3 != (0 : Int)) then some (([] : List Act45), ([] : List Deal), j3) else Option.bind (loopM (fun s : (List Deal) × Int => redo_Acts_L2 j5 j6 s.1 s.2) FUEL (([] : List Deal), (0 : Int))) (fun b13 => some (j4, b13, (0 : Int))))
def redo_Acts_J4 (s14 : Int) (j20 : Int) (j21 : List Act45) (j22 : List Int) (j23 : List DRow) : Option (Ctl (Int × (List Act45) × (List Int) × (List DRow)) (((List Act45) × (List Int) × (List DRow)) ⊕ (Int × (List Act45) × (List Int) × (List DRow)))) :=
  (bif (j20 != (0 : Int)) then some (Ctl.brk (Sum.inr (j20, j21, j22, j23))) else some (Ctl.next ((wI (s14 + (1 : Int))), j21, j22, j23)))
def redo_Acts_J5 (a0 : Config) (a1 : Loss) (s14 : Int) (s15 : List Act45) (x19 : Found) (j24 : List Int) (j25 : List DRow) : Option (Ctl (Int × (List Act45) × (List Int) × (List DRow)) (((List Act45) × (List Int) × (List DRow)) ⊕ (Int × (List Act45) × (List Int) × (List DRow)))) :=
  (bif (((x19.Deal.Parity).length : Int) == (0 : Int)) then (redo_Acts_J4 s14 (0 : Int) s15 j24 j25) else Option.bind (loss_Missing a0 a1 x19.Deal.Stripe) (fun x26 => (bif (x26.2 != (0 : Int)) then (redo_Acts_J4 s14 x26.2 s15 j24 j25) else Option.bind (home_Again a0 x26.1 x19.Deal) (fun x27 => Option.bind (app s15 x27.1) (fun x28 => (redo_Acts_J4 s14 x27.2 x28 j24 j25))))))
def redo_Acts_J6 (a0 : Config) (a1 : Loss) (s14 : Int) (s15 : List Act45) (x19 : Found) (j29 : List Int) (j30 : List DRow) : Option (Ctl (Int × (List Act45) × (List Int) × (List DRow)) (((List Act45) × (List Int) × (List DRow)) ⊕ (Int × (List Act45) × (List Int) × (List DRow)))) :=
  (redo_Acts_J5 a0 a1 s14 s15 x19 j29 j30)
def redo_Acts_J7 (a0 : Config) (a1 : Loss) (s14 : Int) (s15 : List Act45) (s17 : List DRow) (x19 : Found) (j31 : List Int) : Option (Ctl (Int × (List Act45) × (List Int) × (List DRow)) (((List Act45) × (List Int) × (List DRow)) ⊕ (Int × (List Act45) × (List Int) × (List DRow)))) :=
  (redo_Acts_J6 a0 a1 s14 s15 x19 j31 (delK s17 x19.Deal.Stripe))
def redo_Acts_J9 (s35 : Int) (j37 : List Int) (j38 : Int) : Option (Ctl ((List Int) × Int × Int) ((List Int) × Int)) :=
  some (Ctl.next (j37, j38, (wI (s35 + (1 : Int)))))
def redo_Acts_J10 (x19 : Found) (s33 : List Int) (s34 : Int) (s35 : Int) (x39 : Int) : Option (Ctl ((List Int) × Int × Int) ((List Int) × Int)) :=
  (bif (!(x39 == x19.Deal.Stripe)) then Option.bind (bnd (s33).length s34) (fun x40 => (redo_Acts_J9 s35 ((s33).set x40 x39) (wI (s34 + (1 : Int))))) else (redo_Acts_J9 s35 s33 s34))
def redo_Acts_L8 (x19 : Found) (s33 : List Int) (s34 : Int) (s35 : Int) : Option (Ctl ((List Int) × Int × Int) ((List Int) × Int)) :=
  (bif (decide (s35 < ((s33).length : Int))) then Option.bind (idx s33 s35) (fun x39 => (redo_Acts_J10 x19 s33 s34 s35 x39)) else some (Ctl.brk (s33, s34)))
def redo_Acts_J13 (x19 : Found) (s48 : Int) (x53 : Int × Bool) (j54 : List Int) (j55 : List (List UInt8)) : Option (Ctl (Int × (List Int) × (List (List UInt8))) ((List Int) × (List (List UInt8)))) :=
  Option.bind (idx x19.Deal.Blocks s48) (fun x56 => Option.bind (bytes_Clone x56) (fun x57 => Option.bind (bnd (j55).length x53.1) (fun x58 => some (Ctl.next ((wI (s48 + (1 : Int))), j54, (j55).set x58 x57)))))
def redo_Acts_L12 (x19 : Found) (s48 : Int) (s49 : List Int) (s50 : List (List UInt8)) : Option (Ctl (Int × (List Int) × (List (List UInt8))) ((List Int) × (List (List UInt8)))) :=
  (bif (decide (s48 < ((x19.Deal.Slots).length : Int))) then Option.bind (idx x19.Deal.Slots s48) (fun x52 => Option.bind (slices_BinarySearch_int_int s49 x52) (fun x53 => (bif (!x53.2) then Option.bind (insAt s49 x53.1 x52) (fun x59 => Option.bind (insAt s50 x53.1 ([] : List UInt8)) (fun x60 => (redo_Acts_J13 x19 s48 x53 x59 x60))) else (redo_Acts_J13 x19 s48 x53 s49 s50)))) else some (Ctl.brk (s49, s50)))
def redo_Acts_J11 (a0 : Config) (a1 : Loss) (s14 : Int) (s15 : List Act45) (x19 : Found) (j44 : List Int) (j45 : List (List UInt8)) (j46 : List Int) (j47 : List DRow) : Option (Ctl (Int × (List Act45) × (List Int) × (List DRow)) (((List Act45) × (List Int) × (List DRow)) ⊕ (Int × (List Act45) × (List Int) × (List DRow)))) :=
  Option.bind (loopM (fun s : Int × (List Int) × (List (List UInt8)) => redo_Acts_L12 x19 s.1 s.2.1 s.2.2) FUEL ((0 : Int), j44, j45)) (fun b61 => (redo_Acts_J5 a0 a1 s14 s15 x19 j46 (putK j47 x19.Deal.Stripe (x19.Deal.Stripe, b61.1, b61.2))))
def redo_Acts_L3 (a0 : Config) (a1 : Loss) (a2 : List Found) (s14 : Int) (s15 : List Act45) (s16 : List Int) (s17 : List DRow) : Option (Ctl (Int × (List Act45) × (List Int) × (List DRow)) (((List Act45) × (List Int) × (List DRow)) ⊕ (Int × (List Act45) × (List Int) × (List DRow)))) :=
  (bif (decide (s14 < ((a2).length : Int))) then Option.bind (idx a2 s14) (fun x19 => (bif (decide (((x19.Deal.Parity).length : Int) > (0 : Int))) then (bif (hasK s17 x19.Deal.Stripe) then Option.bind (slices_IndexFunc_int_int s16 (fun y => redo_rests_take_1 y x19.Deal)) (fun x32 => (bif (x32 == (-1 : Int)) then (redo_Acts_J7 a0 a1 s14 s15 s17 x19 s16) else Option.bind (loopM (fun s : (List Int) × Int × Int => redo_Acts_L8 x19 s.1 s.2.1 s.2.2) FUEL (s16, x32, (wI (x32 + (1 : Int))))) (fun b41 => Option.bind (slc b41.1 b41.2 (b41.1).length) (fun x42 => Option.bind (slc ((b41.1).take (Int.toNat b41.2) ++ List.replicate ((b41.1).length - (Int.toNat b41.2)) (0 : Int)) 0 b41.2) (fun x43 => (redo_Acts_J7 a0 a1 s14 s15 s17 x19 x43)))))) else (redo_Acts_J6 a0 a1 s14 s15 x19 s16 s17)) else (bif (!(hasK s17 x19.Deal.Stripe)) then Option.bind (app s16 ([x19.Deal.Stripe])) (fun x62 => Option.bind (newK s17 x19.Deal.Stripe) (fun x63 => (redo_Acts_J11 a0 a1 s14 s15 x19 ([] : List Int) ([] : List (List UInt8)) x62 x63))) else (redo_Acts_J11 a0 a1 s14 s15 x19 ((getK s17 x19.Deal.Stripe).2.1) ((getK s17 x19.Deal.Stripe).2.2) s16 s17)))) else some (Ctl.brk (Sum.inl (s15, s16, s17))))
/-- freeboard/redo.Acts -/
def redo_Acts (a0 : Config) (a1 : Loss) (a2 : List Found) : Option ((List Act45) × (List Deal) × Int) :=
  Option.bind (loss_Check a0 a1) (fun x1 => (bif (x1 != (0 : Int)) then some (([] : List Act45), ([] : List Deal), x1) else (bif (decide (((a2).length : Int) > (255 : Int))) then some (([] : List Act45), ([] : List Deal), (4 : Int)) else Option.bind (redo_all_api_Found a2 (fun y => redo_Acts_1 y a0)) (fun x2 => (bif (x2 != (0 : Int)) then some (([] : List Act45), ([] : List Deal), x2) else Option.bind (loopM (fun s : Int × (List Act45) × (List Int) × (List DRow) => redo_Acts_L3 a0 a1 a2 s.1 s.2.1 s.2.2.1 s.2.2.2) FUEL ((0 : Int), ([] : List Act45), ([] : List Int), ([] : List DRow))) (fun b64 => Sum.elim (fun b65 => (redo_Acts_J1 (0 : Int) b65.1 b65.2.1 b65.2.2)) (fun b66 => (redo_Acts_J1 b66.1 b66.2.1 b66.2.2.1 b66.2.2.2)) b64))))))
theorem redo_Acts_c (a0 : Config) (a1 : Loss) (a2 : List Found) {r : (List Act45) × (List Deal) × Int} (hm : redo_Acts a0 a1 a2 = some r) : Ctr Try.prog 8 [.rep 0 a0, .rep 0 a1, .rep 0 a2] (.tup3 (.own 0 (some 1) 45 r.1) (.own 2 (some 3) 39 r.2.1) (.fl r.2.2)) [] := by
 refine ctr_of_walk [[74], [72, 73], [76], [29, 70, 75]] 61 Try.func8 rfl rfl rfl rfl (fun w0 om => ?_)
 unfold redo_Acts at hm
 refine CWalk.sub (G' := [.fact 0 (.rep [] (a0 : Config)), .fact 1 (.rep [] (a1 : Loss)), .fact 2 (.rep [0] (a2 : List Found))]) (Sub.cons (Has.fl (Hs rfl)) (Sub.cons (Has.fl (Hs rfl)) (sn Sub.nil))) ?_
 refine Cs ?_
 refine Cr ?_
 refine ws (Step.boxObj (ls := [(false, 1, Fact.rep [] a0.Id), (false, 1, Fact.rep [] a0.Members), (false, 1, Fact.rep [] a0.Chunk), (false, 1, Fact.rep [] a0.Rows), (false, 1, Fact.rep [] a0.Log), (false, 1, Fact.rep [] a0.Heads)]) 10 rfl rfl rfl rfl (HasL.flds (Has.cv (Hs rfl) (Cv.trans (Cv.opens (chConfig a0)) (Cv.flds (Vf (Vf (Vf (Vf (Vf (Vf CvL.nil))))))))))) ?_
 refine ws (Step.boxObj (ls := [(false, 1, Fact.rep [] a1.Events), (false, 1, Fact.rep [] a1.Lost), (false, 1, Fact.rep [] a1.Spare), (false, 1, Fact.rep [] a1.Pos), (false, 1, Fact.rep [] a1.Done), (false, 1, Fact.rep [] a1.NoLog), (false, 1, Fact.rep [] a1.Broken)]) 17 rfl rfl rfl rfl (HasL.flds (Has.cv (Hs rfl) (Cv.trans (Cv.opens (chLoss a1)) (Cv.flds (Vf (Vf (Vf (Vf (Vf (Vf (Vf CvL.nil)))))))))))) ?_
 refine ws (Step.allocObj (ls := [(false, 1, Fact.nilv)]) 25 rfl rfl rfl rfl zl23) ?_
 refine wo (Spec.assign Has.nilv) ?_
 refine wo (Spec.assign Has.int) ?_
 refine Wn ?_
 refine Lt ?_
 refine Cs ?_
 refine Cs ?_
 refine Cr ?_
 refine wo (Spec.loadObj (ls := [(false, 1, Fact.rep [] a0.Id), (false, 1, Fact.rep [] a0.Members), (false, 1, Fact.rep [] a0.Chunk), (false, 1, Fact.rep [] a0.Rows), (false, 1, Fact.rep [] a0.Log), (false, 1, Fact.rep [] a0.Heads)]) ty30 rfl rfl (Hs rfl) rfl (Gz rfl (Gz rfl (Gz rfl (Gz rfl (Gz rfl (Gz rfl HasGs.nil))))))) ?_
 refine wo (Spec.loadObj (ls := [(false, 1, Fact.rep [] a1.Events), (false, 1, Fact.rep [] a1.Lost), (false, 1, Fact.rep [] a1.Spare), (false, 1, Fact.rep [] a1.Pos), (false, 1, Fact.rep [] a1.Done), (false, 1, Fact.rep [] a1.NoLog), (false, 1, Fact.rep [] a1.Broken)]) ty33 rfl rfl (Hs rfl) rfl (Gz rfl (Gz rfl (Gz rfl (Gz rfl (Gz rfl (Gz rfl (Gz rfl HasGs.nil)))))))) ?_
 obtain ⟨x1, hx1, hm⟩ := bind_some hm
 refine wo (f := Fact.rep [] (x1 : Int)) (Spec.callE [] 27 rfl en28 (loss_Check_c a0 a1 hx1) (HasAll.cons (Has.fl (Has.cv (Hs rfl) (Cv.trans (Cv.flds (Vf (Vf (Vf (Vf (Vf (Vf CvL.nil))))))) (Cv.close (T := []) (chConfig a0))))) (HasAll.cons (Has.fl (Has.cv (Hs rfl) (Cv.trans (Cv.flds (Vf (Vf (Vf (Vf (Vf (Vf (Vf CvL.nil)))))))) (Cv.close (T := []) (chLoss a1))))) HasAll.nil))) ?_
 refine wo (Spec.assign (Hs rfl)) ?_
 refine Wn ?_
 refine Lt ?_
 refine Cs ?_
 refine Cr ?_
 refine mv ?_
 refine wo (Spec.neqI (Hs rfl) Has.int) ?_
 refine Wn ?_
 refine Lt ?_
 refine CWalk.cond rfl (fun hb => ?_) (fun hb => ?_)
 ·have hm := cond_t hb hm
  refine Cs ?_
  refine Cr ?_
  refine mv ?_
  refine ws (Step.storeF (i := 0) (f := Fact.nilv) rfl ty23 rfl (Has.cv (Hs rfl) (Cv.isvP rfl)) rfl (Has.cv Has.nilv (Cv.nil (T := []))) Has.nilv rfl) ?_
  refine wo (Spec.assign Has.nilv) ?_
  refine wo (Spec.assign (Hs rfl)) ?_
  refine Wn ?_
  refine Lt ?_
  refine CWalk.ret ?_
  refine Leaf.thenR ?_
  obtain rfl := Option.some.inj hm
  exact Leaf.retC3 rfl (HasR.cv (HasR.cell1 ty23 rfl (Hs rfl) rfl (HasG.s rfl)) (Cv.trans Cv.nilOw (Cv.owM (T := []) (te := []) rfl rfl))) (HasR.cv (HasR.tmp (Hs rfl)) (Cv.trans Cv.nilOw (Cv.owM (T := []) (te := []) rfl rfl))) (HasR.cv (HasR.tmp (Hs rfl)) Cv.fl)
 ·have hm := cond_f hb hm
  refine CWalk.skip ?_
  refine Lt ?_
  refine Cs ?_
  refine Cs ?_
  refine Cr ?_
  refine mv ?_
  refine wo (Spec.len (Hs rfl) Try.underlying43) ?_
  refine wo (Spec.gtrI (Hs rfl) Has.int) ?_
  refine Wn ?_
  refine Lt ?_
  refine CWalk.cond rfl (fun hb => ?_) (fun hb => ?_)
  ·have hm := cond_t hb hm
   refine Cs ?_
   refine Cr ?_
   refine ws (Step.storeF (i := 0) (f := Fact.nilv) rfl ty23 rfl (Has.cv (Hs rfl) (Cv.isvP rfl)) rfl (Has.cv Has.nilv (Cv.nil (T := []))) Has.nilv rfl) ?_
   refine wo (Spec.assign Has.nilv) ?_
   refine wo (Spec.assign Has.int) ?_
   refine Wn ?_
   refine Lt ?_
   refine CWalk.ret ?_
   refine Leaf.thenR ?_
   obtain rfl := Option.some.inj hm
   exact Leaf.retC3 rfl (HasR.cv (HasR.cell1 ty23 rfl (Hs rfl) rfl (HasG.s rfl)) (Cv.trans Cv.nilOw (Cv.owM (T := []) (te := []) rfl rfl))) (HasR.cv (HasR.tmp (Hs rfl)) (Cv.trans Cv.nilOw (Cv.owM (T := []) (te := []) rfl rfl))) (HasR.cv (HasR.tmp (Hs rfl)) Cv.fl)
  ·have hm := cond_f hb hm
   refine CWalk.skip ?_
   refine Lt ?_
   refine Cs ?_
   refine Cs ?_
   refine Cr ?_
   refine mv ?_
   refine wo (Spec.makeFunc (xs := []) (ys := [.tmp 3]) rfl rfl HasF.nil (HasF.cons (Hs rfl) HasF.nil) (fun _ _ _ => rfl)) ?_
   obtain ⟨x2, hx2, hm⟩ := bind_some hm
   refine wo (f := Fact.rep [] (x2 : Int)) (Spec.callE [0, 10] 28 rfl en29 (redo_all_api_Found_c a2 (fun y => redo_Acts_1 y a0) hx2) (HasAll.cons (Has.m (Hs rfl) rfl) (HasAll.cons (Has.cv (Hs rfl) (Cv.fn (pu := []) (pc := [.ptr 0 a0]) (shc := []) en30 CvF.nil (CvF.cons (Cv.trans (Cv.objPtr (ls := [(false, 1, Fact.rep [] a0.Id), (false, 1, Fact.rep [] a0.Members), (false, 1, Fact.rep [] a0.Chunk), (false, 1, Fact.rep [] a0.Rows), (false, 1, Fact.rep [] a0.Log), (false, 1, Fact.rep [] a0.Heads)]) rfl rfl (Gz rfl (Gz rfl (Gz rfl (Gz rfl (Gz rfl (Gz rfl HasGs.nil)))))) (Cv.trans (Cv.flds (Vf (Vf (Vf (Vf (Vf (Vf CvL.nil))))))) (Cv.close (T := []) (chConfig a0)))) (Cv.ptrM rfl)) CvF.nil) (fun y r h => redo_Acts_1_c y a0 h))) HasAll.nil))) ?_
   refine wo (Spec.assign (Hs rfl)) ?_
   refine Wn ?_
   refine Lt ?_
   refine Cs ?_
   refine Cr ?_
   refine mv ?_
   refine wo (Spec.neqI (Hs rfl) Has.int) ?_
   refine Wn ?_
   refine Lt ?_
   refine CWalk.cond rfl (fun hb => ?_) (fun hb => ?_)
   ·have hm := cond_t hb hm
    refine Cs ?_
    refine Cr ?_
    refine mv ?_
    refine ws (Step.storeF (i := 0) (f := Fact.nilv) rfl ty23 rfl (Has.cv (Hs rfl) (Cv.isvP rfl)) rfl (Has.cv Has.nilv (Cv.nil (T := []))) Has.nilv rfl) ?_
    refine wo (Spec.assign Has.nilv) ?_
    refine wo (Spec.assign (Hs rfl)) ?_
    refine Wn ?_
    refine Lt ?_
    refine CWalk.ret ?_
    refine Leaf.thenR ?_
    obtain rfl := Option.some.inj hm
    exact Leaf.retC3 rfl (HasR.cv (HasR.cell1 ty23 rfl (Hs rfl) rfl (HasG.s rfl)) (Cv.trans Cv.nilOw (Cv.owM (T := []) (te := []) rfl rfl))) (HasR.cv (HasR.tmp (Hs rfl)) (Cv.trans Cv.nilOw (Cv.owM (T := []) (te := []) rfl rfl))) (HasR.cv (HasR.tmp (Hs rfl)) Cv.fl)
   ·have hm := cond_f hb hm
    refine CWalk.skip ?_
    refine Lt ?_
    refine Cs ?_
    refine Cr ?_
    refine ws (Step.makeMapD 29 3 37 rfl rfl) ?_
    refine wo (Spec.build (us := [(0, .tmp 29)]) (ls' := [(false, 1, Fact.isv 29), (false, 1, Fact.nilv)]) bd78 rfl (BP.consP rfl rfl (One.mpd (Hs rfl) rfl) (Hs rfl) BP.nil)) ?_
    refine ws (Step.boxObj (ls := [(false, 1, Fact.isv 29), (false, 1, Fact.nilv)]) 30 rfl rfl rfl rfl (HasL.flds (Hs rfl))) ?_
    refine ws (Step.allocObj (ls := [(false, 1, Fact.top)]) 33 rfl rfl rfl rfl zl75) ?_
    refine ws (Step.storeP (i := 0) (f := Fact.isv 30) rfl tc75 rfl (Has.cv (Hs rfl) (Cv.isvP rfl)) rfl (One.obj (Hs rfl) rfl) (Hs rfl) rfl) ?_
    refine Wn ?_
    refine Lt ?_
    refine Cs ?_
    refine Cr ?_
    refine mv ?_
    refine wo (Spec.makeFunc (xs := []) (ys := [.tmp 11, .tmp 3, .tmp 4, .tmp 6]) rfl rfl HasF.nil (HasF.cons (Hs rfl) (HasF.cons (Hs rfl) (HasF.cons (Hs rfl) (HasF.cons (Hs rfl) HasF.nil)))) (fun _ _ _ => rfl)) ?_
    refine Walk.inline (S := Int × (List Act45) × (List Int) × (List DRow)) (fun p : Int × (List Act45) × (List Int) × (List DRow) => [.fact 6 (.isv 25), .fact 7 (.nilv), .fact 11 (.isv 33), .fact 34 (.rep [] p.1), .fact 100026 (.at 26 (.ow [74] [72, 73] 45 (p.2.1 : List Act45))), .fact 100034 (.at 34 (.isv 30)), .fact 100031 (.at 31 (.isv 29)), .fact 100032 (.at 32 (.ow [56, 65] [] 3 (p.2.2.1 : List Int))), .fact 100025 (.obj 25 [(false, 1)]), .fact 100033 (.obj 33 [(false, 1)]), .fact 100030 (.obj 30 [(false, 1), (false, 1)]), .fact 100029 (.mpd 29 [70] 3 37 (p.2.2.2 : List DRow))]) (fun p : Int × (List Act45) × (List Int) × (List DRow) => redo_Acts_J1 p.1 p.2.1 p.2.2.1 p.2.2.2 = some r) (fun u1 => [.fact 100011 (.at 11 (.rep [] a0.Id)), .fact 100012 (.at 12 (.rep [] a0.Members)), .fact 100013 (.at 13 (.rep [] a0.Chunk)), .fact 100014 (.at 14 (.rep [] a0.Rows)), .fact 100015 (.at 15 (.rep [] a0.Log)), .fact 100016 (.at 16 (.rep [] a0.Heads)), .fact 100018 (.at 18 (.rep [] a1.Events)), .fact 100019 (.at 19 (.rep [] a1.Lost)), .fact 100020 (.at 20 (.rep [] a1.Spare)), .fact 100021 (.at 21 (.rep [] a1.Pos)), .fact 100022 (.at 22 (.rep [] a1.Done)), .fact 100023 (.at 23 (.rep [] a1.NoLog)), .fact 100024 (.at 24 (.rep [] a1.Broken)), .fact 100026 (.at 26 (.nilv)), .fact 100031 (.at 31 (.isv 29)), .fact 100032 (.at 32 (.nilv)), .fact 100034 (.at 34 (.isv 30)), .fact 902006 (.cst (u1 6) (Fact.isv 25)), .fact 902007 (.cst (u1 7) (Fact.nilv)), .fact 902011 (.cst (u1 11) (Fact.isv 33)), .fact 100010 (.obj 10 [(false, 1), (false, 1), (false, 1), (false, 1), (false, 1), (false, 1)]), .fact 100017 (.obj 17 [(false, 1), (false, 1), (false, 1), (false, 1), (false, 1), (false, 1), (false, 1)]), .fact 100025 (.obj 25 [(false, 1)]), .fact 100029 (.mpd 29 [] 3 37 (([] : List DRow) : List DRow)), .fact 100030 (.obj 30 [(false, 1), (false, 1)]), .fact 100033 (.obj 33 [(false, 1)])]) (FA := [Fact.rep [0] (a2 : List Found), Fact.fnv 32 [] [Fact.isv 33, Fact.isv 10, Fact.isv 17, Fact.isv 25]]) rfl Try.func29 rfl rfl rfl (CallOk.fn en29 (HasF.cons (Hs rfl) (HasF.cons (Hs rfl) HasF.nil))) (fun u1 => (ck (ck (ck (ck (ck (ck (ck (ck (ck (ck (ck (ck (ck (ck (ck (ck (ck (cs 902000 6 (cs 902000 7 (cs 902000 11 (ck (ck (ck (ck (ck (ck Carry.nil))))))))))))))))))))))))))) (fun u1 => ?_) ?_
    ·refine Cs ?_
     refine Cr ?_
     refine wo (Spec.assign Has.int) ?_
     refine Wn ?_
     refine Lt ?_
     refine Cs ?_
     refine Cs ?_
     refine Cr ?_
     refine mv ?_
     refine wo (Spec.len (Hs rfl) Try.underlying43) ?_
     refine wo (Spec.move Has.int) ?_
     refine Wn ?_
     refine Lt ?_
     refine CWalk.block ?_
     obtain ⟨b64, hb64, hm⟩ := bind_some hm
     refine CWalk.loop (fun s : Int × (List Act45) × (List Int) × (List DRow) => [.fact 1 (.fnv 32 [] [Fact.isv 33, Fact.isv 10, Fact.isv 17, Fact.isv 25]), .fact 8 (.rep [0] (a2 : List Found)), .fact 9 (.rep [] (((a2).length : Int) : Int)), .fact 10 (.rep [] s.1), .fact 902006 (.cst (u1 6) (Fact.isv 25)), .fact 902007 (.cst (u1 7) (Fact.nilv)), .fact 902011 (.cst (u1 11) (Fact.isv 33)), .fact 100011 (.at 11 (.rep [] a0.Id)), .fact 100012 (.at 12 (.rep [] a0.Members)), .fact 100013 (.at 13 (.rep [] a0.Chunk)), .fact 100014 (.at 14 (.rep [] a0.Rows)), .fact 100015 (.at 15 (.rep [] a0.Log)), .fact 100016 (.at 16 (.rep [] a0.Heads)), .fact 100018 (.at 18 (.rep [] a1.Events)), .fact 100019 (.at 19 (.rep [] a1.Lost)), .fact 100020 (.at 20 (.rep [] a1.Spare)), .fact 100021 (.at 21 (.rep [] a1.Pos)), .fact 100022 (.at 22 (.rep [] a1.Done)), .fact 100023 (.at 23 (.rep [] a1.NoLog)), .fact 100024 (.at 24 (.rep [] a1.Broken)), .fact 100026 (.at 26 (.ow [74] [72, 73] 45 (s.2.1 : List Act45))), .fact 100034 (.at 34 (.isv 30)), .fact 100031 (.at 31 (.isv 29)), .fact 100032 (.at 32 (.ow [56, 65] [] 3 (s.2.2.1 : List Int))), .fact 100010 (.obj 10 [(false, 1), (false, 1), (false, 1), (false, 1), (false, 1), (false, 1)]), .fact 100017 (.obj 17 [(false, 1), (false, 1), (false, 1), (false, 1), (false, 1), (false, 1), (false, 1)]), .fact 100025 (.obj 25 [(false, 1)]), .fact 100033 (.obj 33 [(false, 1)]), .fact 100030 (.obj 30 [(false, 1), (false, 1)]), .fact 100029 (.mpd 29 [70] 3 37 (s.2.2.2 : List DRow))]) (fun b : ((List Act45) × (List Int) × (List DRow)) ⊕ (Int × (List Act45) × (List Int) × (List DRow)) => Sum.elim (fun b => (Exit.exit 0, [.fact 902006 (.cst (u1 6) (Fact.isv 25)), .fact 902007 (.cst (u1 7) (Fact.nilv)), .fact 902011 (.cst (u1 11) (Fact.isv 33)), .fact 100026 (.at 26 (.ow [74] [72, 73] 45 (b.1 : List Act45))), .fact 100034 (.at 34 (.isv 30)), .fact 100031 (.at 31 (.isv 29)), .fact 100032 (.at 32 (.ow [56, 65] [] 3 (b.2.1 : List Int))), .fact 100025 (.obj 25 [(false, 1)]), .fact 100033 (.obj 33 [(false, 1)]), .fact 100030 (.obj 30 [(false, 1), (false, 1)]), .fact 100029 (.mpd 29 [70] 3 37 (b.2.2 : List DRow))])) (fun b => (Exit.ret, [.fact 4 (.rep [] b.1), .fact 902006 (.cst (u1 6) (Fact.isv 25)), .fact 902007 (.cst (u1 7) (Fact.nilv)), .fact 902011 (.cst (u1 11) (Fact.isv 33)), .fact 100026 (.at 26 (.ow [74] [72, 73] 45 (b.2.1 : List Act45))), .fact 100034 (.at 34 (.isv 30)), .fact 100031 (.at 31 (.isv 29)), .fact 100032 (.at 32 (.ow [56, 65] [] 3 (b.2.2.1 : List Int))), .fact 100025 (.obj 25 [(false, 1)]), .fact 100033 (.obj 33 [(false, 1)]), .fact 100030 (.obj 30 [(false, 1), (false, 1)]), .fact 100029 (.mpd 29 [70] 3 37 (b.2.2.2 : List DRow))])) b) hb64 (sn (su (st (st (sc (sc (sc (sf (sf (sf (sf (sf (sf (sf (sf (sf (sf (sf (sf (sf (Sub.cons (Has.at (HasG.cv (HasG.s rfl) (Cv.trans Cv.nilOw (Cv.owM (T := []) (te := []) rfl rfl)))) (sg (sg (Sub.cons (Has.at (HasG.cv (HasG.s rfl) (Cv.trans Cv.nilOw (Cv.owF (T := []) (te := []) rfl)))) (sn (sn (sn (sn (sn (Sub.cons (Has.mpdM (Hs rfl) rfl) Sub.nil)))))))))))))))))))))))))))))) ?_ ?_
     ·rintro ⟨s14, s15, s16, s17⟩ c18 hm
      replace hm : redo_Acts_L3 a0 a1 a2 s14 s15 s16 s17 = some c18 := hm
      unfold redo_Acts_L3 at hm
      show CWalk _ [.fact 1 (.fnv 32 [] [Fact.isv 33, Fact.isv 10, Fact.isv 17, Fact.isv 25]), .fact 8 (.rep [0] (a2 : List Found)), .fact 9 (.rep [] (((a2).length : Int) : Int)), .fact 10 (.rep [] (s14 : Int)), .fact 902006 (.cst (u1 6) (Fact.isv 25)), .fact 902007 (.cst (u1 7) (Fact.nilv)), .fact 902011 (.cst (u1 11) (Fact.isv 33)), .fact 100011 (.at 11 (.rep [] a0.Id)), .fact 100012 (.at 12 (.rep [] a0.Members)), .fact 100013 (.at 13 (.rep [] a0.Chunk)), .fact 100014 (.at 14 (.rep [] a0.Rows)), .fact 100015 (.at 15 (.rep [] a0.Log)), .fact 100016 (.at 16 (.rep [] a0.Heads)), .fact 100018 (.at 18 (.rep [] a1.Events)), .fact 100019 (.at 19 (.rep [] a1.Lost)), .fact 100020 (.at 20 (.rep [] a1.Spare)), .fact 100021 (.at 21 (.rep [] a1.Pos)), .fact 100022 (.at 22 (.rep [] a1.Done)), .fact 100023 (.at 23 (.rep [] a1.NoLog)), .fact 100024 (.at 24 (.rep [] a1.Broken)), .fact 100026 (.at 26 (.ow [74] [72, 73] 45 (s15 : List Act45))), .fact 100034 (.at 34 (.isv 30)), .fact 100031 (.at 31 (.isv 29)), .fact 100032 (.at 32 (.ow [56, 65] [] 3 (s16 : List Int))), .fact 100010 (.obj 10 [(false, 1), (false, 1), (false, 1), (false, 1), (false, 1), (false, 1)]), .fact 100017 (.obj 17 [(false, 1), (false, 1), (false, 1), (false, 1), (false, 1), (false, 1), (false, 1)]), .fact 100025 (.obj 25 [(false, 1)]), .fact 100033 (.obj 33 [(false, 1)]), .fact 100030 (.obj 30 [(false, 1), (false, 1)]), .fact 100029 (.mpd 29 [70] 3 37 (s17 : List DRow))] _ _
      refine Cs ?_
      refine Cr ?_
      refine wo (Spec.lssI (Hs rfl) (Hs rfl)) ?_
      refine Wn ?_
      refine Lt ?_
      refine Cs ?_
      refine CWalk.cond rfl (fun hb => ?_) (fun hb => ?_)
      ·have hm := cond_t hb hm
       refine CWalk.skip ?_
       refine Lt ?_
       refine Cs ?_
       refine CWalk.block ?_
       refine Cs ?_
       refine Cr ?_
       obtain ⟨x19, hx19, hm⟩ := bind_some hm
       refine wo (Spec.indexAddr hx19 sl43 (Hs rfl) (Hs rfl)) ?_
       refine wo (Spec.load ty41 (Hs rfl)) ?_
       refine ws (Step.allocObj (ls := [(false, 1, Fact.rep [] ((0 : UInt32) : UInt32)), (false, 1, Fact.rep [] ((0 : UInt32) : UInt32)), (false, 1, Fact.rep [] ((0 : Int) : Int)), (false, 1, Fact.nilv), (false, 1, Fact.nilv), (false, 1, Fact.nilv)]) 35 rfl rfl rfl rfl zl41) ?_
       refine ws (Step.storeObj (ls := [(false, 1, Fact.rep [] x19.Age), (false, 1, Fact.rep [] x19.Seq), (false, 1, Fact.rep [] x19.Deal.Stripe), (false, 1, Fact.rep [0] x19.Deal.Slots), (false, 1, Fact.rep [0] x19.Deal.Blocks), (false, 1, Fact.rep [0] x19.Deal.Parity)]) rfl ty41 rfl rfl (Hs rfl) rfl (HasL.flds (Has.cv (Hs rfl) (Cv.trans (Cv.trans (Cv.trans (Cv.opens (chFound x19)) (Cv.flds (Vf (Vf (CvL.cons Cv.refl CvL.nil))))) (Cv.flds (ls := [(false, 1, Fact.rep [] x19.Age), (false, 1, Fact.rep [] x19.Seq), (true, 4, Fact.rep [0] x19.Deal)]) (ms := [(false, 1, Fact.rep [] x19.Age), (false, 1, Fact.rep [] x19.Seq), (true, 4, Fact.flds [(false, 1, Fact.rep [] x19.Deal.Stripe), (false, 1, Fact.rep [0] x19.Deal.Slots), (false, 1, Fact.rep [0] x19.Deal.Blocks), (false, 1, Fact.rep [0] x19.Deal.Parity)])]) (CvL.cons Cv.refl (CvL.cons Cv.refl (CvL.cons (Cv.trans (Cv.opens (chDeal x19.Deal)) (Cv.flds (Vf (CvL.cons Cv.refl (CvL.cons Cv.refl (CvL.cons Cv.refl CvL.nil)))))) CvL.nil))))) (Cv.flat (FlatR.cons (FlatR.cons (FlatR.sub (FlatR.cons (FlatR.cons (FlatR.cons (FlatR.cons FlatR.nil)))) rfl FlatR.nil))))))) rfl) ?_
       refine Wn ?_
       refine Lt ?_
       refine Cs ?_
       refine Cr ?_
       refine mv ?_
       refine wo (Spec.unflat (FlatR.cons (FlatR.cons (FlatR.sub (FlatR.cons (FlatR.cons (FlatR.cons (FlatR.cons FlatR.nil)))) rfl FlatR.nil))) (Spec.loadObj (ls := [(false, 1, Fact.rep [] x19.Age), (false, 1, Fact.rep [] x19.Seq), (false, 1, Fact.rep [] x19.Deal.Stripe), (false, 1, Fact.rep [0] x19.Deal.Slots), (false, 1, Fact.rep [0] x19.Deal.Blocks), (false, 1, Fact.rep [0] x19.Deal.Parity)]) ty41 rfl rfl (Hs rfl) rfl (Gz rfl (Gz rfl (Gz rfl (Gz rfl (Gz rfl (Gz rfl HasGs.nil)))))))) ?_
       refine Walk.inline (S := Int × (List Act45) × (List Int) × (List DRow)) (fun p : Int × (List Act45) × (List Int) × (List DRow) => [.fact 1 (.fnv 32 [] [Fact.isv 33, Fact.isv 10, Fact.isv 17, Fact.isv 25]), .fact 8 (.rep [0] (a2 : List Found)), .fact 9 (.rep [] (((a2).length : Int) : Int)), .fact 10 (.rep [] (s14 : Int)), .fact 16 (.rep [] p.1), .fact 902006 (.cst (u1 6) (Fact.isv 25)), .fact 902007 (.cst (u1 7) (Fact.nilv)), .fact 902011 (.cst (u1 11) (Fact.isv 33)), .fact 100011 (.at 11 (.rep [] a0.Id)), .fact 100012 (.at 12 (.rep [] a0.Members)), .fact 100013 (.at 13 (.rep [] a0.Chunk)), .fact 100014 (.at 14 (.rep [] a0.Rows)), .fact 100015 (.at 15 (.rep [] a0.Log)), .fact 100016 (.at 16 (.rep [] a0.Heads)), .fact 100018 (.at 18 (.rep [] a1.Events)), .fact 100019 (.at 19 (.rep [] a1.Lost)), .fact 100020 (.at 20 (.rep [] a1.Spare)), .fact 100021 (.at 21 (.rep [] a1.Pos)), .fact 100022 (.at 22 (.rep [] a1.Done)), .fact 100023 (.at 23 (.rep [] a1.NoLog)), .fact 100024 (.at 24 (.rep [] a1.Broken)), .fact 100026 (.at 26 (.ow [74] [72, 73] 45 (p.2.1 : List Act45))), .fact 100034 (.at 34 (.isv 30)), .fact 100031 (.at 31 (.isv 29)), .fact 100032 (.at 32 (.ow [56, 65] [] 3 (p.2.2.1 : List Int))), .fact 100010 (.obj 10 [(false, 1), (false, 1), (false, 1), (false, 1), (false, 1), (false, 1)]), .fact 100017 (.obj 17 [(false, 1), (false, 1), (false, 1), (false, 1), (false, 1), (false, 1), (false, 1)]), .fact 100025 (.obj 25 [(false, 1)]), .fact 100033 (.obj 33 [(false, 1)]), .fact 100030 (.obj 30 [(false, 1), (false, 1)]), .fact 100029 (.mpd 29 [70] 3 37 (p.2.2.2 : List DRow))]) (fun p : Int × (List Act45) × (List Int) × (List DRow) => redo_Acts_J4 s14 p.1 p.2.1 p.2.2.1 p.2.2.2 = some c18) (fun u2 => [.fact 100011 (.at 11 (.rep [] a0.Id)), .fact 100012 (.at 12 (.rep [] a0.Members)), .fact 100013 (.at 13 (.rep [] a0.Chunk)), .fact 100014 (.at 14 (.rep [] a0.Rows)), .fact 100015 (.at 15 (.rep [] a0.Log)), .fact 100016 (.at 16 (.rep [] a0.Heads)), .fact 100018 (.at 18 (.rep [] a1.Events)), .fact 100019 (.at 19 (.rep [] a1.Lost)), .fact 100020 (.at 20 (.rep [] a1.Spare)), .fact 100021 (.at 21 (.rep [] a1.Pos)), .fact 100022 (.at 22 (.rep [] a1.Done)), .fact 100023 (.at 23 (.rep [] a1.NoLog)), .fact 100024 (.at 24 (.rep [] a1.Broken)), .fact 100026 (.at 26 (.ow [74] [72, 73] 45 (s15 : List Act45))), .fact 100031 (.at 31 (.isv 29)), .fact 100032 (.at 32 (.ow [56, 65] [] 3 (s16 : List Int))), .fact 100034 (.at 34 (.isv 30)), .fact 902006 (.cst (u1 6) (Fact.isv 25)), .fact 902007 (.cst (u1 7) (Fact.nilv)), .fact 902011 (.cst (u1 11) (Fact.isv 33)), .fact 904001 (.cst (u2 1) (Fact.fnv 32 [] [Fact.isv 33, Fact.isv 10, Fact.isv 17, Fact.isv 25])), .fact 904008 (.cst (u2 8) (Fact.rep [0] (a2 : List Found))), .fact 904009 (.cst (u2 9) (Fact.rep [] (((a2).length : Int) : Int))), .fact 904010 (.cst (u2 10) (Fact.rep [] (s14 : Int))), .fact 100010 (.obj 10 [(false, 1), (false, 1), (false, 1), (false, 1), (false, 1), (false, 1)]), .fact 100017 (.obj 17 [(false, 1), (false, 1), (false, 1), (false, 1), (false, 1), (false, 1), (false, 1)]), .fact 100025 (.obj 25 [(false, 1)]), .fact 100033 (.obj 33 [(false, 1)]), .fact 100030 (.obj 30 [(false, 1), (false, 1)]), .fact 100029 (.mpd 29 [70] 3 37 (s17 : List DRow))]) (FA := [Fact.flds [(false, 1, Fact.rep [] x19.Age), (false, 1, Fact.rep [] x19.Seq), (true, 4, Fact.flds [(false, 1, Fact.rep [] x19.Deal.Stripe), (false, 1, Fact.rep [0] x19.Deal.Slots), (false, 1, Fact.rep [0] x19.Deal.Blocks), (false, 1, Fact.rep [0] x19.Deal.Parity)])], Fact.isv 33, Fact.isv 10, Fact.isv 17, Fact.isv 25]) rfl Try.func32 rfl rfl rfl (CallOk.valE en32 (Hs rfl) (HasF.cons (Hs rfl) HasF.nil)) (fun u2 => (ck (ck (ck (ck (ck (ck (ck (ck (ck (ck (ck (ck (ck (ck (ck (ck (ck (ck (ck (ck (cs 904000 1 (cs 904000 8 (cs 904000 9 (cs 904000 10 (ck (ck (ck (ck (ck (ck Carry.nil))))))))))))))))))))))))))))))) (fun u2 => ?_) ?_
       ·refine Cs ?_
        refine Cr ?_
        refine ws (Step.boxObj (ls := [(false, 1, Fact.rep [] x19.Age), (false, 1, Fact.rep [] x19.Seq), (false, 1, Fact.rep [] x19.Deal.Stripe), (false, 1, Fact.rep [0] x19.Deal.Slots), (false, 1, Fact.rep [0] x19.Deal.Blocks), (false, 1, Fact.rep [0] x19.Deal.Parity)]) 42 rfl rfl rfl rfl (HasL.flds (Has.cv (Hs rfl) (Cv.flat (FlatR.cons (FlatR.cons (FlatR.sub (FlatR.cons (FlatR.cons (FlatR.cons (FlatR.cons FlatR.nil)))) rfl FlatR.nil))))))) ?_
        refine wo (Spec.assign Has.int) ?_
        refine Wn ?_
        refine Lt ?_
        refine Cs ?_
        refine Cr ?_
        refine wo (Spec.loadF (i := 0) ty75 rfl (Has.cv (Hs rfl) (Cv.isvP rfl)) rfl (HasG.s rfl)) ?_
        refine wo (Spec.fieldAddrO fd41_2 (Has.cv (Hs rfl) (Cv.isvP rfl))) ?_
        refine wo (Spec.loadParts (i := 2) (a := [(false, 1), (false, 1)]) (b := []) (ls := [(false, 1, Fact.rep [] x19.Deal.Stripe), (false, 1, Fact.rep [0] x19.Deal.Slots), (false, 1, Fact.rep [0] x19.Deal.Blocks), (false, 1, Fact.rep [0] x19.Deal.Parity)]) ty39 rfl rfl rfl rfl rfl (Hs rfl) rfl (Gz rfl (Gz rfl (Gz rfl (Gz rfl HasGs.nil))))) ?_
        refine Walk.inline (S := (List Int) × (List DRow)) (fun p : (List Int) × (List DRow) => [.fact 2 (.isv 10), .fact 3 (.isv 17), .fact 4 (.isv 25), .fact 5 (.isv 42), .fact 13 (.top), .fact 902006 (.cst (u1 6) (Fact.isv 25)), .fact 902007 (.cst (u1 7) (Fact.nilv)), .fact 902011 (.cst (u1 11) (Fact.isv 33)), .fact 904001 (.cst (u2 1) (Fact.fnv 32 [] [Fact.isv 33, Fact.isv 10, Fact.isv 17, Fact.isv 25])), .fact 904008 (.cst (u2 8) (Fact.rep [0] (a2 : List Found))), .fact 904009 (.cst (u2 9) (Fact.rep [] (((a2).length : Int) : Int))), .fact 904010 (.cst (u2 10) (Fact.rep [] (s14 : Int))), .fact 100011 (.at 11 (.rep [] a0.Id)), .fact 100012 (.at 12 (.rep [] a0.Members)), .fact 100013 (.at 13 (.rep [] a0.Chunk)), .fact 100014 (.at 14 (.rep [] a0.Rows)), .fact 100015 (.at 15 (.rep [] a0.Log)), .fact 100016 (.at 16 (.rep [] a0.Heads)), .fact 100018 (.at 18 (.rep [] a1.Events)), .fact 100019 (.at 19 (.rep [] a1.Lost)), .fact 100020 (.at 20 (.rep [] a1.Spare)), .fact 100021 (.at 21 (.rep [] a1.Pos)), .fact 100022 (.at 22 (.rep [] a1.Done)), .fact 100023 (.at 23 (.rep [] a1.NoLog)), .fact 100024 (.at 24 (.rep [] a1.Broken)), .fact 100026 (.at 26 (.ow [74] [72, 73] 45 (s15 : List Act45))), .fact 100043 (.at 43 (.rep [] x19.Age)), .fact 100044 (.at 44 (.rep [] x19.Seq)), .fact 100045 (.at 45 (.rep [] x19.Deal.Stripe)), .fact 100046 (.at 46 (.rep [0] x19.Deal.Slots)), .fact 100047 (.at 47 (.rep [0] x19.Deal.Blocks)), .fact 100048 (.at 48 (.rep [0] x19.Deal.Parity)), .fact 100034 (.at 34 (.isv 30)), .fact 100031 (.at 31 (.isv 29)), .fact 100032 (.at 32 (.ow [56, 65] [] 3 (p.1 : List Int))), .fact 100010 (.obj 10 [(false, 1), (false, 1), (false, 1), (false, 1), (false, 1), (false, 1)]), .fact 100017 (.obj 17 [(false, 1), (false, 1), (false, 1), (false, 1), (false, 1), (false, 1), (false, 1)]), .fact 100025 (.obj 25 [(false, 1)]), .fact 100042 (.obj 42 [(false, 1), (false, 1), (false, 1), (false, 1), (false, 1), (false, 1)]), .fact 100033 (.obj 33 [(false, 1)]), .fact 100030 (.obj 30 [(false, 1), (false, 1)]), .fact 100029 (.mpd 29 [70] 3 37 (p.2 : List DRow))]) (fun p : (List Int) × (List DRow) => redo_Acts_J5 a0 a1 s14 s15 x19 p.1 p.2 = some c18) (fun u3 => [.fact 100011 (.at 11 (.rep [] a0.Id)), .fact 100012 (.at 12 (.rep [] a0.Members)), .fact 100013 (.at 13 (.rep [] a0.Chunk)), .fact 100014 (.at 14 (.rep [] a0.Rows)), .fact 100015 (.at 15 (.rep [] a0.Log)), .fact 100016 (.at 16 (.rep [] a0.Heads)), .fact 100018 (.at 18 (.rep [] a1.Events)), .fact 100019 (.at 19 (.rep [] a1.Lost)), .fact 100020 (.at 20 (.rep [] a1.Spare)), .fact 100021 (.at 21 (.rep [] a1.Pos)), .fact 100022 (.at 22 (.rep [] a1.Done)), .fact 100023 (.at 23 (.rep [] a1.NoLog)), .fact 100024 (.at 24 (.rep [] a1.Broken)), .fact 100026 (.at 26 (.ow [74] [72, 73] 45 (s15 : List Act45))), .fact 100031 (.at 31 (.isv 29)), .fact 100032 (.at 32 (.ow [56, 65] [] 3 (s16 : List Int))), .fact 100034 (.at 34 (.isv 30)), .fact 100043 (.at 43 (.rep [] x19.Age)), .fact 100044 (.at 44 (.rep [] x19.Seq)), .fact 100045 (.at 45 (.rep [] x19.Deal.Stripe)), .fact 100046 (.at 46 (.rep [0] x19.Deal.Slots)), .fact 100047 (.at 47 (.rep [0] x19.Deal.Blocks)), .fact 100048 (.at 48 (.rep [0] x19.Deal.Parity)), .fact 902006 (.cst (u1 6) (Fact.isv 25)), .fact 902007 (.cst (u1 7) (Fact.nilv)), .fact 902011 (.cst (u1 11) (Fact.isv 33)), .fact 904001 (.cst (u2 1) (Fact.fnv 32 [] [Fact.isv 33, Fact.isv 10, Fact.isv 17, Fact.isv 25])), .fact 904008 (.cst (u2 8) (Fact.rep [0] (a2 : List Found))), .fact 904009 (.cst (u2 9) (Fact.rep [] (((a2).length : Int) : Int))), .fact 904010 (.cst (u2 10) (Fact.rep [] (s14 : Int))), .fact 906002 (.cst (u3 2) (Fact.isv 10)), .fact 906003 (.cst (u3 3) (Fact.isv 17)), .fact 906004 (.cst (u3 4) (Fact.isv 25)), .fact 906005 (.cst (u3 5) (Fact.isv 42)), .fact 100010 (.obj 10 [(false, 1), (false, 1), (false, 1), (false, 1), (false, 1), (false, 1)]), .fact 100017 (.obj 17 [(false, 1), (false, 1), (false, 1), (false, 1), (false, 1), (false, 1), (false, 1)]), .fact 100025 (.obj 25 [(false, 1)]), .fact 100033 (.obj 33 [(false, 1)]), .fact 100030 (.obj 30 [(false, 1), (false, 1)]), .fact 100029 (.mpd 29 [70] 3 37 (s17 : List DRow)), .fact 100042 (.obj 42 [(false, 1), (false, 1), (false, 1), (false, 1), (false, 1), (false, 1)])]) (FA := [Fact.isv 30, Fact.flds [(false, 1, Fact.rep [] x19.Deal.Stripe), (false, 1, Fact.rep [0] x19.Deal.Slots), (false, 1, Fact.rep [0] x19.Deal.Blocks), (false, 1, Fact.rep [0] x19.Deal.Parity)]]) rfl Try.func33 rfl rfl rfl (CallOk.fn en33 (HasF.cons (Hs rfl) (HasF.cons (Hs rfl) HasF.nil))) (fun u3 => (ck (ck (ck (ck (ck (ck (ck (ck (ck (ck (ck (ck (ck (ck (ck (ck (ck (ck (ck (ck (ck (ck (ck (ck (ck (ck (ck (ck (ck (ck (cs 906000 2 (cs 906000 3 (cs 906000 4 (cs 906000 5 (ck (ck (ck (ck (ck (ck (ck Carry.nil)))))))))))))))))))))))))))))))))))))))))) (fun u3 => ?_) ?_
        ·refine Cs ?_
         refine Cr ?_
         refine ws (Step.boxObj (ls := [(false, 1, Fact.rep [] x19.Deal.Stripe), (false, 1, Fact.rep [0] x19.Deal.Slots), (false, 1, Fact.rep [0] x19.Deal.Blocks), (false, 1, Fact.rep [0] x19.Deal.Parity)]) 49 rfl rfl rfl rfl (HasL.flds (Hs rfl))) ?_
         refine Wn ?_
         refine Lt ?_
         refine Cs ?_
         refine Cs ?_
         refine Cr ?_
         refine wo (Spec.fieldAddrO fd39_3 (Has.cv (Hs rfl) (Cv.isvP rfl))) ?_
         refine wo (Spec.loadF (i := 3) ty37 rfl (Hs rfl) rfl (HasG.s rfl)) ?_
         refine wo (Spec.len (Hs rfl) Try.underlying37) ?_
         refine wo (Spec.gtrI (Hs rfl) Has.int) ?_
         refine Wn ?_
         refine Lt ?_
         refine CWalk.cond rfl (fun hb => ?_) (fun hb => ?_)
         ·have hm := cond_t hb hm
          refine CWalk.seqJ (fun p : (List Int) × (List DRow) => [.fact 902006 (.cst (u1 6) (Fact.isv 25)), .fact 902007 (.cst (u1 7) (Fact.nilv)), .fact 902011 (.cst (u1 11) (Fact.isv 33)), .fact 904001 (.cst (u2 1) (Fact.fnv 32 [] [Fact.isv 33, Fact.isv 10, Fact.isv 17, Fact.isv 25])), .fact 904008 (.cst (u2 8) (Fact.rep [0] (a2 : List Found))), .fact 904009 (.cst (u2 9) (Fact.rep [] (((a2).length : Int) : Int))), .fact 904010 (.cst (u2 10) (Fact.rep [] (s14 : Int))), .fact 906002 (.cst (u3 2) (Fact.isv 10)), .fact 906003 (.cst (u3 3) (Fact.isv 17)), .fact 906004 (.cst (u3 4) (Fact.isv 25)), .fact 906005 (.cst (u3 5) (Fact.isv 42)), .fact 100026 (.at 26 (.ow [74] [72, 73] 45 (s15 : List Act45))), .fact 100034 (.at 34 (.isv 30)), .fact 100011 (.at 11 (.rep [] a0.Id)), .fact 100012 (.at 12 (.rep [] a0.Members)), .fact 100013 (.at 13 (.rep [] a0.Chunk)), .fact 100014 (.at 14 (.rep [] a0.Rows)), .fact 100015 (.at 15 (.rep [] a0.Log)), .fact 100016 (.at 16 (.rep [] a0.Heads)), .fact 100018 (.at 18 (.rep [] a1.Events)), .fact 100019 (.at 19 (.rep [] a1.Lost)), .fact 100020 (.at 20 (.rep [] a1.Spare)), .fact 100021 (.at 21 (.rep [] a1.Pos)), .fact 100022 (.at 22 (.rep [] a1.Done)), .fact 100023 (.at 23 (.rep [] a1.NoLog)), .fact 100024 (.at 24 (.rep [] a1.Broken)), .fact 100043 (.at 43 (.rep [] x19.Age)), .fact 100044 (.at 44 (.rep [] x19.Seq)), .fact 100045 (.at 45 (.rep [] x19.Deal.Stripe)), .fact 100046 (.at 46 (.rep [0] x19.Deal.Slots)), .fact 100047 (.at 47 (.rep [0] x19.Deal.Blocks)), .fact 100048 (.at 48 (.rep [0] x19.Deal.Parity)), .fact 100031 (.at 31 (.isv 29)), .fact 100032 (.at 32 (.ow [56, 65] [] 3 (p.1 : List Int))), .fact 100025 (.obj 25 [(false, 1)]), .fact 100033 (.obj 33 [(false, 1)]), .fact 100010 (.obj 10 [(false, 1), (false, 1), (false, 1), (false, 1), (false, 1), (false, 1)]), .fact 100017 (.obj 17 [(false, 1), (false, 1), (false, 1), (false, 1), (false, 1), (false, 1), (false, 1)]), .fact 100042 (.obj 42 [(false, 1), (false, 1), (false, 1), (false, 1), (false, 1), (false, 1)]), .fact 100030 (.obj 30 [(false, 1), (false, 1)]), .fact 100029 (.mpd 29 [70] 3 37 (p.2 : List DRow))]) (fun p : (List Int) × (List DRow) => redo_Acts_J6 a0 a1 s14 s15 x19 p.1 p.2 = some c18) ?_ ?_
          ·rintro ⟨j29, j30⟩ hm
           replace hm : redo_Acts_J6 a0 a1 s14 s15 x19 j29 j30 = some c18 := hm
           unfold redo_Acts_J6 at hm
           show CWalk _ [.fact 902006 (.cst (u1 6) (Fact.isv 25)), .fact 902007 (.cst (u1 7) (Fact.nilv)), .fact 902011 (.cst (u1 11) (Fact.isv 33)), .fact 904001 (.cst (u2 1) (Fact.fnv 32 [] [Fact.isv 33, Fact.isv 10, Fact.isv 17, Fact.isv 25])), .fact 904008 (.cst (u2 8) (Fact.rep [0] (a2 : List Found))), .fact 904009 (.cst (u2 9) (Fact.rep [] (((a2).length : Int) : Int))), .fact 904010 (.cst (u2 10) (Fact.rep [] (s14 : Int))), .fact 906002 (.cst (u3 2) (Fact.isv 10)), .fact 906003 (.cst (u3 3) (Fact.isv 17)), .fact 906004 (.cst (u3 4) (Fact.isv 25)), .fact 906005 (.cst (u3 5) (Fact.isv 42)), .fact 100026 (.at 26 (.ow [74] [72, 73] 45 (s15 : List Act45))), .fact 100034 (.at 34 (.isv 30)), .fact 100011 (.at 11 (.rep [] a0.Id)), .fact 100012 (.at 12 (.rep [] a0.Members)), .fact 100013 (.at 13 (.rep [] a0.Chunk)), .fact 100014 (.at 14 (.rep [] a0.Rows)), .fact 100015 (.at 15 (.rep [] a0.Log)), .fact 100016 (.at 16 (.rep [] a0.Heads)), .fact 100018 (.at 18 (.rep [] a1.Events)), .fact 100019 (.at 19 (.rep [] a1.Lost)), .fact 100020 (.at 20 (.rep [] a1.Spare)), .fact 100021 (.at 21 (.rep [] a1.Pos)), .fact 100022 (.at 22 (.rep [] a1.Done)), .fact 100023 (.at 23 (.rep [] a1.NoLog)), .fact 100024 (.at 24 (.rep [] a1.Broken)), .fact 100043 (.at 43 (.rep [] x19.Age)), .fact 100044 (.at 44 (.rep [] x19.Seq)), .fact 100045 (.at 45 (.rep [] x19.Deal.Stripe)), .fact 100046 (.at 46 (.rep [0] x19.Deal.Slots)), .fact 100047 (.at 47 (.rep [0] x19.Deal.Blocks)), .fact 100048 (.at 48 (.rep [0] x19.Deal.Parity)), .fact 100031 (.at 31 (.isv 29)), .fact 100032 (.at 32 (.ow [56, 65] [] 3 (j29 : List Int))), .fact 100025 (.obj 25 [(false, 1)]), .fact 100033 (.obj 33 [(false, 1)]), .fact 100010 (.obj 10 [(false, 1), (false, 1), (false, 1), (false, 1), (false, 1), (false, 1)]), .fact 100017 (.obj 17 [(false, 1), (false, 1), (false, 1), (false, 1), (false, 1), (false, 1), (false, 1)]), .fact 100042 (.obj 42 [(false, 1), (false, 1), (false, 1), (false, 1), (false, 1), (false, 1)]), .fact 100030 (.obj 30 [(false, 1), (false, 1)]), .fact 100029 (.mpd 29 [70] 3 37 (j30 : List DRow))] _ _
           refine CWalk.ret ?_
           refine Leaf.thenR ?_
           exact Leaf.in0 (f0 := Fact.top) (j29, j30) hm rfl rfl (fun _ _ => trivial) (ls 906002 (ls 906003 (ls 906004 (ls 906005 (Low.res (lc (lc (lc (lc (Low.keepC (HasC.cv (HasC.s (s := 904008) rfl) (Cv.m rfl)) (Low.keepC (HasC.cv (HasC.s (s := 904009) rfl) Cv.fl) (Low.keepC (HasC.cv (HasC.s (s := 904010) rfl) Cv.fl) (lf (lf (lf (lf (lf (lf (lf (lf (lf (lf (lf (lf (lf (Low.keepG (HasG.cv (HasG.s rfl) (Cv.owM (T := [74]) (te := [72, 73]) rfl rfl)) (lf (lf (lf (lm (lm (lm (lg (lg (Low.keepG (HasG.cv (HasG.s rfl) (Cv.owF (T := [56, 65]) (te := []) rfl)) (lo (lo (lo (lo (lo (lo (Low.keepR (fun _ _ _ _ h => h) (Has.mpdM (Hs rfl) rfl) Low.nil))))))))))))))))))))))))))))))))))))))))))
          ·refine Cs ?_
           refine CWalk.drawM [[], [0], [0, 1], [0, 1, 2], [], [4], [0, 1, 2, 3, 4, 5], [0, 1, 2, 3, 4, 5, 6]] [[.fact 13 (.isv 30)], [.fact 14 (.isv 30)], [.fact 15 (.pto 30 0)], [.fact 16 (.isv 29)], [.fact 17 (.pto 49 0)], [.fact 18 (.rep [] x19.Deal.Stripe)], [.fact 19 (.lkp 29 x19.Deal.Stripe)], [.fact 20 (.rep [] ((hasK s17 x19.Deal.Stripe) : Bool))]] mixed (by kernel_rfl) (ao (so (Spec.move (Hs rfl))) (ao (so (Spec.nilCheckI (Hs rfl) rfl)) (ao (so (Spec.fieldAddrO fd78_0 (Has.cv (Hs rfl) (Cv.isvP rfl)))) (ao (so (Spec.loadF (i := 0) ty76 rfl (Hs rfl) rfl (HasG.s rfl))) (ao (so (Spec.fieldAddrO fd39_0 (Has.cv (Hs rfl) (Cv.isvP rfl)))) (ao (so (Spec.loadF (i := 0) ty3 rfl (Hs rfl) rfl (HasG.s rfl))) (ao (so (Spec.lookupD mp76 (Hs rfl) rfl (Hs rfl))) (ao (so (Spec.neqLk Try.underlying82 (Hs rfl) rfl)) AllM.nil)))))))) ?_
           refine Lt ?_
           refine CWalk.cond rfl (fun hb => ?_) (fun hb => ?_)
           ·have hm := cond_t hb hm
            refine Cs ?_
            refine CWalk.drawM [[], [0], [0, 1], [0, 1, 2], [], [4], [0, 1, 2, 3, 4, 5]] [[.fact 21 (.isv 30)], [.fact 22 (.isv 30)], [.fact 23 (.pto 30 0)], [.fact 24 (.isv 29)], [.fact 25 (.pto 49 0)], [.fact 26 (.rep [] x19.Deal.Stripe)], [.fact 100029 (.mpd 29 [70] 3 37 (delK s17 x19.Deal.Stripe : List DRow)), .kill 29]] mixed (by kernel_rfl) (ao (so (Spec.move (Hs rfl))) (ao (so (Spec.nilCheckI (Hs rfl) rfl)) (ao (so (Spec.fieldAddrO fd78_0 (Has.cv (Hs rfl) (Cv.isvP rfl)))) (ao (so (Spec.loadF (i := 0) ty76 rfl (Hs rfl) rfl (HasG.s rfl))) (ao (so (Spec.fieldAddrO fd39_0 (Has.cv (Hs rfl) (Cv.isvP rfl)))) (ao (so (Spec.loadF (i := 0) ty3 rfl (Hs rfl) rfl (HasG.s rfl))) (ao (StepG.stE (Step.deleteD mp76 rfl rfl (Hs rfl) rfl (Hs rfl))) AllM.nil))))))) ?_
            refine Lt ?_
            refine Cr ?_
            refine mv ?_
            refine mv ?_
            refine wo (Spec.nilCheckI (Hs rfl) rfl) ?_
            refine wo (Spec.fieldAddrO fd78_1 (Has.cv (Hs rfl) (Cv.isvP rfl))) ?_
            refine wo (Spec.loadF (i := 1) ty35 rfl (Hs rfl) rfl (HasG.s rfl)) ?_
            refine wo (Spec.makeFunc (xs := []) (ys := [.tmp 3]) rfl rfl HasF.nil (HasF.cons (Hs rfl) HasF.nil) (fun _ _ _ => rfl)) ?_
            refine Walk.inline (S := (List Int)) (fun p : (List Int) => [.fact 27 (.isv 30), .fact 33 (.ow [56, 65] [] 3 (p : List Int)), .fact 902006 (.cst (u1 6) (Fact.isv 25)), .fact 902007 (.cst (u1 7) (Fact.nilv)), .fact 902011 (.cst (u1 11) (Fact.isv 33)), .fact 904001 (.cst (u2 1) (Fact.fnv 32 [] [Fact.isv 33, Fact.isv 10, Fact.isv 17, Fact.isv 25])), .fact 904008 (.cst (u2 8) (Fact.rep [0] (a2 : List Found))), .fact 904009 (.cst (u2 9) (Fact.rep [] (((a2).length : Int) : Int))), .fact 904010 (.cst (u2 10) (Fact.rep [] (s14 : Int))), .fact 906002 (.cst (u3 2) (Fact.isv 10)), .fact 906003 (.cst (u3 3) (Fact.isv 17)), .fact 906004 (.cst (u3 4) (Fact.isv 25)), .fact 906005 (.cst (u3 5) (Fact.isv 42)), .fact 100031 (.at 31 (.isv 29)), .fact 100026 (.at 26 (.ow [74] [72, 73] 45 (s15 : List Act45))), .fact 100034 (.at 34 (.isv 30)), .fact 100011 (.at 11 (.rep [] a0.Id)), .fact 100012 (.at 12 (.rep [] a0.Members)), .fact 100013 (.at 13 (.rep [] a0.Chunk)), .fact 100014 (.at 14 (.rep [] a0.Rows)), .fact 100015 (.at 15 (.rep [] a0.Log)), .fact 100016 (.at 16 (.rep [] a0.Heads)), .fact 100018 (.at 18 (.rep [] a1.Events)), .fact 100019 (.at 19 (.rep [] a1.Lost)), .fact 100020 (.at 20 (.rep [] a1.Spare)), .fact 100021 (.at 21 (.rep [] a1.Pos)), .fact 100022 (.at 22 (.rep [] a1.Done)), .fact 100023 (.at 23 (.rep [] a1.NoLog)), .fact 100024 (.at 24 (.rep [] a1.Broken)), .fact 100043 (.at 43 (.rep [] x19.Age)), .fact 100044 (.at 44 (.rep [] x19.Seq)), .fact 100045 (.at 45 (.rep [] x19.Deal.Stripe)), .fact 100046 (.at 46 (.rep [0] x19.Deal.Slots)), .fact 100047 (.at 47 (.rep [0] x19.Deal.Blocks)), .fact 100048 (.at 48 (.rep [0] x19.Deal.Parity)), .fact 100030 (.obj 30 [(false, 1), (false, 1)]), .fact 100025 (.obj 25 [(false, 1)]), .fact 100033 (.obj 33 [(false, 1)]), .fact 100010 (.obj 10 [(false, 1), (false, 1), (false, 1), (false, 1), (false, 1), (false, 1)]), .fact 100017 (.obj 17 [(false, 1), (false, 1), (false, 1), (false, 1), (false, 1), (false, 1), (false, 1)]), .fact 100042 (.obj 42 [(false, 1), (false, 1), (false, 1), (false, 1), (false, 1), (false, 1)]), .fact 100029 (.mpd 29 [70] 3 37 (delK s17 x19.Deal.Stripe : List DRow))]) (fun p : (List Int) => redo_Acts_J7 a0 a1 s14 s15 s17 x19 p = some c18) (fun u4 => [.fact 100011 (.at 11 (.rep [] a0.Id)), .fact 100012 (.at 12 (.rep [] a0.Members)), .fact 100013 (.at 13 (.rep [] a0.Chunk)), .fact 100014 (.at 14 (.rep [] a0.Rows)), .fact 100015 (.at 15 (.rep [] a0.Log)), .fact 100016 (.at 16 (.rep [] a0.Heads)), .fact 100018 (.at 18 (.rep [] a1.Events)), .fact 100019 (.at 19 (.rep [] a1.Lost)), .fact 100020 (.at 20 (.rep [] a1.Spare)), .fact 100021 (.at 21 (.rep [] a1.Pos)), .fact 100022 (.at 22 (.rep [] a1.Done)), .fact 100023 (.at 23 (.rep [] a1.NoLog)), .fact 100024 (.at 24 (.rep [] a1.Broken)), .fact 100026 (.at 26 (.ow [74] [72, 73] 45 (s15 : List Act45))), .fact 100031 (.at 31 (.isv 29)), .fact 100032 (.at 32 (.ow [56, 65] [] 3 (s16 : List Int))), .fact 100034 (.at 34 (.isv 30)), .fact 100043 (.at 43 (.rep [] x19.Age)), .fact 100044 (.at 44 (.rep [] x19.Seq)), .fact 100045 (.at 45 (.rep [] x19.Deal.Stripe)), .fact 100046 (.at 46 (.rep [0] x19.Deal.Slots)), .fact 100047 (.at 47 (.rep [0] x19.Deal.Blocks)), .fact 100048 (.at 48 (.rep [0] x19.Deal.Parity)), .fact 100050 (.at 50 (.rep [] x19.Deal.Stripe)), .fact 100051 (.at 51 (.rep [0] x19.Deal.Slots)), .fact 100052 (.at 52 (.rep [0] x19.Deal.Blocks)), .fact 100053 (.at 53 (.rep [0] x19.Deal.Parity)), .fact 902006 (.cst (u1 6) (Fact.isv 25)), .fact 902007 (.cst (u1 7) (Fact.nilv)), .fact 902011 (.cst (u1 11) (Fact.isv 33)), .fact 904001 (.cst (u2 1) (Fact.fnv 32 [] [Fact.isv 33, Fact.isv 10, Fact.isv 17, Fact.isv 25])), .fact 904008 (.cst (u2 8) (Fact.rep [0] (a2 : List Found))), .fact 904009 (.cst (u2 9) (Fact.rep [] (((a2).length : Int) : Int))), .fact 904010 (.cst (u2 10) (Fact.rep [] (s14 : Int))), .fact 906002 (.cst (u3 2) (Fact.isv 10)), .fact 906003 (.cst (u3 3) (Fact.isv 17)), .fact 906004 (.cst (u3 4) (Fact.isv 25)), .fact 906005 (.cst (u3 5) (Fact.isv 42)), .fact 908027 (.cst (u4 27) (Fact.isv 30)), .fact 100010 (.obj 10 [(false, 1), (false, 1), (false, 1), (false, 1), (false, 1), (false, 1)]), .fact 100017 (.obj 17 [(false, 1), (false, 1), (false, 1), (false, 1), (false, 1), (false, 1), (false, 1)]), .fact 100025 (.obj 25 [(false, 1)]), .fact 100033 (.obj 33 [(false, 1)]), .fact 100030 (.obj 30 [(false, 1), (false, 1)]), .fact 100042 (.obj 42 [(false, 1), (false, 1), (false, 1), (false, 1), (false, 1), (false, 1)]), .fact 100049 (.obj 49 [(false, 1), (false, 1), (false, 1), (false, 1)]), .fact 100029 (.mpd 29 [70] 3 37 (delK s17 x19.Deal.Stripe : List DRow))]) (FA := [Fact.ow [56, 65] [] 3 (s16 : List Int), Fact.fnv 58 [] [Fact.isv 49]]) rfl Try.func57 rfl rfl rfl (CallOk.fn en57 (HasF.cons (Hs rfl) (HasF.cons (Hs rfl) HasF.nil))) (fun u4 => (ck (ck (ck (ck (ck (ck (ck (ck (ck (ck (ck (ck (ck (ck (ck (ck (ck (ck (ck (ck (ck (ck (ck (ck (ck (ck (ck (ck (ck (ck (ck (ck (ck (ck (ck (ck (ck (ck (cs 908000 27 (ck (ck (ck (ck (ck (ck (ck (ck Carry.nil)))))))))))))))))))))))))))))))))))))))))))))))) (fun u4 => ?_) ?_
            ·refine Cs ?_
             refine Cr ?_
             refine wo (Spec.assign Has.nilv) ?_
             refine Wn ?_
             refine Lt ?_
             refine Cs ?_
             refine Cr ?_
             refine mv ?_
             refine mv ?_
             obtain ⟨x32, hx32, hm⟩ := bind_some hm
             refine wo (f := Fact.rep [] (x32 : Int)) (Spec.callE [0, 49, 56, 65] 54 rfl en84 (slices_IndexFunc_int_int_c s16 (fun y => redo_rests_take_1 y x19.Deal) hx32) (HasAll.cons (Has.m (Has.cv (Hs rfl) (Cv.trans Cv.owSl (Cv.slRep (T' := [56, 65]) rfl rfl))) rfl) (HasAll.cons (Has.cv (Hs rfl) (Cv.fn (pu := []) (pc := [.ptr 0 x19.Deal]) (shc := []) en58 CvF.nil (CvF.cons (Cv.trans (Cv.objPtr (ls := [(false, 1, Fact.rep [] x19.Deal.Stripe), (false, 1, Fact.rep [0] x19.Deal.Slots), (false, 1, Fact.rep [0] x19.Deal.Blocks), (false, 1, Fact.rep [0] x19.Deal.Parity)]) rfl rfl (Gz rfl (Gz rfl (Gz rfl (Gz rfl HasGs.nil)))) (Cv.trans (Cv.flds (Vf (CvL.cons (Cv.m rfl) (CvL.cons (Cv.m rfl) (CvL.cons (Cv.m rfl) CvL.nil))))) (Cv.close (T := [0]) (chDeal x19.Deal)))) (Cv.ptrM rfl)) CvF.nil) (fun y r h => redo_rests_take_1_c y x19.Deal h))) HasAll.nil))) ?_
             refine wo (Spec.assign (Hs rfl)) ?_
             refine Wn ?_
             refine Lt ?_
             refine Cs ?_
             refine Cs ?_
             refine Cr ?_
             refine mv ?_
             refine wo (Spec.eqlI (Hs rfl) Has.int) ?_
             refine Wn ?_
             refine Lt ?_
             refine CWalk.cond rfl (fun hb => ?_) (fun hb => ?_)
             ·have hm := cond_t hb hm
              refine Cs ?_
              refine Cr ?_
              refine mv ?_
              refine wo (Spec.assign (Hs rfl)) ?_
              refine Wn ?_
              refine Lt ?_
              refine CWalk.ret ?_
              refine Leaf.thenR ?_
              exact Leaf.in1 s16 hm rfl rfl (HasR.cv (HasR.tmp (Hs rfl)) (Cv.owF (T := [56, 65]) (te := []) rfl)) (ls 908027 (Low.res (lc (lc (lc (lc (Low.keepC (HasC.cv (HasC.s (s := 904008) rfl) (Cv.m rfl)) (Low.keepC (HasC.cv (HasC.s (s := 904009) rfl) Cv.fl) (Low.keepC (HasC.cv (HasC.s (s := 904010) rfl) Cv.fl) (lc (lc (lc (lc (lg (Low.keepG (HasG.cv (HasG.s rfl) (Cv.owM (T := [74]) (te := [72, 73]) rfl rfl)) (lg (lf (lf (lf (lf (lf (lf (lf (lf (lf (lf (lf (lf (lf (lf (lf (lf (lm (lm (lm (lo (lo (lo (lo (lo (lo (Low.keepR (fun _ _ _ _ h => h) (Has.mpdM (Hs rfl) rfl) Low.nil))))))))))))))))))))))))))))))))))))))))))
             ·have hm := cond_f hb hm
              refine CWalk.skip ?_
              refine Lt ?_
              refine Cs ?_
              refine Cs ?_
              refine Cr ?_
              refine mv ?_
              refine wo (Spec.addI (Hs rfl) Has.int) ?_
              refine wo (Spec.assign (Hs rfl)) ?_
              refine Wn ?_
              refine Lt ?_
              refine CWalk.block ?_
              obtain ⟨b41, hb41, hm⟩ := bind_some hm
              refine CWalk.loop (fun s : (List Int) × Int × Int => [.fact 0 (.ow [55, 56, 65] [] 3 (s.1 : List Int)), .fact 1 (.fnv 58 [] [Fact.isv 49]), .fact 5 (.rep [] s.2.1), .fact 6 (.rep [] s.2.2), .fact 902006 (.cst (u1 6) (Fact.isv 25)), .fact 902007 (.cst (u1 7) (Fact.nilv)), .fact 902011 (.cst (u1 11) (Fact.isv 33)), .fact 904001 (.cst (u2 1) (Fact.fnv 32 [] [Fact.isv 33, Fact.isv 10, Fact.isv 17, Fact.isv 25])), .fact 904008 (.cst (u2 8) (Fact.rep [0] (a2 : List Found))), .fact 904009 (.cst (u2 9) (Fact.rep [] (((a2).length : Int) : Int))), .fact 904010 (.cst (u2 10) (Fact.rep [] (s14 : Int))), .fact 906002 (.cst (u3 2) (Fact.isv 10)), .fact 906003 (.cst (u3 3) (Fact.isv 17)), .fact 906004 (.cst (u3 4) (Fact.isv 25)), .fact 906005 (.cst (u3 5) (Fact.isv 42)), .fact 908027 (.cst (u4 27) (Fact.isv 30)), .fact 100050 (.at 50 (.rep [] x19.Deal.Stripe)), .fact 100051 (.at 51 (.rep [0] x19.Deal.Slots)), .fact 100052 (.at 52 (.rep [0] x19.Deal.Blocks)), .fact 100053 (.at 53 (.rep [0] x19.Deal.Parity)), .fact 100026 (.at 26 (.ow [74] [72, 73] 45 (s15 : List Act45))), .fact 100034 (.at 34 (.isv 30)), .fact 100011 (.at 11 (.rep [] a0.Id)), .fact 100012 (.at 12 (.rep [] a0.Members)), .fact 100013 (.at 13 (.rep [] a0.Chunk)), .fact 100014 (.at 14 (.rep [] a0.Rows)), .fact 100015 (.at 15 (.rep [] a0.Log)), .fact 100016 (.at 16 (.rep [] a0.Heads)), .fact 100018 (.at 18 (.rep [] a1.Events)), .fact 100019 (.at 19 (.rep [] a1.Lost)), .fact 100020 (.at 20 (.rep [] a1.Spare)), .fact 100021 (.at 21 (.rep [] a1.Pos)), .fact 100022 (.at 22 (.rep [] a1.Done)), .fact 100023 (.at 23 (.rep [] a1.NoLog)), .fact 100024 (.at 24 (.rep [] a1.Broken)), .fact 100043 (.at 43 (.rep [] x19.Age)), .fact 100044 (.at 44 (.rep [] x19.Seq)), .fact 100045 (.at 45 (.rep [] x19.Deal.Stripe)), .fact 100046 (.at 46 (.rep [0] x19.Deal.Slots)), .fact 100047 (.at 47 (.rep [0] x19.Deal.Blocks)), .fact 100048 (.at 48 (.rep [0] x19.Deal.Parity)), .fact 100031 (.at 31 (.isv 29)), .fact 100049 (.obj 49 [(false, 1), (false, 1), (false, 1), (false, 1)]), .fact 100025 (.obj 25 [(false, 1)]), .fact 100033 (.obj 33 [(false, 1)]), .fact 100010 (.obj 10 [(false, 1), (false, 1), (false, 1), (false, 1), (false, 1), (false, 1)]), .fact 100017 (.obj 17 [(false, 1), (false, 1), (false, 1), (false, 1), (false, 1), (false, 1), (false, 1)]), .fact 100042 (.obj 42 [(false, 1), (false, 1), (false, 1), (false, 1), (false, 1), (false, 1)]), .fact 100030 (.obj 30 [(false, 1), (false, 1)]), .fact 100029 (.mpd 29 [70] 3 37 (delK s17 x19.Deal.Stripe : List DRow))]) (fun b : (List Int) × Int => (Exit.exit 0, [.fact 0 (.ow [55, 56, 65] [] 3 (b.1 : List Int)), .fact 5 (.rep [] b.2), .fact 902006 (.cst (u1 6) (Fact.isv 25)), .fact 902007 (.cst (u1 7) (Fact.nilv)), .fact 902011 (.cst (u1 11) (Fact.isv 33)), .fact 904001 (.cst (u2 1) (Fact.fnv 32 [] [Fact.isv 33, Fact.isv 10, Fact.isv 17, Fact.isv 25])), .fact 904008 (.cst (u2 8) (Fact.rep [0] (a2 : List Found))), .fact 904009 (.cst (u2 9) (Fact.rep [] (((a2).length : Int) : Int))), .fact 904010 (.cst (u2 10) (Fact.rep [] (s14 : Int))), .fact 906002 (.cst (u3 2) (Fact.isv 10)), .fact 906003 (.cst (u3 3) (Fact.isv 17)), .fact 906004 (.cst (u3 4) (Fact.isv 25)), .fact 906005 (.cst (u3 5) (Fact.isv 42)), .fact 908027 (.cst (u4 27) (Fact.isv 30)), .fact 100026 (.at 26 (.ow [74] [72, 73] 45 (s15 : List Act45))), .fact 100034 (.at 34 (.isv 30)), .fact 100011 (.at 11 (.rep [] a0.Id)), .fact 100012 (.at 12 (.rep [] a0.Members)), .fact 100013 (.at 13 (.rep [] a0.Chunk)), .fact 100014 (.at 14 (.rep [] a0.Rows)), .fact 100015 (.at 15 (.rep [] a0.Log)), .fact 100016 (.at 16 (.rep [] a0.Heads)), .fact 100018 (.at 18 (.rep [] a1.Events)), .fact 100019 (.at 19 (.rep [] a1.Lost)), .fact 100020 (.at 20 (.rep [] a1.Spare)), .fact 100021 (.at 21 (.rep [] a1.Pos)), .fact 100022 (.at 22 (.rep [] a1.Done)), .fact 100023 (.at 23 (.rep [] a1.NoLog)), .fact 100024 (.at 24 (.rep [] a1.Broken)), .fact 100043 (.at 43 (.rep [] x19.Age)), .fact 100044 (.at 44 (.rep [] x19.Seq)), .fact 100045 (.at 45 (.rep [] x19.Deal.Stripe)), .fact 100046 (.at 46 (.rep [0] x19.Deal.Slots)), .fact 100047 (.at 47 (.rep [0] x19.Deal.Blocks)), .fact 100048 (.at 48 (.rep [0] x19.Deal.Parity)), .fact 100031 (.at 31 (.isv 29)), .fact 100025 (.obj 25 [(false, 1)]), .fact 100033 (.obj 33 [(false, 1)]), .fact 100010 (.obj 10 [(false, 1), (false, 1), (false, 1), (false, 1), (false, 1), (false, 1)]), .fact 100017 (.obj 17 [(false, 1), (false, 1), (false, 1), (false, 1), (false, 1), (false, 1), (false, 1)]), .fact 100042 (.obj 42 [(false, 1), (false, 1), (false, 1), (false, 1), (false, 1), (false, 1)]), .fact 100030 (.obj 30 [(false, 1), (false, 1)]), .fact 100029 (.mpd 29 [70] 3 37 (delK s17 x19.Deal.Stripe : List DRow))])) hb41 (Sub.cons (Has.cv (Hs rfl) (Cv.owF (T := [56, 65]) (te := []) rfl)) (sn (st (st (sc (sc (sc (sc (Sub.cons (Has.cst (HasC.cv (HasC.s (s := 904008) rfl) (Cv.m rfl))) (Sub.cons (Has.cst (HasC.cv (HasC.s (s := 904009) rfl) Cv.fl)) (Sub.cons (Has.cst (HasC.cv (HasC.s (s := 904010) rfl) Cv.fl)) (sc (sc (sc (sc (sc (sf (sm (sm (sm (Sub.cons (Has.at (HasG.cv (HasG.s rfl) (Cv.owM (T := [74]) (te := [72, 73]) rfl rfl))) (sg (sf (sf (sf (sf (sf (sf (sf (sf (sf (sf (sf (sf (sf (sf (sf (sf (sm (sm (sm (sg (sn (sn (sn (sn (sn (sn (sn (Sub.cons (Has.mpdM (Hs rfl) rfl) Sub.nil)))))))))))))))))))))))))))))))))))))))))))))))))) ?_ ?_
              ·rintro ⟨s33, s34, s35⟩ c36 hm
               replace hm : redo_Acts_L8 x19 s33 s34 s35 = some c36 := hm
               unfold redo_Acts_L8 at hm
               show CWalk _ [.fact 0 (.ow [55, 56, 65] [] 3 (s33 : List Int)), .fact 1 (.fnv 58 [] [Fact.isv 49]), .fact 5 (.rep [] (s34 : Int)), .fact 6 (.rep [] (s35 : Int)), .fact 902006 (.cst (u1 6) (Fact.isv 25)), .fact 902007 (.cst (u1 7) (Fact.nilv)), .fact 902011 (.cst (u1 11) (Fact.isv 33)), .fact 904001 (.cst (u2 1) (Fact.fnv 32 [] [Fact.isv 33, Fact.isv 10, Fact.isv 17, Fact.isv 25])), .fact 904008 (.cst (u2 8) (Fact.rep [0] (a2 : List Found))), .fact 904009 (.cst (u2 9) (Fact.rep [] (((a2).length : Int) : Int))), .fact 904010 (.cst (u2 10) (Fact.rep [] (s14 : Int))), .fact 906002 (.cst (u3 2) (Fact.isv 10)), .fact 906003 (.cst (u3 3) (Fact.isv 17)), .fact 906004 (.cst (u3 4) (Fact.isv 25)), .fact 906005 (.cst (u3 5) (Fact.isv 42)), .fact 908027 (.cst (u4 27) (Fact.isv 30)), .fact 100050 (.at 50 (.rep [] x19.Deal.Stripe)), .fact 100051 (.at 51 (.rep [0] x19.Deal.Slots)), .fact 100052 (.at 52 (.rep [0] x19.Deal.Blocks)), .fact 100053 (.at 53 (.rep [0] x19.Deal.Parity)), .fact 100026 (.at 26 (.ow [74] [72, 73] 45 (s15 : List Act45))), .fact 100034 (.at 34 (.isv 30)), .fact 100011 (.at 11 (.rep [] a0.Id)), .fact 100012 (.at 12 (.rep [] a0.Members)), .fact 100013 (.at 13 (.rep [] a0.Chunk)), .fact 100014 (.at 14 (.rep [] a0.Rows)), .fact 100015 (.at 15 (.rep [] a0.Log)), .fact 100016 (.at 16 (.rep [] a0.Heads)), .fact 100018 (.at 18 (.rep [] a1.Events)), .fact 100019 (.at 19 (.rep [] a1.Lost)), .fact 100020 (.at 20 (.rep [] a1.Spare)), .fact 100021 (.at 21 (.rep [] a1.Pos)), .fact 100022 (.at 22 (.rep [] a1.Done)), .fact 100023 (.at 23 (.rep [] a1.NoLog)), .fact 100024 (.at 24 (.rep [] a1.Broken)), .fact 100043 (.at 43 (.rep [] x19.Age)), .fact 100044 (.at 44 (.rep [] x19.Seq)), .fact 100045 (.at 45 (.rep [] x19.Deal.Stripe)), .fact 100046 (.at 46 (.rep [0] x19.Deal.Slots)), .fact 100047 (.at 47 (.rep [0] x19.Deal.Blocks)), .fact 100048 (.at 48 (.rep [0] x19.Deal.Parity)), .fact 100031 (.at 31 (.isv 29)), .fact 100049 (.obj 49 [(false, 1), (false, 1), (false, 1), (false, 1)]), .fact 100025 (.obj 25 [(false, 1)]), .fact 100033 (.obj 33 [(false, 1)]), .fact 100010 (.obj 10 [(false, 1), (false, 1), (false, 1), (false, 1), (false, 1), (false, 1)]), .fact 100017 (.obj 17 [(false, 1), (false, 1), (false, 1), (false, 1), (false, 1), (false, 1), (false, 1)]), .fact 100042 (.obj 42 [(false, 1), (false, 1), (false, 1), (false, 1), (false, 1), (false, 1)]), .fact 100030 (.obj 30 [(false, 1), (false, 1)]), .fact 100029 (.mpd 29 [70] 3 37 (delK s17 x19.Deal.Stripe : List DRow))] _ _
               refine Cs ?_
               refine Cs ?_
               refine Cr ?_
               refine mv ?_
               refine mv ?_
               refine wo (Spec.len (Has.cv (Hs rfl) (Cv.trans Cv.owSl (Cv.slRep (T' := [55, 56, 65]) rfl rfl))) Try.underlying35) ?_
               refine wo (Spec.lssI (Hs rfl) (Hs rfl)) ?_
               refine Wn ?_
               refine Lt ?_
               refine CWalk.cond rfl (fun hb => ?_) (fun hb => ?_)
               ·have hm := cond_t hb hm
                refine CWalk.skip ?_
                refine Lt ?_
                refine CWalk.seqJ (fun p : (List Int) × Int => [.fact 0 (.ow [55, 56, 65] [] 3 (p.1 : List Int)), .fact 1 (.fnv 58 [] [Fact.isv 49]), .fact 5 (.rep [] p.2), .fact 6 (.rep [] (s35 : Int)), .fact 902006 (.cst (u1 6) (Fact.isv 25)), .fact 902007 (.cst (u1 7) (Fact.nilv)), .fact 902011 (.cst (u1 11) (Fact.isv 33)), .fact 904001 (.cst (u2 1) (Fact.fnv 32 [] [Fact.isv 33, Fact.isv 10, Fact.isv 17, Fact.isv 25])), .fact 904008 (.cst (u2 8) (Fact.rep [0] (a2 : List Found))), .fact 904009 (.cst (u2 9) (Fact.rep [] (((a2).length : Int) : Int))), .fact 904010 (.cst (u2 10) (Fact.rep [] (s14 : Int))), .fact 906002 (.cst (u3 2) (Fact.isv 10)), .fact 906003 (.cst (u3 3) (Fact.isv 17)), .fact 906004 (.cst (u3 4) (Fact.isv 25)), .fact 906005 (.cst (u3 5) (Fact.isv 42)), .fact 908027 (.cst (u4 27) (Fact.isv 30)), .fact 100050 (.at 50 (.rep [] x19.Deal.Stripe)), .fact 100051 (.at 51 (.rep [0] x19.Deal.Slots)), .fact 100052 (.at 52 (.rep [0] x19.Deal.Blocks)), .fact 100053 (.at 53 (.rep [0] x19.Deal.Parity)), .fact 100026 (.at 26 (.ow [74] [72, 73] 45 (s15 : List Act45))), .fact 100034 (.at 34 (.isv 30)), .fact 100011 (.at 11 (.rep [] a0.Id)), .fact 100012 (.at 12 (.rep [] a0.Members)), .fact 100013 (.at 13 (.rep [] a0.Chunk)), .fact 100014 (.at 14 (.rep [] a0.Rows)), .fact 100015 (.at 15 (.rep [] a0.Log)), .fact 100016 (.at 16 (.rep [] a0.Heads)), .fact 100018 (.at 18 (.rep [] a1.Events)), .fact 100019 (.at 19 (.rep [] a1.Lost)), .fact 100020 (.at 20 (.rep [] a1.Spare)), .fact 100021 (.at 21 (.rep [] a1.Pos)), .fact 100022 (.at 22 (.rep [] a1.Done)), .fact 100023 (.at 23 (.rep [] a1.NoLog)), .fact 100024 (.at 24 (.rep [] a1.Broken)), .fact 100043 (.at 43 (.rep [] x19.Age)), .fact 100044 (.at 44 (.rep [] x19.Seq)), .fact 100045 (.at 45 (.rep [] x19.Deal.Stripe)), .fact 100046 (.at 46 (.rep [0] x19.Deal.Slots)), .fact 100047 (.at 47 (.rep [0] x19.Deal.Blocks)), .fact 100048 (.at 48 (.rep [0] x19.Deal.Parity)), .fact 100031 (.at 31 (.isv 29)), .fact 100049 (.obj 49 [(false, 1), (false, 1), (false, 1), (false, 1)]), .fact 100025 (.obj 25 [(false, 1)]), .fact 100033 (.obj 33 [(false, 1)]), .fact 100010 (.obj 10 [(false, 1), (false, 1), (false, 1), (false, 1), (false, 1), (false, 1)]), .fact 100017 (.obj 17 [(false, 1), (false, 1), (false, 1), (false, 1), (false, 1), (false, 1), (false, 1)]), .fact 100042 (.obj 42 [(false, 1), (false, 1), (false, 1), (false, 1), (false, 1), (false, 1)]), .fact 100030 (.obj 30 [(false, 1), (false, 1)]), .fact 100029 (.mpd 29 [70] 3 37 (delK s17 x19.Deal.Stripe : List DRow))]) (fun p : (List Int) × Int => redo_Acts_J9 s35 p.1 p.2 = some c36) ?_ ?_
                ·rintro ⟨j37, j38⟩ hm
                 replace hm : redo_Acts_J9 s35 j37 j38 = some c36 := hm
                 unfold redo_Acts_J9 at hm
                 show CWalk _ [.fact 0 (.ow [55, 56, 65] [] 3 (j37 : List Int)), .fact 1 (.fnv 58 [] [Fact.isv 49]), .fact 5 (.rep [] (j38 : Int)), .fact 6 (.rep [] (s35 : Int)), .fact 902006 (.cst (u1 6) (Fact.isv 25)), .fact 902007 (.cst (u1 7) (Fact.nilv)), .fact 902011 (.cst (u1 11) (Fact.isv 33)), .fact 904001 (.cst (u2 1) (Fact.fnv 32 [] [Fact.isv 33, Fact.isv 10, Fact.isv 17, Fact.isv 25])), .fact 904008 (.cst (u2 8) (Fact.rep [0] (a2 : List Found))), .fact 904009 (.cst (u2 9) (Fact.rep [] (((a2).length : Int) : Int))), .fact 904010 (.cst (u2 10) (Fact.rep [] (s14 : Int))), .fact 906002 (.cst (u3 2) (Fact.isv 10)), .fact 906003 (.cst (u3 3) (Fact.isv 17)), .fact 906004 (.cst (u3 4) (Fact.isv 25)), .fact 906005 (.cst (u3 5) (Fact.isv 42)), .fact 908027 (.cst (u4 27) (Fact.isv 30)), .fact 100050 (.at 50 (.rep [] x19.Deal.Stripe)), .fact 100051 (.at 51 (.rep [0] x19.Deal.Slots)), .fact 100052 (.at 52 (.rep [0] x19.Deal.Blocks)), .fact 100053 (.at 53 (.rep [0] x19.Deal.Parity)), .fact 100026 (.at 26 (.ow [74] [72, 73] 45 (s15 : List Act45))), .fact 100034 (.at 34 (.isv 30)), .fact 100011 (.at 11 (.rep [] a0.Id)), .fact 100012 (.at 12 (.rep [] a0.Members)), .fact 100013 (.at 13 (.rep [] a0.Chunk)), .fact 100014 (.at 14 (.rep [] a0.Rows)), .fact 100015 (.at 15 (.rep [] a0.Log)), .fact 100016 (.at 16 (.rep [] a0.Heads)), .fact 100018 (.at 18 (.rep [] a1.Events)), .fact 100019 (.at 19 (.rep [] a1.Lost)), .fact 100020 (.at 20 (.rep [] a1.Spare)), .fact 100021 (.at 21 (.rep [] a1.Pos)), .fact 100022 (.at 22 (.rep [] a1.Done)), .fact 100023 (.at 23 (.rep [] a1.NoLog)), .fact 100024 (.at 24 (.rep [] a1.Broken)), .fact 100043 (.at 43 (.rep [] x19.Age)), .fact 100044 (.at 44 (.rep [] x19.Seq)), .fact 100045 (.at 45 (.rep [] x19.Deal.Stripe)), .fact 100046 (.at 46 (.rep [0] x19.Deal.Slots)), .fact 100047 (.at 47 (.rep [0] x19.Deal.Blocks)), .fact 100048 (.at 48 (.rep [0] x19.Deal.Parity)), .fact 100031 (.at 31 (.isv 29)), .fact 100049 (.obj 49 [(false, 1), (false, 1), (false, 1), (false, 1)]), .fact 100025 (.obj 25 [(false, 1)]), .fact 100033 (.obj 33 [(false, 1)]), .fact 100010 (.obj 10 [(false, 1), (false, 1), (false, 1), (false, 1), (false, 1), (false, 1)]), .fact 100017 (.obj 17 [(false, 1), (false, 1), (false, 1), (false, 1), (false, 1), (false, 1), (false, 1)]), .fact 100042 (.obj 42 [(false, 1), (false, 1), (false, 1), (false, 1), (false, 1), (false, 1)]), .fact 100030 (.obj 30 [(false, 1), (false, 1)]), .fact 100029 (.mpd 29 [70] 3 37 (delK s17 x19.Deal.Stripe : List DRow))] _ _
                 refine Cr ?_
                 refine mv ?_
                 refine wo (Spec.addI (Hs rfl) Has.int) ?_
                 refine wo (Spec.assign (Hs rfl)) ?_
                 refine Wn ?_
                 exact Leaf.next hm (Sub.cons (Has.cv (Hs rfl) (Cv.owF (T := [55, 56, 65]) (te := []) rfl)) (sn (st (st (sc (sc (sc (sc (Sub.cons (Has.cst (HasC.cv (HasC.s (s := 904008) rfl) (Cv.m rfl))) (Sub.cons (Has.cst (HasC.cv (HasC.s (s := 904009) rfl) Cv.fl)) (Sub.cons (Has.cst (HasC.cv (HasC.s (s := 904010) rfl) Cv.fl)) (sc (sc (sc (sc (sc (sf (sm (sm (sm (Sub.cons (Has.at (HasG.cv (HasG.s rfl) (Cv.owM (T := [74]) (te := [72, 73]) rfl rfl))) (sg (sf (sf (sf (sf (sf (sf (sf (sf (sf (sf (sf (sf (sf (sf (sf (sf (sm (sm (sm (sg (sn (sn (sn (sn (sn (sn (sn (Sub.cons (Has.mpdM (Hs rfl) rfl) Sub.nil))))))))))))))))))))))))))))))))))))))))))))))))))
                ·refine CWalk.block ?_
                 refine Cs ?_
                 refine Cr ?_
                 refine mv ?_
                 refine mv ?_
                 obtain ⟨x39, hx39, hm⟩ := bind_some hm
                 refine wo (Spec.indexSl hx39 sl35 (Has.cv (Hs rfl) Cv.owSl) (Hs rfl)) ?_
                 refine wo ((Spec.loadS ty3 (Hs rfl)).flat (T' := [])) ?_
                 refine wo (Spec.assign (Hs rfl)) ?_
                 refine Wn ?_
                 refine Lt ?_
                 refine Cs ?_
                 refine Cr ?_
                 refine mv ?_
                 refine mv ?_
                 refine Walk.inline (S := Unit) (fun p : Unit => [.fact 0 (.ow [55, 56, 65] [] 3 (s33 : List Int)), .fact 1 (.fnv 58 [] [Fact.isv 49]), .fact 5 (.rep [] (s34 : Int)), .fact 6 (.rep [] (s35 : Int)), .fact 7 (.rep [] (x39 : Int)), .fact 28 (.rep [] ((x39 == x19.Deal.Stripe) : Bool)), .fact 902006 (.cst (u1 6) (Fact.isv 25)), .fact 902007 (.cst (u1 7) (Fact.nilv)), .fact 902011 (.cst (u1 11) (Fact.isv 33)), .fact 904001 (.cst (u2 1) (Fact.fnv 32 [] [Fact.isv 33, Fact.isv 10, Fact.isv 17, Fact.isv 25])), .fact 904008 (.cst (u2 8) (Fact.rep [0] (a2 : List Found))), .fact 904009 (.cst (u2 9) (Fact.rep [] (((a2).length : Int) : Int))), .fact 904010 (.cst (u2 10) (Fact.rep [] (s14 : Int))), .fact 906002 (.cst (u3 2) (Fact.isv 10)), .fact 906003 (.cst (u3 3) (Fact.isv 17)), .fact 906004 (.cst (u3 4) (Fact.isv 25)), .fact 906005 (.cst (u3 5) (Fact.isv 42)), .fact 908027 (.cst (u4 27) (Fact.isv 30)), .fact 100050 (.at 50 (.rep [] x19.Deal.Stripe)), .fact 100051 (.at 51 (.rep [0] x19.Deal.Slots)), .fact 100052 (.at 52 (.rep [0] x19.Deal.Blocks)), .fact 100053 (.at 53 (.rep [0] x19.Deal.Parity)), .fact 100026 (.at 26 (.ow [74] [72, 73] 45 (s15 : List Act45))), .fact 100034 (.at 34 (.isv 30)), .fact 100011 (.at 11 (.rep [] a0.Id)), .fact 100012 (.at 12 (.rep [] a0.Members)), .fact 100013 (.at 13 (.rep [] a0.Chunk)), .fact 100014 (.at 14 (.rep [] a0.Rows)), .fact 100015 (.at 15 (.rep [] a0.Log)), .fact 100016 (.at 16 (.rep [] a0.Heads)), .fact 100018 (.at 18 (.rep [] a1.Events)), .fact 100019 (.at 19 (.rep [] a1.Lost)), .fact 100020 (.at 20 (.rep [] a1.Spare)), .fact 100021 (.at 21 (.rep [] a1.Pos)), .fact 100022 (.at 22 (.rep [] a1.Done)), .fact 100023 (.at 23 (.rep [] a1.NoLog)), .fact 100024 (.at 24 (.rep [] a1.Broken)), .fact 100043 (.at 43 (.rep [] x19.Age)), .fact 100044 (.at 44 (.rep [] x19.Seq)), .fact 100045 (.at 45 (.rep [] x19.Deal.Stripe)), .fact 100046 (.at 46 (.rep [0] x19.Deal.Slots)), .fact 100047 (.at 47 (.rep [0] x19.Deal.Blocks)), .fact 100048 (.at 48 (.rep [0] x19.Deal.Parity)), .fact 100031 (.at 31 (.isv 29)), .fact 100049 (.obj 49 [(false, 1), (false, 1), (false, 1), (false, 1)]), .fact 100025 (.obj 25 [(false, 1)]), .fact 100033 (.obj 33 [(false, 1)]), .fact 100010 (.obj 10 [(false, 1), (false, 1), (false, 1), (false, 1), (false, 1), (false, 1)]), .fact 100017 (.obj 17 [(false, 1), (false, 1), (false, 1), (false, 1), (false, 1), (false, 1), (false, 1)]), .fact 100042 (.obj 42 [(false, 1), (false, 1), (false, 1), (false, 1), (false, 1), (false, 1)]), .fact 100030 (.obj 30 [(false, 1), (false, 1)]), .fact 100029 (.mpd 29 [70] 3 37 (delK s17 x19.Deal.Stripe : List DRow))]) (fun p : Unit => redo_Acts_J10 x19 s33 s34 s35 x39 = some c36) (fun u5 => [.fact 100011 (.at 11 (.rep [] a0.Id)), .fact 100012 (.at 12 (.rep [] a0.Members)), .fact 100013 (.at 13 (.rep [] a0.Chunk)), .fact 100014 (.at 14 (.rep [] a0.Rows)), .fact 100015 (.at 15 (.rep [] a0.Log)), .fact 100016 (.at 16 (.rep [] a0.Heads)), .fact 100018 (.at 18 (.rep [] a1.Events)), .fact 100019 (.at 19 (.rep [] a1.Lost)), .fact 100020 (.at 20 (.rep [] a1.Spare)), .fact 100021 (.at 21 (.rep [] a1.Pos)), .fact 100022 (.at 22 (.rep [] a1.Done)), .fact 100023 (.at 23 (.rep [] a1.NoLog)), .fact 100024 (.at 24 (.rep [] a1.Broken)), .fact 100026 (.at 26 (.ow [74] [72, 73] 45 (s15 : List Act45))), .fact 100031 (.at 31 (.isv 29)), .fact 100034 (.at 34 (.isv 30)), .fact 100043 (.at 43 (.rep [] x19.Age)), .fact 100044 (.at 44 (.rep [] x19.Seq)), .fact 100045 (.at 45 (.rep [] x19.Deal.Stripe)), .fact 100046 (.at 46 (.rep [0] x19.Deal.Slots)), .fact 100047 (.at 47 (.rep [0] x19.Deal.Blocks)), .fact 100048 (.at 48 (.rep [0] x19.Deal.Parity)), .fact 100050 (.at 50 (.rep [] x19.Deal.Stripe)), .fact 100051 (.at 51 (.rep [0] x19.Deal.Slots)), .fact 100052 (.at 52 (.rep [0] x19.Deal.Blocks)), .fact 100053 (.at 53 (.rep [0] x19.Deal.Parity)), .fact 902006 (.cst (u1 6) (Fact.isv 25)), .fact 902007 (.cst (u1 7) (Fact.nilv)), .fact 902011 (.cst (u1 11) (Fact.isv 33)), .fact 904001 (.cst (u2 1) (Fact.fnv 32 [] [Fact.isv 33, Fact.isv 10, Fact.isv 17, Fact.isv 25])), .fact 904008 (.cst (u2 8) (Fact.rep [0] (a2 : List Found))), .fact 904009 (.cst (u2 9) (Fact.rep [] (((a2).length : Int) : Int))), .fact 904010 (.cst (u2 10) (Fact.rep [] (s14 : Int))), .fact 906002 (.cst (u3 2) (Fact.isv 10)), .fact 906003 (.cst (u3 3) (Fact.isv 17)), .fact 906004 (.cst (u3 4) (Fact.isv 25)), .fact 906005 (.cst (u3 5) (Fact.isv 42)), .fact 908027 (.cst (u4 27) (Fact.isv 30)), .fact 910000 (.cst (u5 0) (Fact.ow [55, 56, 65] [] 3 (s33 : List Int))), .fact 910001 (.cst (u5 1) (Fact.fnv 58 [] [Fact.isv 49])), .fact 910005 (.cst (u5 5) (Fact.rep [] (s34 : Int))), .fact 910006 (.cst (u5 6) (Fact.rep [] (s35 : Int))), .fact 910007 (.cst (u5 7) (Fact.rep [] (x39 : Int))), .fact 100049 (.obj 49 [(false, 1), (false, 1), (false, 1), (false, 1)]), .fact 100025 (.obj 25 [(false, 1)]), .fact 100033 (.obj 33 [(false, 1)]), .fact 100010 (.obj 10 [(false, 1), (false, 1), (false, 1), (false, 1), (false, 1), (false, 1)]), .fact 100017 (.obj 17 [(false, 1), (false, 1), (false, 1), (false, 1), (false, 1), (false, 1), (false, 1)]), .fact 100042 (.obj 42 [(false, 1), (false, 1), (false, 1), (false, 1), (false, 1), (false, 1)]), .fact 100030 (.obj 30 [(false, 1), (false, 1)]), .fact 100029 (.mpd 29 [70] 3 37 (delK s17 x19.Deal.Stripe : List DRow))]) (FA := [Fact.rep [] (x39 : Int), Fact.isv 49]) rfl Try.func58 rfl rfl rfl (CallOk.valE en58 (Hs rfl) (HasF.cons (Hs rfl) HasF.nil)) (fun u5 => (ck (ck (ck (ck (ck (ck (ck (ck (ck (ck (ck (ck (ck (ck (ck (ck (ck (ck (ck (ck (ck (ck (ck (ck (ck (ck (ck (ck (ck (ck (ck (ck (ck (ck (ck (ck (ck (ck (cs 910000 0 (cs 910000 1 (cs 910000 5 (cs 910000 6 (cs 910000 7 (ck (ck (ck (ck (ck (ck (ck (ck Carry.nil)))))))))))))))))))))))))))))))))))))))))))))))))))) (fun u5 => ?_) ?_
                 ·refine Cs ?_
                  refine Cr ?_
                  refine wo (Spec.assign Has.bool) ?_
                  refine Wn ?_
                  refine Lt ?_
                  refine Cs ?_
                  refine Cr ?_
                  refine mv ?_
                  refine wo (Spec.fieldAddrO fd39_0 (Has.cv (Hs rfl) (Cv.isvP rfl))) ?_
                  refine wo (Spec.loadF (i := 0) ty3 rfl (Hs rfl) rfl (HasG.s rfl)) ?_
                  refine wo (Spec.eqlI (Hs rfl) (Hs rfl)) ?_
                  refine wo (Spec.assign (Hs rfl)) ?_
                  refine Wn ?_
                  refine Lt ?_
                  refine CWalk.ret ?_
                  exact Leaf.in1 () hm rfl rfl (HasR.cv (HasR.tmp (Hs rfl)) Cv.fl) (Low.slot rfl (HasC.cv (HasC.s (s := 910000) rfl) (Cv.owF (T := [55, 56, 65]) (te := []) rfl)) (ls 910001 (Low.slot rfl (HasC.cv (HasC.s (s := 910005) rfl) Cv.fl) (Low.slot rfl (HasC.cv (HasC.s (s := 910006) rfl) Cv.fl) (Low.slot rfl (HasC.cv (HasC.s (s := 910007) rfl) Cv.fl) (Low.res (lc (lc (lc (lc (Low.keepC (HasC.cv (HasC.s (s := 904008) rfl) (Cv.m rfl)) (Low.keepC (HasC.cv (HasC.s (s := 904009) rfl) Cv.fl) (Low.keepC (HasC.cv (HasC.s (s := 904010) rfl) Cv.fl) (lc (lc (lc (lc (lc (lf (lm (lm (lm (Low.keepG (HasG.cv (HasG.s rfl) (Cv.owM (T := [74]) (te := [72, 73]) rfl rfl)) (lg (lf (lf (lf (lf (lf (lf (lf (lf (lf (lf (lf (lf (lf (lf (lf (lf (lm (lm (lm (lg (lo (lo (lo (lo (lo (lo (lo (Low.keepR (fun _ _ _ _ h => h) (Has.mpdM (Hs rfl) rfl) Low.nil))))))))))))))))))))))))))))))))))))))))))))))))))))
                 ·rintro _ hm
                  replace hm : redo_Acts_J10 x19 s33 s34 s35 x39 = some c36 := hm
                  unfold redo_Acts_J10 at hm
                  show Walk _ _ _ [.fact 0 (.ow [55, 56, 65] [] 3 (s33 : List Int)), .fact 1 (.fnv 58 [] [Fact.isv 49]), .fact 5 (.rep [] (s34 : Int)), .fact 6 (.rep [] (s35 : Int)), .fact 7 (.rep [] (x39 : Int)), .fact 28 (.rep [] ((x39 == x19.Deal.Stripe) : Bool)), .fact 902006 (.cst (u1 6) (Fact.isv 25)), .fact 902007 (.cst (u1 7) (Fact.nilv)), .fact 902011 (.cst (u1 11) (Fact.isv 33)), .fact 904001 (.cst (u2 1) (Fact.fnv 32 [] [Fact.isv 33, Fact.isv 10, Fact.isv 17, Fact.isv 25])), .fact 904008 (.cst (u2 8) (Fact.rep [0] (a2 : List Found))), .fact 904009 (.cst (u2 9) (Fact.rep [] (((a2).length : Int) : Int))), .fact 904010 (.cst (u2 10) (Fact.rep [] (s14 : Int))), .fact 906002 (.cst (u3 2) (Fact.isv 10)), .fact 906003 (.cst (u3 3) (Fact.isv 17)), .fact 906004 (.cst (u3 4) (Fact.isv 25)), .fact 906005 (.cst (u3 5) (Fact.isv 42)), .fact 908027 (.cst (u4 27) (Fact.isv 30)), .fact 100050 (.at 50 (.rep [] x19.Deal.Stripe)), .fact 100051 (.at 51 (.rep [0] x19.Deal.Slots)), .fact 100052 (.at 52 (.rep [0] x19.Deal.Blocks)), .fact 100053 (.at 53 (.rep [0] x19.Deal.Parity)), .fact 100026 (.at 26 (.ow [74] [72, 73] 45 (s15 : List Act45))), .fact 100034 (.at 34 (.isv 30)), .fact 100011 (.at 11 (.rep [] a0.Id)), .fact 100012 (.at 12 (.rep [] a0.Members)), .fact 100013 (.at 13 (.rep [] a0.Chunk)), .fact 100014 (.at 14 (.rep [] a0.Rows)), .fact 100015 (.at 15 (.rep [] a0.Log)), .fact 100016 (.at 16 (.rep [] a0.Heads)), .fact 100018 (.at 18 (.rep [] a1.Events)), .fact 100019 (.at 19 (.rep [] a1.Lost)), .fact 100020 (.at 20 (.rep [] a1.Spare)), .fact 100021 (.at 21 (.rep [] a1.Pos)), .fact 100022 (.at 22 (.rep [] a1.Done)), .fact 100023 (.at 23 (.rep [] a1.NoLog)), .fact 100024 (.at 24 (.rep [] a1.Broken)), .fact 100043 (.at 43 (.rep [] x19.Age)), .fact 100044 (.at 44 (.rep [] x19.Seq)), .fact 100045 (.at 45 (.rep [] x19.Deal.Stripe)), .fact 100046 (.at 46 (.rep [0] x19.Deal.Slots)), .fact 100047 (.at 47 (.rep [0] x19.Deal.Blocks)), .fact 100048 (.at 48 (.rep [0] x19.Deal.Parity)), .fact 100031 (.at 31 (.isv 29)), .fact 100049 (.obj 49 [(false, 1), (false, 1), (false, 1), (false, 1)]), .fact 100025 (.obj 25 [(false, 1)]), .fact 100033 (.obj 33 [(false, 1)]), .fact 100010 (.obj 10 [(false, 1), (false, 1), (false, 1), (false, 1), (false, 1), (false, 1)]), .fact 100017 (.obj 17 [(false, 1), (false, 1), (false, 1), (false, 1), (false, 1), (false, 1), (false, 1)]), .fact 100042 (.obj 42 [(false, 1), (false, 1), (false, 1), (false, 1), (false, 1), (false, 1)]), .fact 100030 (.obj 30 [(false, 1), (false, 1)]), .fact 100029 (.mpd 29 [70] 3 37 (delK s17 x19.Deal.Stripe : List DRow))] _
                  refine wo (Spec.not (Hs rfl)) ?_
                  refine Wn ?_
                  refine Lt ?_
                  refine CWalk.cond rfl (fun hb => ?_) (fun hb => ?_)
                  ·have hm := cond_t hb hm
                   refine Cs ?_
                   refine CWalk.ad (Ad.ow (s := 0) 55 rfl rfl ElT.flat rfl (Cv.owF (T := [55, 56, 65]) (te := []) (T' := [55, 56, 65]) (te' := []) rfl)) ?_
                   refine Cr ?_
                   refine mv ?_
                   refine mv ?_
                   refine mv ?_
                   obtain ⟨x40, hx40, hm⟩ := bind_some hm
                   refine wo (Spec.idxOwn hx40 ow35 (Hs rfl) rfl (Hs rfl)) ?_
                   refine ws (Step.storeOwn (te' := []) rfl (bnd_lt hx40 rfl) ty3 (Hs rfl) rfl (Hs rfl) ElKeep.flat ElKeep.flat) ?_
                   refine Wn ?_
                   refine Lt ?_
                   refine Cr ?_
                   refine mv ?_
                   refine wo (Spec.addI (Hs rfl) Has.int) ?_
                   refine wo (Spec.assign (Hs rfl)) ?_
                   refine Wn ?_
                   refine Leaf.blockN ?_
                   exact Leaf.join ((s33).set x40 x39, (wI (s34 + (1 : Int)))) hm (Sub.cons (Has.cv (Hs rfl) (Cv.trans (Cv.isvOw rfl) (Cv.owF (T := [55]) (te := []) rfl))) (sn (st (st (sc (sc (sc (sc (Sub.cons (Has.cst (HasC.cv (HasC.s (s := 904008) rfl) (Cv.m rfl))) (Sub.cons (Has.cst (HasC.cv (HasC.s (s := 904009) rfl) Cv.fl)) (Sub.cons (Has.cst (HasC.cv (HasC.s (s := 904010) rfl) Cv.fl)) (sc (sc (sc (sc (sc (sf (sm (sm (sm (Sub.cons (Has.at (HasG.cv (HasG.s rfl) (Cv.owM (T := [74]) (te := [72, 73]) rfl rfl))) (sg (sf (sf (sf (sf (sf (sf (sf (sf (sf (sf (sf (sf (sf (sf (sf (sf (sm (sm (sm (sg (sn (sn (sn (sn (sn (sn (sn (Sub.cons (Has.mpdM (Hs rfl) rfl) Sub.nil))))))))))))))))))))))))))))))))))))))))))))))))))
                  ·have hm := cond_f hb hm
                   refine CWalk.skip ?_
                   refine Leaf.blockN ?_
                   exact Leaf.join (s33, s34) hm (Sub.cons (Has.cv (Hs rfl) (Cv.owF (T := [55, 56, 65]) (te := []) rfl)) (sn (st (st (sc (sc (sc (sc (Sub.cons (Has.cst (HasC.cv (HasC.s (s := 904008) rfl) (Cv.m rfl))) (Sub.cons (Has.cst (HasC.cv (HasC.s (s := 904009) rfl) Cv.fl)) (Sub.cons (Has.cst (HasC.cv (HasC.s (s := 904010) rfl) Cv.fl)) (sc (sc (sc (sc (sc (sf (sm (sm (sm (Sub.cons (Has.at (HasG.cv (HasG.s rfl) (Cv.owM (T := [74]) (te := [72, 73]) rfl rfl))) (sg (sf (sf (sf (sf (sf (sf (sf (sf (sf (sf (sf (sf (sf (sf (sf (sf (sm (sm (sm (sg (sn (sn (sn (sn (sn (sn (sn (Sub.cons (Has.mpdM (Hs rfl) rfl) Sub.nil))))))))))))))))))))))))))))))))))))))))))))))))))
               ·have hm := cond_f hb hm
                refine CWalk.exit ?_
                refine Leaf.thenE ?_
                exact Leaf.brk hm (fun h => nomatch h) rfl (Sub.cons (Has.cv (Hs rfl) (Cv.owF (T := [55, 56, 65]) (te := []) rfl)) (st (sc (sc (sc (sc (Sub.cons (Has.cst (HasC.cv (HasC.s (s := 904008) rfl) (Cv.m rfl))) (Sub.cons (Has.cst (HasC.cv (HasC.s (s := 904009) rfl) Cv.fl)) (Sub.cons (Has.cst (HasC.cv (HasC.s (s := 904010) rfl) Cv.fl)) (sc (sc (sc (sc (sc (Sub.cons (Has.at (HasG.cv (HasG.s rfl) (Cv.owM (T := [74]) (te := [72, 73]) rfl rfl))) (sg (sf (sf (sf (sf (sf (sf (sf (sf (sf (sf (sf (sf (sf (sf (sf (sf (sm (sm (sm (sg (sn (sn (sn (sn (sn (sn (Sub.cons (Has.mpdM (Hs rfl) rfl) Sub.nil)))))))))))))))))))))))))))))))))))))))))))
              ·intro _
               refine Leaf.blockE ?_
               refine Lt ?_
               refine Cs ?_
               refine CWalk.ad (Ad.ow (s := 0) 56 rfl rfl ElT.flat rfl (Cv.owF (T := [55, 56, 65]) (te := []) (T' := [55, 56, 65]) (te' := []) rfl)) ?_
               refine Cr ?_
               refine mv ?_
               refine mv ?_
               obtain ⟨x42, hx42, hm⟩ := bind_some hm
               refine wo (Spec.slcWin hx42 ow35 (Hs rfl) rfl (Hs rfl)) ?_
               refine ws (Step.clearWin (te' := []) ow35 zt3 rfl (Hs rfl) rfl ElKeep.flat) ?_
               refine Wn ?_
               refine Lt ?_
               refine Cs ?_
               refine Cr ?_
               refine mv ?_
               refine mv ?_
               obtain ⟨x43, hx43, hm⟩ := bind_some hm
               refine wo (Spec.slcHiOw hx43 ow35 (Has.cv (Hs rfl) (Cv.isvOw rfl)) (Hs rfl)) ?_
               refine wo (Spec.assign (Hs rfl)) ?_
               refine Wn ?_
               refine Lt ?_
               refine CWalk.ret ?_
               exact Leaf.in1 x43 hm rfl rfl (HasR.cv (HasR.tmp (Hs rfl)) (Cv.owF (T := [56]) (te := []) rfl)) (ls 908027 (Low.res (lc (lc (lc (lc (Low.keepC (HasC.cv (HasC.s (s := 904008) rfl) (Cv.m rfl)) (Low.keepC (HasC.cv (HasC.s (s := 904009) rfl) Cv.fl) (Low.keepC (HasC.cv (HasC.s (s := 904010) rfl) Cv.fl) (lc (lc (lc (lc (lg (Low.keepG (HasG.cv (HasG.s rfl) (Cv.owM (T := [74]) (te := [72, 73]) rfl rfl)) (lg (lf (lf (lf (lf (lf (lf (lf (lf (lf (lf (lf (lf (lf (lf (lf (lf (lm (lm (lm (lo (lo (lo (lo (lo (lo (Low.keepR (fun _ _ _ _ h => h) (Has.mpdM (Hs rfl) rfl) Low.nil))))))))))))))))))))))))))))))))))))))))))
            ·rintro j31 hm
             replace hm : redo_Acts_J7 a0 a1 s14 s15 s17 x19 j31 = some c18 := hm
             unfold redo_Acts_J7 at hm
             show Walk _ _ _ [.fact 27 (.isv 30), .fact 33 (.ow [56, 65] [] 3 (j31 : List Int)), .fact 902006 (.cst (u1 6) (Fact.isv 25)), .fact 902007 (.cst (u1 7) (Fact.nilv)), .fact 902011 (.cst (u1 11) (Fact.isv 33)), .fact 904001 (.cst (u2 1) (Fact.fnv 32 [] [Fact.isv 33, Fact.isv 10, Fact.isv 17, Fact.isv 25])), .fact 904008 (.cst (u2 8) (Fact.rep [0] (a2 : List Found))), .fact 904009 (.cst (u2 9) (Fact.rep [] (((a2).length : Int) : Int))), .fact 904010 (.cst (u2 10) (Fact.rep [] (s14 : Int))), .fact 906002 (.cst (u3 2) (Fact.isv 10)), .fact 906003 (.cst (u3 3) (Fact.isv 17)), .fact 906004 (.cst (u3 4) (Fact.isv 25)), .fact 906005 (.cst (u3 5) (Fact.isv 42)), .fact 100031 (.at 31 (.isv 29)), .fact 100026 (.at 26 (.ow [74] [72, 73] 45 (s15 : List Act45))), .fact 100034 (.at 34 (.isv 30)), .fact 100011 (.at 11 (.rep [] a0.Id)), .fact 100012 (.at 12 (.rep [] a0.Members)), .fact 100013 (.at 13 (.rep [] a0.Chunk)), .fact 100014 (.at 14 (.rep [] a0.Rows)), .fact 100015 (.at 15 (.rep [] a0.Log)), .fact 100016 (.at 16 (.rep [] a0.Heads)), .fact 100018 (.at 18 (.rep [] a1.Events)), .fact 100019 (.at 19 (.rep [] a1.Lost)), .fact 100020 (.at 20 (.rep [] a1.Spare)), .fact 100021 (.at 21 (.rep [] a1.Pos)), .fact 100022 (.at 22 (.rep [] a1.Done)), .fact 100023 (.at 23 (.rep [] a1.NoLog)), .fact 100024 (.at 24 (.rep [] a1.Broken)), .fact 100043 (.at 43 (.rep [] x19.Age)), .fact 100044 (.at 44 (.rep [] x19.Seq)), .fact 100045 (.at 45 (.rep [] x19.Deal.Stripe)), .fact 100046 (.at 46 (.rep [0] x19.Deal.Slots)), .fact 100047 (.at 47 (.rep [0] x19.Deal.Blocks)), .fact 100048 (.at 48 (.rep [0] x19.Deal.Parity)), .fact 100030 (.obj 30 [(false, 1), (false, 1)]), .fact 100025 (.obj 25 [(false, 1)]), .fact 100033 (.obj 33 [(false, 1)]), .fact 100010 (.obj 10 [(false, 1), (false, 1), (false, 1), (false, 1), (false, 1), (false, 1)]), .fact 100017 (.obj 17 [(false, 1), (false, 1), (false, 1), (false, 1), (false, 1), (false, 1), (false, 1)]), .fact 100042 (.obj 42 [(false, 1), (false, 1), (false, 1), (false, 1), (false, 1), (false, 1)]), .fact 100029 (.mpd 29 [70] 3 37 (delK s17 x19.Deal.Stripe : List DRow))] _
             refine wo (Spec.nilCheckI (Hs rfl) rfl) ?_
             refine wo (Spec.fieldAddrO fd78_1 (Has.cv (Hs rfl) (Cv.isvP rfl))) ?_
             refine ws (Step.storeF (i := 1) (f := Fact.ow [56, 65] [] 3 (j31 : List Int)) rfl ty35 rfl (Hs rfl) rfl (Has.cv (Hs rfl) (Cv.trans Cv.owSl (Cv.slRep (T' := [56, 65]) rfl rfl))) (Hs rfl) rfl) ?_
             refine Wn ?_
             exact Leaf.join (j31, delK s17 x19.Deal.Stripe) hm (sc (sc (sc (sc (Sub.cons (Has.cst (HasC.cv (HasC.s (s := 904008) rfl) (Cv.m rfl))) (Sub.cons (Has.cst (HasC.cv (HasC.s (s := 904009) rfl) Cv.fl)) (Sub.cons (Has.cst (HasC.cv (HasC.s (s := 904010) rfl) Cv.fl)) (sc (sc (sc (sc (Sub.cons (Has.at (HasG.cv (HasG.s rfl) (Cv.owM (T := [74]) (te := [72, 73]) rfl rfl))) (sg (sf (sf (sf (sf (sf (sf (sf (sf (sf (sf (sf (sf (sf (sf (sf (sf (sm (sm (sm (sg (Sub.cons (Has.at (HasG.cv (HasG.s rfl) (Cv.owF (T := [56, 65]) (te := []) rfl))) (sn (sn (sn (sn (sn (sn (Sub.cons (Has.mpdM (Hs rfl) rfl) Sub.nil)))))))))))))))))))))))))))))))))))))))))
           ·have hm := cond_f hb hm
            refine CWalk.skip ?_
            exact Leaf.join (s16, s17) hm (sc (sc (sc (sc (Sub.cons (Has.cst (HasC.cv (HasC.s (s := 904008) rfl) (Cv.m rfl))) (Sub.cons (Has.cst (HasC.cv (HasC.s (s := 904009) rfl) Cv.fl)) (Sub.cons (Has.cst (HasC.cv (HasC.s (s := 904010) rfl) Cv.fl)) (sc (sc (sc (sc (Sub.cons (Has.at (HasG.cv (HasG.s rfl) (Cv.owM (T := [74]) (te := [72, 73]) rfl rfl))) (sg (sf (sf (sf (sf (sf (sf (sf (sf (sf (sf (sf (sf (sf (sf (sf (sf (sm (sm (sm (sg (Sub.cons (Has.at (HasG.cv (HasG.s rfl) (Cv.owF (T := [56, 65]) (te := []) rfl))) (sn (sn (sn (sn (sn (sn (Sub.cons (Has.mpdM (Hs rfl) rfl) Sub.nil)))))))))))))))))))))))))))))))))))))))))
         ·have hm := cond_f hb hm
          refine CWalk.skip ?_
          refine Lt ?_
          refine Cs ?_
          refine CWalk.drawM [[], [0], [0, 1], [0, 1, 2], [], [4], [0, 1, 2, 3, 4, 5], [0, 1, 2, 3, 4, 5, 6]] [[.fact 36 (.isv 30)], [.fact 37 (.isv 30)], [.fact 38 (.pto 30 0)], [.fact 39 (.isv 29)], [.fact 40 (.pto 49 0)], [.fact 41 (.rep [] x19.Deal.Stripe)], [.fact 42 (.lkp 29 x19.Deal.Stripe)], [.fact 4 (.lkp 29 x19.Deal.Stripe)]] mixed (by kernel_rfl) (ao (so (Spec.move (Hs rfl))) (ao (so (Spec.nilCheckI (Hs rfl) rfl)) (ao (so (Spec.fieldAddrO fd78_0 (Has.cv (Hs rfl) (Cv.isvP rfl)))) (ao (so (Spec.loadF (i := 0) ty76 rfl (Hs rfl) rfl (HasG.s rfl))) (ao (so (Spec.fieldAddrO fd39_0 (Has.cv (Hs rfl) (Cv.isvP rfl)))) (ao (so (Spec.loadF (i := 0) ty3 rfl (Hs rfl) rfl (HasG.s rfl))) (ao (so (Spec.lookupD mp76 (Hs rfl) rfl (Hs rfl))) (ao (so (Spec.assign (Hs rfl))) AllM.nil)))))))) ?_
          refine Lt ?_
          refine CWalk.seqJ (fun p : (List Int) × (List (List UInt8)) × (List Int) × (List DRow) => [.fact 3 (.isv 49), .fact 4 (.isv 57), .fact 902006 (.cst (u1 6) (Fact.isv 25)), .fact 902007 (.cst (u1 7) (Fact.nilv)), .fact 902011 (.cst (u1 11) (Fact.isv 33)), .fact 904001 (.cst (u2 1) (Fact.fnv 32 [] [Fact.isv 33, Fact.isv 10, Fact.isv 17, Fact.isv 25])), .fact 904008 (.cst (u2 8) (Fact.rep [0] (a2 : List Found))), .fact 904009 (.cst (u2 9) (Fact.rep [] (((a2).length : Int) : Int))), .fact 904010 (.cst (u2 10) (Fact.rep [] (s14 : Int))), .fact 906002 (.cst (u3 2) (Fact.isv 10)), .fact 906003 (.cst (u3 3) (Fact.isv 17)), .fact 906004 (.cst (u3 4) (Fact.isv 25)), .fact 906005 (.cst (u3 5) (Fact.isv 42)), .fact 100050 (.at 50 (.rep [] x19.Deal.Stripe)), .fact 100051 (.at 51 (.rep [0] x19.Deal.Slots)), .fact 100052 (.at 52 (.rep [0] x19.Deal.Blocks)), .fact 100053 (.at 53 (.rep [0] x19.Deal.Parity)), .fact 100058 (.at 58 (.rep [] x19.Deal.Stripe)), .fact 100059 (.at 59 (.ow [62] [] 3 (p.1 : List Int))), .fact 100060 (.at 60 (.ow [63] [70] 37 (p.2.1 : List (List UInt8)))), .fact 100061 (.at 61 (.nilv)), .fact 100026 (.at 26 (.ow [74] [72, 73] 45 (s15 : List Act45))), .fact 100034 (.at 34 (.isv 30)), .fact 100011 (.at 11 (.rep [] a0.Id)), .fact 100012 (.at 12 (.rep [] a0.Members)), .fact 100013 (.at 13 (.rep [] a0.Chunk)), .fact 100014 (.at 14 (.rep [] a0.Rows)), .fact 100015 (.at 15 (.rep [] a0.Log)), .fact 100016 (.at 16 (.rep [] a0.Heads)), .fact 100018 (.at 18 (.rep [] a1.Events)), .fact 100019 (.at 19 (.rep [] a1.Lost)), .fact 100020 (.at 20 (.rep [] a1.Spare)), .fact 100021 (.at 21 (.rep [] a1.Pos)), .fact 100022 (.at 22 (.rep [] a1.Done)), .fact 100023 (.at 23 (.rep [] a1.NoLog)), .fact 100024 (.at 24 (.rep [] a1.Broken)), .fact 100043 (.at 43 (.rep [] x19.Age)), .fact 100044 (.at 44 (.rep [] x19.Seq)), .fact 100045 (.at 45 (.rep [] x19.Deal.Stripe)), .fact 100046 (.at 46 (.rep [0] x19.Deal.Slots)), .fact 100047 (.at 47 (.rep [0] x19.Deal.Blocks)), .fact 100048 (.at 48 (.rep [0] x19.Deal.Parity)), .fact 100031 (.at 31 (.isv 29)), .fact 100032 (.at 32 (.ow [56, 65] [] 3 (p.2.2.1 : List Int))), .fact 100049 (.obj 49 [(false, 1), (false, 1), (false, 1), (false, 1)]), .fact 100057 (.obj 57 [(false, 1), (false, 1), (false, 1), (false, 1)]), .fact 100025 (.obj 25 [(false, 1)]), .fact 100033 (.obj 33 [(false, 1)]), .fact 100010 (.obj 10 [(false, 1), (false, 1), (false, 1), (false, 1), (false, 1), (false, 1)]), .fact 100017 (.obj 17 [(false, 1), (false, 1), (false, 1), (false, 1), (false, 1), (false, 1), (false, 1)]), .fact 100042 (.obj 42 [(false, 1), (false, 1), (false, 1), (false, 1), (false, 1), (false, 1)]), .fact 100030 (.obj 30 [(false, 1), (false, 1)]), .fact 100029 (.mph 29 [70] 3 37 (p.2.2.2 : List DRow) x19.Deal.Stripe 57)]) (fun p : (List Int) × (List (List UInt8)) × (List Int) × (List DRow) => redo_Acts_J11 a0 a1 s14 s15 x19 p.1 p.2.1 p.2.2.1 p.2.2.2 = some c18) ?_ ?_
          ·rintro ⟨j44, j45, j46, j47⟩ hm
           replace hm : redo_Acts_J11 a0 a1 s14 s15 x19 j44 j45 j46 j47 = some c18 := hm
           unfold redo_Acts_J11 at hm
           show CWalk _ [.fact 3 (.isv 49), .fact 4 (.isv 57), .fact 902006 (.cst (u1 6) (Fact.isv 25)), .fact 902007 (.cst (u1 7) (Fact.nilv)), .fact 902011 (.cst (u1 11) (Fact.isv 33)), .fact 904001 (.cst (u2 1) (Fact.fnv 32 [] [Fact.isv 33, Fact.isv 10, Fact.isv 17, Fact.isv 25])), .fact 904008 (.cst (u2 8) (Fact.rep [0] (a2 : List Found))), .fact 904009 (.cst (u2 9) (Fact.rep [] (((a2).length : Int) : Int))), .fact 904010 (.cst (u2 10) (Fact.rep [] (s14 : Int))), .fact 906002 (.cst (u3 2) (Fact.isv 10)), .fact 906003 (.cst (u3 3) (Fact.isv 17)), .fact 906004 (.cst (u3 4) (Fact.isv 25)), .fact 906005 (.cst (u3 5) (Fact.isv 42)), .fact 100050 (.at 50 (.rep [] x19.Deal.Stripe)), .fact 100051 (.at 51 (.rep [0] x19.Deal.Slots)), .fact 100052 (.at 52 (.rep [0] x19.Deal.Blocks)), .fact 100053 (.at 53 (.rep [0] x19.Deal.Parity)), .fact 100058 (.at 58 (.rep [] x19.Deal.Stripe)), .fact 100059 (.at 59 (.ow [62] [] 3 (j44 : List Int))), .fact 100060 (.at 60 (.ow [63] [70] 37 (j45 : List (List UInt8)))), .fact 100061 (.at 61 (.nilv)), .fact 100026 (.at 26 (.ow [74] [72, 73] 45 (s15 : List Act45))), .fact 100034 (.at 34 (.isv 30)), .fact 100011 (.at 11 (.rep [] a0.Id)), .fact 100012 (.at 12 (.rep [] a0.Members)), .fact 100013 (.at 13 (.rep [] a0.Chunk)), .fact 100014 (.at 14 (.rep [] a0.Rows)), .fact 100015 (.at 15 (.rep [] a0.Log)), .fact 100016 (.at 16 (.rep [] a0.Heads)), .fact 100018 (.at 18 (.rep [] a1.Events)), .fact 100019 (.at 19 (.rep [] a1.Lost)), .fact 100020 (.at 20 (.rep [] a1.Spare)), .fact 100021 (.at 21 (.rep [] a1.Pos)), .fact 100022 (.at 22 (.rep [] a1.Done)), .fact 100023 (.at 23 (.rep [] a1.NoLog)), .fact 100024 (.at 24 (.rep [] a1.Broken)), .fact 100043 (.at 43 (.rep [] x19.Age)), .fact 100044 (.at 44 (.rep [] x19.Seq)), .fact 100045 (.at 45 (.rep [] x19.Deal.Stripe)), .fact 100046 (.at 46 (.rep [0] x19.Deal.Slots)), .fact 100047 (.at 47 (.rep [0] x19.Deal.Blocks)), .fact 100048 (.at 48 (.rep [0] x19.Deal.Parity)), .fact 100031 (.at 31 (.isv 29)), .fact 100032 (.at 32 (.ow [56, 65] [] 3 (j46 : List Int))), .fact 100049 (.obj 49 [(false, 1), (false, 1), (false, 1), (false, 1)]), .fact 100057 (.obj 57 [(false, 1), (false, 1), (false, 1), (false, 1)]), .fact 100025 (.obj 25 [(false, 1)]), .fact 100033 (.obj 33 [(false, 1)]), .fact 100010 (.obj 10 [(false, 1), (false, 1), (false, 1), (false, 1), (false, 1), (false, 1)]), .fact 100017 (.obj 17 [(false, 1), (false, 1), (false, 1), (false, 1), (false, 1), (false, 1), (false, 1)]), .fact 100042 (.obj 42 [(false, 1), (false, 1), (false, 1), (false, 1), (false, 1), (false, 1)]), .fact 100030 (.obj 30 [(false, 1), (false, 1)]), .fact 100029 (.mph 29 [70] 3 37 (j47 : List DRow) x19.Deal.Stripe 57)] _ _
           refine Cs ?_
           refine Cr ?_
           refine wo (Spec.fieldAddrO fd39_1 (Has.cv (Hs rfl) (Cv.isvP rfl))) ?_
           refine wo (Spec.loadF (i := 1) ty35 rfl (Hs rfl) rfl (HasG.s rfl)) ?_
           refine wo (Spec.len (Hs rfl) Try.underlying35) ?_
           refine wo (Spec.move Has.int) ?_
           refine Wn ?_
           refine Lt ?_
           refine CWalk.block ?_
           obtain ⟨b61, hb61, hm⟩ := bind_some hm
           refine CWalk.loop (fun s : Int × (List Int) × (List (List UInt8)) => [.fact 3 (.isv 49), .fact 4 (.isv 57), .fact 70 (.rep [0] x19.Deal.Slots), .fact 71 (.rep [] (((x19.Deal.Slots).length : Int) : Int)), .fact 72 (.rep [] s.1), .fact 902006 (.cst (u1 6) (Fact.isv 25)), .fact 902007 (.cst (u1 7) (Fact.nilv)), .fact 902011 (.cst (u1 11) (Fact.isv 33)), .fact 904001 (.cst (u2 1) (Fact.fnv 32 [] [Fact.isv 33, Fact.isv 10, Fact.isv 17, Fact.isv 25])), .fact 904008 (.cst (u2 8) (Fact.rep [0] (a2 : List Found))), .fact 904009 (.cst (u2 9) (Fact.rep [] (((a2).length : Int) : Int))), .fact 904010 (.cst (u2 10) (Fact.rep [] (s14 : Int))), .fact 906002 (.cst (u3 2) (Fact.isv 10)), .fact 906003 (.cst (u3 3) (Fact.isv 17)), .fact 906004 (.cst (u3 4) (Fact.isv 25)), .fact 906005 (.cst (u3 5) (Fact.isv 42)), .fact 100050 (.at 50 (.rep [] x19.Deal.Stripe)), .fact 100051 (.at 51 (.rep [0] x19.Deal.Slots)), .fact 100052 (.at 52 (.rep [0] x19.Deal.Blocks)), .fact 100053 (.at 53 (.rep [0] x19.Deal.Parity)), .fact 100058 (.at 58 (.rep [] x19.Deal.Stripe)), .fact 100059 (.at 59 (.ow [62] [] 3 (s.2.1 : List Int))), .fact 100060 (.at 60 (.ow [63, 69] [70] 37 (s.2.2 : List (List UInt8)))), .fact 100061 (.at 61 (.nilv)), .fact 100026 (.at 26 (.ow [74] [72, 73] 45 (s15 : List Act45))), .fact 100034 (.at 34 (.isv 30)), .fact 100011 (.at 11 (.rep [] a0.Id)), .fact 100012 (.at 12 (.rep [] a0.Members)), .fact 100013 (.at 13 (.rep [] a0.Chunk)), .fact 100014 (.at 14 (.rep [] a0.Rows)), .fact 100015 (.at 15 (.rep [] a0.Log)), .fact 100016 (.at 16 (.rep [] a0.Heads)), .fact 100018 (.at 18 (.rep [] a1.Events)), .fact 100019 (.at 19 (.rep [] a1.Lost)), .fact 100020 (.at 20 (.rep [] a1.Spare)), .fact 100021 (.at 21 (.rep [] a1.Pos)), .fact 100022 (.at 22 (.rep [] a1.Done)), .fact 100023 (.at 23 (.rep [] a1.NoLog)), .fact 100024 (.at 24 (.rep [] a1.Broken)), .fact 100043 (.at 43 (.rep [] x19.Age)), .fact 100044 (.at 44 (.rep [] x19.Seq)), .fact 100045 (.at 45 (.rep [] x19.Deal.Stripe)), .fact 100046 (.at 46 (.rep [0] x19.Deal.Slots)), .fact 100047 (.at 47 (.rep [0] x19.Deal.Blocks)), .fact 100048 (.at 48 (.rep [0] x19.Deal.Parity)), .fact 100031 (.at 31 (.isv 29)), .fact 100032 (.at 32 (.ow [56, 65] [] 3 (j46 : List Int))), .fact 100049 (.obj 49 [(false, 1), (false, 1), (false, 1), (false, 1)]), .fact 100057 (.obj 57 [(false, 1), (false, 1), (false, 1), (false, 1)]), .fact 100025 (.obj 25 [(false, 1)]), .fact 100033 (.obj 33 [(false, 1)]), .fact 100010 (.obj 10 [(false, 1), (false, 1), (false, 1), (false, 1), (false, 1), (false, 1)]), .fact 100017 (.obj 17 [(false, 1), (false, 1), (false, 1), (false, 1), (false, 1), (false, 1), (false, 1)]), .fact 100042 (.obj 42 [(false, 1), (false, 1), (false, 1), (false, 1), (false, 1), (false, 1)]), .fact 100030 (.obj 30 [(false, 1), (false, 1)]), .fact 100029 (.mph 29 [70] 3 37 (j47 : List DRow) x19.Deal.Stripe 57)]) (fun b : (List Int) × (List (List UInt8)) => (Exit.exit 0, [.fact 902006 (.cst (u1 6) (Fact.isv 25)), .fact 902007 (.cst (u1 7) (Fact.nilv)), .fact 902011 (.cst (u1 11) (Fact.isv 33)), .fact 904001 (.cst (u2 1) (Fact.fnv 32 [] [Fact.isv 33, Fact.isv 10, Fact.isv 17, Fact.isv 25])), .fact 904008 (.cst (u2 8) (Fact.rep [0] (a2 : List Found))), .fact 904009 (.cst (u2 9) (Fact.rep [] (((a2).length : Int) : Int))), .fact 904010 (.cst (u2 10) (Fact.rep [] (s14 : Int))), .fact 906002 (.cst (u3 2) (Fact.isv 10)), .fact 906003 (.cst (u3 3) (Fact.isv 17)), .fact 906004 (.cst (u3 4) (Fact.isv 25)), .fact 906005 (.cst (u3 5) (Fact.isv 42)), .fact 100026 (.at 26 (.ow [74] [72, 73] 45 (s15 : List Act45))), .fact 100034 (.at 34 (.isv 30)), .fact 100011 (.at 11 (.rep [] a0.Id)), .fact 100012 (.at 12 (.rep [] a0.Members)), .fact 100013 (.at 13 (.rep [] a0.Chunk)), .fact 100014 (.at 14 (.rep [] a0.Rows)), .fact 100015 (.at 15 (.rep [] a0.Log)), .fact 100016 (.at 16 (.rep [] a0.Heads)), .fact 100018 (.at 18 (.rep [] a1.Events)), .fact 100019 (.at 19 (.rep [] a1.Lost)), .fact 100020 (.at 20 (.rep [] a1.Spare)), .fact 100021 (.at 21 (.rep [] a1.Pos)), .fact 100022 (.at 22 (.rep [] a1.Done)), .fact 100023 (.at 23 (.rep [] a1.NoLog)), .fact 100024 (.at 24 (.rep [] a1.Broken)), .fact 100043 (.at 43 (.rep [] x19.Age)), .fact 100044 (.at 44 (.rep [] x19.Seq)), .fact 100045 (.at 45 (.rep [] x19.Deal.Stripe)), .fact 100046 (.at 46 (.rep [0] x19.Deal.Slots)), .fact 100047 (.at 47 (.rep [0] x19.Deal.Blocks)), .fact 100048 (.at 48 (.rep [0] x19.Deal.Parity)), .fact 100031 (.at 31 (.isv 29)), .fact 100032 (.at 32 (.ow [56, 65] [] 3 (j46 : List Int))), .fact 100058 (.at 58 (.rep [] x19.Deal.Stripe)), .fact 100059 (.at 59 (.ow [62] [] 3 (b.1 : List Int))), .fact 100060 (.at 60 (.ow [63, 69] [70] 37 (b.2 : List (List UInt8)))), .fact 100061 (.at 61 (.nilv)), .fact 100025 (.obj 25 [(false, 1)]), .fact 100033 (.obj 33 [(false, 1)]), .fact 100010 (.obj 10 [(false, 1), (false, 1), (false, 1), (false, 1), (false, 1), (false, 1)]), .fact 100017 (.obj 17 [(false, 1), (false, 1), (false, 1), (false, 1), (false, 1), (false, 1), (false, 1)]), .fact 100042 (.obj 42 [(false, 1), (false, 1), (false, 1), (false, 1), (false, 1), (false, 1)]), .fact 100030 (.obj 30 [(false, 1), (false, 1)]), .fact 100029 (.mph 29 [70] 3 37 (j47 : List DRow) x19.Deal.Stripe 57), .fact 100057 (.obj 57 [(false, 1), (false, 1), (false, 1), (false, 1)])])) hb61 (sn (sn (su (st (st (sc (sc (sc (sc (Sub.cons (Has.cst (HasC.cv (HasC.s (s := 904008) rfl) (Cv.m rfl))) (Sub.cons (Has.cst (HasC.cv (HasC.s (s := 904009) rfl) Cv.fl)) (Sub.cons (Has.cst (HasC.cv (HasC.s (s := 904010) rfl) Cv.fl)) (sc (sc (sc (sc (sf (sm (sm (sm (sf (Sub.cons (Has.at (HasG.cv (HasG.s rfl) (Cv.owF (T := [62]) (te := []) rfl))) (Sub.cons (Has.at (HasG.cv (HasG.s rfl) (Cv.owM (T := [63]) (te := [70]) rfl rfl))) (sg (Sub.cons (Has.at (HasG.cv (HasG.s rfl) (Cv.owM (T := [74]) (te := [72, 73]) rfl rfl))) (sg (sf (sf (sf (sf (sf (sf (sf (sf (sf (sf (sf (sf (sf (sf (sf (sf (sm (sm (sm (sg (Sub.cons (Has.at (HasG.cv (HasG.s rfl) (Cv.owF (T := [56, 65]) (te := []) rfl))) (sn (sn (sn (sn (sn (sn (sn (sn (Sub.cons (Has.mphM (Hs rfl) rfl) Sub.nil)))))))))))))))))))))))))))))))))))))))))))))))))))))))) ?_ ?_
           ·rintro ⟨s48, s49, s50⟩ c51 hm
            replace hm : redo_Acts_L12 x19 s48 s49 s50 = some c51 := hm
            unfold redo_Acts_L12 at hm
            show CWalk _ [.fact 3 (.isv 49), .fact 4 (.isv 57), .fact 70 (.rep [0] x19.Deal.Slots), .fact 71 (.rep [] (((x19.Deal.Slots).length : Int) : Int)), .fact 72 (.rep [] (s48 : Int)), .fact 902006 (.cst (u1 6) (Fact.isv 25)), .fact 902007 (.cst (u1 7) (Fact.nilv)), .fact 902011 (.cst (u1 11) (Fact.isv 33)), .fact 904001 (.cst (u2 1) (Fact.fnv 32 [] [Fact.isv 33, Fact.isv 10, Fact.isv 17, Fact.isv 25])), .fact 904008 (.cst (u2 8) (Fact.rep [0] (a2 : List Found))), .fact 904009 (.cst (u2 9) (Fact.rep [] (((a2).length : Int) : Int))), .fact 904010 (.cst (u2 10) (Fact.rep [] (s14 : Int))), .fact 906002 (.cst (u3 2) (Fact.isv 10)), .fact 906003 (.cst (u3 3) (Fact.isv 17)), .fact 906004 (.cst (u3 4) (Fact.isv 25)), .fact 906005 (.cst (u3 5) (Fact.isv 42)), .fact 100050 (.at 50 (.rep [] x19.Deal.Stripe)), .fact 100051 (.at 51 (.rep [0] x19.Deal.Slots)), .fact 100052 (.at 52 (.rep [0] x19.Deal.Blocks)), .fact 100053 (.at 53 (.rep [0] x19.Deal.Parity)), .fact 100058 (.at 58 (.rep [] x19.Deal.Stripe)), .fact 100059 (.at 59 (.ow [62] [] 3 (s49 : List Int))), .fact 100060 (.at 60 (.ow [63, 69] [70] 37 (s50 : List (List UInt8)))), .fact 100061 (.at 61 (.nilv)), .fact 100026 (.at 26 (.ow [74] [72, 73] 45 (s15 : List Act45))), .fact 100034 (.at 34 (.isv 30)), .fact 100011 (.at 11 (.rep [] a0.Id)), .fact 100012 (.at 12 (.rep [] a0.Members)), .fact 100013 (.at 13 (.rep [] a0.Chunk)), .fact 100014 (.at 14 (.rep [] a0.Rows)), .fact 100015 (.at 15 (.rep [] a0.Log)), .fact 100016 (.at 16 (.rep [] a0.Heads)), .fact 100018 (.at 18 (.rep [] a1.Events)), .fact 100019 (.at 19 (.rep [] a1.Lost)), .fact 100020 (.at 20 (.rep [] a1.Spare)), .fact 100021 (.at 21 (.rep [] a1.Pos)), .fact 100022 (.at 22 (.rep [] a1.Done)), .fact 100023 (.at 23 (.rep [] a1.NoLog)), .fact 100024 (.at 24 (.rep [] a1.Broken)), .fact 100043 (.at 43 (.rep [] x19.Age)), .fact 100044 (.at 44 (.rep [] x19.Seq)), .fact 100045 (.at 45 (.rep [] x19.Deal.Stripe)), .fact 100046 (.at 46 (.rep [0] x19.Deal.Slots)), .fact 100047 (.at 47 (.rep [0] x19.Deal.Blocks)), .fact 100048 (.at 48 (.rep [0] x19.Deal.Parity)), .fact 100031 (.at 31 (.isv 29)), .fact 100032 (.at 32 (.ow [56, 65] [] 3 (j46 : List Int))), .fact 100049 (.obj 49 [(false, 1), (false, 1), (false, 1), (false, 1)]), .fact 100057 (.obj 57 [(false, 1), (false, 1), (false, 1), (false, 1)]), .fact 100025 (.obj 25 [(false, 1)]), .fact 100033 (.obj 33 [(false, 1)]), .fact 100010 (.obj 10 [(false, 1), (false, 1), (false, 1), (false, 1), (false, 1), (false, 1)]), .fact 100017 (.obj 17 [(false, 1), (false, 1), (false, 1), (false, 1), (false, 1), (false, 1), (false, 1)]), .fact 100042 (.obj 42 [(false, 1), (false, 1), (false, 1), (false, 1), (false, 1), (false, 1)]), .fact 100030 (.obj 30 [(false, 1), (false, 1)]), .fact 100029 (.mph 29 [70] 3 37 (j47 : List DRow) x19.Deal.Stripe 57)] _ _
            refine Cs ?_
            refine Cr ?_
            refine wo (Spec.lssI (Hs rfl) (Hs rfl)) ?_
            refine Wn ?_
            refine Lt ?_
            refine Cs ?_
            refine CWalk.cond rfl (fun hb => ?_) (fun hb => ?_)
            ·have hm := cond_t hb hm
             refine CWalk.skip ?_
             refine Lt ?_
             refine Cs ?_
             refine CWalk.block ?_
             refine Cs ?_
             refine Cr ?_
             refine mv ?_
             obtain ⟨x52, hx52, hm⟩ := bind_some hm
             refine wo (Spec.indexAddr hx52 sl35 (Hs rfl) (Hs rfl)) ?_
             refine wo ((Spec.load ty3 (Hs rfl)).flat (T' := [])) ?_
             refine wo (Spec.assign (Hs rfl)) ?_
             refine wo (Spec.assign (Hs rfl)) ?_
             refine Wn ?_
             refine Lt ?_
             refine Cs ?_
             refine Cr ?_
             refine mv ?_
             refine wo (Spec.nilCheckI (Hs rfl) rfl) ?_
             refine wo (Spec.fieldAddrO fd39_1 (Has.cv (Hs rfl) (Cv.isvP rfl))) ?_
             refine wo (Spec.loadF (i := 1) ty35 rfl (Hs rfl) rfl (HasG.s rfl)) ?_
             refine mv ?_
             obtain ⟨x53, hx53, hm⟩ := bind_some hm
             refine wo (f := Fact.tup2 (Fact.rep [] x53.1) (Fact.rep [] x53.2)) (Spec.callE [62] 66 rfl en59 (slices_BinarySearch_int_int_c s49 x52 hx53) (HasAll.cons (Has.m (Has.cv (Hs rfl) (Cv.trans Cv.owSl (Cv.slRep (T' := [62]) rfl rfl))) rfl) (HasAll.cons (Has.fl (Hs rfl)) HasAll.nil))) ?_
             refine mv ?_
             refine wo (Spec.ext0 (Hs rfl)) ?_
             refine wo (Spec.ext1 (Hs rfl)) ?_
             refine wo (Spec.assign (Hs rfl)) ?_
             refine wo (Spec.assign (Hs rfl)) ?_
             refine Wn ?_
             refine Lt ?_
             refine CWalk.seqJ (fun p : (List Int) × (List (List UInt8)) => [.fact 3 (.isv 49), .fact 4 (.isv 57), .fact 5 (.rep [] (s48 : Int)), .fact 7 (.rep [] x53.1), .fact 70 (.rep [0] x19.Deal.Slots), .fact 71 (.rep [] (((x19.Deal.Slots).length : Int) : Int)), .fact 72 (.rep [] (s48 : Int)), .fact 902006 (.cst (u1 6) (Fact.isv 25)), .fact 902007 (.cst (u1 7) (Fact.nilv)), .fact 902011 (.cst (u1 11) (Fact.isv 33)), .fact 904001 (.cst (u2 1) (Fact.fnv 32 [] [Fact.isv 33, Fact.isv 10, Fact.isv 17, Fact.isv 25])), .fact 904008 (.cst (u2 8) (Fact.rep [0] (a2 : List Found))), .fact 904009 (.cst (u2 9) (Fact.rep [] (((a2).length : Int) : Int))), .fact 904010 (.cst (u2 10) (Fact.rep [] (s14 : Int))), .fact 906002 (.cst (u3 2) (Fact.isv 10)), .fact 906003 (.cst (u3 3) (Fact.isv 17)), .fact 906004 (.cst (u3 4) (Fact.isv 25)), .fact 906005 (.cst (u3 5) (Fact.isv 42)), .fact 100050 (.at 50 (.rep [] x19.Deal.Stripe)), .fact 100051 (.at 51 (.rep [0] x19.Deal.Slots)), .fact 100052 (.at 52 (.rep [0] x19.Deal.Blocks)), .fact 100053 (.at 53 (.rep [0] x19.Deal.Parity)), .fact 100058 (.at 58 (.rep [] x19.Deal.Stripe)), .fact 100059 (.at 59 (.ow [62] [] 3 (p.1 : List Int))), .fact 100060 (.at 60 (.ow [63, 69] [70] 37 (p.2 : List (List UInt8)))), .fact 100061 (.at 61 (.nilv)), .fact 100026 (.at 26 (.ow [74] [72, 73] 45 (s15 : List Act45))), .fact 100034 (.at 34 (.isv 30)), .fact 100011 (.at 11 (.rep [] a0.Id)), .fact 100012 (.at 12 (.rep [] a0.Members)), .fact 100013 (.at 13 (.rep [] a0.Chunk)), .fact 100014 (.at 14 (.rep [] a0.Rows)), .fact 100015 (.at 15 (.rep [] a0.Log)), .fact 100016 (.at 16 (.rep [] a0.Heads)), .fact 100018 (.at 18 (.rep [] a1.Events)), .fact 100019 (.at 19 (.rep [] a1.Lost)), .fact 100020 (.at 20 (.rep [] a1.Spare)), .fact 100021 (.at 21 (.rep [] a1.Pos)), .fact 100022 (.at 22 (.rep [] a1.Done)), .fact 100023 (.at 23 (.rep [] a1.NoLog)), .fact 100024 (.at 24 (.rep [] a1.Broken)), .fact 100043 (.at 43 (.rep [] x19.Age)), .fact 100044 (.at 44 (.rep [] x19.Seq)), .fact 100045 (.at 45 (.rep [] x19.Deal.Stripe)), .fact 100046 (.at 46 (.rep [0] x19.Deal.Slots)), .fact 100047 (.at 47 (.rep [0] x19.Deal.Blocks)), .fact 100048 (.at 48 (.rep [0] x19.Deal.Parity)), .fact 100031 (.at 31 (.isv 29)), .fact 100032 (.at 32 (.ow [56, 65] [] 3 (j46 : List Int))), .fact 100049 (.obj 49 [(false, 1), (false, 1), (false, 1), (false, 1)]), .fact 100057 (.obj 57 [(false, 1), (false, 1), (false, 1), (false, 1)]), .fact 100025 (.obj 25 [(false, 1)]), .fact 100033 (.obj 33 [(false, 1)]), .fact 100010 (.obj 10 [(false, 1), (false, 1), (false, 1), (false, 1), (false, 1), (false, 1)]), .fact 100017 (.obj 17 [(false, 1), (false, 1), (false, 1), (false, 1), (false, 1), (false, 1), (false, 1)]), .fact 100042 (.obj 42 [(false, 1), (false, 1), (false, 1), (false, 1), (false, 1), (false, 1)]), .fact 100030 (.obj 30 [(false, 1), (false, 1)]), .fact 100029 (.mph 29 [70] 3 37 (j47 : List DRow) x19.Deal.Stripe 57)]) (fun p : (List Int) × (List (List UInt8)) => redo_Acts_J13 x19 s48 x53 p.1 p.2 = some c51) ?_ ?_
             ·rintro ⟨j54, j55⟩ hm
              replace hm : redo_Acts_J13 x19 s48 x53 j54 j55 = some c51 := hm
              unfold redo_Acts_J13 at hm
              show CWalk _ [.fact 3 (.isv 49), .fact 4 (.isv 57), .fact 5 (.rep [] (s48 : Int)), .fact 7 (.rep [] x53.1), .fact 70 (.rep [0] x19.Deal.Slots), .fact 71 (.rep [] (((x19.Deal.Slots).length : Int) : Int)), .fact 72 (.rep [] (s48 : Int)), .fact 902006 (.cst (u1 6) (Fact.isv 25)), .fact 902007 (.cst (u1 7) (Fact.nilv)), .fact 902011 (.cst (u1 11) (Fact.isv 33)), .fact 904001 (.cst (u2 1) (Fact.fnv 32 [] [Fact.isv 33, Fact.isv 10, Fact.isv 17, Fact.isv 25])), .fact 904008 (.cst (u2 8) (Fact.rep [0] (a2 : List Found))), .fact 904009 (.cst (u2 9) (Fact.rep [] (((a2).length : Int) : Int))), .fact 904010 (.cst (u2 10) (Fact.rep [] (s14 : Int))), .fact 906002 (.cst (u3 2) (Fact.isv 10)), .fact 906003 (.cst (u3 3) (Fact.isv 17)), .fact 906004 (.cst (u3 4) (Fact.isv 25)), .fact 906005 (.cst (u3 5) (Fact.isv 42)), .fact 100050 (.at 50 (.rep [] x19.Deal.Stripe)), .fact 100051 (.at 51 (.rep [0] x19.Deal.Slots)), .fact 100052 (.at 52 (.rep [0] x19.Deal.Blocks)), .fact 100053 (.at 53 (.rep [0] x19.Deal.Parity)), .fact 100058 (.at 58 (.rep [] x19.Deal.Stripe)), .fact 100059 (.at 59 (.ow [62] [] 3 (j54 : List Int))), .fact 100060 (.at 60 (.ow [63, 69] [70] 37 (j55 : List (List UInt8)))), .fact 100061 (.at 61 (.nilv)), .fact 100026 (.at 26 (.ow [74] [72, 73] 45 (s15 : List Act45))), .fact 100034 (.at 34 (.isv 30)), .fact 100011 (.at 11 (.rep [] a0.Id)), .fact 100012 (.at 12 (.rep [] a0.Members)), .fact 100013 (.at 13 (.rep [] a0.Chunk)), .fact 100014 (.at 14 (.rep [] a0.Rows)), .fact 100015 (.at 15 (.rep [] a0.Log)), .fact 100016 (.at 16 (.rep [] a0.Heads)), .fact 100018 (.at 18 (.rep [] a1.Events)), .fact 100019 (.at 19 (.rep [] a1.Lost)), .fact 100020 (.at 20 (.rep [] a1.Spare)), .fact 100021 (.at 21 (.rep [] a1.Pos)), .fact 100022 (.at 22 (.rep [] a1.Done)), .fact 100023 (.at 23 (.rep [] a1.NoLog)), .fact 100024 (.at 24 (.rep [] a1.Broken)), .fact 100043 (.at 43 (.rep [] x19.Age)), .fact 100044 (.at 44 (.rep [] x19.Seq)), .fact 100045 (.at 45 (.rep [] x19.Deal.Stripe)), .fact 100046 (.at 46 (.rep [0] x19.Deal.Slots)), .fact 100047 (.at 47 (.rep [0] x19.Deal.Blocks)), .fact 100048 (.at 48 (.rep [0] x19.Deal.Parity)), .fact 100031 (.at 31 (.isv 29)), .fact 100032 (.at 32 (.ow [56, 65] [] 3 (j46 : List Int))), .fact 100049 (.obj 49 [(false, 1), (false, 1), (false, 1), (false, 1)]), .fact 100057 (.obj 57 [(false, 1), (false, 1), (false, 1), (false, 1)]), .fact 100025 (.obj 25 [(false, 1)]), .fact 100033 (.obj 33 [(false, 1)]), .fact 100010 (.obj 10 [(false, 1), (false, 1), (false, 1), (false, 1), (false, 1), (false, 1)]), .fact 100017 (.obj 17 [(false, 1), (false, 1), (false, 1), (false, 1), (false, 1), (false, 1), (false, 1)]), .fact 100042 (.obj 42 [(false, 1), (false, 1), (false, 1), (false, 1), (false, 1), (false, 1)]), .fact 100030 (.obj 30 [(false, 1), (false, 1)]), .fact 100029 (.mph 29 [70] 3 37 (j47 : List DRow) x19.Deal.Stripe 57)] _ _
              refine CWalk.ad (Ad.owF (i := 60) 69 rfl rfl rfl (ElT.tags rfl) rfl (Cv.owM (T := [63, 69]) (te := [70]) (T' := [63, 69]) (te' := [70]) rfl rfl)) ?_
              obtain ⟨x56, hx56, hm⟩ := bind_some hm
              obtain ⟨x57, hx57, hm⟩ := bind_some hm
              obtain ⟨x58, hx58, hm⟩ := bind_some hm
              refine CWalk.drawM [[], [0], [0, 1], [0, 1, 2], [], [], [5], [], [5, 6, 7], [5, 6, 7, 8], [5, 6, 7, 8, 9], [0, 1, 2, 3, 4, 5, 6, 7, 8, 9, 10], [0, 1, 2, 3, 4, 5, 6, 7, 8, 9, 10, 11]] [[.fact 109 (.isv 57)], [.fact 110 (.isv 57)], [.fact 111 (.pto 57 2)], [.fact 112 (.isv 69)], [.fact 113 (.rep [] x53.1)], [.fact 114 (.pto 49 2)], [.fact 115 (.rep [0] x19.Deal.Blocks)], [.fact 116 (.rep [] (s48 : Int))], [.fact 117 (.ptr [0] (x56 : List UInt8))], [.fact 118 (.rep [0] (x56 : List UInt8))], [.fact 119 (.ow [70] [] 5 (x57 : List UInt8))], [.fact 120 (.pto 69 (x58 * Rp.n (List UInt8)))], [.fact 100069 (.own 69 [70] 37 ((j55).set x58 x57 : List (List UInt8))), .kill 69]] mixed (by kernel_rfl) (ao (so (Spec.move (Hs rfl))) (ao (so (Spec.nilCheckI (Hs rfl) rfl)) (ao (so (Spec.fieldAddrO fd39_2 (Has.cv (Hs rfl) (Cv.isvP rfl)))) (ao (so (Spec.loadF (i := 2) ty36 rfl (Hs rfl) rfl (HasG.s rfl))) (ao (so (Spec.move (Hs rfl))) (ao (so (Spec.fieldAddrO fd39_2 (Has.cv (Hs rfl) (Cv.isvP rfl)))) (ao (so (Spec.loadF (i := 2) ty36 rfl (Hs rfl) rfl (HasG.s rfl))) (ao (so (Spec.move (Hs rfl))) (ao (so (Spec.indexAddr hx56 sl36 (Hs rfl) (Hs rfl))) (ao (so (Spec.load ty37 (Hs rfl))) (ao (so (Spec.callE [0] 70 rfl en62 (bytes_Clone_c x56 hx57) (HasAll.cons (Has.m (Hs rfl) rfl) HasAll.nil))) (ao (so (Spec.idxOwn hx58 ow36 (Hs rfl) rfl (Hs rfl))) (ao (StepG.stE (Step.storeOwn (te' := [70]) rfl (bnd_lt hx58 rfl) ty37 (Hs rfl) rfl (Has.cv (Hs rfl) (Cv.trans Cv.owSl (Cv.slRep (T' := [70]) rfl rfl))) (ElKeep.tags rfl rfl) (ElKeep.tags rfl rfl))) AllM.nil))))))))))))) ?_
              refine Leaf.blockN ?_
              refine Lt ?_
              refine Cr ?_
              refine wo (Spec.addI (Hs rfl) Has.int) ?_
              refine mv ?_
              refine Wn ?_
              exact Leaf.next hm (sn (sn (su (st (st (sc (sc (sc (sc (Sub.cons (Has.cst (HasC.cv (HasC.s (s := 904008) rfl) (Cv.m rfl))) (Sub.cons (Has.cst (HasC.cv (HasC.s (s := 904009) rfl) Cv.fl)) (Sub.cons (Has.cst (HasC.cv (HasC.s (s := 904010) rfl) Cv.fl)) (sc (sc (sc (sc (sf (sm (sm (sm (sf (Sub.cons (Has.at (HasG.cv (HasG.s rfl) (Cv.owF (T := [62]) (te := []) rfl))) (Sub.cons (Has.at (HasG.cv (HasG.s rfl) (Cv.trans (Cv.isvOw rfl) (Cv.owM (T := [69]) (te := [70]) rfl rfl)))) (sg (Sub.cons (Has.at (HasG.cv (HasG.s rfl) (Cv.owM (T := [74]) (te := [72, 73]) rfl rfl))) (sg (sf (sf (sf (sf (sf (sf (sf (sf (sf (sf (sf (sf (sf (sf (sf (sf (sm (sm (sm (sg (Sub.cons (Has.at (HasG.cv (HasG.s rfl) (Cv.owF (T := [56, 65]) (te := []) rfl))) (sn (sn (sn (sn (sn (sn (sn (sn (Sub.cons (Has.mphM (Hs rfl) rfl) Sub.nil))))))))))))))))))))))))))))))))))))))))))))))))))))))))
             ·refine Cs ?_
              refine Cr ?_
              refine mv ?_
              refine wo (Spec.not (Hs rfl)) ?_
              refine Wn ?_
              refine Lt ?_
              refine CWalk.cond rfl (fun hb => ?_) (fun hb => ?_)
              ·have hm := cond_t hb hm
               obtain ⟨x59, hx59, hm⟩ := bind_some hm
               obtain ⟨x60, hx60, hm⟩ := bind_some hm
               refine CWalk.drawM [[], [], [], [2], [2, 3], [2, 3, 4], [], [], [7], [2, 3, 4, 5, 6, 7, 8], [], [10], [10, 11], [10, 11, 12], [], [], [2, 3, 4, 5, 6, 7, 8, 9, 10, 11, 12, 13, 14, 15], [0, 2, 3, 4, 5, 6, 7, 8, 9, 10, 11, 12, 13, 14, 15, 16], [0, 2, 3, 4, 5, 6, 7, 8, 9, 10, 11, 12, 13, 14, 15, 16, 17], [0, 2, 3, 4, 5, 6, 7, 8, 9, 10, 11, 12, 13, 14, 15, 16, 17, 18], [0, 1, 2, 3, 4, 5, 6, 7, 8, 9, 10, 11, 12, 13, 14, 15, 16, 17, 18, 19], [0, 1, 2, 3, 4, 5, 6, 7, 8, 9, 10, 11, 12, 13, 14, 15, 16, 17, 18, 19, 20], [0, 1, 2, 3, 4, 5, 6, 7, 8, 9, 10, 11, 12, 13, 14, 15, 16, 17, 18, 19, 20, 21]] [[.fact 88 (.isv 57)], [.fact 89 (.isv 57)], [.fact 90 (.isv 57)], [.fact 91 (.isv 57)], [.fact 92 (.pto 57 1)], [.fact 93 (.ow [62] [] 3 (s49 : List Int))], [.fact 94 (.rep [] x53.1)], [.fact 95 (.rep [] (x52 : Int))], [.fact 96 (.ow [67] [] 3 ([x52] : List Int))], [.fact 97 (.ow [62] [] 3 (x59 : List Int)), .kill 62], [.fact 98 (.isv 57)], [.fact 99 (.isv 57)], [.fact 100 (.pto 57 2)], [.fact 101 (.ow [63, 69] [70] 37 (s50 : List (List UInt8)))], [.fact 102 (.rep [] x53.1)], [.fact 103 (.ow [68] [] 37 ([([] : List UInt8)] : List (List UInt8)))], [.fact 104 (.ow [63, 69] [70] 37 (x60 : List (List UInt8))), .kill 63, .kill 69], [.fact 105 (.isv 57)], [.fact 106 (.pto 57 1)], [.fact 100059 (.at 59 (.ow [62] [] 3 (x59 : List Int))), .fact 100057 (.obj 57 [(false, 1), (false, 1), (false, 1), (false, 1)]), .kill 57, .killId 59], [.fact 107 (.isv 57)], [.fact 108 (.pto 57 2)], [.fact 100060 (.at 60 (.ow [63, 69] [70] 37 (x60 : List (List UInt8)))), .fact 100057 (.obj 57 [(false, 1), (false, 1), (false, 1), (false, 1)]), .kill 57, .killId 60]] mixed (by kernel_rfl) (ao (so (Spec.move (Hs rfl))) (ao (so (Spec.move (Hs rfl))) (ao (so (Spec.move (Hs rfl))) (ao (so (Spec.nilCheckI (Hs rfl) rfl)) (ao (so (Spec.fieldAddrO fd39_1 (Has.cv (Hs rfl) (Cv.isvP rfl)))) (ao (so (Spec.loadF (i := 1) ty35 rfl (Hs rfl) rfl (HasG.s rfl))) (ao (so (Spec.move (Hs rfl))) (ao (so (Spec.move (Hs rfl))) (ao (so (Spec.litOw (xs := [.tmp 95]) (T := []) 67 rfl ow35 rfl rfl rfl rfl (HasEach.cons (Has.fl (Hs rfl)) HasEach.nil))) (ao (StepG.stE (Step.insertAt (T := [62]) (te' := []) hx59 rfl rfl rfl rfl en60 iat60_3 (Hs rfl) (Hs rfl) (Hs rfl) rfl ElKeeps.flat ElKeeps.flat)) (ao (so (Spec.move (Hs rfl))) (ao (so (Spec.nilCheckI (Hs rfl) rfl)) (ao (so (Spec.fieldAddrO fd39_2 (Has.cv (Hs rfl) (Cv.isvP rfl)))) (ao (so (Spec.loadF (i := 2) ty36 rfl (Hs rfl) rfl (HasG.s rfl))) (ao (so (Spec.move (Hs rfl))) (ao (so (Spec.litOw (xs := [.const (.slice none 0 0)]) (T := []) 68 rfl ow36 rfl rfl rfl rfl (HasEach.cons (Has.m (Has.nil UInt8) rfl) HasEach.nil))) (ao (StepG.stE (Step.insertAt (T := [63, 69]) (te' := [70]) hx60 rfl rfl rfl rfl en61 iat61_37 (Hs rfl) (Hs rfl) (Hs rfl) rfl (ElKeeps.tags rfl rfl) (ElKeeps.tags rfl rfl))) (ao (so (Spec.nilCheckI (Hs rfl) rfl)) (ao (so (Spec.fieldAddrO fd39_1 (Has.cv (Hs rfl) (Cv.isvP rfl)))) (ao (StepG.stE (Step.storeF (i := 1) (f := Fact.ow [62] [] 3 (x59 : List Int)) rfl ty35 rfl (Hs rfl) rfl (Has.cv (Hs rfl) (Cv.trans Cv.owSl (Cv.slRep (T' := [62]) rfl rfl))) (Hs rfl) rfl)) (ao (so (Spec.nilCheckI (Hs rfl) rfl)) (ao (so (Spec.fieldAddrO fd39_2 (Has.cv (Hs rfl) (Cv.isvP rfl)))) (ao (StepG.stE (Step.storeF (i := 2) (f := Fact.ow [63, 69] [70] 37 (x60 : List (List UInt8))) rfl ty36 rfl (Hs rfl) rfl (Has.cv (Hs rfl) (Cv.trans Cv.owSl (Cv.slRep (T' := [63, 69, 70]) rfl rfl))) (Hs rfl) rfl)) AllM.nil))))))))))))))))))))))) ?_
               exact Leaf.join (x59, x60) hm (sn (sn (st (st (su (st (st (sc (sc (sc (sc (Sub.cons (Has.cst (HasC.cv (HasC.s (s := 904008) rfl) (Cv.m rfl))) (Sub.cons (Has.cst (HasC.cv (HasC.s (s := 904009) rfl) Cv.fl)) (Sub.cons (Has.cst (HasC.cv (HasC.s (s := 904010) rfl) Cv.fl)) (sc (sc (sc (sc (sf (sm (sm (sm (sf (Sub.cons (Has.at (HasG.cv (HasG.s rfl) (Cv.owF (T := [62]) (te := []) rfl))) (Sub.cons (Has.at (HasG.cv (HasG.s rfl) (Cv.owM (T := [63, 69]) (te := [70]) rfl rfl))) (sg (Sub.cons (Has.at (HasG.cv (HasG.s rfl) (Cv.owM (T := [74]) (te := [72, 73]) rfl rfl))) (sg (sf (sf (sf (sf (sf (sf (sf (sf (sf (sf (sf (sf (sf (sf (sf (sf (sm (sm (sm (sg (Sub.cons (Has.at (HasG.cv (HasG.s rfl) (Cv.owF (T := [56, 65]) (te := []) rfl))) (sn (sn (sn (sn (sn (sn (sn (sn (Sub.cons (Has.mphM (Hs rfl) rfl) Sub.nil))))))))))))))))))))))))))))))))))))))))))))))))))))))))))
              ·have hm := cond_f hb hm
               refine CWalk.skip ?_
               exact Leaf.join (s49, s50) hm (sn (sn (st (st (su (st (st (sc (sc (sc (sc (Sub.cons (Has.cst (HasC.cv (HasC.s (s := 904008) rfl) (Cv.m rfl))) (Sub.cons (Has.cst (HasC.cv (HasC.s (s := 904009) rfl) Cv.fl)) (Sub.cons (Has.cst (HasC.cv (HasC.s (s := 904010) rfl) Cv.fl)) (sc (sc (sc (sc (sf (sm (sm (sm (sf (Sub.cons (Has.at (HasG.cv (HasG.s rfl) (Cv.owF (T := [62]) (te := []) rfl))) (Sub.cons (Has.at (HasG.cv (HasG.s rfl) (Cv.owM (T := [63, 69]) (te := [70]) rfl rfl))) (sg (Sub.cons (Has.at (HasG.cv (HasG.s rfl) (Cv.owM (T := [74]) (te := [72, 73]) rfl rfl))) (sg (sf (sf (sf (sf (sf (sf (sf (sf (sf (sf (sf (sf (sf (sf (sf (sf (sm (sm (sm (sg (Sub.cons (Has.at (HasG.cv (HasG.s rfl) (Cv.owF (T := [56, 65]) (te := []) rfl))) (sn (sn (sn (sn (sn (sn (sn (sn (Sub.cons (Has.mphM (Hs rfl) rfl) Sub.nil))))))))))))))))))))))))))))))))))))))))))))))))))))))))))
            ·have hm := cond_f hb hm
             refine CWalk.exit ?_
             refine Leaf.thenE ?_
             exact Leaf.brk hm (fun h => nomatch h) rfl (sc (sc (sc (sc (Sub.cons (Has.cst (HasC.cv (HasC.s (s := 904008) rfl) (Cv.m rfl))) (Sub.cons (Has.cst (HasC.cv (HasC.s (s := 904009) rfl) Cv.fl)) (Sub.cons (Has.cst (HasC.cv (HasC.s (s := 904010) rfl) Cv.fl)) (sc (sc (sc (sc (Sub.cons (Has.at (HasG.cv (HasG.s rfl) (Cv.owM (T := [74]) (te := [72, 73]) rfl rfl))) (sg (sf (sf (sf (sf (sf (sf (sf (sf (sf (sf (sf (sf (sf (sf (sf (sf (sm (sm (sm (sg (Sub.cons (Has.at (HasG.cv (HasG.s rfl) (Cv.owF (T := [56, 65]) (te := []) rfl))) (sf (Sub.cons (Has.at (HasG.cv (HasG.s rfl) (Cv.owF (T := [62]) (te := []) rfl))) (Sub.cons (Has.at (HasG.cv (HasG.s rfl) (Cv.owM (T := [63, 69]) (te := [70]) rfl rfl))) (sg (sn (sn (sn (sn (sn (sn (Sub.cons (Has.mphM (Hs rfl) rfl) (sn Sub.nil))))))))))))))))))))))))))))))))))))))))))))))
           ·intro _
            refine Leaf.blockE ?_
            refine Leaf.ad (Ad.unfocusD (q := 29) (u := 57) (te := [70]) (T1 := [62]) (T2 := [63, 69]) (t1 := []) (te' := [70]) (l1 := b61.1) (l2 := b61.2) (teO := [70]) rfl rfl rfl rfl rfl rfl rfl (HasG.s rfl) (HasG.s rfl) (HasG.s rfl) (HasG.s rfl)) ?_
            exact Leaf.inN (Leaf.in0 (f0 := Fact.top) (j46, (putK j47 x19.Deal.Stripe (x19.Deal.Stripe, b61.1, b61.2))) hm rfl rfl (fun _ _ => trivial) (ls 906002 (ls 906003 (ls 906004 (ls 906005 (Low.res (lc (lc (lc (lc (Low.keepC (HasC.cv (HasC.s (s := 904008) rfl) (Cv.m rfl)) (Low.keepC (HasC.cv (HasC.s (s := 904009) rfl) Cv.fl) (Low.keepC (HasC.cv (HasC.s (s := 904010) rfl) Cv.fl) (lf (lf (lf (lf (lf (lf (lf (lf (lf (lf (lf (lf (lf (Low.keepG (HasG.cv (HasG.s rfl) (Cv.owM (T := [74]) (te := [72, 73]) rfl rfl)) (lf (lf (lf (lm (lm (lm (lg (lg (Low.keepG (HasG.cv (HasG.s rfl) (Cv.owF (T := [56, 65]) (te := []) rfl)) (lo (lo (lo (lo (lo (lo (Low.keepR (fun _ _ _ _ h => h) (Has.mpdM (Hs rfl) rfl) Low.nil)))))))))))))))))))))))))))))))))))))))))))
          ·refine Cs ?_
           refine Cr ?_
           refine mv ?_
           refine wo (Spec.eqlLk Try.underlying82 (Hs rfl) rfl) ?_
           refine Wn ?_
           refine Lt ?_
           refine CWalk.cond rfl (fun hb => ?_) (fun hb => ?_)
           ·have hm := cond_t hb hm
            refine Cs ?_
            refine Cr ?_
            refine wo (Spec.fieldAddrO fd39_0 (Has.cv (Hs rfl) (Cv.isvP rfl))) ?_
            refine wo (Spec.loadF (i := 0) ty3 rfl (Hs rfl) rfl (HasG.s rfl)) ?_
            refine wo (Spec.build (us := [(0, .tmp 46)]) (ls' := [(false, 1, Fact.rep [] x19.Deal.Stripe), (false, 1, Fact.nilv), (false, 1, Fact.nilv), (false, 1, Fact.nilv)]) bd39 rfl (BP.cons rfl rfl (Hs rfl) (Hs rfl) BP.nil)) ?_
            refine ws (Step.boxObj (ls := [(false, 1, Fact.rep [] x19.Deal.Stripe), (false, 1, Fact.nilv), (false, 1, Fact.nilv), (false, 1, Fact.nilv)]) 57 rfl rfl rfl rfl (HasL.flds (Hs rfl))) ?_
            refine wo (Spec.assign (Hs rfl)) ?_
            refine Wn ?_
            refine Lt ?_
            obtain ⟨x62, hx62, hm⟩ := bind_some hm
            obtain ⟨x63, hx63, hm⟩ := bind_some hm
            refine CWalk.drawM [[], [0], [0, 1], [0, 1, 2], [], [4], [], [], [], [8], [8, 9], [8, 9, 10], [], [12], [12, 13], [8, 9, 10, 11, 12, 13, 14], [0, 1, 2, 3, 4, 5, 8, 9, 10, 11, 12, 13, 14, 15], [0, 1, 2, 3, 4, 5, 8, 9, 10, 11, 12, 13, 14, 15, 16], [0, 1, 2, 3, 4, 5, 7, 8, 9, 10, 11, 12, 13, 14, 15, 16, 17], [0, 1, 2, 3, 4, 5, 6, 7, 8, 9, 10, 11, 12, 13, 14, 15, 16, 17, 18], [0, 1, 2, 3, 4, 5, 6, 7, 8, 9, 10, 11, 12, 13, 14, 15, 16, 17, 18, 19], [0, 1, 2, 3, 4, 5, 6, 7, 8, 9, 10, 11, 12, 13, 14, 15, 16, 17, 18, 19, 20]] [[.fact 49 (.isv 30)], [.fact 50 (.isv 30)], [.fact 51 (.pto 30 0)], [.fact 52 (.isv 29)], [.fact 53 (.pto 49 0)], [.fact 54 (.rep [] x19.Deal.Stripe)], [.fact 55 (.isv 30)], [.fact 56 (.isv 57)], [.fact 57 (.isv 30)], [.fact 58 (.isv 30)], [.fact 59 (.pto 30 1)], [.fact 60 (.ow [56, 65] [] 3 (s16 : List Int))], [.fact 61 (.pto 49 0)], [.fact 62 (.rep [] x19.Deal.Stripe)], [.fact 63 (.ow [64] [] 3 ([x19.Deal.Stripe] : List Int))], [.fact 64 (.ow [56, 65] [] 3 (x62 : List Int)), .kill 56, .kill 65], [.fact 65 (.tup2 (Fact.top) (Fact.stp 29)), .fact 100029 (.mpe 29 [70] 3 37 (s17 : List DRow) x19.Deal.Stripe), .kill 29], [.fact 66 (.stp 29)], [.fact 100029 (.mph 29 [70] 3 37 (x63 : List DRow) x19.Deal.Stripe 57), .kill 29], [.fact 67 (.isv 30)], [.fact 68 (.pto 30 1)], [.fact 100032 (.at 32 (.ow [56, 65] [] 3 (x62 : List Int))), .fact 100030 (.obj 30 [(false, 1), (false, 1)]), .kill 30, .killId 32]] mixed (by kernel_rfl) (ao (so (Spec.move (Hs rfl))) (ao (so (Spec.nilCheckI (Hs rfl) rfl)) (ao (so (Spec.fieldAddrO fd78_0 (Has.cv (Hs rfl) (Cv.isvP rfl)))) (ao (so (Spec.loadF (i := 0) ty76 rfl (Hs rfl) rfl (HasG.s rfl))) (ao (so (Spec.fieldAddrO fd39_0 (Has.cv (Hs rfl) (Cv.isvP rfl)))) (ao (so (Spec.loadF (i := 0) ty3 rfl (Hs rfl) rfl (HasG.s rfl))) (ao (so (Spec.move (Hs rfl))) (ao (so (Spec.move (Hs rfl))) (ao (so (Spec.move (Hs rfl))) (ao (so (Spec.nilCheckI (Hs rfl) rfl)) (ao (so (Spec.fieldAddrO fd78_1 (Has.cv (Hs rfl) (Cv.isvP rfl)))) (ao (so (Spec.loadF (i := 1) ty35 rfl (Hs rfl) rfl (HasG.s rfl))) (ao (so (Spec.fieldAddrO fd39_0 (Has.cv (Hs rfl) (Cv.isvP rfl)))) (ao (so (Spec.loadF (i := 0) ty3 rfl (Hs rfl) rfl (HasG.s rfl))) (ao (so (Spec.litOw (xs := [.tmp 62]) (T := []) 64 rfl ow35 rfl rfl rfl rfl (HasEach.cons (Has.fl (Hs rfl)) HasEach.nil))) (ao (StepG.stE (Step.appendOw (T := [56, 65]) (te' := []) hx62 rfl rfl rfl ow35 (Hs rfl) (Has.cv (Hs rfl) (Cv.trans Cv.owSl (Cv.slRep (T' := [64]) rfl rfl))) ElKeeps.flat ElKeeps.flat)) (ao (StepG.stE (Step.mapEntryD hx63 mp76 rfl rfl rfl (Hs rfl) rfl (Hs rfl))) (ao (so (Spec.ext1 (Hs rfl))) (ao (StepG.stE (Step.entryStoreD (s := x19.Deal.Stripe) hx63 rfl rfl (Hs rfl) rfl (Hs rfl) (Hs rfl))) (ao (so (Spec.nilCheckI (Hs rfl) rfl)) (ao (so (Spec.fieldAddrO fd78_1 (Has.cv (Hs rfl) (Cv.isvP rfl)))) (ao (StepG.stE (Step.storeF (i := 1) (f := Fact.ow [56, 65] [] 3 (x62 : List Int)) rfl ty35 rfl (Hs rfl) rfl (Has.cv (Hs rfl) (Cv.trans Cv.owSl (Cv.slRep (T' := [56, 65]) rfl rfl))) (Hs rfl) rfl)) AllM.nil)))))))))))))))))))))) ?_
            exact Leaf.join (([] : List Int), ([] : List (List UInt8)), x62, x63) hm (sn (sn (sc (sc (sc (sc (Sub.cons (Has.cst (HasC.cv (HasC.s (s := 904008) rfl) (Cv.m rfl))) (Sub.cons (Has.cst (HasC.cv (HasC.s (s := 904009) rfl) Cv.fl)) (Sub.cons (Has.cst (HasC.cv (HasC.s (s := 904010) rfl) Cv.fl)) (sc (sc (sc (sc (sf (sm (sm (sm (sf (Sub.cons (Has.at (HasG.cv (HasG.s rfl) (Cv.trans Cv.nilOw (Cv.owF (T := []) (te := []) rfl)))) (Sub.cons (Has.at (HasG.cv (HasG.s rfl) (Cv.trans Cv.nilOw (Cv.owM (T := []) (te := []) rfl rfl)))) (sg (Sub.cons (Has.at (HasG.cv (HasG.s rfl) (Cv.owM (T := [74]) (te := [72, 73]) rfl rfl))) (sg (sf (sf (sf (sf (sf (sf (sf (sf (sf (sf (sf (sf (sf (sf (sf (sf (sm (sm (sm (sg (Sub.cons (Has.at (HasG.cv (HasG.s rfl) (Cv.owF (T := [56, 65]) (te := []) rfl))) (sn (sn (sn (sn (sn (sn (sn (sn (Sub.cons (Has.mphM (Hs rfl) rfl) Sub.nil)))))))))))))))))))))))))))))))))))))))))))))))))))))
           ·have hm := cond_f hb hm
            refine CWalk.ad (Ad.focusD (sl := 4) (q := 29) 57 rfl rfl rfl rfl rfl rfl (nn_t hb)) ?_
            refine CWalk.skip ?_
            exact Leaf.join ((getK s17 x19.Deal.Stripe).2.1, (getK s17 x19.Deal.Stripe).2.2, s16, s17) hm (sn (sn (sc (sc (sc (sc (Sub.cons (Has.cst (HasC.cv (HasC.s (s := 904008) rfl) (Cv.m rfl))) (Sub.cons (Has.cst (HasC.cv (HasC.s (s := 904009) rfl) Cv.fl)) (Sub.cons (Has.cst (HasC.cv (HasC.s (s := 904010) rfl) Cv.fl)) (sc (sc (sc (sc (sf (sm (sm (sm (sf (Sub.cons (Has.at (HasG.cv (HasG.s rfl) (Cv.owF (T := [62]) (te := []) rfl))) (Sub.cons (Has.at (HasG.cv (HasG.s rfl) (Cv.owM (T := [63]) (te := [70]) rfl rfl))) (sg (Sub.cons (Has.at (HasG.cv (HasG.s rfl) (Cv.owM (T := [74]) (te := [72, 73]) rfl rfl))) (sg (sf (sf (sf (sf (sf (sf (sf (sf (sf (sf (sf (sf (sf (sf (sf (sf (sm (sm (sm (sg (Sub.cons (Has.at (HasG.cv (HasG.s rfl) (Cv.owF (T := [56, 65]) (te := []) rfl))) (sn (sn (sn (sn (sn (sn (sn (sn (Sub.cons (Has.mphM (Hs rfl) rfl) Sub.nil)))))))))))))))))))))))))))))))))))))))))))))))))))))
        ·rintro ⟨j24, j25⟩ hm
         replace hm : redo_Acts_J5 a0 a1 s14 s15 x19 j24 j25 = some c18 := hm
         unfold redo_Acts_J5 at hm
         show Walk _ _ _ [.fact 2 (.isv 10), .fact 3 (.isv 17), .fact 4 (.isv 25), .fact 5 (.isv 42), .fact 13 (.top), .fact 902006 (.cst (u1 6) (Fact.isv 25)), .fact 902007 (.cst (u1 7) (Fact.nilv)), .fact 902011 (.cst (u1 11) (Fact.isv 33)), .fact 904001 (.cst (u2 1) (Fact.fnv 32 [] [Fact.isv 33, Fact.isv 10, Fact.isv 17, Fact.isv 25])), .fact 904008 (.cst (u2 8) (Fact.rep [0] (a2 : List Found))), .fact 904009 (.cst (u2 9) (Fact.rep [] (((a2).length : Int) : Int))), .fact 904010 (.cst (u2 10) (Fact.rep [] (s14 : Int))), .fact 100011 (.at 11 (.rep [] a0.Id)), .fact 100012 (.at 12 (.rep [] a0.Members)), .fact 100013 (.at 13 (.rep [] a0.Chunk)), .fact 100014 (.at 14 (.rep [] a0.Rows)), .fact 100015 (.at 15 (.rep [] a0.Log)), .fact 100016 (.at 16 (.rep [] a0.Heads)), .fact 100018 (.at 18 (.rep [] a1.Events)), .fact 100019 (.at 19 (.rep [] a1.Lost)), .fact 100020 (.at 20 (.rep [] a1.Spare)), .fact 100021 (.at 21 (.rep [] a1.Pos)), .fact 100022 (.at 22 (.rep [] a1.Done)), .fact 100023 (.at 23 (.rep [] a1.NoLog)), .fact 100024 (.at 24 (.rep [] a1.Broken)), .fact 100026 (.at 26 (.ow [74] [72, 73] 45 (s15 : List Act45))), .fact 100043 (.at 43 (.rep [] x19.Age)), .fact 100044 (.at 44 (.rep [] x19.Seq)), .fact 100045 (.at 45 (.rep [] x19.Deal.Stripe)), .fact 100046 (.at 46 (.rep [0] x19.Deal.Slots)), .fact 100047 (.at 47 (.rep [0] x19.Deal.Blocks)), .fact 100048 (.at 48 (.rep [0] x19.Deal.Parity)), .fact 100034 (.at 34 (.isv 30)), .fact 100031 (.at 31 (.isv 29)), .fact 100032 (.at 32 (.ow [56, 65] [] 3 (j24 : List Int))), .fact 100010 (.obj 10 [(false, 1), (false, 1), (false, 1), (false, 1), (false, 1), (false, 1)]), .fact 100017 (.obj 17 [(false, 1), (false, 1), (false, 1), (false, 1), (false, 1), (false, 1), (false, 1)]), .fact 100025 (.obj 25 [(false, 1)]), .fact 100042 (.obj 42 [(false, 1), (false, 1), (false, 1), (false, 1), (false, 1), (false, 1)]), .fact 100033 (.obj 33 [(false, 1)]), .fact 100030 (.obj 30 [(false, 1), (false, 1)]), .fact 100029 (.mpd 29 [70] 3 37 (j25 : List DRow))] _
         refine Wn ?_
         refine Lt ?_
         refine Cs ?_
         refine Cs ?_
         refine Cr ?_
         refine wo (Spec.fieldAddrO fd41_2 (Has.cv (Hs rfl) (Cv.isvP rfl))) ?_
         refine wo (Spec.fieldAddrO fd39_3 (Hs rfl)) ?_
         refine wo (Spec.loadF (i := 5) ty37 rfl (Hs rfl) rfl (HasG.s rfl)) ?_
         refine wo (Spec.len (Hs rfl) Try.underlying37) ?_
         refine wo (Spec.eqlI (Hs rfl) Has.int) ?_
         refine Wn ?_
         refine Lt ?_
         refine CWalk.cond rfl (fun hb => ?_) (fun hb => ?_)
         ·have hm := cond_t hb hm
          refine Cs ?_
          refine Cr ?_
          refine wo (Spec.assign Has.int) ?_
          refine Wn ?_
          refine Lt ?_
          refine CWalk.ret ?_
          refine Leaf.thenR ?_
          exact Leaf.in1 ((0 : Int), s15, j24, j25) hm rfl rfl (HasR.cv (HasR.tmp (Hs rfl)) Cv.fl) (ls 904001 (Low.slot rfl (HasC.cv (HasC.s (s := 904008) rfl) (Cv.m rfl)) (Low.slot rfl (HasC.cv (HasC.s (s := 904009) rfl) Cv.fl) (Low.slot rfl (HasC.cv (HasC.s (s := 904010) rfl) Cv.fl) (Low.res (lc (lc (lc (lf (lf (lf (lf (lf (lf (lf (lf (lf (lf (lf (lf (lf (Low.keepG (HasG.cv (HasG.s rfl) (Cv.owM (T := [74]) (te := [72, 73]) rfl rfl)) (lg (lg (Low.keepG (HasG.cv (HasG.s rfl) (Cv.owF (T := [56, 65]) (te := []) rfl)) (lo (lo (lo (lo (lo (Low.keepR (fun _ _ _ _ h => h) (Has.mpdM (Hs rfl) rfl) Low.nil)))))))))))))))))))))))))))))))
         ·have hm := cond_f hb hm
          refine CWalk.skip ?_
          refine Lt ?_
          refine Cs ?_
          refine Cr ?_
          refine wo (Spec.loadObj (ls := [(false, 1, Fact.rep [] a0.Id), (false, 1, Fact.rep [] a0.Members), (false, 1, Fact.rep [] a0.Chunk), (false, 1, Fact.rep [] a0.Rows), (false, 1, Fact.rep [] a0.Log), (false, 1, Fact.rep [] a0.Heads)]) ty30 rfl rfl (Hs rfl) rfl (Gz rfl (Gz rfl (Gz rfl (Gz rfl (Gz rfl (Gz rfl HasGs.nil))))))) ?_
          refine wo (Spec.loadObj (ls := [(false, 1, Fact.rep [] a1.Events), (false, 1, Fact.rep [] a1.Lost), (false, 1, Fact.rep [] a1.Spare), (false, 1, Fact.rep [] a1.Pos), (false, 1, Fact.rep [] a1.Done), (false, 1, Fact.rep [] a1.NoLog), (false, 1, Fact.rep [] a1.Broken)]) ty33 rfl rfl (Hs rfl) rfl (Gz rfl (Gz rfl (Gz rfl (Gz rfl (Gz rfl (Gz rfl (Gz rfl HasGs.nil)))))))) ?_
          refine wo (Spec.fieldAddrO fd41_2 (Has.cv (Hs rfl) (Cv.isvP rfl))) ?_
          refine wo (Spec.fieldAddrO fd39_0 (Hs rfl)) ?_
          refine wo (Spec.loadF (i := 2) ty3 rfl (Hs rfl) rfl (HasG.s rfl)) ?_
          obtain ⟨x26, hx26, hm⟩ := bind_some hm
          refine wo (f := Fact.tup2 (Fact.rep [] x26.1) (Fact.rep [] x26.2)) (Spec.callE [] 71 rfl en19 (loss_Missing_c a0 a1 x19.Deal.Stripe hx26) (HasAll.cons (Has.fl (Has.cv (Hs rfl) (Cv.trans (Cv.flds (Vf (Vf (Vf (Vf (Vf (Vf CvL.nil))))))) (Cv.close (T := []) (chConfig a0))))) (HasAll.cons (Has.fl (Has.cv (Hs rfl) (Cv.trans (Cv.flds (Vf (Vf (Vf (Vf (Vf (Vf (Vf CvL.nil)))))))) (Cv.close (T := []) (chLoss a1))))) (HasAll.cons (Has.fl (Hs rfl)) HasAll.nil)))) ?_
          refine mv ?_
          refine wo (Spec.ext0 (Hs rfl)) ?_
          refine wo (Spec.ext1 (Hs rfl)) ?_
          refine wo (Spec.assign (Hs rfl)) ?_
          refine wo (Spec.assign (Hs rfl)) ?_
          refine Wn ?_
          refine Lt ?_
          refine Cs ?_
          refine Cs ?_
          refine Cr ?_
          refine mv ?_
          refine wo (Spec.neqI (Hs rfl) Has.int) ?_
          refine Wn ?_
          refine Lt ?_
          refine CWalk.cond rfl (fun hb => ?_) (fun hb => ?_)
          ·have hm := cond_t hb hm
           refine Cs ?_
           refine Cr ?_
           refine mv ?_
           refine wo (Spec.assign (Hs rfl)) ?_
           refine Wn ?_
           refine Lt ?_
           refine CWalk.ret ?_
           refine Leaf.thenR ?_
           exact Leaf.in1 (x26.2, s15, j24, j25) hm rfl rfl (HasR.cv (HasR.tmp (Hs rfl)) Cv.fl) (ls 904001 (Low.slot rfl (HasC.cv (HasC.s (s := 904008) rfl) (Cv.m rfl)) (Low.slot rfl (HasC.cv (HasC.s (s := 904009) rfl) Cv.fl) (Low.slot rfl (HasC.cv (HasC.s (s := 904010) rfl) Cv.fl) (Low.res (lc (lc (lc (lf (lf (lf (lf (lf (lf (lf (lf (lf (lf (lf (lf (lf (Low.keepG (HasG.cv (HasG.s rfl) (Cv.owM (T := [74]) (te := [72, 73]) rfl rfl)) (lg (lg (Low.keepG (HasG.cv (HasG.s rfl) (Cv.owF (T := [56, 65]) (te := []) rfl)) (lo (lo (lo (lo (lo (Low.keepR (fun _ _ _ _ h => h) (Has.mpdM (Hs rfl) rfl) Low.nil)))))))))))))))))))))))))))))))
          ·have hm := cond_f hb hm
           refine CWalk.skip ?_
           refine Lt ?_
           refine Cs ?_
           refine Cr ?_
           refine wo (Spec.loadObj (ls := [(false, 1, Fact.rep [] a0.Id), (false, 1, Fact.rep [] a0.Members), (false, 1, Fact.rep [] a0.Chunk), (false, 1, Fact.rep [] a0.Rows), (false, 1, Fact.rep [] a0.Log), (false, 1, Fact.rep [] a0.Heads)]) ty30 rfl rfl (Hs rfl) rfl (Gz rfl (Gz rfl (Gz rfl (Gz rfl (Gz rfl (Gz rfl HasGs.nil))))))) ?_
           refine mv ?_
           refine wo (Spec.fieldAddrO fd41_2 (Has.cv (Hs rfl) (Cv.isvP rfl))) ?_
           refine wo (Spec.loadParts (i := 2) (a := [(false, 1), (false, 1)]) (b := []) (ls := [(false, 1, Fact.rep [] x19.Deal.Stripe), (false, 1, Fact.rep [0] x19.Deal.Slots), (false, 1, Fact.rep [0] x19.Deal.Blocks), (false, 1, Fact.rep [0] x19.Deal.Parity)]) ty39 rfl rfl rfl rfl rfl (Hs rfl) rfl (Gz rfl (Gz rfl (Gz rfl (Gz rfl HasGs.nil))))) ?_
           obtain ⟨x27, hx27, hm⟩ := bind_some hm
           refine wo (f := Fact.tup2 (Fact.ow [72] [73] 45 (x27.1 : List Act45)) (Fact.rep [] x27.2)) (Spec.callE [0] 72 rfl en34 (home_Again_c a0 x26.1 x19.Deal hx27) (HasAll.cons (Has.fl (Has.cv (Hs rfl) (Cv.trans (Cv.flds (Vf (Vf (Vf (Vf (Vf (Vf CvL.nil))))))) (Cv.close (T := []) (chConfig a0))))) (HasAll.cons (Has.fl (Hs rfl)) (HasAll.cons (Has.m (Has.cv (Hs rfl) (Cv.trans (Cv.flds (Vf (CvL.cons (Cv.m rfl) (CvL.cons (Cv.m rfl) (CvL.cons (Cv.m rfl) CvL.nil))))) (Cv.close (T := [0]) (chDeal x19.Deal)))) rfl) HasAll.nil)))) ?_
           refine mv ?_
           refine wo (Spec.ext0 (Hs rfl)) ?_
           refine wo (Spec.ext1 (Hs rfl)) ?_
           refine wo (Spec.assign (Hs rfl)) ?_
           refine wo (Spec.assign (Hs rfl)) ?_
           refine Wn ?_
           refine Lt ?_
           refine Cs ?_
           refine Cr ?_
           refine wo (Spec.loadF (i := 0) ty23 rfl (Has.cv (Hs rfl) (Cv.isvP rfl)) rfl (HasG.s rfl)) ?_
           refine mv ?_
           obtain ⟨x28, hx28, hm⟩ := bind_some hm
           refine ws (Step.appendOw (T := [74]) (te' := [72, 73]) hx28 rfl rfl rfl ow23 (Hs rfl) (Has.cv (Hs rfl) (Cv.trans Cv.owSl (Cv.slRep (T' := [72, 73]) rfl rfl))) (ElKeeps.tags rfl rfl) (ElKeeps.tags rfl rfl)) ?_
           refine ws (Step.storeF (i := 0) (f := Fact.ow [74] [72, 73] 45 (x28 : List Act45)) rfl ty23 rfl (Has.cv (Hs rfl) (Cv.isvP rfl)) rfl (Has.cv (Hs rfl) (Cv.trans Cv.owSl (Cv.slRep (T' := [72, 73, 74]) rfl rfl))) (Hs rfl) rfl) ?_
           refine Wn ?_
           refine Lt ?_
           refine Cs ?_
           refine Cr ?_
           refine mv ?_
           refine wo (Spec.assign (Hs rfl)) ?_
           refine Wn ?_
           refine Lt ?_
           refine CWalk.ret ?_
           exact Leaf.in1 (x27.2, x28, j24, j25) hm rfl rfl (HasR.cv (HasR.tmp (Hs rfl)) Cv.fl) (ls 904001 (Low.slot rfl (HasC.cv (HasC.s (s := 904008) rfl) (Cv.m rfl)) (Low.slot rfl (HasC.cv (HasC.s (s := 904009) rfl) Cv.fl) (Low.slot rfl (HasC.cv (HasC.s (s := 904010) rfl) Cv.fl) (Low.res (lc (lc (lc (lf (lf (lf (lf (lf (lf (lf (lf (lf (lf (lf (lf (lf (Low.keepG (HasG.cv (HasG.s rfl) (Cv.owM (T := [74]) (te := [72, 73]) rfl rfl)) (lg (lg (Low.keepG (HasG.cv (HasG.s rfl) (Cv.owF (T := [56, 65]) (te := []) rfl)) (lo (lo (lo (lo (lo (Low.keepR (fun _ _ _ _ h => h) (Has.mpdM (Hs rfl) rfl) Low.nil)))))))))))))))))))))))))))))))
       ·rintro ⟨j20, j21, j22, j23⟩ hm
        replace hm : redo_Acts_J4 s14 j20 j21 j22 j23 = some c18 := hm
        unfold redo_Acts_J4 at hm
        show Walk _ _ _ [.fact 1 (.fnv 32 [] [Fact.isv 33, Fact.isv 10, Fact.isv 17, Fact.isv 25]), .fact 8 (.rep [0] (a2 : List Found)), .fact 9 (.rep [] (((a2).length : Int) : Int)), .fact 10 (.rep [] (s14 : Int)), .fact 16 (.rep [] (j20 : Int)), .fact 902006 (.cst (u1 6) (Fact.isv 25)), .fact 902007 (.cst (u1 7) (Fact.nilv)), .fact 902011 (.cst (u1 11) (Fact.isv 33)), .fact 100011 (.at 11 (.rep [] a0.Id)), .fact 100012 (.at 12 (.rep [] a0.Members)), .fact 100013 (.at 13 (.rep [] a0.Chunk)), .fact 100014 (.at 14 (.rep [] a0.Rows)), .fact 100015 (.at 15 (.rep [] a0.Log)), .fact 100016 (.at 16 (.rep [] a0.Heads)), .fact 100018 (.at 18 (.rep [] a1.Events)), .fact 100019 (.at 19 (.rep [] a1.Lost)), .fact 100020 (.at 20 (.rep [] a1.Spare)), .fact 100021 (.at 21 (.rep [] a1.Pos)), .fact 100022 (.at 22 (.rep [] a1.Done)), .fact 100023 (.at 23 (.rep [] a1.NoLog)), .fact 100024 (.at 24 (.rep [] a1.Broken)), .fact 100026 (.at 26 (.ow [74] [72, 73] 45 (j21 : List Act45))), .fact 100034 (.at 34 (.isv 30)), .fact 100031 (.at 31 (.isv 29)), .fact 100032 (.at 32 (.ow [56, 65] [] 3 (j22 : List Int))), .fact 100010 (.obj 10 [(false, 1), (false, 1), (false, 1), (false, 1), (false, 1), (false, 1)]), .fact 100017 (.obj 17 [(false, 1), (false, 1), (false, 1), (false, 1), (false, 1), (false, 1), (false, 1)]), .fact 100025 (.obj 25 [(false, 1)]), .fact 100033 (.obj 33 [(false, 1)]), .fact 100030 (.obj 30 [(false, 1), (false, 1)]), .fact 100029 (.mpd 29 [70] 3 37 (j23 : List DRow))] _
        refine wo (Spec.assign (Hs rfl)) ?_
        refine Wn ?_
        refine Lt ?_
        refine Cs ?_
        refine Cr ?_
        refine mv ?_
        refine wo (Spec.neqI (Hs rfl) Has.int) ?_
        refine Wn ?_
        refine Lt ?_
        refine CWalk.cond rfl (fun hb => ?_) (fun hb => ?_)
        ·have hm := cond_t hb hm
         refine Cs ?_
         refine Cr ?_
         refine mv ?_
         refine wo (Spec.assign (Hs rfl)) ?_
         refine Wn ?_
         refine Lt ?_
         refine CWalk.ret ?_
         refine Leaf.blockR ?_
         refine Leaf.thenR ?_
         exact Leaf.brk hm (fun h => nomatch h) rfl (st (sc (sc (sc (Sub.cons (Has.at (HasG.cv (HasG.s rfl) (Cv.owM (T := [74]) (te := [72, 73]) rfl rfl))) (sg (sg (Sub.cons (Has.at (HasG.cv (HasG.s rfl) (Cv.owF (T := [56, 65]) (te := []) rfl))) (sn (sn (sn (Sub.cons (Has.mpdM (Hs rfl) rfl) Sub.nil))))))))))))
        ·have hm := cond_f hb hm
         refine CWalk.skip ?_
         refine Leaf.blockN ?_
         refine Lt ?_
         refine Cr ?_
         refine wo (Spec.addI (Hs rfl) Has.int) ?_
         refine mv ?_
         refine Wn ?_
         exact Leaf.next hm (sn (su (st (st (sc (sc (sc (sf (sf (sf (sf (sf (sf (sf (sf (sf (sf (sf (sf (sf (Sub.cons (Has.at (HasG.cv (HasG.s rfl) (Cv.owM (T := [74]) (te := [72, 73]) rfl rfl))) (sg (sg (Sub.cons (Has.at (HasG.cv (HasG.s rfl) (Cv.owF (T := [56, 65]) (te := []) rfl))) (sn (sn (sn (sn (sn (Sub.cons (Has.mpdM (Hs rfl) rfl) Sub.nil))))))))))))))))))))))))))))))
      ·have hm := cond_f hb hm
       refine CWalk.exit ?_
       refine Leaf.thenE ?_
       exact Leaf.brk hm (fun h => nomatch h) rfl (sc (sc (sc (Sub.cons (Has.at (HasG.cv (HasG.s rfl) (Cv.owM (T := [74]) (te := [72, 73]) rfl rfl))) (sg (sg (Sub.cons (Has.at (HasG.cv (HasG.s rfl) (Cv.owF (T := [56, 65]) (te := []) rfl))) (sn (sn (sn (Sub.cons (Has.mpdM (Hs rfl) rfl) Sub.nil)))))))))))
     ·intro _
      rcases b64 with b65 | b66
      ·have hm := selim_l hm
       refine Leaf.blockE ?_
       refine Lt ?_
       refine Cs ?_
       refine Cr ?_
       refine wo (Spec.assign Has.int) ?_
       refine Wn ?_
       refine Lt ?_
       refine CWalk.ret ?_
       exact Leaf.in1 ((0 : Int), b65.1, b65.2.1, b65.2.2) hm rfl rfl (HasR.cv (HasR.tmp (Hs rfl)) Cv.fl) (ls 902006 (ls 902007 (ls 902011 (Low.res (Low.keepG (HasG.cv (HasG.s rfl) (Cv.owM (T := [74]) (te := [72, 73]) rfl rfl)) (lg (lg (Low.keepG (HasG.cv (HasG.s rfl) (Cv.owF (T := [56, 65]) (te := []) rfl)) (lo (lo (lo (Low.keepR (fun _ _ _ _ h => h) (Has.mpdM (Hs rfl) rfl) Low.nil))))))))))))
      ·have hm := selim_r hm
       refine Leaf.blockR ?_
       refine Leaf.thenR ?_
       exact Leaf.in1 (b66.1, b66.2.1, b66.2.2.1, b66.2.2.2) hm rfl rfl (HasR.cv (HasR.tmp (Hs rfl)) Cv.fl) (ls 902006 (ls 902007 (ls 902011 (Low.res (Low.keepG (HasG.cv (HasG.s rfl) (Cv.owM (T := [74]) (te := [72, 73]) rfl rfl)) (lg (lg (Low.keepG (HasG.cv (HasG.s rfl) (Cv.owF (T := [56, 65]) (te := []) rfl)) (lo (lo (lo (Low.keepR (fun _ _ _ _ h => h) (Has.mpdM (Hs rfl) rfl) Low.nil))))))))))))
    ·rintro ⟨j3, j4, j5, j6⟩ hm
     replace hm : redo_Acts_J1 j3 j4 j5 j6 = some r := hm
     unfold redo_Acts_J1 at hm
     show Walk _ _ _ [.fact 6 (.isv 25), .fact 7 (.nilv), .fact 11 (.isv 33), .fact 34 (.rep [] (j3 : Int)), .fact 100026 (.at 26 (.ow [74] [72, 73] 45 (j4 : List Act45))), .fact 100034 (.at 34 (.isv 30)), .fact 100031 (.at 31 (.isv 29)), .fact 100032 (.at 32 (.ow [56, 65] [] 3 (j5 : List Int))), .fact 100025 (.obj 25 [(false, 1)]), .fact 100033 (.obj 33 [(false, 1)]), .fact 100030 (.obj 30 [(false, 1), (false, 1)]), .fact 100029 (.mpd 29 [70] 3 37 (j6 : List DRow))] _
     refine wo (Spec.assign (Hs rfl)) ?_
     refine Wn ?_
     refine Lt ?_
     refine Cs ?_
     refine Cs ?_
     refine Cr ?_
     refine mv ?_
     refine wo (Spec.neqI (Hs rfl) Has.int) ?_
     refine Wn ?_
     refine Lt ?_
     refine CWalk.cond rfl (fun hb => ?_) (fun hb => ?_)
     ·have hm := cond_t hb hm
      refine Cs ?_
      refine Cr ?_
      refine mv ?_
      refine ws (Step.storeF (i := 0) (f := Fact.nilv) rfl ty23 rfl (Has.cv (Hs rfl) (Cv.isvP rfl)) rfl (Has.cv Has.nilv (Cv.nil (T := []))) Has.nilv rfl) ?_
      refine wo (Spec.assign Has.nilv) ?_
      refine wo (Spec.assign (Hs rfl)) ?_
      refine Wn ?_
      refine Lt ?_
      refine CWalk.ret ?_
      refine Leaf.thenR ?_
      obtain rfl := Option.some.inj hm
      exact Leaf.retC3 rfl (HasR.cv (HasR.cell1 ty23 rfl (Hs rfl) rfl (HasG.s rfl)) (Cv.trans Cv.nilOw (Cv.owM (T := []) (te := []) rfl rfl))) (HasR.cv (HasR.tmp (Hs rfl)) (Cv.trans Cv.nilOw (Cv.owM (T := []) (te := []) rfl rfl))) (HasR.cv (HasR.tmp (Hs rfl)) Cv.fl)
     ·have hm := cond_f hb hm
      refine CWalk.skip ?_
      refine Lt ?_
      refine Cs ?_
      refine Cs ?_
      refine Cr ?_
      refine wo (Spec.loadF (i := 0) ty75 rfl (Has.cv (Hs rfl) (Cv.isvP rfl)) rfl (HasG.s rfl)) ?_
      refine wo (Spec.nilCheckI (Hs rfl) rfl) ?_
      refine wo (Spec.fieldAddrO fd78_1 (Has.cv (Hs rfl) (Cv.isvP rfl))) ?_
      refine wo (Spec.loadF (i := 1) ty35 rfl (Hs rfl) rfl (HasG.s rfl)) ?_
      refine wo (Spec.len (Has.cv (Hs rfl) (Cv.trans Cv.owSl (Cv.slRep (T' := [56, 65]) rfl rfl))) Try.underlying35) ?_
      refine wo (Spec.move Has.int) ?_
      refine Wn ?_
      refine Lt ?_
      refine CWalk.block ?_
      obtain ⟨b13, hb13, hm⟩ := bind_some hm
      refine CWalk.loop (fun s : (List Deal) × Int => [.fact 6 (.isv 25), .fact 7 (.ow [76] [29, 70, 75] 39 (s.1 : List Deal)), .fact 11 (.isv 33), .fact 41 (.ow [56, 65] [] 3 (j5 : List Int)), .fact 42 (.rep [] (((j5).length : Int) : Int)), .fact 43 (.rep [] s.2), .fact 100026 (.at 26 (.ow [74] [72, 73] 45 (j4 : List Act45))), .fact 100034 (.at 34 (.isv 30)), .fact 100031 (.at 31 (.isv 29)), .fact 100032 (.at 32 (.ow [56, 65] [] 3 (j5 : List Int))), .fact 100025 (.obj 25 [(false, 1)]), .fact 100033 (.obj 33 [(false, 1)]), .fact 100030 (.obj 30 [(false, 1), (false, 1)]), .fact 100029 (.mpd 29 [70] 3 37 (j6 : List DRow))]) (fun b : (List Deal) => (Exit.exit 0, [.fact 6 (.isv 25), .fact 7 (.ow [76] [29, 70, 75] 39 (b : List Deal)), .fact 100026 (.at 26 (.ow [74] [72, 73] 45 (j4 : List Act45))), .fact 100025 (.obj 25 [(false, 1)])])) hb13 (sn (Sub.cons (Has.cv (Hs rfl) (Cv.trans Cv.nilOw (Cv.owM (T := []) (te := []) rfl rfl))) (sn (Sub.cons (Has.cv (Hs rfl) (Cv.owF (T := [56, 65]) (te := []) rfl)) (st (st (Sub.cons (Has.at (HasG.cv (HasG.s rfl) (Cv.owM (T := [74]) (te := [72, 73]) rfl rfl))) (sg (sg (Sub.cons (Has.at (HasG.cv (HasG.s rfl) (Cv.owF (T := [56, 65]) (te := []) rfl))) (sn (sn (sn (Sub.cons (Has.mpdM (Hs rfl) rfl) Sub.nil)))))))))))))) ?_ ?_
      ·rintro ⟨s7, s8⟩ c9 hm
       replace hm : redo_Acts_L2 j5 j6 s7 s8 = some c9 := hm
       unfold redo_Acts_L2 at hm
       show CWalk _ [.fact 6 (.isv 25), .fact 7 (.ow [76] [29, 70, 75] 39 (s7 : List Deal)), .fact 11 (.isv 33), .fact 41 (.ow [56, 65] [] 3 (j5 : List Int)), .fact 42 (.rep [] (((j5).length : Int) : Int)), .fact 43 (.rep [] (s8 : Int)), .fact 100026 (.at 26 (.ow [74] [72, 73] 45 (j4 : List Act45))), .fact 100034 (.at 34 (.isv 30)), .fact 100031 (.at 31 (.isv 29)), .fact 100032 (.at 32 (.ow [56, 65] [] 3 (j5 : List Int))), .fact 100025 (.obj 25 [(false, 1)]), .fact 100033 (.obj 33 [(false, 1)]), .fact 100030 (.obj 30 [(false, 1), (false, 1)]), .fact 100029 (.mpd 29 [70] 3 37 (j6 : List DRow))] _ _
       refine Cs ?_
       refine Cr ?_
       refine wo (Spec.lssI (Hs rfl) (Hs rfl)) ?_
       refine Wn ?_
       refine Lt ?_
       refine Cs ?_
       refine CWalk.cond rfl (fun hb => ?_) (fun hb => ?_)
       ·have hm := cond_t hb hm
        refine CWalk.skip ?_
        refine Lt ?_
        refine Cs ?_
        refine CWalk.block ?_
        refine Cs ?_
        refine Cr ?_
        obtain ⟨x10, hx10, hm⟩ := bind_some hm
        refine wo (Spec.indexSl hx10 sl35 (Has.cv (Hs rfl) Cv.owSl) (Hs rfl)) ?_
        refine wo ((Spec.loadS ty3 (Hs rfl)).flat (T' := [])) ?_
        refine wo (Spec.assign (Hs rfl)) ?_
        refine Wn ?_
        refine Lt ?_
        refine Cr ?_
        refine mv ?_
        refine wo (Spec.loadF (i := 0) ty75 rfl (Has.cv (Hs rfl) (Cv.isvP rfl)) rfl (HasG.s rfl)) ?_
        refine wo (Spec.nilCheckI (Hs rfl) rfl) ?_
        refine wo (Spec.fieldAddrO fd78_0 (Has.cv (Hs rfl) (Cv.isvP rfl))) ?_
        refine wo (Spec.loadF (i := 0) ty76 rfl (Hs rfl) rfl (HasG.s rfl)) ?_
        refine mv ?_
        refine wo (Spec.lookupD mp76 (Hs rfl) rfl (Hs rfl)) ?_
        obtain ⟨x11, hx11, hm⟩ := bind_some hm
        refine wo (Spec.nilCheckLk hx11 (Hs rfl) rfl) ?_
        refine wo (f := Fact.flds [(false, 1, Fact.rep [] (x10 : Int)), (false, 1, Fact.rep [29] x11.2.1), (false, 1, Fact.rep [29, 70] x11.2.2), (false, 1, Fact.nilv)]) (Spec.loadLk hx11 ty39 rfl rfl (Hs rfl) rfl) ?_
        refine wo (Spec.lit (xs := [.tmp 55]) (T := [29, 70]) 75 rfl ow24 rfl rfl rfl rfl (HasEach.cons (Has.m (Has.cv (Hs rfl) (Cv.trans (Cv.flds (Vf (CvL.cons (Cv.m rfl) (CvL.cons (Cv.m rfl) (CvL.cons (Cv.trans (Cv.nil (T := [])) (Cv.m rfl)) CvL.nil))))) (Cv.close (T := [29, 70]) (chDeal (Deal.mk x10 x11.2.1 x11.2.2 ([] : List UInt8)))))) rfl) HasEach.nil)) ?_
        obtain ⟨x12, hx12, hm⟩ := bind_some hm
        refine ws (Step.appendOw (T := [76]) (te' := [29, 70, 75]) hx12 rfl rfl rfl ow24 (Hs rfl) (Hs rfl) (ElKeeps.tags rfl rfl) (ElKeeps.tags rfl rfl)) ?_
        refine wo (Spec.assign (Hs rfl)) ?_
        refine Wn ?_
        refine Leaf.blockN ?_
        refine Lt ?_
        refine Cr ?_
        refine wo (Spec.addI (Hs rfl) Has.int) ?_
        refine mv ?_
        refine Wn ?_
        exact Leaf.next hm (sn (Sub.cons (Has.cv (Hs rfl) (Cv.owM (T := [76]) (te := [29, 70, 75]) rfl rfl)) (sn (Sub.cons (Has.cv (Hs rfl) (Cv.owF (T := [56, 65]) (te := []) rfl)) (st (st (Sub.cons (Has.at (HasG.cv (HasG.s rfl) (Cv.owM (T := [74]) (te := [72, 73]) rfl rfl))) (sg (sg (Sub.cons (Has.at (HasG.cv (HasG.s rfl) (Cv.owF (T := [56, 65]) (te := []) rfl))) (sn (sn (sn (Sub.cons (Has.mpdM (Hs rfl) rfl) Sub.nil))))))))))))))
       ·have hm := cond_f hb hm
        refine CWalk.exit ?_
        refine Leaf.thenE ?_
        exact Leaf.brk hm (fun h => nomatch h) rfl (sn (Sub.cons (Has.cv (Hs rfl) (Cv.owM (T := [76]) (te := [29, 70, 75]) rfl rfl)) (Sub.cons (Has.at (HasG.cv (HasG.s rfl) (Cv.owM (T := [74]) (te := [72, 73]) rfl rfl))) (sn Sub.nil))))
      ·intro _
       refine Leaf.blockE ?_
       refine Lt ?_
       refine Cs ?_
       refine Cr ?_
       refine wo (Spec.loadF (i := 0) ty23 rfl (Has.cv (Hs rfl) (Cv.isvP rfl)) rfl (HasG.s rfl)) ?_
       refine mv ?_
       refine ws (Step.storeF (i := 0) (f := Fact.ow [74] [72, 73] 45 (j4 : List Act45)) rfl ty23 rfl (Has.cv (Hs rfl) (Cv.isvP rfl)) rfl (Has.cv (Hs rfl) (Cv.trans Cv.owSl (Cv.slRep (T' := [72, 73, 74]) rfl rfl))) (Hs rfl) rfl) ?_
       refine wo (Spec.assign (Hs rfl)) ?_
       refine wo (Spec.assign Has.int) ?_
       refine Wn ?_
       refine Lt ?_
       refine CWalk.ret ?_
       obtain rfl := Option.some.inj hm
       exact Leaf.retC3 rfl (HasR.cv (HasR.cell1 ty23 rfl (Hs rfl) rfl (HasG.s rfl)) (Cv.owM (T := [74]) (te := [72, 73]) rfl rfl)) (HasR.cv (HasR.tmp (Hs rfl)) (Cv.owM (T := [76]) (te := [29, 70, 75]) rfl rfl)) (HasR.cv (HasR.tmp (Hs rfl)) Cv.fl)

def ref02_Whole_L1 (a0 : List UInt8) (s2 : Int) (s3 : List UInt8) : Option (Ctl (Int × (List UInt8)) ((List UInt8))) :=
  (bif (decide (s2 < ((a0).length : Int))) then Option.bind (idx a0 s2) (fun x5 => Option.bind (bnd (s3).length s2) (fun x6 => some (Ctl.next ((wI (s2 + (1 : Int))), (s3).set x6 x5)))) else some (Ctl.brk s3))
/-- freeboard/freeboardref02.Whole -/
def ref02_Whole (a0 : List UInt8) : Option ((List UInt8)) :=
  Option.bind (makeL (0 : UInt8) (128 : Int)) (fun x1 => Option.bind (loopM (fun s : Int × (List UInt8) => ref02_Whole_L1 a0 s.1 s.2) FUEL ((0 : Int), x1)) (fun b7 => some b7))
theorem ref02_Whole_c (a0 : List UInt8) {r : (List UInt8)} (hm : ref02_Whole a0 = some r) : Ctr Try.prog 82 [.rep 0 a0] (.own 0 none 5 r) [] := by
 refine ctr_of_walk [[10]] 20 Try.func82 rfl rfl rfl rfl (fun w0 om => ?_)
 unfold ref02_Whole at hm
 refine CWalk.sub (G' := [.fact 0 (.rep [0] (a0 : List UInt8))]) (sn Sub.nil) ?_
 refine Cs ?_
 refine Cr ?_
 refine wo (Spec.assign Has.nilv) ?_
 refine Wn ?_
 refine Lt ?_
 refine Cs ?_
 refine Cr ?_
 obtain ⟨x1, hx1, hm⟩ := bind_some hm
 refine ws (Step.makeOwn 10 hx1 rfl rfl ow37 zt5 Has.int) ?_
 refine wo (Spec.assign (Hs rfl)) ?_
 refine Wn ?_
 refine Lt ?_
 refine Cs ?_
 refine Cs ?_
 refine Cr ?_
 refine wo (Spec.assign Has.int) ?_
 refine Wn ?_
 refine Lt ?_
 refine CWalk.block ?_
 obtain ⟨b7, hb7, hm⟩ := bind_some hm
 refine CWalk.loop (fun s : Int × (List UInt8) => [.fact 0 (.rep [0] (a0 : List UInt8)), .fact 3 (.isv 10), .fact 4 (.rep [] s.1), .fact 100010 (.own 10 [] 5 (s.2 : List UInt8))]) (fun b : (List UInt8) => (Exit.exit 0, [.fact 3 (.isv 10), .fact 100010 (.own 10 [] 5 (b : List UInt8))])) hb7 (su (sn (st (Sub.cons (Has.ownM (Hs rfl) rfl) Sub.nil)))) ?_ ?_
 ·rintro ⟨s2, s3⟩ c4 hm
  replace hm : ref02_Whole_L1 a0 s2 s3 = some c4 := hm
  unfold ref02_Whole_L1 at hm
  show CWalk _ [.fact 0 (.rep [0] (a0 : List UInt8)), .fact 3 (.isv 10), .fact 4 (.rep [] (s2 : Int)), .fact 100010 (.own 10 [] 5 (s3 : List UInt8))] _ _
  refine Cs ?_
  refine Cs ?_
  refine Cr ?_
  refine mv ?_
  refine mv ?_
  refine wo (Spec.len (Hs rfl) Try.underlying37) ?_
  refine wo (Spec.lssI (Hs rfl) (Hs rfl)) ?_
  refine Wn ?_
  refine Lt ?_
  refine CWalk.cond rfl (fun hb => ?_) (fun hb => ?_)
  ·have hm := cond_t hb hm
   refine CWalk.skip ?_
   refine Lt ?_
   refine Cs ?_
   refine CWalk.block ?_
   refine Cr ?_
   refine mv ?_
   refine mv ?_
   refine mv ?_
   refine mv ?_
   obtain ⟨x5, hx5, hm⟩ := bind_some hm
   refine wo (Spec.indexAddr hx5 sl37 (Hs rfl) (Hs rfl)) ?_
   refine wo ((Spec.load ty5 (Hs rfl)).flat (T' := [])) ?_
   obtain ⟨x6, hx6, hm⟩ := bind_some hm
   refine wo (Spec.idxOwn hx6 ow37 (Hs rfl) rfl (Hs rfl)) ?_
   refine ws (Step.storeOwn (te' := []) rfl (bnd_lt hx6 rfl) ty5 (Hs rfl) rfl (Hs rfl) ElKeep.flat ElKeep.flat) ?_
   refine Wn ?_
   refine Leaf.blockN ?_
   refine Lt ?_
   refine Cr ?_
   refine mv ?_
   refine wo (Spec.addI (Hs rfl) Has.int) ?_
   refine wo (Spec.assign (Hs rfl)) ?_
   refine Wn ?_
   exact Leaf.next hm (su (sn (st (Sub.cons (Has.ownM (Hs rfl) rfl) Sub.nil))))
  ·have hm := cond_f hb hm
   refine CWalk.exit ?_
   refine Leaf.thenE ?_
   exact Leaf.brk hm (fun h => nomatch h) rfl (sn (Sub.cons (Has.ownM (Hs rfl) rfl) Sub.nil))
 ·intro _
  refine Leaf.blockE ?_
  refine Lt ?_
  refine Cs ?_
  refine Cr ?_
  refine mv ?_
  refine wo (Spec.assign (Hs rfl)) ?_
  refine Wn ?_
  refine Lt ?_
  refine CWalk.ret ?_
  obtain rfl := Option.some.inj hm
  exact Leaf.retC1 rfl (HasR.cv (HasR.tmp (Hs rfl)) (Cv.trans (Cv.isvOw rfl) (Cv.owF (T := [10]) (te := []) rfl)))

/-- freeboard/freeboardref02.Same -/
def ref02_Same (a0 : List UInt8) (a1 : List UInt8) : Option (Bool) :=
  Option.bind (ref02_Whole a0) (fun x1 => Option.bind (ref02_Whole a1) (fun x2 => some ((Str.mk x1).s == (Str.mk x2).s)))
theorem ref02_Same_c (a0 : List UInt8) (a1 : List UInt8) {r : Bool} (hm : ref02_Same a0 a1 = some r) : Ctr Try.prog 53 [.rep 0 a0, .rep 0 a1] (.fl r) [] := by
 refine ctr_of_walk [[]] 12 Try.func53 rfl rfl rfl rfl (fun w0 om => ?_)
 unfold ref02_Same at hm
 refine CWalk.sub (G' := [.fact 0 (.rep [0] (a0 : List UInt8)), .fact 1 (.rep [0] (a1 : List UInt8))]) (sn (sn Sub.nil)) ?_
 refine Cs ?_
 refine Cr ?_
 refine wo (Spec.assign Has.bool) ?_
 refine Wn ?_
 refine Lt ?_
 refine Cs ?_
 obtain ⟨x1, hx1, hm⟩ := bind_some hm
 obtain ⟨x2, hx2, hm⟩ := bind_some hm
 refine CWalk.drawM [[], [0], [0, 1], [], [0, 1, 3], [0, 1, 3, 4], [0, 1, 2, 3, 4, 5], [0, 1, 2, 3, 4, 5, 6]] [[.fact 5 (.rep [0] (a0 : List UInt8))], [.fact 6 (.ow [10] [] 5 (x1 : List UInt8))], [.fact 7 (.rep [] ((Str.mk x1) : Str))], [.fact 8 (.rep [0] (a1 : List UInt8))], [.fact 9 (.ow [11] [] 5 (x2 : List UInt8))], [.fact 10 (.rep [] ((Str.mk x2) : Str))], [.fact 11 (.rep [] (((Str.mk x1).s == (Str.mk x2).s) : Bool))], [.fact 4 (.rep [] (((Str.mk x1).s == (Str.mk x2).s) : Bool))]] mixed (by kernel_rfl) (ao (so (Spec.move (Hs rfl))) (ao (so (Spec.callE [0] 10 rfl en82 (ref02_Whole_c a0 hx1) (HasAll.cons (Has.m (Hs rfl) rfl) HasAll.nil))) (ao (so (Spec.toStr Try.underlying37 Try.underlying5 Try.underlying9 (Has.cv (Hs rfl) (Cv.trans Cv.owSl (Cv.slRep (T' := [10]) rfl rfl))))) (ao (so (Spec.move (Hs rfl))) (ao (so (Spec.callE [0] 11 rfl en82 (ref02_Whole_c a1 hx2) (HasAll.cons (Has.m (Hs rfl) rfl) HasAll.nil))) (ao (so (Spec.toStr Try.underlying37 Try.underlying5 Try.underlying9 (Has.cv (Hs rfl) (Cv.trans Cv.owSl (Cv.slRep (T' := [11]) rfl rfl))))) (ao (so (Spec.eqlS (Hs rfl) (Hs rfl))) (ao (so (Spec.assign (Hs rfl))) AllM.nil)))))))) ?_
 refine Lt ?_
 refine CWalk.ret ?_
 obtain rfl := Option.some.inj hm
 exact Leaf.retC1 rfl (HasR.cv (HasR.tmp (Hs rfl)) Cv.fl)

def ref13_Same_L1 (a0 : Deal) (a1 : Deal) (s1 : Int) : Option (Ctl (Int) ((Unit) ⊕ (Unit))) :=
  (bif (decide (s1 < ((a0.Slots).length : Int))) then Option.bind (idx a0.Slots s1) (fun x3 => Option.bind (idx a1.Slots s1) (fun x4 => (bif (x3 != x4) then some (Ctl.brk (Sum.inr ())) else some (Ctl.next (wI (s1 + (1 : Int))))))) else some (Ctl.brk (Sum.inl ())))
def ref13_Same_L2 (a0 : Deal) (a1 : Deal) (s7 : Int) : Option (Ctl (Int) ((Unit) ⊕ (Unit))) :=
  (bif (decide (s7 < ((a0.Blocks).length : Int))) then Option.bind (idx a0.Blocks s7) (fun x9 => Option.bind (idx a1.Blocks s7) (fun x10 => Option.bind (ref02_Same x9 x10) (fun x11 => (bif (!x11) then some (Ctl.brk (Sum.inr ())) else some (Ctl.next (wI (s7 + (1 : Int)))))))) else some (Ctl.brk (Sum.inl ())))
/-- freeboard/freeboardref13.Same -/
def ref13_Same (a0 : Deal) (a1 : Deal) : Option (Bool) :=
  (bif ((((a0.Stripe != a1.Stripe) || (((a0.Slots).length : Int) != ((a1.Slots).length : Int))) || (((a0.Blocks).length : Int) != ((a1.Blocks).length : Int))) || (!((Str.mk a0.Parity).s == (Str.mk a1.Parity).s))) then some false else Option.bind (loopM (fun s : Int => ref13_Same_L1 a0 a1 s) FUEL (0 : Int)) (fun b5 => Sum.elim (fun b6 => Option.bind (loopM (fun s : Int => ref13_Same_L2 a0 a1 s) FUEL (0 : Int)) (fun b12 => Sum.elim (fun b13 => some true) (fun b14 => some false) b12)) (fun b15 => some false) b5))
theorem ref13_Same_c (a0 : Deal) (a1 : Deal) {r : Bool} (hm : ref13_Same a0 a1 = some r) : Ctr Try.prog 27 [.rep 0 a0, .rep 0 a1] (.fl r) [] := by
 refine ctr_of_walk [[]] 76 Try.func27 rfl rfl rfl rfl (fun w0 om => ?_)
 unfold ref13_Same at hm
 refine CWalk.sub (G' := [.fact 0 (.rep [0] (a0 : Deal)), .fact 1 (.rep [0] (a1 : Deal))]) (sn (sn Sub.nil)) ?_
 refine Cs ?_
 refine Cr ?_
 refine ws (Step.boxObj (ls := [(false, 1, Fact.rep [] a0.Stripe), (false, 1, Fact.rep [0] a0.Slots), (false, 1, Fact.rep [0] a0.Blocks), (false, 1, Fact.rep [0] a0.Parity)]) 10 rfl rfl rfl rfl (HasL.flds (Has.cv (Hs rfl) (Cv.trans (Cv.opens (chDeal a0)) (Cv.flds (Vf (CvL.cons Cv.refl (CvL.cons Cv.refl (CvL.cons Cv.refl CvL.nil))))))))) ?_
 refine ws (Step.boxObj (ls := [(false, 1, Fact.rep [] a1.Stripe), (false, 1, Fact.rep [0] a1.Slots), (false, 1, Fact.rep [0] a1.Blocks), (false, 1, Fact.rep [0] a1.Parity)]) 15 rfl rfl rfl rfl (HasL.flds (Has.cv (Hs rfl) (Cv.trans (Cv.opens (chDeal a1)) (Cv.flds (Vf (CvL.cons Cv.refl (CvL.cons Cv.refl (CvL.cons Cv.refl CvL.nil))))))))) ?_
 refine wo (Spec.assign Has.bool) ?_
 refine Wn ?_
 refine Lt ?_
 refine Cs ?_
 refine Cs ?_
 refine Cr ?_
 refine wo (Spec.fieldAddrO fd39_0 (Has.cv (Hs rfl) (Cv.isvP rfl))) ?_
 refine wo (Spec.loadF (i := 0) ty3 rfl (Hs rfl) rfl (HasG.s rfl)) ?_
 refine wo (Spec.fieldAddrO fd39_0 (Has.cv (Hs rfl) (Cv.isvP rfl))) ?_
 refine wo (Spec.loadF (i := 0) ty3 rfl (Hs rfl) rfl (HasG.s rfl)) ?_
 refine wo (Spec.neqI (Hs rfl) (Hs rfl)) ?_
 refine mv ?_
 refine wg rfl rfl (fun hb => Spec.fieldAddrO fd39_1 (Has.cv (Hs rfl) (Cv.isvP rfl))) ?_
 refine wg rfl rfl (fun hb => Spec.loadF (i := 1) ty35 rfl (Has.u rfl hb) rfl (HasG.s rfl)) ?_
 refine wg rfl rfl (fun hb => Spec.len (Has.u rfl hb) Try.underlying35) ?_
 refine wg rfl rfl (fun hb => Spec.fieldAddrO fd39_1 (Has.cv (Hs rfl) (Cv.isvP rfl))) ?_
 refine wg rfl rfl (fun hb => Spec.loadF (i := 1) ty35 rfl (Has.u rfl hb) rfl (HasG.s rfl)) ?_
 refine wg rfl rfl (fun hb => Spec.len (Has.u rfl hb) Try.underlying35) ?_
 refine wg rfl rfl (fun hb => Spec.neqI (Has.u rfl hb) (Has.u rfl hb)) ?_
 refine wo (Spec.or (Hs rfl) (fun h => Has.u rfl h)) ?_
 refine mv ?_
 refine wg rfl rfl (fun hb => Spec.fieldAddrO fd39_2 (Has.cv (Hs rfl) (Cv.isvP rfl))) ?_
 refine wg rfl rfl (fun hb => Spec.loadF (i := 2) ty36 rfl (Has.u rfl hb) rfl (HasG.s rfl)) ?_
 refine wg rfl rfl (fun hb => Spec.len (Has.u rfl hb) Try.underlying36) ?_
 refine wg rfl rfl (fun hb => Spec.fieldAddrO fd39_2 (Has.cv (Hs rfl) (Cv.isvP rfl))) ?_
 refine wg rfl rfl (fun hb => Spec.loadF (i := 2) ty36 rfl (Has.u rfl hb) rfl (HasG.s rfl)) ?_
 refine wg rfl rfl (fun hb => Spec.len (Has.u rfl hb) Try.underlying36) ?_
 refine wg rfl rfl (fun hb => Spec.neqI (Has.u rfl hb) (Has.u rfl hb)) ?_
 refine wo (Spec.or (Hs rfl) (fun h => Has.u rfl h)) ?_
 refine mv ?_
 refine wg rfl rfl (fun hb => Spec.fieldAddrO fd39_3 (Has.cv (Hs rfl) (Cv.isvP rfl))) ?_
 refine wg rfl rfl (fun hb => Spec.loadF (i := 3) ty37 rfl (Has.u rfl hb) rfl (HasG.s rfl)) ?_
 refine wg rfl rfl (fun hb => Spec.toStr Try.underlying37 Try.underlying5 Try.underlying9 (Has.u rfl hb)) ?_
 refine wg rfl rfl (fun hb => Spec.fieldAddrO fd39_3 (Has.cv (Hs rfl) (Cv.isvP rfl))) ?_
 refine wg rfl rfl (fun hb => Spec.loadF (i := 3) ty37 rfl (Has.u rfl hb) rfl (HasG.s rfl)) ?_
 refine wg rfl rfl (fun hb => Spec.toStr Try.underlying37 Try.underlying5 Try.underlying9 (Has.u rfl hb)) ?_
 refine wg rfl rfl (fun hb => Spec.neqS (Has.u rfl hb) (Has.u rfl hb)) ?_
 refine wo (Spec.or (Hs rfl) (fun h => Has.u rfl h)) ?_
 refine Wn ?_
 refine Lt ?_
 refine CWalk.cond rfl (fun hb => ?_) (fun hb => ?_)
 ·have hm := cond_t hb hm
  refine Cs ?_
  refine Cr ?_
  refine wo (Spec.assign Has.bool) ?_
  refine Wn ?_
  refine Lt ?_
  refine CWalk.ret ?_
  refine Leaf.thenR ?_
  obtain rfl := Option.some.inj hm
  exact Leaf.retC1 rfl (HasR.cv (HasR.tmp (Hs rfl)) Cv.fl)
 ·have hm := cond_f hb hm
  refine CWalk.skip ?_
  refine Lt ?_
  refine Cs ?_
  refine Cs ?_
  refine Cr ?_
  refine wo (Spec.assign Has.int) ?_
  refine Wn ?_
  refine Lt ?_
  refine CWalk.block ?_
  obtain ⟨b5, hb5, hm⟩ := bind_some hm
  refine CWalk.loop (fun s : Int => [.fact 2 (.isv 10), .fact 3 (.isv 15), .fact 5 (.rep [] (s : Int)), .fact 100011 (.at 11 (.rep [] a0.Stripe)), .fact 100012 (.at 12 (.rep [0] a0.Slots)), .fact 100013 (.at 13 (.rep [0] a0.Blocks)), .fact 100014 (.at 14 (.rep [0] a0.Parity)), .fact 100016 (.at 16 (.rep [] a1.Stripe)), .fact 100017 (.at 17 (.rep [0] a1.Slots)), .fact 100018 (.at 18 (.rep [0] a1.Blocks)), .fact 100019 (.at 19 (.rep [0] a1.Parity)), .fact 100010 (.obj 10 [(false, 1), (false, 1), (false, 1), (false, 1)]), .fact 100015 (.obj 15 [(false, 1), (false, 1), (false, 1), (false, 1)])]) (fun b : (Unit) ⊕ (Unit) => Sum.elim (fun b => (Exit.exit 0, [.fact 2 (.isv 10), .fact 3 (.isv 15), .fact 100011 (.at 11 (.rep [] a0.Stripe)), .fact 100012 (.at 12 (.rep [0] a0.Slots)), .fact 100013 (.at 13 (.rep [0] a0.Blocks)), .fact 100014 (.at 14 (.rep [0] a0.Parity)), .fact 100016 (.at 16 (.rep [] a1.Stripe)), .fact 100017 (.at 17 (.rep [0] a1.Slots)), .fact 100018 (.at 18 (.rep [0] a1.Blocks)), .fact 100019 (.at 19 (.rep [0] a1.Parity)), .fact 100010 (.obj 10 [(false, 1), (false, 1), (false, 1), (false, 1)]), .fact 100015 (.obj 15 [(false, 1), (false, 1), (false, 1), (false, 1)])])) (fun b => (Exit.ret, [.fact 4 (.rep [] (false : Bool))])) b) hb5 (sn (sn (st (sf (sm (sm (sm (sf (sm (sm (sm (sn (sn Sub.nil))))))))))))) ?_ ?_
  ·rintro s1 c2 hm
   replace hm : ref13_Same_L1 a0 a1 s1 = some c2 := hm
   unfold ref13_Same_L1 at hm
   show CWalk _ [.fact 2 (.isv 10), .fact 3 (.isv 15), .fact 5 (.rep [] (s1 : Int)), .fact 100011 (.at 11 (.rep [] a0.Stripe)), .fact 100012 (.at 12 (.rep [0] a0.Slots)), .fact 100013 (.at 13 (.rep [0] a0.Blocks)), .fact 100014 (.at 14 (.rep [0] a0.Parity)), .fact 100016 (.at 16 (.rep [] a1.Stripe)), .fact 100017 (.at 17 (.rep [0] a1.Slots)), .fact 100018 (.at 18 (.rep [0] a1.Blocks)), .fact 100019 (.at 19 (.rep [0] a1.Parity)), .fact 100010 (.obj 10 [(false, 1), (false, 1), (false, 1), (false, 1)]), .fact 100015 (.obj 15 [(false, 1), (false, 1), (false, 1), (false, 1)])] _ _
   refine Cs ?_
   refine Cs ?_
   refine Cr ?_
   refine mv ?_
   refine wo (Spec.fieldAddrO fd39_1 (Has.cv (Hs rfl) (Cv.isvP rfl))) ?_
   refine wo (Spec.loadF (i := 1) ty35 rfl (Hs rfl) rfl (HasG.s rfl)) ?_
   refine wo (Spec.len (Hs rfl) Try.underlying35) ?_
   refine wo (Spec.lssI (Hs rfl) (Hs rfl)) ?_
   refine Wn ?_
   refine Lt ?_
   refine CWalk.cond rfl (fun hb => ?_) (fun hb => ?_)
   ·have hm := cond_t hb hm
    refine CWalk.skip ?_
    refine Lt ?_
    refine Cs ?_
    refine CWalk.block ?_
    refine Cs ?_
    obtain ⟨x3, hx3, hm⟩ := bind_some hm
    obtain ⟨x4, hx4, hm⟩ := bind_some hm
    refine CWalk.drawM [[], [0], [], [0, 1, 2], [0, 1, 2, 3], [], [5], [], [5, 6, 7], [5, 6, 7, 8], [0, 1, 2, 3, 4, 5, 6, 7, 8, 9]] [[.fact 46 (.pto 10 1)], [.fact 47 (.rep [0] a0.Slots)], [.fact 48 (.rep [] (s1 : Int))], [.fact 49 (.ptr [0] (x3 : Int))], [.fact 50 (.rep [] (x3 : Int))], [.fact 51 (.pto 15 1)], [.fact 52 (.rep [0] a1.Slots)], [.fact 53 (.rep [] (s1 : Int))], [.fact 54 (.ptr [0] (x4 : Int))], [.fact 55 (.rep [] (x4 : Int))], [.fact 56 (.rep [] ((x3 != x4) : Bool))]] mixed (by kernel_rfl) (ao (so (Spec.fieldAddrO fd39_1 (Has.cv (Hs rfl) (Cv.isvP rfl)))) (ao (so (Spec.loadF (i := 1) ty35 rfl (Hs rfl) rfl (HasG.s rfl))) (ao (so (Spec.move (Hs rfl))) (ao (so (Spec.indexAddr hx3 sl35 (Hs rfl) (Hs rfl))) (ao (so ((Spec.load ty3 (Hs rfl)).flat (T' := []))) (ao (so (Spec.fieldAddrO fd39_1 (Has.cv (Hs rfl) (Cv.isvP rfl)))) (ao (so (Spec.loadF (i := 1) ty35 rfl (Hs rfl) rfl (HasG.s rfl))) (ao (so (Spec.move (Hs rfl))) (ao (so (Spec.indexAddr hx4 sl35 (Hs rfl) (Hs rfl))) (ao (so ((Spec.load ty3 (Hs rfl)).flat (T' := []))) (ao (so (Spec.neqI (Hs rfl) (Hs rfl))) AllM.nil))))))))))) ?_
    refine Lt ?_
    refine CWalk.cond rfl (fun hb => ?_) (fun hb => ?_)
    ·have hm := cond_t hb hm
     refine Cs ?_
     refine Cr ?_
     refine wo (Spec.assign Has.bool) ?_
     refine Wn ?_
     refine Lt ?_
     refine CWalk.ret ?_
     refine Leaf.blockR ?_
     refine Leaf.thenR ?_
     exact Leaf.brk hm (fun h => nomatch h) rfl (st Sub.nil)
    ·have hm := cond_f hb hm
     refine CWalk.skip ?_
     refine Leaf.blockN ?_
     refine Lt ?_
     refine Cr ?_
     refine mv ?_
     refine wo (Spec.addI (Hs rfl) Has.int) ?_
     refine wo (Spec.assign (Hs rfl)) ?_
     refine Wn ?_
     exact Leaf.next hm (sn (sn (st (sf (sm (sm (sm (sf (sm (sm (sm (sn (sn Sub.nil)))))))))))))
   ·have hm := cond_f hb hm
    refine CWalk.exit ?_
    refine Leaf.thenE ?_
    exact Leaf.brk hm (fun h => nomatch h) rfl (sn (sn (sf (sm (sm (sm (sf (sm (sm (sm (sn (sn Sub.nil))))))))))))
  ·intro _
   rcases b5 with b6 | b15
   ·have hm := selim_l hm
    refine Leaf.blockE ?_
    refine Lt ?_
    refine Cs ?_
    refine Cs ?_
    refine Cr ?_
    refine wo (Spec.assign Has.int) ?_
    refine Wn ?_
    refine Lt ?_
    refine CWalk.block ?_
    obtain ⟨b12, hb12, hm⟩ := bind_some hm
    refine CWalk.loop (fun s : Int => [.fact 2 (.isv 10), .fact 3 (.isv 15), .fact 6 (.rep [] (s : Int)), .fact 100011 (.at 11 (.rep [] a0.Stripe)), .fact 100012 (.at 12 (.rep [0] a0.Slots)), .fact 100013 (.at 13 (.rep [0] a0.Blocks)), .fact 100014 (.at 14 (.rep [0] a0.Parity)), .fact 100016 (.at 16 (.rep [] a1.Stripe)), .fact 100017 (.at 17 (.rep [0] a1.Slots)), .fact 100018 (.at 18 (.rep [0] a1.Blocks)), .fact 100019 (.at 19 (.rep [0] a1.Parity)), .fact 100010 (.obj 10 [(false, 1), (false, 1), (false, 1), (false, 1)]), .fact 100015 (.obj 15 [(false, 1), (false, 1), (false, 1), (false, 1)])]) (fun b : (Unit) ⊕ (Unit) => Sum.elim (fun b => (Exit.exit 2, [])) (fun b => (Exit.ret, [.fact 4 (.rep [] (false : Bool))])) b) hb12 (sn (sn (st (sf (sm (sm (sm (sf (sm (sm (sm (sn (sn Sub.nil))))))))))))) ?_ ?_
    ·rintro s7 c8 hm
     replace hm : ref13_Same_L2 a0 a1 s7 = some c8 := hm
     unfold ref13_Same_L2 at hm
     show CWalk _ [.fact 2 (.isv 10), .fact 3 (.isv 15), .fact 6 (.rep [] (s7 : Int)), .fact 100011 (.at 11 (.rep [] a0.Stripe)), .fact 100012 (.at 12 (.rep [0] a0.Slots)), .fact 100013 (.at 13 (.rep [0] a0.Blocks)), .fact 100014 (.at 14 (.rep [0] a0.Parity)), .fact 100016 (.at 16 (.rep [] a1.Stripe)), .fact 100017 (.at 17 (.rep [0] a1.Slots)), .fact 100018 (.at 18 (.rep [0] a1.Blocks)), .fact 100019 (.at 19 (.rep [0] a1.Parity)), .fact 100010 (.obj 10 [(false, 1), (false, 1), (false, 1), (false, 1)]), .fact 100015 (.obj 15 [(false, 1), (false, 1), (false, 1), (false, 1)])] _ _
     refine Cs ?_
     refine Cs ?_
     refine Cr ?_
     refine mv ?_
     refine wo (Spec.fieldAddrO fd39_2 (Has.cv (Hs rfl) (Cv.isvP rfl))) ?_
     refine wo (Spec.loadF (i := 2) ty36 rfl (Hs rfl) rfl (HasG.s rfl)) ?_
     refine wo (Spec.len (Hs rfl) Try.underlying36) ?_
     refine wo (Spec.lssI (Hs rfl) (Hs rfl)) ?_
     refine Wn ?_
     refine Lt ?_
     refine CWalk.cond rfl (fun hb => ?_) (fun hb => ?_)
     ·have hm := cond_t hb hm
      refine CWalk.skip ?_
      refine Lt ?_
      refine Cs ?_
      refine CWalk.block ?_
      refine Cs ?_
      obtain ⟨x9, hx9, hm⟩ := bind_some hm
      obtain ⟨x10, hx10, hm⟩ := bind_some hm
      obtain ⟨x11, hx11, hm⟩ := bind_some hm
      refine CWalk.drawM [[], [0], [], [0, 1, 2], [0, 1, 2, 3], [], [5], [], [5, 6, 7], [5, 6, 7, 8], [0, 1, 2, 3, 4, 5, 6, 7, 8, 9], [0, 1, 2, 3, 4, 5, 6, 7, 8, 9, 10]] [[.fact 64 (.pto 10 2)], [.fact 65 (.rep [0] a0.Blocks)], [.fact 66 (.rep [] (s7 : Int))], [.fact 67 (.ptr [0] (x9 : List UInt8))], [.fact 68 (.rep [0] (x9 : List UInt8))], [.fact 69 (.pto 15 2)], [.fact 70 (.rep [0] a1.Blocks)], [.fact 71 (.rep [] (s7 : Int))], [.fact 72 (.ptr [0] (x10 : List UInt8))], [.fact 73 (.rep [0] (x10 : List UInt8))], [.fact 74 (.rep [] (x11 : Bool))], [.fact 75 (.rep [] ((!x11) : Bool))]] mixed (by kernel_rfl) (ao (so (Spec.fieldAddrO fd39_2 (Has.cv (Hs rfl) (Cv.isvP rfl)))) (ao (so (Spec.loadF (i := 2) ty36 rfl (Hs rfl) rfl (HasG.s rfl))) (ao (so (Spec.move (Hs rfl))) (ao (so (Spec.indexAddr hx9 sl36 (Hs rfl) (Hs rfl))) (ao (so (Spec.load ty37 (Hs rfl))) (ao (so (Spec.fieldAddrO fd39_2 (Has.cv (Hs rfl) (Cv.isvP rfl)))) (ao (so (Spec.loadF (i := 2) ty36 rfl (Hs rfl) rfl (HasG.s rfl))) (ao (so (Spec.move (Hs rfl))) (ao (so (Spec.indexAddr hx10 sl36 (Hs rfl) (Hs rfl))) (ao (so (Spec.load ty37 (Hs rfl))) (ao (so (Spec.callE [0] 20 rfl en53 (ref02_Same_c x9 x10 hx11) (HasAll.cons (Has.m (Hs rfl) rfl) (HasAll.cons (Has.m (Hs rfl) rfl) HasAll.nil)))) (ao (so (Spec.not (Hs rfl))) AllM.nil)))))))))))) ?_
      refine Lt ?_
      refine CWalk.cond rfl (fun hb => ?_) (fun hb => ?_)
      ·have hm := cond_t hb hm
       refine Cs ?_
       refine Cr ?_
       refine wo (Spec.assign Has.bool) ?_
       refine Wn ?_
       refine Lt ?_
       refine CWalk.ret ?_
       refine Leaf.blockR ?_
       refine Leaf.thenR ?_
       exact Leaf.brk hm (fun h => nomatch h) rfl (st Sub.nil)
      ·have hm := cond_f hb hm
       refine CWalk.skip ?_
       refine Leaf.blockN ?_
       refine Lt ?_
       refine Cr ?_
       refine mv ?_
       refine wo (Spec.addI (Hs rfl) Has.int) ?_
       refine wo (Spec.assign (Hs rfl)) ?_
       refine Wn ?_
       exact Leaf.next hm (sn (sn (st (sf (sm (sm (sm (sf (sm (sm (sm (sn (sn Sub.nil)))))))))))))
     ·have hm := cond_f hb hm
      refine CWalk.exit ?_
      refine Leaf.thenE ?_
      exact Leaf.brk hm (fun h => nomatch h) rfl (Sub.nil)
    ·intro _
     rcases b12 with b13 | b14
     ·have hm := selim_l hm
      refine Leaf.blockE ?_
      refine Lt ?_
      refine Cs ?_
      refine Cr ?_
      refine wo (Spec.assign Has.bool) ?_
      refine Wn ?_
      refine Lt ?_
      refine CWalk.ret ?_
      obtain rfl := Option.some.inj hm
      exact Leaf.retC1 rfl (HasR.cv (HasR.tmp (Hs rfl)) Cv.fl)
     ·have hm := selim_r hm
      refine Leaf.blockR ?_
      refine Leaf.thenR ?_
      obtain rfl := Option.some.inj hm
      exact Leaf.retC1 rfl (HasR.cv (HasR.tmp (Hs rfl)) Cv.fl)
   ·have hm := selim_r hm
    refine Leaf.blockR ?_
    refine Leaf.thenR ?_
    obtain rfl := Option.some.inj hm
    exact Leaf.retC1 rfl (HasR.cv (HasR.tmp (Hs rfl)) Cv.fl)

/-- freeboard/freeboardlaw27.alive -/
def law27_alive : Option (Bool) :=
  Option.bind (law27_two) (fun x1 => Option.bind (law27_nobody) (fun x2 => Option.bind (law27_a) (fun x3 => Option.bind (law27_b) (fun x4 => Option.bind (law27_c) (fun x5 => Option.bind (redo_Acts x1 x2 ([x3, x4, x5])) (fun x6 => Option.bind (gO (((x6.2.2 == (0 : Int)) && (((x6.1).length : Int) == (2 : Int)))) (idx x6.1 (0 : Int))) (fun x7 => Option.bind (gO ((((x6.2.2 == (0 : Int)) && (((x6.1).length : Int) == (2 : Int))) && (x7.Disk == (0 : Int)))) (idx x6.1 (1 : Int))) (fun x8 => Option.bind (gO (((((x6.2.2 == (0 : Int)) && (((x6.1).length : Int) == (2 : Int))) && (x7.Disk == (0 : Int))) && (x8.Disk == (1 : Int)))) (idx x6.1 (0 : Int))) (fun x9 => Option.bind (gO ((((((x6.2.2 == (0 : Int)) && (((x6.1).length : Int) == (2 : Int))) && (x7.Disk == (0 : Int))) && (x8.Disk == (1 : Int))) && (x9.At == (2 : Int)))) (idx x6.1 (1 : Int))) (fun x10 => Option.bind (gO ((((((((x6.2.2 == (0 : Int)) && (((x6.1).length : Int) == (2 : Int))) && (x7.Disk == (0 : Int))) && (x8.Disk == (1 : Int))) && (x9.At == (2 : Int))) && (x10.At == (2 : Int))) && (((x6.2.1).length : Int) == (1 : Int)))) (idx x6.2.1 (0 : Int))) (fun x11 => Option.bind (gO ((((((((x6.2.2 == (0 : Int)) && (((x6.1).length : Int) == (2 : Int))) && (x7.Disk == (0 : Int))) && (x8.Disk == (1 : Int))) && (x9.At == (2 : Int))) && (x10.At == (2 : Int))) && (((x6.2.1).length : Int) == (1 : Int)))) (law27_c)) (fun x12 => Option.bind (gO ((((((((x6.2.2 == (0 : Int)) && (((x6.1).length : Int) == (2 : Int))) && (x7.Disk == (0 : Int))) && (x8.Disk == (1 : Int))) && (x9.At == (2 : Int))) && (x10.At == (2 : Int))) && (((x6.2.1).length : Int) == (1 : Int)))) (ref13_Same x11 x12.Deal)) (fun x13 => some ((((((((x6.2.2 == (0 : Int)) && (((x6.1).length : Int) == (2 : Int))) && (x7.Disk == (0 : Int))) && (x8.Disk == (1 : Int))) && (x9.At == (2 : Int))) && (x10.At == (2 : Int))) && (((x6.2.1).length : Int) == (1 : Int))) && x13))))))))))))))
theorem law27_alive_c {r : Bool} (hm : law27_alive = some r) : Ctr Try.prog 7 [] (.fl r) [] := by
 refine ctr_of_walk [[]] 63 Try.func7 rfl rfl rfl rfl (fun w0 om => ?_)
 unfold law27_alive at hm
 refine CWalk.sub (G' := []) (Sub.nil) ?_
 refine Cs ?_
 refine Cr ?_
 refine wo (Spec.assign Has.bool) ?_
 refine Wn ?_
 refine Lt ?_
 refine Cs ?_
 refine Cr ?_
 obtain ⟨x1, hx1, hm⟩ := bind_some hm
 refine wo (f := Fact.rep [] (x1 : Config)) (Spec.callE [] 10 rfl en9 (law27_two_c  hx1) HasAll.nil) ?_
 obtain ⟨x2, hx2, hm⟩ := bind_some hm
 refine wo (f := Fact.rep [] (x2 : Loss)) (Spec.callE [] 11 rfl en10 (law27_nobody_c  hx2) HasAll.nil) ?_
 obtain ⟨x3, hx3, hm⟩ := bind_some hm
 refine wo (f := Fact.flds [(false, 1, Fact.rep [] x3.Age), (false, 1, Fact.rep [] x3.Seq), (true, 4, Fact.flds [(false, 1, Fact.rep [] x3.Deal.Stripe), (false, 1, Fact.rep [12] x3.Deal.Slots), (false, 1, Fact.rep [13] x3.Deal.Blocks), (false, 1, Fact.ow [14] [] 5 (x3.Deal.Parity : List UInt8))])]) (Spec.callE [] 12 rfl en12 (law27_a_c  hx3) HasAll.nil) ?_
 obtain ⟨x4, hx4, hm⟩ := bind_some hm
 refine wo (f := Fact.flds [(false, 1, Fact.rep [] x4.Age), (false, 1, Fact.rep [] x4.Seq), (true, 4, Fact.flds [(false, 1, Fact.rep [] x4.Deal.Stripe), (false, 1, Fact.rep [15] x4.Deal.Slots), (false, 1, Fact.rep [16] x4.Deal.Blocks), (false, 1, Fact.ow [15] [] 5 (x4.Deal.Parity : List UInt8))])]) (Spec.callE [] 15 rfl en11 (law27_b_c  hx4) HasAll.nil) ?_
 obtain ⟨x5, hx5, hm⟩ := bind_some hm
 refine wo (f := Fact.flds [(false, 1, Fact.rep [] x5.Age), (false, 1, Fact.rep [] x5.Seq), (true, 4, Fact.flds [(false, 1, Fact.rep [] x5.Deal.Stripe), (false, 1, Fact.rep [17] x5.Deal.Slots), (false, 1, Fact.rep [18] x5.Deal.Blocks), (false, 1, Fact.ow [17] [] 5 (x5.Deal.Parity : List UInt8))])]) (Spec.callE [] 17 rfl en26 (law27_c_c  hx5) HasAll.nil) ?_
 refine wo (Spec.lit (xs := [.tmp 7, .tmp 8, .tmp 9]) (T := [12, 13, 14, 15, 16, 17, 18]) 19 rfl ow43 rfl rfl rfl rfl (HasEach.cons (Has.m (Has.cv (Hs rfl) (Cv.trans (Cv.flds (Vf (Vf (CvL.cons (Cv.trans (Cv.trans (Cv.flds (Vf (CvL.cons (Cv.m rfl) (CvL.cons (Cv.m rfl) (CvL.cons (Cv.trans (Cv.trans Cv.owSl (Cv.slRep (T' := [14]) rfl rfl)) (Cv.m rfl)) CvL.nil))))) (Cv.close (T := [12, 13, 14]) (chDeal x3.Deal))) (Cv.m rfl)) CvL.nil)))) (Cv.close (T := [12, 13, 14]) (chFound x3)))) rfl) (HasEach.cons (Has.m (Has.cv (Hs rfl) (Cv.trans (Cv.flds (Vf (Vf (CvL.cons (Cv.trans (Cv.trans (Cv.flds (Vf (CvL.cons (Cv.m rfl) (CvL.cons (Cv.m rfl) (CvL.cons (Cv.trans (Cv.trans Cv.owSl (Cv.slRep (T' := [15]) rfl rfl)) (Cv.m rfl)) CvL.nil))))) (Cv.close (T := [15, 16]) (chDeal x4.Deal))) (Cv.m rfl)) CvL.nil)))) (Cv.close (T := [15, 16]) (chFound x4)))) rfl) (HasEach.cons (Has.m (Has.cv (Hs rfl) (Cv.trans (Cv.flds (Vf (Vf (CvL.cons (Cv.trans (Cv.trans (Cv.flds (Vf (CvL.cons (Cv.m rfl) (CvL.cons (Cv.m rfl) (CvL.cons (Cv.trans (Cv.trans Cv.owSl (Cv.slRep (T' := [17]) rfl rfl)) (Cv.m rfl)) CvL.nil))))) (Cv.close (T := [17, 18]) (chDeal x5.Deal))) (Cv.m rfl)) CvL.nil)))) (Cv.close (T := [17, 18]) (chFound x5)))) rfl) HasEach.nil)))) ?_
 obtain ⟨x6, hx6, hm⟩ := bind_some hm
 refine wo (f := Fact.tup3 (Fact.ow [20] [21] 45 (x6.1 : List Act45)) (Fact.ow [22] [23] 39 (x6.2.1 : List Deal)) (Fact.rep [] x6.2.2)) (Spec.callE [12, 13, 14, 15, 16, 17, 18, 19] 20 rfl en8 (redo_Acts_c x1 x2 ([x3, x4, x5]) hx6) (HasAll.cons (Has.fl (Hs rfl)) (HasAll.cons (Has.fl (Hs rfl)) (HasAll.cons (Has.m (Hs rfl) rfl) HasAll.nil)))) ?_
 refine mv ?_
 refine wo (Spec.ext0_3 (Hs rfl)) ?_
 refine wo (Spec.ext1_3 (Hs rfl)) ?_
 refine wo (Spec.ext2_3 (Hs rfl)) ?_
 refine wo (Spec.assign (Hs rfl)) ?_
 refine wo (Spec.assign (Hs rfl)) ?_
 refine wo (Spec.assign (Hs rfl)) ?_
 refine Wn ?_
 refine Lt ?_
 refine Cs ?_
 obtain ⟨x7, hx7, hm⟩ := bind_some hm
 obtain ⟨x8, hx8, hm⟩ := bind_some hm
 obtain ⟨x9, hx9, hm⟩ := bind_some hm
 obtain ⟨x10, hx10, hm⟩ := bind_some hm
 obtain ⟨x11, hx11, hm⟩ := bind_some hm
 obtain ⟨x12, hx12, hm⟩ := bind_some hm
 obtain ⟨x13, hx13, hm⟩ := bind_some hm
 refine CWalk.drawM [[], [0], [0, 1], [0, 1, 2], [0, 1, 2, 3], [0, 1, 2, 3, 4], [0, 1, 2, 3, 4, 5], [0, 1, 2, 3, 4, 5, 6], [0, 1, 2, 3, 4, 5, 6, 7], [0, 1, 2, 3, 4, 5, 6, 7, 8], [0, 1, 2, 3, 4, 5, 6, 7, 8, 9], [0, 1, 2, 3, 4, 5, 6, 7, 8, 9, 10], [0, 1, 2, 3, 4, 5, 6, 7, 8, 9, 10, 11], [0, 1, 2, 3, 4, 5, 6, 7, 8, 9, 10, 11, 12], [0, 1, 2, 3, 4, 5, 6, 7, 8, 9, 10, 11, 12, 13], [0, 1, 2, 3, 4, 5, 6, 7, 8, 9, 10, 11, 12, 13, 14], [0, 1, 2, 3, 4, 5, 6, 7, 8, 9, 10, 11, 12, 13, 14, 15], [0, 1, 2, 3, 4, 5, 6, 7, 8, 9, 10, 11, 12, 13, 14, 15, 16], [0, 1, 2, 3, 4, 5, 6, 7, 8, 9, 10, 11, 12, 13, 14, 15, 16, 17], [0, 1, 2, 3, 4, 5, 6, 7, 8, 9, 10, 11, 12, 13, 14, 15, 16, 17, 18], [0, 1, 2, 3, 4, 5, 6, 7, 8, 9, 10, 11, 12, 13, 14, 15, 16, 17, 18, 19], [0, 1, 2, 3, 4, 5, 6, 7, 8, 9, 10, 11, 12, 13, 14, 15, 16, 17, 18, 19, 20], [0, 1, 2, 3, 4, 5, 6, 7, 8, 9, 10, 11, 12, 13, 14, 15, 16, 17, 18, 19, 20, 21], [0, 1, 2, 3, 4, 5, 6, 7, 8, 9, 10, 11, 12, 13, 14, 15, 16, 17, 18, 19, 20, 21, 22], [0, 1, 2, 3, 4, 5, 6, 7, 8, 9, 10, 11, 12, 13, 14, 15, 16, 17, 18, 19, 20, 21, 22, 23], [0, 1, 2, 3, 4, 5, 6, 7, 8, 9, 10, 11, 12, 13, 14, 15, 16, 17, 18, 19, 20, 21, 22, 23, 24], [0, 1, 2, 3, 4, 5, 6, 7, 8, 9, 10, 11, 12, 13, 14, 15, 16, 17, 18, 19, 20, 21, 22, 23, 24, 25], [0, 1, 2, 3, 4, 5, 6, 7, 8, 9, 10, 11, 12, 13, 14, 15, 16, 17, 18, 19, 20, 21, 22, 23, 24, 25, 26], [0, 1, 2, 3, 4, 5, 6, 7, 8, 9, 10, 11, 12, 13, 14, 15, 16, 17, 18, 19, 20, 21, 22, 23, 24, 25, 26, 27], [0, 1, 2, 3, 4, 5, 6, 7, 8, 9, 10, 11, 12, 13, 14, 15, 16, 17, 18, 19, 20, 21, 22, 23, 24, 25, 26, 27, 28], [0, 1, 2, 3, 4, 5, 6, 7, 8, 9, 10, 11, 12, 13, 14, 15, 16, 17, 18, 19, 20, 21, 22, 23, 24, 25, 26, 27, 28, 29], [0, 1, 2, 3, 4, 5, 6, 7, 8, 9, 10, 11, 12, 13, 14, 15, 16, 17, 18, 19, 20, 21, 22, 23, 24, 25, 26, 27, 28, 29, 30], [0, 1, 2, 3, 4, 5, 6, 7, 8, 9, 10, 11, 12, 13, 14, 15, 16, 17, 18, 19, 20, 21, 22, 23, 24, 25, 26, 27, 28, 29, 30, 31], [0, 1, 2, 3, 4, 5, 6, 7, 8, 9, 10, 11, 12, 13, 14, 15, 16, 17, 18, 19, 20, 21, 22, 23, 24, 25, 26, 27, 28, 29, 30, 31, 32], [0, 1, 2, 3, 4, 5, 6, 7, 8, 9, 10, 11, 12, 13, 14, 15, 16, 17, 18, 19, 20, 21, 22, 23, 24, 25, 26, 27, 28, 29, 30, 31, 32, 33], [0, 1, 2, 3, 4, 5, 6, 7, 8, 9, 10, 11, 12, 13, 14, 15, 16, 17, 18, 19, 20, 21, 22, 23, 24, 25, 26, 27, 28, 29, 30, 31, 32, 33, 34], [0, 1, 2, 3, 4, 5, 6, 7, 8, 9, 10, 11, 12, 13, 14, 15, 16, 17, 18, 19, 20, 21, 22, 23, 24, 25, 26, 27, 28, 29, 30, 31, 32, 33, 34, 35], [0, 1, 2, 3, 4, 5, 6, 7, 8, 9, 10, 11, 12, 13, 14, 15, 16, 17, 18, 19, 20, 21, 22, 23, 24, 25, 26, 27, 28, 29, 30, 31, 32, 33, 34, 35, 36], [0, 1, 2, 3, 4, 5, 6, 7, 8, 9, 10, 11, 12, 13, 14, 15, 16, 17, 18, 19, 20, 21, 22, 23, 24, 25, 26, 27, 28, 29, 30, 31, 32, 33, 34, 35, 36, 37], [0, 1, 2, 3, 4, 5, 6, 7, 8, 9, 10, 11, 12, 13, 14, 15, 16, 17, 18, 19, 20, 21, 22, 23, 24, 25, 26, 27, 28, 29, 30, 31, 32, 33, 34, 35, 36, 37, 38], [0, 1, 2, 3, 4, 5, 6, 7, 8, 9, 10, 11, 12, 13, 14, 15, 16, 17, 18, 19, 20, 21, 22, 23, 24, 25, 26, 27, 28, 29, 30, 31, 32, 33, 34, 35, 36, 37, 38, 39], [0, 1, 2, 3, 4, 5, 6, 7, 8, 9, 10, 11, 12, 13, 14, 15, 16, 17, 18, 19, 20, 21, 22, 23, 24, 25, 26, 27, 28, 29, 30, 31, 32, 33, 34, 35, 36, 37, 38, 39, 40], [0, 1, 2, 3, 4, 5, 6, 7, 8, 9, 10, 11, 12, 13, 14, 15, 16, 17, 18, 19, 20, 21, 22, 23, 24, 25, 26, 27, 28, 29, 30, 31, 32, 33, 34, 35, 36, 37, 38, 39, 40, 41], [0, 1, 2, 3, 4, 5, 6, 7, 8, 9, 10, 11, 12, 13, 14, 15, 16, 17, 18, 19, 20, 21, 22, 23, 24, 25, 26, 27, 28, 29, 30, 31, 32, 33, 34, 35, 36, 37, 38, 39, 40, 41, 42], [0, 1, 2, 3, 4, 5, 6, 7, 8, 9, 10, 11, 12, 13, 14, 15, 16, 17, 18, 19, 20, 21, 22, 23, 24, 25, 26, 27, 28, 29, 30, 31, 32, 33, 34, 35, 36, 37, 38, 39, 40], [0, 1, 2, 3, 4, 5, 6, 7, 8, 9, 10, 11, 12, 13, 14, 15, 16, 17, 18, 19, 20, 21, 22, 23, 24, 25, 26, 27, 28, 29, 30, 31, 32, 33, 34, 35, 36, 37, 38, 39, 40, 44], [0, 1, 2, 3, 4, 5, 6, 7, 8, 9, 10, 11, 12, 13, 14, 15, 16, 17, 18, 19, 20, 21, 22, 23, 24, 25, 26, 27, 28, 29, 30, 31, 32, 33, 34, 35, 36, 37, 38, 39, 40, 41, 42, 43, 44, 45], [0, 1, 2, 3, 4, 5, 6, 7, 8, 9, 10, 11, 12, 13, 14, 15, 16, 17, 18, 19, 20, 21, 22, 23, 24, 25, 26, 27, 28, 29, 30, 31, 32, 33, 34, 35, 36, 37, 38, 39, 40, 41, 42, 43, 44, 45, 46], [0, 1, 2, 3, 4, 5, 6, 7, 8, 9, 10, 11, 12, 13, 14, 15, 16, 17, 18, 19, 20, 21, 22, 23, 24, 25, 26, 27, 28, 29, 30, 31, 32, 33, 34, 35, 36, 37, 38, 39, 40, 41, 42, 43, 44, 45, 46, 47]] [[.fact 15 (.rep [] x6.2.2)], [.fact 16 (.rep [] ((x6.2.2 == (0 : Int)) : Bool))], [.fact 17 (.rep [] ((x6.2.2 == (0 : Int)) : Bool))], [.fact 18 (.under ((x6.2.2 == (0 : Int)) = true) (.ow [20] [21] 45 (x6.1 : List Act45)))], [.fact 19 (.under ((x6.2.2 == (0 : Int)) = true) (.rep [] (((x6.1).length : Int) : Int)))], [.fact 20 (.under ((x6.2.2 == (0 : Int)) = true) (.rep [] ((((x6.1).length : Int) == (2 : Int)) : Bool)))], [.fact 21 (.rep [] (((x6.2.2 == (0 : Int)) && (((x6.1).length : Int) == (2 : Int))) : Bool))], [.fact 22 (.rep [] (((x6.2.2 == (0 : Int)) && (((x6.1).length : Int) == (2 : Int))) : Bool))], [.fact 23 (.under (((x6.2.2 == (0 : Int)) && (((x6.1).length : Int) == (2 : Int))) = true) (.ow [20] [21] 45 (x6.1 : List Act45)))], [.fact 24 (.under (((x6.2.2 == (0 : Int)) && (((x6.1).length : Int) == (2 : Int))) = true) (.pts [20] [21] (x7 : Act45)))], [.fact 25 (.under (((x6.2.2 == (0 : Int)) && (((x6.1).length : Int) == (2 : Int))) = true) (.pts [20] [21] (x7.Disk : Int)))], [.fact 26 (.under (((x6.2.2 == (0 : Int)) && (((x6.1).length : Int) == (2 : Int))) = true) (.rep [] x7.Disk))], [.fact 27 (.under (((x6.2.2 == (0 : Int)) && (((x6.1).length : Int) == (2 : Int))) = true) (.rep [] ((x7.Disk == (0 : Int)) : Bool)))], [.fact 28 (.rep [] ((((x6.2.2 == (0 : Int)) && (((x6.1).length : Int) == (2 : Int))) && (x7.Disk == (0 : Int))) : Bool))], [.fact 29 (.rep [] ((((x6.2.2 == (0 : Int)) && (((x6.1).length : Int) == (2 : Int))) && (x7.Disk == (0 : Int))) : Bool))], [.fact 30 (.under ((((x6.2.2 == (0 : Int)) && (((x6.1).length : Int) == (2 : Int))) && (x7.Disk == (0 : Int))) = true) (.ow [20] [21] 45 (x6.1 : List Act45)))], [.fact 31 (.under ((((x6.2.2 == (0 : Int)) && (((x6.1).length : Int) == (2 : Int))) && (x7.Disk == (0 : Int))) = true) (.pts [20] [21] (x8 : Act45)))], [.fact 32 (.under ((((x6.2.2 == (0 : Int)) && (((x6.1).length : Int) == (2 : Int))) && (x7.Disk == (0 : Int))) = true) (.pts [20] [21] (x8.Disk : Int)))], [.fact 33 (.under ((((x6.2.2 == (0 : Int)) && (((x6.1).length : Int) == (2 : Int))) && (x7.Disk == (0 : Int))) = true) (.rep [] x8.Disk))], [.fact 34 (.under ((((x6.2.2 == (0 : Int)) && (((x6.1).length : Int) == (2 : Int))) && (x7.Disk == (0 : Int))) = true) (.rep [] ((x8.Disk == (1 : Int)) : Bool)))], [.fact 35 (.rep [] (((((x6.2.2 == (0 : Int)) && (((x6.1).length : Int) == (2 : Int))) && (x7.Disk == (0 : Int))) && (x8.Disk == (1 : Int))) : Bool))], [.fact 36 (.rep [] (((((x6.2.2 == (0 : Int)) && (((x6.1).length : Int) == (2 : Int))) && (x7.Disk == (0 : Int))) && (x8.Disk == (1 : Int))) : Bool))], [.fact 37 (.under (((((x6.2.2 == (0 : Int)) && (((x6.1).length : Int) == (2 : Int))) && (x7.Disk == (0 : Int))) && (x8.Disk == (1 : Int))) = true) (.ow [20] [21] 45 (x6.1 : List Act45)))], [.fact 38 (.under (((((x6.2.2 == (0 : Int)) && (((x6.1).length : Int) == (2 : Int))) && (x7.Disk == (0 : Int))) && (x8.Disk == (1 : Int))) = true) (.pts [20] [21] (x9 : Act45)))], [.fact 39 (.under (((((x6.2.2 == (0 : Int)) && (((x6.1).length : Int) == (2 : Int))) && (x7.Disk == (0 : Int))) && (x8.Disk == (1 : Int))) = true) (.pts [20] [21] (x9.At : Int)))], [.fact 40 (.under (((((x6.2.2 == (0 : Int)) && (((x6.1).length : Int) == (2 : Int))) && (x7.Disk == (0 : Int))) && (x8.Disk == (1 : Int))) = true) (.rep [] x9.At))], [.fact 41 (.under (((((x6.2.2 == (0 : Int)) && (((x6.1).length : Int) == (2 : Int))) && (x7.Disk == (0 : Int))) && (x8.Disk == (1 : Int))) = true) (.rep [] ((x9.At == (2 : Int)) : Bool)))], [.fact 42 (.rep [] ((((((x6.2.2 == (0 : Int)) && (((x6.1).length : Int) == (2 : Int))) && (x7.Disk == (0 : Int))) && (x8.Disk == (1 : Int))) && (x9.At == (2 : Int))) : Bool))], [.fact 43 (.rep [] ((((((x6.2.2 == (0 : Int)) && (((x6.1).length : Int) == (2 : Int))) && (x7.Disk == (0 : Int))) && (x8.Disk == (1 : Int))) && (x9.At == (2 : Int))) : Bool))], [.fact 44 (.under ((((((x6.2.2 == (0 : Int)) && (((x6.1).length : Int) == (2 : Int))) && (x7.Disk == (0 : Int))) && (x8.Disk == (1 : Int))) && (x9.At == (2 : Int))) = true) (.ow [20] [21] 45 (x6.1 : List Act45)))], [.fact 45 (.under ((((((x6.2.2 == (0 : Int)) && (((x6.1).length : Int) == (2 : Int))) && (x7.Disk == (0 : Int))) && (x8.Disk == (1 : Int))) && (x9.At == (2 : Int))) = true) (.pts [20] [21] (x10 : Act45)))], [.fact 46 (.under ((((((x6.2.2 == (0 : Int)) && (((x6.1).length : Int) == (2 : Int))) && (x7.Disk == (0 : Int))) && (x8.Disk == (1 : Int))) && (x9.At == (2 : Int))) = true) (.pts [20] [21] (x10.At : Int)))], [.fact 47 (.under ((((((x6.2.2 == (0 : Int)) && (((x6.1).length : Int) == (2 : Int))) && (x7.Disk == (0 : Int))) && (x8.Disk == (1 : Int))) && (x9.At == (2 : Int))) = true) (.rep [] x10.At))], [.fact 48 (.under ((((((x6.2.2 == (0 : Int)) && (((x6.1).length : Int) == (2 : Int))) && (x7.Disk == (0 : Int))) && (x8.Disk == (1 : Int))) && (x9.At == (2 : Int))) = true) (.rep [] ((x10.At == (2 : Int)) : Bool)))], [.fact 49 (.rep [] (((((((x6.2.2 == (0 : Int)) && (((x6.1).length : Int) == (2 : Int))) && (x7.Disk == (0 : Int))) && (x8.Disk == (1 : Int))) && (x9.At == (2 : Int))) && (x10.At == (2 : Int))) : Bool))], [.fact 50 (.rep [] (((((((x6.2.2 == (0 : Int)) && (((x6.1).length : Int) == (2 : Int))) && (x7.Disk == (0 : Int))) && (x8.Disk == (1 : Int))) && (x9.At == (2 : Int))) && (x10.At == (2 : Int))) : Bool))], [.fact 51 (.under (((((((x6.2.2 == (0 : Int)) && (((x6.1).length : Int) == (2 : Int))) && (x7.Disk == (0 : Int))) && (x8.Disk == (1 : Int))) && (x9.At == (2 : Int))) && (x10.At == (2 : Int))) = true) (.ow [22] [23] 39 (x6.2.1 : List Deal)))], [.fact 52 (.under (((((((x6.2.2 == (0 : Int)) && (((x6.1).length : Int) == (2 : Int))) && (x7.Disk == (0 : Int))) && (x8.Disk == (1 : Int))) && (x9.At == (2 : Int))) && (x10.At == (2 : Int))) = true) (.rep [] (((x6.2.1).length : Int) : Int)))], [.fact 53 (.under (((((((x6.2.2 == (0 : Int)) && (((x6.1).length : Int) == (2 : Int))) && (x7.Disk == (0 : Int))) && (x8.Disk == (1 : Int))) && (x9.At == (2 : Int))) && (x10.At == (2 : Int))) = true) (.rep [] ((((x6.2.1).length : Int) == (1 : Int)) : Bool)))], [.fact 54 (.rep [] ((((((((x6.2.2 == (0 : Int)) && (((x6.1).length : Int) == (2 : Int))) && (x7.Disk == (0 : Int))) && (x8.Disk == (1 : Int))) && (x9.At == (2 : Int))) && (x10.At == (2 : Int))) && (((x6.2.1).length : Int) == (1 : Int))) : Bool))], [.fact 55 (.rep [] ((((((((x6.2.2 == (0 : Int)) && (((x6.1).length : Int) == (2 : Int))) && (x7.Disk == (0 : Int))) && (x8.Disk == (1 : Int))) && (x9.At == (2 : Int))) && (x10.At == (2 : Int))) && (((x6.2.1).length : Int) == (1 : Int))) : Bool))], [.fact 56 (.under ((((((((x6.2.2 == (0 : Int)) && (((x6.1).length : Int) == (2 : Int))) && (x7.Disk == (0 : Int))) && (x8.Disk == (1 : Int))) && (x9.At == (2 : Int))) && (x10.At == (2 : Int))) && (((x6.2.1).length : Int) == (1 : Int))) = true) (.ow [22] [23] 39 (x6.2.1 : List Deal)))], [.fact 57 (.under ((((((((x6.2.2 == (0 : Int)) && (((x6.1).length : Int) == (2 : Int))) && (x7.Disk == (0 : Int))) && (x8.Disk == (1 : Int))) && (x9.At == (2 : Int))) && (x10.At == (2 : Int))) && (((x6.2.1).length : Int) == (1 : Int))) = true) (.pts [22] [23] (x11 : Deal)))], [.fact 58 (.under ((((((((x6.2.2 == (0 : Int)) && (((x6.1).length : Int) == (2 : Int))) && (x7.Disk == (0 : Int))) && (x8.Disk == (1 : Int))) && (x9.At == (2 : Int))) && (x10.At == (2 : Int))) && (((x6.2.1).length : Int) == (1 : Int))) = true) (.rep [23] (x11 : Deal)))], [.fact 59 (.under ((((((((x6.2.2 == (0 : Int)) && (((x6.1).length : Int) == (2 : Int))) && (x7.Disk == (0 : Int))) && (x8.Disk == (1 : Int))) && (x9.At == (2 : Int))) && (x10.At == (2 : Int))) && (((x6.2.1).length : Int) == (1 : Int))) = true) (.flds [(false, 1, Fact.rep [] x12.Age), (false, 1, Fact.rep [] x12.Seq), (true, 4, Fact.flds [(false, 1, Fact.rep [] x12.Deal.Stripe), (false, 1, Fact.rep [24] x12.Deal.Slots), (false, 1, Fact.rep [25] x12.Deal.Blocks), (false, 1, Fact.ow [24] [] 5 (x12.Deal.Parity : List UInt8))])]))], [.fact 60 (.under ((((((((x6.2.2 == (0 : Int)) && (((x6.1).length : Int) == (2 : Int))) && (x7.Disk == (0 : Int))) && (x8.Disk == (1 : Int))) && (x9.At == (2 : Int))) && (x10.At == (2 : Int))) && (((x6.2.1).length : Int) == (1 : Int))) = true) (.flds [(false, 1, Fact.rep [] x12.Deal.Stripe), (false, 1, Fact.rep [24] x12.Deal.Slots), (false, 1, Fact.rep [25] x12.Deal.Blocks), (false, 1, Fact.ow [24] [] 5 (x12.Deal.Parity : List UInt8))]))], [.fact 61 (.under ((((((((x6.2.2 == (0 : Int)) && (((x6.1).length : Int) == (2 : Int))) && (x7.Disk == (0 : Int))) && (x8.Disk == (1 : Int))) && (x9.At == (2 : Int))) && (x10.At == (2 : Int))) && (((x6.2.1).length : Int) == (1 : Int))) = true) (.rep [] (x13 : Bool)))], [.fact 62 (.rep [] (((((((((x6.2.2 == (0 : Int)) && (((x6.1).length : Int) == (2 : Int))) && (x7.Disk == (0 : Int))) && (x8.Disk == (1 : Int))) && (x9.At == (2 : Int))) && (x10.At == (2 : Int))) && (((x6.2.1).length : Int) == (1 : Int))) && x13) : Bool))], [.fact 0 (.rep [] (((((((((x6.2.2 == (0 : Int)) && (((x6.1).length : Int) == (2 : Int))) && (x7.Disk == (0 : Int))) && (x8.Disk == (1 : Int))) && (x9.At == (2 : Int))) && (x10.At == (2 : Int))) && (((x6.2.1).length : Int) == (1 : Int))) && x13) : Bool))]] mixed (by kernel_rfl) (ao (so (Spec.move (Hs rfl))) (ao (so (Spec.eqlI (Hs rfl) Has.int)) (ao (so (Spec.move (Hs rfl))) (ao (StepG.opg rfl rfl rfl (fun hb => Spec.move (Hs rfl))) (ao (StepG.opg rfl rfl rfl (fun hb => Spec.len (Has.cv (Has.u rfl hb) (Cv.trans Cv.owSl (Cv.slRep (T' := [20, 21]) rfl rfl))) Try.underlying23)) (ao (StepG.opg rfl rfl rfl (fun hb => Spec.eqlI (Has.u rfl hb) Has.int)) (ao (so (Spec.and (Hs rfl) (fun h => Has.u rfl h))) (ao (so (Spec.move (Hs rfl))) (ao (StepG.opg rfl rfl rfl (fun hb => Spec.move (Hs rfl))) (ao (StepG.opg rfl rfl rfl (fun hb => Spec.indexSl (gO_t hx7 hb) sl23 (Has.cv (Has.u rfl hb) Cv.owSl) Has.int)) (ao (StepG.opg rfl rfl rfl (fun hb => Spec.fieldAddrS fd45_0 (chAct45 x7) rfl (Has.u rfl hb))) (ao (StepG.opg rfl rfl rfl (fun hb => (Spec.loadS ty3 (Has.u rfl hb)).flat (T' := []))) (ao (StepG.opg rfl rfl rfl (fun hb => Spec.eqlI (Has.u rfl hb) Has.int)) (ao (so (Spec.and (Hs rfl) (fun h => Has.u rfl h))) (ao (so (Spec.move (Hs rfl))) (ao (StepG.opg rfl rfl rfl (fun hb => Spec.move (Hs rfl))) (ao (StepG.opg rfl rfl rfl (fun hb => Spec.indexSl (gO_t hx8 hb) sl23 (Has.cv (Has.u rfl hb) Cv.owSl) Has.int)) (ao (StepG.opg rfl rfl rfl (fun hb => Spec.fieldAddrS fd45_0 (chAct45 x8) rfl (Has.u rfl hb))) (ao (StepG.opg rfl rfl rfl (fun hb => (Spec.loadS ty3 (Has.u rfl hb)).flat (T' := []))) (ao (StepG.opg rfl rfl rfl (fun hb => Spec.eqlI (Has.u rfl hb) Has.int)) (ao (so (Spec.and (Hs rfl) (fun h => Has.u rfl h))) (ao (so (Spec.move (Hs rfl))) (ao (StepG.opg rfl rfl rfl (fun hb => Spec.move (Hs rfl))) (ao (StepG.opg rfl rfl rfl (fun hb => Spec.indexSl (gO_t hx9 hb) sl23 (Has.cv (Has.u rfl hb) Cv.owSl) Has.int)) (ao (StepG.opg rfl rfl rfl (fun hb => Spec.fieldAddrS fd45_2 (chAct45 x9) rfl (Has.u rfl hb))) (ao (StepG.opg rfl rfl rfl (fun hb => (Spec.loadS ty3 (Has.u rfl hb)).flat (T' := []))) (ao (StepG.opg rfl rfl rfl (fun hb => Spec.eqlI (Has.u rfl hb) Has.int)) (ao (so (Spec.and (Hs rfl) (fun h => Has.u rfl h))) (ao (so (Spec.move (Hs rfl))) (ao (StepG.opg rfl rfl rfl (fun hb => Spec.move (Hs rfl))) (ao (StepG.opg rfl rfl rfl (fun hb => Spec.indexSl (gO_t hx10 hb) sl23 (Has.cv (Has.u rfl hb) Cv.owSl) Has.int)) (ao (StepG.opg rfl rfl rfl (fun hb => Spec.fieldAddrS fd45_2 (chAct45 x10) rfl (Has.u rfl hb))) (ao (StepG.opg rfl rfl rfl (fun hb => (Spec.loadS ty3 (Has.u rfl hb)).flat (T' := []))) (ao (StepG.opg rfl rfl rfl (fun hb => Spec.eqlI (Has.u rfl hb) Has.int)) (ao (so (Spec.and (Hs rfl) (fun h => Has.u rfl h))) (ao (so (Spec.move (Hs rfl))) (ao (StepG.opg rfl rfl rfl (fun hb => Spec.move (Hs rfl))) (ao (StepG.opg rfl rfl rfl (fun hb => Spec.len (Has.cv (Has.u rfl hb) (Cv.trans Cv.owSl (Cv.slRep (T' := [22, 23]) rfl rfl))) Try.underlying24)) (ao (StepG.opg rfl rfl rfl (fun hb => Spec.eqlI (Has.u rfl hb) Has.int)) (ao (so (Spec.and (Hs rfl) (fun h => Has.u rfl h))) (ao (so (Spec.move (Hs rfl))) (ao (StepG.opg rfl rfl rfl (fun hb => Spec.move (Hs rfl))) (ao (StepG.opg rfl rfl rfl (fun hb => Spec.indexSl (gO_t hx11 hb) sl24 (Has.cv (Has.u rfl hb) Cv.owSl) Has.int)) (ao (StepG.opg rfl rfl rfl (fun hb => Spec.loadS ty39 (Has.u rfl hb))) (ao (StepG.opg rfl rfl rfl (fun hb => Spec.callE [] 24 rfl en26 (law27_c_c  (gO_t hx12 hb)) HasAll.nil)) (ao (StepG.opg rfl rfl rfl (fun hb => Spec.field ty39 fo41_2 rfl (Has.u rfl hb))) (ao (StepG.opg rfl rfl rfl (fun hb => Spec.callE [23, 24, 25] 26 rfl en27 (ref13_Same_c x11 x12.Deal (gO_t hx13 hb)) (HasAll.cons (Has.m (Has.u rfl hb) rfl) (HasAll.cons (Has.m (Has.cv (Has.u rfl hb) (Cv.trans (Cv.flds (Vf (CvL.cons (Cv.m rfl) (CvL.cons (Cv.m rfl) (CvL.cons (Cv.trans (Cv.trans Cv.owSl (Cv.slRep (T' := [24]) rfl rfl)) (Cv.m rfl)) CvL.nil))))) (Cv.close (T := [24, 25]) (chDeal x12.Deal)))) rfl) HasAll.nil)))) (ao (so (Spec.and (Hs rfl) (fun h => Has.u rfl h))) (ao (so (Spec.assign (Hs rfl))) AllM.nil))))))))))))))))))))))))))))))))))))))))))))))))) ?_
 refine Lt ?_
 refine CWalk.ret ?_
 obtain rfl := Option.some.inj hm
 exact Leaf.retC1 rfl (HasR.cv (HasR.tmp (Hs rfl)) Cv.fl)

def ref13_Great_L1 (a0 : Deal) (s1 : Int) : Option (Ctl (Int) ((Unit) ⊕ (Unit))) :=
  (bif (decide (s1 < ((a0.Blocks).length : Int))) then Option.bind (idx a0.Blocks s1) (fun x3 => (bif (decide (((x3).length : Int) > (1000 : Int))) then some (Ctl.brk (Sum.inr ())) else some (Ctl.next (wI (s1 + (1 : Int)))))) else some (Ctl.brk (Sum.inl ())))
/-- freeboard/freeboardref13.Great -/
def ref13_Great (a0 : Deal) : Option (Bool) :=
  (bif (((decide (((a0.Slots).length : Int) > (100 : Int))) || (decide (((a0.Blocks).length : Int) > (100 : Int)))) || (decide (((a0.Parity).length : Int) > (1000 : Int)))) then some true else Option.bind (loopM (fun s : Int => ref13_Great_L1 a0 s) FUEL (0 : Int)) (fun b4 => Sum.elim (fun b5 => some false) (fun b6 => some true) b4))
theorem ref13_Great_c (a0 : Deal) {r : Bool} (hm : ref13_Great a0 = some r) : Ctr Try.prog 35 [.rep 0 a0] (.fl r) [] := by
 refine ctr_of_walk [[]] 34 Try.func35 rfl rfl rfl rfl (fun w0 om => ?_)
 unfold ref13_Great at hm
 refine CWalk.sub (G' := [.fact 0 (.rep [0] (a0 : Deal))]) (sn Sub.nil) ?_
 refine Cs ?_
 refine Cr ?_
 refine ws (Step.boxObj (ls := [(false, 1, Fact.rep [] a0.Stripe), (false, 1, Fact.rep [0] a0.Slots), (false, 1, Fact.rep [0] a0.Blocks), (false, 1, Fact.rep [0] a0.Parity)]) 10 rfl rfl rfl rfl (HasL.flds (Has.cv (Hs rfl) (Cv.trans (Cv.opens (chDeal a0)) (Cv.flds (Vf (CvL.cons Cv.refl (CvL.cons Cv.refl (CvL.cons Cv.refl CvL.nil))))))))) ?_
 refine wo (Spec.assign Has.bool) ?_
 refine Wn ?_
 refine Lt ?_
 refine Cs ?_
 refine Cs ?_
 refine Cr ?_
 refine wo (Spec.fieldAddrO fd39_1 (Has.cv (Hs rfl) (Cv.isvP rfl))) ?_
 refine wo (Spec.loadF (i := 1) ty35 rfl (Hs rfl) rfl (HasG.s rfl)) ?_
 refine wo (Spec.len (Hs rfl) Try.underlying35) ?_
 refine wo (Spec.gtrI (Hs rfl) Has.int) ?_
 refine mv ?_
 refine wg rfl rfl (fun hb => Spec.fieldAddrO fd39_2 (Has.cv (Hs rfl) (Cv.isvP rfl))) ?_
 refine wg rfl rfl (fun hb => Spec.loadF (i := 2) ty36 rfl (Has.u rfl hb) rfl (HasG.s rfl)) ?_
 refine wg rfl rfl (fun hb => Spec.len (Has.u rfl hb) Try.underlying36) ?_
 refine wg rfl rfl (fun hb => Spec.gtrI (Has.u rfl hb) Has.int) ?_
 refine wo (Spec.or (Hs rfl) (fun h => Has.u rfl h)) ?_
 refine mv ?_
 refine wg rfl rfl (fun hb => Spec.fieldAddrO fd39_3 (Has.cv (Hs rfl) (Cv.isvP rfl))) ?_
 refine wg rfl rfl (fun hb => Spec.loadF (i := 3) ty37 rfl (Has.u rfl hb) rfl (HasG.s rfl)) ?_
 refine wg rfl rfl (fun hb => Spec.len (Has.u rfl hb) Try.underlying37) ?_
 refine wg rfl rfl (fun hb => Spec.gtrI (Has.u rfl hb) Has.int) ?_
 refine wo (Spec.or (Hs rfl) (fun h => Has.u rfl h)) ?_
 refine Wn ?_
 refine Lt ?_
 refine CWalk.cond rfl (fun hb => ?_) (fun hb => ?_)
 ·have hm := cond_t hb hm
  refine Cs ?_
  refine Cr ?_
  refine wo (Spec.assign Has.bool) ?_
  refine Wn ?_
  refine Lt ?_
  refine CWalk.ret ?_
  refine Leaf.thenR ?_
  obtain rfl := Option.some.inj hm
  exact Leaf.retC1 rfl (HasR.cv (HasR.tmp (Hs rfl)) Cv.fl)
 ·have hm := cond_f hb hm
  refine CWalk.skip ?_
  refine Lt ?_
  refine Cs ?_
  refine Cs ?_
  refine Cr ?_
  refine wo (Spec.assign Has.int) ?_
  refine Wn ?_
  refine Lt ?_
  refine CWalk.block ?_
  obtain ⟨b4, hb4, hm⟩ := bind_some hm
  refine CWalk.loop (fun s : Int => [.fact 1 (.isv 10), .fact 3 (.rep [] (s : Int)), .fact 100011 (.at 11 (.rep [] a0.Stripe)), .fact 100012 (.at 12 (.rep [0] a0.Slots)), .fact 100013 (.at 13 (.rep [0] a0.Blocks)), .fact 100014 (.at 14 (.rep [0] a0.Parity)), .fact 100010 (.obj 10 [(false, 1), (false, 1), (false, 1), (false, 1)])]) (fun b : (Unit) ⊕ (Unit) => Sum.elim (fun b => (Exit.exit 0, [])) (fun b => (Exit.ret, [.fact 2 (.rep [] (true : Bool))])) b) hb4 (sn (st (sf (sm (sm (sm (sn Sub.nil))))))) ?_ ?_
  ·rintro s1 c2 hm
   replace hm : ref13_Great_L1 a0 s1 = some c2 := hm
   unfold ref13_Great_L1 at hm
   show CWalk _ [.fact 1 (.isv 10), .fact 3 (.rep [] (s1 : Int)), .fact 100011 (.at 11 (.rep [] a0.Stripe)), .fact 100012 (.at 12 (.rep [0] a0.Slots)), .fact 100013 (.at 13 (.rep [0] a0.Blocks)), .fact 100014 (.at 14 (.rep [0] a0.Parity)), .fact 100010 (.obj 10 [(false, 1), (false, 1), (false, 1), (false, 1)])] _ _
   refine Cs ?_
   refine Cs ?_
   refine Cr ?_
   refine mv ?_
   refine wo (Spec.fieldAddrO fd39_2 (Has.cv (Hs rfl) (Cv.isvP rfl))) ?_
   refine wo (Spec.loadF (i := 2) ty36 rfl (Hs rfl) rfl (HasG.s rfl)) ?_
   refine wo (Spec.len (Hs rfl) Try.underlying36) ?_
   refine wo (Spec.lssI (Hs rfl) (Hs rfl)) ?_
   refine Wn ?_
   refine Lt ?_
   refine CWalk.cond rfl (fun hb => ?_) (fun hb => ?_)
   ·have hm := cond_t hb hm
    refine CWalk.skip ?_
    refine Lt ?_
    refine Cs ?_
    refine CWalk.block ?_
    refine Cs ?_
    refine Cr ?_
    refine wo (Spec.fieldAddrO fd39_2 (Has.cv (Hs rfl) (Cv.isvP rfl))) ?_
    refine wo (Spec.loadF (i := 2) ty36 rfl (Hs rfl) rfl (HasG.s rfl)) ?_
    refine mv ?_
    obtain ⟨x3, hx3, hm⟩ := bind_some hm
    refine wo (Spec.indexAddr hx3 sl36 (Hs rfl) (Hs rfl)) ?_
    refine wo (Spec.load ty37 (Hs rfl)) ?_
    refine wo (Spec.len (Hs rfl) Try.underlying37) ?_
    refine wo (Spec.gtrI (Hs rfl) Has.int) ?_
    refine Wn ?_
    refine Lt ?_
    refine CWalk.cond rfl (fun hb => ?_) (fun hb => ?_)
    ·have hm := cond_t hb hm
     refine Cs ?_
     refine Cr ?_
     refine wo (Spec.assign Has.bool) ?_
     refine Wn ?_
     refine Lt ?_
     refine CWalk.ret ?_
     refine Leaf.blockR ?_
     refine Leaf.thenR ?_
     exact Leaf.brk hm (fun h => nomatch h) rfl (st Sub.nil)
    ·have hm := cond_f hb hm
     refine CWalk.skip ?_
     refine Leaf.blockN ?_
     refine Lt ?_
     refine Cr ?_
     refine mv ?_
     refine wo (Spec.addI (Hs rfl) Has.int) ?_
     refine wo (Spec.assign (Hs rfl)) ?_
     refine Wn ?_
     exact Leaf.next hm (sn (st (sf (sm (sm (sm (sn Sub.nil)))))))
   ·have hm := cond_f hb hm
    refine CWalk.exit ?_
    refine Leaf.thenE ?_
    exact Leaf.brk hm (fun h => nomatch h) rfl (Sub.nil)
  ·intro _
   rcases b4 with b5 | b6
   ·have hm := selim_l hm
    refine Leaf.blockE ?_
    refine Lt ?_
    refine Cs ?_
    refine Cr ?_
    refine wo (Spec.assign Has.bool) ?_
    refine Wn ?_
    refine Lt ?_
    refine CWalk.ret ?_
    obtain rfl := Option.some.inj hm
    exact Leaf.retC1 rfl (HasR.cv (HasR.tmp (Hs rfl)) Cv.fl)
   ·have hm := selim_r hm
    refine Leaf.blockR ?_
    refine Leaf.thenR ?_
    obtain rfl := Option.some.inj hm
    exact Leaf.retC1 rfl (HasR.cv (HasR.tmp (Hs rfl)) Cv.fl)

def ref27_Great_L1 (a0 : List Found) (s1 : Int) : Option (Ctl (Int) ((Unit) ⊕ (Unit))) :=
  (bif ((decide (s1 < ((a0).length : Int))) && (decide (s1 < (300 : Int)))) then Option.bind (idx a0 s1) (fun x3 => Option.bind (ref13_Great x3.Deal) (fun x4 => (bif x4 then some (Ctl.brk (Sum.inr ())) else some (Ctl.next (wI (s1 + (1 : Int))))))) else some (Ctl.brk (Sum.inl ())))
/-- freeboard/freeboardref27.Great -/
def ref27_Great (a0 : List Found) : Option (Bool) :=
  Option.bind (loopM (fun s : Int => ref27_Great_L1 a0 s) FUEL (0 : Int)) (fun b5 => Sum.elim (fun b6 => some (((decide (((a0).length : Int) > (30 : Int))) && (decide (((a0).length : Int) ≤ (255 : Int)))) || (decide (((a0).length : Int) > (300 : Int))))) (fun b7 => some true) b5)
theorem ref27_Great_c (a0 : List Found) {r : Bool} (hm : ref27_Great a0 = some r) : Ctr Try.prog 13 [.rep 0 a0] (.fl r) [] := by
 refine ctr_of_walk [[]] 33 Try.func13 rfl rfl rfl rfl (fun w0 om => ?_)
 unfold ref27_Great at hm
 refine CWalk.sub (G' := [.fact 0 (.rep [0] (a0 : List Found))]) (sn Sub.nil) ?_
 refine Cs ?_
 refine Cr ?_
 refine wo (Spec.assign Has.bool) ?_
 refine Wn ?_
 refine Lt ?_
 refine Cs ?_
 refine Cs ?_
 refine Cr ?_
 refine wo (Spec.assign Has.int) ?_
 refine Wn ?_
 refine Lt ?_
 refine CWalk.block ?_
 obtain ⟨b5, hb5, hm⟩ := bind_some hm
 refine CWalk.loop (fun s : Int => [.fact 0 (.rep [0] (a0 : List Found)), .fact 3 (.rep [] (s : Int))]) (fun b : (Unit) ⊕ (Unit) => Sum.elim (fun b => (Exit.exit 0, [.fact 0 (.rep [0] (a0 : List Found))])) (fun b => (Exit.ret, [.fact 2 (.rep [] (true : Bool))])) b) hb5 (su (st Sub.nil)) ?_ ?_
 ·rintro s1 c2 hm
  replace hm : ref27_Great_L1 a0 s1 = some c2 := hm
  unfold ref27_Great_L1 at hm
  show CWalk _ [.fact 0 (.rep [0] (a0 : List Found)), .fact 3 (.rep [] (s1 : Int))] _ _
  refine Cs ?_
  refine Cs ?_
  refine Cr ?_
  refine mv ?_
  refine mv ?_
  refine wo (Spec.len (Hs rfl) Try.underlying43) ?_
  refine wo (Spec.lssI (Hs rfl) (Hs rfl)) ?_
  refine mv ?_
  refine wg rfl rfl (fun hb => Spec.move (Hs rfl)) ?_
  refine wg rfl rfl (fun hb => Spec.lssI (Has.u rfl hb) Has.int) ?_
  refine wo (Spec.and (Hs rfl) (fun h => Has.u rfl h)) ?_
  refine Wn ?_
  refine Lt ?_
  refine CWalk.cond rfl (fun hb => ?_) (fun hb => ?_)
  ·have hm := cond_t hb hm
   refine CWalk.skip ?_
   refine Lt ?_
   refine Cs ?_
   refine CWalk.block ?_
   refine Cs ?_
   refine Cr ?_
   refine mv ?_
   refine mv ?_
   obtain ⟨x3, hx3, hm⟩ := bind_some hm
   refine wo (Spec.indexAddr hx3 sl43 (Hs rfl) (Hs rfl)) ?_
   refine wo (Spec.fieldAddrP fd41_2 (chFound x3) rfl (Hs rfl)) ?_
   refine wo (Spec.load ty39 (Hs rfl)) ?_
   obtain ⟨x4, hx4, hm⟩ := bind_some hm
   refine wo (f := Fact.rep [] (x4 : Bool)) (Spec.callE [0] 10 rfl en35 (ref13_Great_c x3.Deal hx4) (HasAll.cons (Has.m (Hs rfl) rfl) HasAll.nil)) ?_
   refine Wn ?_
   refine Lt ?_
   refine CWalk.cond rfl (fun hb => ?_) (fun hb => ?_)
   ·have hm := cond_t hb hm
    refine Cs ?_
    refine Cr ?_
    refine wo (Spec.assign Has.bool) ?_
    refine Wn ?_
    refine Lt ?_
    refine CWalk.ret ?_
    refine Leaf.blockR ?_
    refine Leaf.thenR ?_
    exact Leaf.brk hm (fun h => nomatch h) rfl (st Sub.nil)
   ·have hm := cond_f hb hm
    refine CWalk.skip ?_
    refine Leaf.blockN ?_
    refine Lt ?_
    refine Cr ?_
    refine mv ?_
    refine wo (Spec.addI (Hs rfl) Has.int) ?_
    refine wo (Spec.assign (Hs rfl)) ?_
    refine Wn ?_
    exact Leaf.next hm (su (st Sub.nil))
  ·have hm := cond_f hb hm
   refine CWalk.exit ?_
   refine Leaf.thenE ?_
   exact Leaf.brk hm (fun h => nomatch h) rfl (su Sub.nil)
 ·intro _
  rcases b5 with b6 | b7
  ·have hm := selim_l hm
   refine Leaf.blockE ?_
   refine Lt ?_
   refine Cs ?_
   refine Cr ?_
   refine mv ?_
   refine wo (Spec.len (Hs rfl) Try.underlying43) ?_
   refine wo (Spec.gtrI (Hs rfl) Has.int) ?_
   refine mv ?_
   refine wg rfl rfl (fun hb => Spec.move (Hs rfl)) ?_
   refine wg rfl rfl (fun hb => Spec.len (Has.u rfl hb) Try.underlying43) ?_
   refine wg rfl rfl (fun hb => Spec.leqI (Has.u rfl hb) Has.int) ?_
   refine wo (Spec.and (Hs rfl) (fun h => Has.u rfl h)) ?_
   refine mv ?_
   refine wg rfl rfl (fun hb => Spec.move (Hs rfl)) ?_
   refine wg rfl rfl (fun hb => Spec.len (Has.u rfl hb) Try.underlying43) ?_
   refine wg rfl rfl (fun hb => Spec.gtrI (Has.u rfl hb) Has.int) ?_
   refine wo (Spec.or (Hs rfl) (fun h => Has.u rfl h)) ?_
   refine wo (Spec.assign (Hs rfl)) ?_
   refine Wn ?_
   refine Lt ?_
   refine CWalk.ret ?_
   obtain rfl := Option.some.inj hm
   exact Leaf.retC1 rfl (HasR.cv (HasR.tmp (Hs rfl)) Cv.fl)
  ·have hm := selim_r hm
   refine Leaf.blockR ?_
   refine Leaf.thenR ?_
   obtain rfl := Option.some.inj hm
   exact Leaf.retC1 rfl (HasR.cv (HasR.tmp (Hs rfl)) Cv.fl)

def ref04_Great_L1 (a0 : Disk) (s1 : Int) (s2 : Int) : Option (Ctl (Int × Int) (Int)) :=
  (bif ((decide (s2 < ((a0.Blocks).length : Int))) && (decide (s2 < (400 : Int)))) then Option.bind (idx a0.Blocks s2) (fun x4 => some (Ctl.next ((wI (s1 + (wI ((8 : Int) + (min ((x4).length : Int) (100000 : Int)))))), (wI (s2 + (1 : Int)))))) else some (Ctl.brk s1))
def ref04_Great_L2 (a0 : Disk) (s6 : Int) (s7 : Int) : Option (Ctl (Int × Int) (Int)) :=
  (bif ((decide (s7 < ((a0.Wait).length : Int))) && (decide (s7 < (1200 : Int)))) then Option.bind (idx a0.Wait s7) (fun x9 => some (Ctl.next ((wI (s6 + (wI ((8 : Int) + (min ((x9.Data).length : Int) (100000 : Int)))))), (wI (s7 + (1 : Int)))))) else some (Ctl.brk s6))
/-- freeboard/freeboardref04.Great -/
def ref04_Great (a0 : Disk) : Option (Bool) :=
  Option.bind (loopM (fun s : Int × Int => ref04_Great_L1 a0 s.1 s.2) FUEL ((0 : Int), (0 : Int))) (fun b5 => Option.bind (loopM (fun s : Int × Int => ref04_Great_L2 a0 s.1 s.2) FUEL (b5, (0 : Int))) (fun b10 => some (((decide (((a0.Blocks).length : Int) > (300 : Int))) || (decide (((a0.Wait).length : Int) > (1100 : Int)))) || (decide (b10 > (60000 : Int))))))
theorem ref04_Great_c (a0 : Disk) {r : Bool} (hm : ref04_Great a0 = some r) : Ctr Try.prog 36 [.rep 0 a0] (.fl r) [] := by
 refine ctr_of_walk [[]] 63 Try.func36 rfl rfl rfl rfl (fun w0 om => ?_)
 unfold ref04_Great at hm
 refine CWalk.sub (G' := [.fact 0 (.rep [0] (a0 : Disk))]) (sn Sub.nil) ?_
 refine Cs ?_
 refine Cr ?_
 refine ws (Step.boxObj (ls := [(false, 1, Fact.rep [0] a0.Blocks), (false, 1, Fact.rep [0] a0.Wait), (false, 1, Fact.rep [] a0.Dead)]) 10 rfl rfl rfl rfl (HasL.flds (Has.cv (Hs rfl) (Cv.trans (Cv.opens (chDisk a0)) (Cv.flds (CvL.cons Cv.refl (CvL.cons Cv.refl (Vf CvL.nil)))))))) ?_
 refine wo (Spec.assign Has.bool) ?_
 refine Wn ?_
 refine Lt ?_
 refine Cs ?_
 refine Cr ?_
 refine wo (Spec.assign Has.int) ?_
 refine Wn ?_
 refine Lt ?_
 refine Cs ?_
 refine Cs ?_
 refine Cr ?_
 refine wo (Spec.assign Has.int) ?_
 refine Wn ?_
 refine Lt ?_
 refine CWalk.block ?_
 obtain ⟨b5, hb5, hm⟩ := bind_some hm
 refine CWalk.loop (fun s : Int × Int => [.fact 1 (.isv 10), .fact 3 (.rep [] s.1), .fact 4 (.rep [] s.2), .fact 100011 (.at 11 (.rep [0] a0.Blocks)), .fact 100012 (.at 12 (.rep [0] a0.Wait)), .fact 100013 (.at 13 (.rep [] a0.Dead)), .fact 100010 (.obj 10 [(false, 1), (false, 1), (false, 1)])]) (fun b : Int => (Exit.exit 0, [.fact 1 (.isv 10), .fact 3 (.rep [] (b : Int)), .fact 100011 (.at 11 (.rep [0] a0.Blocks)), .fact 100012 (.at 12 (.rep [0] a0.Wait)), .fact 100013 (.at 13 (.rep [] a0.Dead)), .fact 100010 (.obj 10 [(false, 1), (false, 1), (false, 1)])])) hb5 (sn (st (st (sm (sm (sf (sn Sub.nil))))))) ?_ ?_
 ·rintro ⟨s1, s2⟩ c3 hm
  replace hm : ref04_Great_L1 a0 s1 s2 = some c3 := hm
  unfold ref04_Great_L1 at hm
  show CWalk _ [.fact 1 (.isv 10), .fact 3 (.rep [] (s1 : Int)), .fact 4 (.rep [] (s2 : Int)), .fact 100011 (.at 11 (.rep [0] a0.Blocks)), .fact 100012 (.at 12 (.rep [0] a0.Wait)), .fact 100013 (.at 13 (.rep [] a0.Dead)), .fact 100010 (.obj 10 [(false, 1), (false, 1), (false, 1)])] _ _
  refine Cs ?_
  refine Cs ?_
  refine Cr ?_
  refine mv ?_
  refine wo (Spec.fieldAddrO fd61_0 (Has.cv (Hs rfl) (Cv.isvP rfl))) ?_
  refine wo (Spec.loadF (i := 0) ty36 rfl (Hs rfl) rfl (HasG.s rfl)) ?_
  refine wo (Spec.len (Hs rfl) Try.underlying36) ?_
  refine wo (Spec.lssI (Hs rfl) (Hs rfl)) ?_
  refine mv ?_
  refine wg rfl rfl (fun hb => Spec.move (Hs rfl)) ?_
  refine wg rfl rfl (fun hb => Spec.lssI (Has.u rfl hb) Has.int) ?_
  refine wo (Spec.and (Hs rfl) (fun h => Has.u rfl h)) ?_
  refine Wn ?_
  refine Lt ?_
  refine CWalk.cond rfl (fun hb => ?_) (fun hb => ?_)
  ·have hm := cond_t hb hm
   refine CWalk.skip ?_
   refine Lt ?_
   refine Cs ?_
   refine CWalk.block ?_
   refine Cr ?_
   refine mv ?_
   refine wo (Spec.fieldAddrO fd61_0 (Has.cv (Hs rfl) (Cv.isvP rfl))) ?_
   refine wo (Spec.loadF (i := 0) ty36 rfl (Hs rfl) rfl (HasG.s rfl)) ?_
   refine mv ?_
   obtain ⟨x4, hx4, hm⟩ := bind_some hm
   refine wo (Spec.indexAddr hx4 sl36 (Hs rfl) (Hs rfl)) ?_
   refine wo (Spec.load ty37 (Hs rfl)) ?_
   refine wo (Spec.len (Hs rfl) Try.underlying37) ?_
   refine wo (Spec.minI (Hs rfl) Has.int) ?_
   refine wo (Spec.addI Has.int (Hs rfl)) ?_
   refine wo (Spec.addI (Hs rfl) (Hs rfl)) ?_
   refine wo (Spec.assign (Hs rfl)) ?_
   refine Wn ?_
   refine Leaf.blockN ?_
   refine Lt ?_
   refine Cr ?_
   refine mv ?_
   refine wo (Spec.addI (Hs rfl) Has.int) ?_
   refine wo (Spec.assign (Hs rfl)) ?_
   refine Wn ?_
   exact Leaf.next hm (sn (st (st (sm (sm (sf (sn Sub.nil)))))))
  ·have hm := cond_f hb hm
   refine CWalk.exit ?_
   refine Leaf.thenE ?_
   exact Leaf.brk hm (fun h => nomatch h) rfl (sn (st (sm (sm (sf (sn Sub.nil))))))
 ·intro _
  refine Leaf.blockE ?_
  refine Lt ?_
  refine Cs ?_
  refine Cs ?_
  refine Cr ?_
  refine wo (Spec.assign Has.int) ?_
  refine Wn ?_
  refine Lt ?_
  refine CWalk.block ?_
  obtain ⟨b10, hb10, hm⟩ := bind_some hm
  refine CWalk.loop (fun s : Int × Int => [.fact 1 (.isv 10), .fact 3 (.rep [] s.1), .fact 5 (.rep [] s.2), .fact 100011 (.at 11 (.rep [0] a0.Blocks)), .fact 100012 (.at 12 (.rep [0] a0.Wait)), .fact 100013 (.at 13 (.rep [] a0.Dead)), .fact 100010 (.obj 10 [(false, 1), (false, 1), (false, 1)])]) (fun b : Int => (Exit.exit 2, [.fact 1 (.isv 10), .fact 3 (.rep [] (b : Int)), .fact 100011 (.at 11 (.rep [0] a0.Blocks)), .fact 100012 (.at 12 (.rep [0] a0.Wait)), .fact 100013 (.at 13 (.rep [] a0.Dead)), .fact 100010 (.obj 10 [(false, 1), (false, 1), (false, 1)])])) hb10 (sn (st (st (sm (sm (sf (sn Sub.nil))))))) ?_ ?_
  ·rintro ⟨s6, s7⟩ c8 hm
   replace hm : ref04_Great_L2 a0 s6 s7 = some c8 := hm
   unfold ref04_Great_L2 at hm
   show CWalk _ [.fact 1 (.isv 10), .fact 3 (.rep [] (s6 : Int)), .fact 5 (.rep [] (s7 : Int)), .fact 100011 (.at 11 (.rep [0] a0.Blocks)), .fact 100012 (.at 12 (.rep [0] a0.Wait)), .fact 100013 (.at 13 (.rep [] a0.Dead)), .fact 100010 (.obj 10 [(false, 1), (false, 1), (false, 1)])] _ _
   refine Cs ?_
   refine Cs ?_
   refine Cr ?_
   refine mv ?_
   refine wo (Spec.fieldAddrO fd61_1 (Has.cv (Hs rfl) (Cv.isvP rfl))) ?_
   refine wo (Spec.loadF (i := 1) ty59 rfl (Hs rfl) rfl (HasG.s rfl)) ?_
   refine wo (Spec.len (Hs rfl) Try.underlying59) ?_
   refine wo (Spec.lssI (Hs rfl) (Hs rfl)) ?_
   refine mv ?_
   refine wg rfl rfl (fun hb => Spec.move (Hs rfl)) ?_
   refine wg rfl rfl (fun hb => Spec.lssI (Has.u rfl hb) Has.int) ?_
   refine wo (Spec.and (Hs rfl) (fun h => Has.u rfl h)) ?_
   refine Wn ?_
   refine Lt ?_
   refine CWalk.cond rfl (fun hb => ?_) (fun hb => ?_)
   ·have hm := cond_t hb hm
    refine CWalk.skip ?_
    refine Lt ?_
    refine Cs ?_
    refine CWalk.block ?_
    refine Cr ?_
    refine mv ?_
    refine wo (Spec.fieldAddrO fd61_1 (Has.cv (Hs rfl) (Cv.isvP rfl))) ?_
    refine wo (Spec.loadF (i := 1) ty59 rfl (Hs rfl) rfl (HasG.s rfl)) ?_
    refine mv ?_
    obtain ⟨x9, hx9, hm⟩ := bind_some hm
    refine wo (Spec.indexAddr hx9 sl59 (Hs rfl) (Hs rfl)) ?_
    refine wo (Spec.fieldAddrP fd86_1 (chWrite x9) rfl (Hs rfl)) ?_
    refine wo (Spec.load ty37 (Hs rfl)) ?_
    refine wo (Spec.len (Hs rfl) Try.underlying37) ?_
    refine wo (Spec.minI (Hs rfl) Has.int) ?_
    refine wo (Spec.addI Has.int (Hs rfl)) ?_
    refine wo (Spec.addI (Hs rfl) (Hs rfl)) ?_
    refine wo (Spec.assign (Hs rfl)) ?_
    refine Wn ?_
    refine Leaf.blockN ?_
    refine Lt ?_
    refine Cr ?_
    refine mv ?_
    refine wo (Spec.addI (Hs rfl) Has.int) ?_
    refine wo (Spec.assign (Hs rfl)) ?_
    refine Wn ?_
    exact Leaf.next hm (sn (st (st (sm (sm (sf (sn Sub.nil)))))))
   ·have hm := cond_f hb hm
    refine CWalk.exit ?_
    refine Leaf.thenE ?_
    exact Leaf.brk hm (fun h => nomatch h) rfl (sn (st (sm (sm (sf (sn Sub.nil))))))
  ·intro _
   refine Leaf.blockE ?_
   refine Lt ?_
   refine Cs ?_
   refine Cr ?_
   refine wo (Spec.fieldAddrO fd61_0 (Has.cv (Hs rfl) (Cv.isvP rfl))) ?_
   refine wo (Spec.loadF (i := 0) ty36 rfl (Hs rfl) rfl (HasG.s rfl)) ?_
   refine wo (Spec.len (Hs rfl) Try.underlying36) ?_
   refine wo (Spec.gtrI (Hs rfl) Has.int) ?_
   refine mv ?_
   refine wg rfl rfl (fun hb => Spec.fieldAddrO fd61_1 (Has.cv (Hs rfl) (Cv.isvP rfl))) ?_
   refine wg rfl rfl (fun hb => Spec.loadF (i := 1) ty59 rfl (Has.u rfl hb) rfl (HasG.s rfl)) ?_
   refine wg rfl rfl (fun hb => Spec.len (Has.u rfl hb) Try.underlying59) ?_
   refine wg rfl rfl (fun hb => Spec.gtrI (Has.u rfl hb) Has.int) ?_
   refine wo (Spec.or (Hs rfl) (fun h => Has.u rfl h)) ?_
   refine mv ?_
   refine wg rfl rfl (fun hb => Spec.move (Hs rfl)) ?_
   refine wg rfl rfl (fun hb => Spec.gtrI (Has.u rfl hb) Has.int) ?_
   refine wo (Spec.or (Hs rfl) (fun h => Has.u rfl h)) ?_
   refine wo (Spec.assign (Hs rfl)) ?_
   refine Wn ?_
   refine Lt ?_
   refine CWalk.ret ?_
   obtain rfl := Option.some.inj hm
   exact Leaf.retC1 rfl (HasR.cv (HasR.tmp (Hs rfl)) Cv.fl)

def ref05_Great_L2 (a0 : List Disk) (s2 : Int) (s6 : Int) (s7 : Int) : Option (Ctl (Int × Int) (Int)) :=
  Option.bind (idx a0 s2) (fun x9 => (bif (decide (s7 < ((x9.Blocks).length : Int))) then Option.bind (idx a0 s2) (fun x10 => Option.bind (idx x10.Blocks s7) (fun x11 => some (Ctl.next ((wI (s6 + (wI ((8 : Int) + ((x11).length : Int))))), (wI (s7 + (1 : Int))))))) else some (Ctl.brk s6)))
def ref05_Great_L3 (a0 : List Disk) (s2 : Int) (s13 : Int) (s14 : Int) : Option (Ctl (Int × Int) (Int)) :=
  Option.bind (idx a0 s2) (fun x16 => (bif (decide (s14 < ((x16.Wait).length : Int))) then Option.bind (idx a0 s2) (fun x17 => Option.bind (idx x17.Wait s14) (fun x18 => some (Ctl.next ((wI (s13 + (wI ((8 : Int) + ((x18.Data).length : Int))))), (wI (s14 + (1 : Int))))))) else some (Ctl.brk s13)))
def ref05_Great_L1 (a0 : List Disk) (s1 : Int) (s2 : Int) : Option (Ctl (Int × Int) ((Unit) ⊕ (Unit))) :=
  (bif ((decide (s2 < ((a0).length : Int))) && (decide (s2 < (30 : Int)))) then Option.bind (idx a0 s2) (fun x4 => Option.bind (ref04_Great x4) (fun x5 => (bif x5 then some (Ctl.brk (Sum.inr ())) else Option.bind (loopM (fun s : Int × Int => ref05_Great_L2 a0 s2 s.1 s.2) FUEL (s1, (0 : Int))) (fun b12 => Option.bind (loopM (fun s : Int × Int => ref05_Great_L3 a0 s2 s.1 s.2) FUEL (b12, (0 : Int))) (fun b19 => (bif (decide (b19 > (60000 : Int))) then some (Ctl.brk (Sum.inr ())) else some (Ctl.next (b19, (wI (s2 + (1 : Int))))))))))) else some (Ctl.brk (Sum.inl ())))
/-- freeboard/freeboardref05.Great -/
def ref05_Great (a0 : List Disk) : Option (Bool) :=
  Option.bind (loopM (fun s : Int × Int => ref05_Great_L1 a0 s.1 s.2) FUEL ((0 : Int), (0 : Int))) (fun b20 => Sum.elim (fun b21 => some (decide (((a0).length : Int) > (30 : Int)))) (fun b22 => some true) b20)
theorem ref05_Great_c (a0 : List Disk) {r : Bool} (hm : ref05_Great a0 = some r) : Ctr Try.prog 15 [.rep 0 a0] (.fl r) [] := by
 refine ctr_of_walk [[]] 72 Try.func15 rfl rfl rfl rfl (fun w0 om => ?_)
 unfold ref05_Great at hm
 refine CWalk.sub (G' := [.fact 0 (.rep [0] (a0 : List Disk))]) (sn Sub.nil) ?_
 refine Cs ?_
 refine Cr ?_
 refine wo (Spec.assign Has.bool) ?_
 refine Wn ?_
 refine Lt ?_
 refine Cs ?_
 refine Cr ?_
 refine wo (Spec.assign Has.int) ?_
 refine Wn ?_
 refine Lt ?_
 refine Cs ?_
 refine Cs ?_
 refine Cr ?_
 refine wo (Spec.assign Has.int) ?_
 refine Wn ?_
 refine Lt ?_
 refine CWalk.block ?_
 obtain ⟨b20, hb20, hm⟩ := bind_some hm
 refine CWalk.loop (fun s : Int × Int => [.fact 0 (.rep [0] (a0 : List Disk)), .fact 3 (.rep [] s.1), .fact 4 (.rep [] s.2)]) (fun b : (Unit) ⊕ (Unit) => Sum.elim (fun b => (Exit.exit 0, [.fact 0 (.rep [0] (a0 : List Disk))])) (fun b => (Exit.ret, [.fact 2 (.rep [] (true : Bool))])) b) hb20 (su (st (st Sub.nil))) ?_ ?_
 ·rintro ⟨s1, s2⟩ c3 hm
  replace hm : ref05_Great_L1 a0 s1 s2 = some c3 := hm
  unfold ref05_Great_L1 at hm
  show CWalk _ [.fact 0 (.rep [0] (a0 : List Disk)), .fact 3 (.rep [] (s1 : Int)), .fact 4 (.rep [] (s2 : Int))] _ _
  refine Cs ?_
  refine Cs ?_
  refine Cr ?_
  refine mv ?_
  refine mv ?_
  refine wo (Spec.len (Hs rfl) Try.underlying49) ?_
  refine wo (Spec.lssI (Hs rfl) (Hs rfl)) ?_
  refine mv ?_
  refine wg rfl rfl (fun hb => Spec.move (Hs rfl)) ?_
  refine wg rfl rfl (fun hb => Spec.lssI (Has.u rfl hb) Has.int) ?_
  refine wo (Spec.and (Hs rfl) (fun h => Has.u rfl h)) ?_
  refine Wn ?_
  refine Lt ?_
  refine CWalk.cond rfl (fun hb => ?_) (fun hb => ?_)
  ·have hm := cond_t hb hm
   refine CWalk.skip ?_
   refine Lt ?_
   refine Cs ?_
   refine CWalk.block ?_
   refine Cs ?_
   refine Cs ?_
   refine Cr ?_
   refine mv ?_
   refine mv ?_
   obtain ⟨x4, hx4, hm⟩ := bind_some hm
   refine wo (Spec.indexAddr hx4 sl49 (Hs rfl) (Hs rfl)) ?_
   refine wo (Spec.load ty61 (Hs rfl)) ?_
   obtain ⟨x5, hx5, hm⟩ := bind_some hm
   refine wo (f := Fact.rep [] (x5 : Bool)) (Spec.callE [0] 10 rfl en36 (ref04_Great_c x4 hx5) (HasAll.cons (Has.m (Hs rfl) rfl) HasAll.nil)) ?_
   refine Wn ?_
   refine Lt ?_
   refine CWalk.cond rfl (fun hb => ?_) (fun hb => ?_)
   ·have hm := cond_t hb hm
    refine Cs ?_
    refine Cr ?_
    refine wo (Spec.assign Has.bool) ?_
    refine Wn ?_
    refine Lt ?_
    refine CWalk.ret ?_
    refine Leaf.thenR ?_
    refine Leaf.blockR ?_
    refine Leaf.thenR ?_
    exact Leaf.brk hm (fun h => nomatch h) rfl (st Sub.nil)
   ·have hm := cond_f hb hm
    refine CWalk.skip ?_
    refine Lt ?_
    refine Cs ?_
    refine Cs ?_
    refine Cr ?_
    refine wo (Spec.assign Has.int) ?_
    refine Wn ?_
    refine Lt ?_
    refine CWalk.block ?_
    obtain ⟨b12, hb12, hm⟩ := bind_some hm
    refine CWalk.loop (fun s : Int × Int => [.fact 0 (.rep [0] (a0 : List Disk)), .fact 3 (.rep [] s.1), .fact 4 (.rep [] (s2 : Int)), .fact 5 (.rep [] s.2)]) (fun b : Int => (Exit.exit 2, [.fact 0 (.rep [0] (a0 : List Disk)), .fact 3 (.rep [] (b : Int)), .fact 4 (.rep [] (s2 : Int))])) hb12 (su (st (st (st Sub.nil)))) ?_ ?_
    ·rintro ⟨s6, s7⟩ c8 hm
     replace hm : ref05_Great_L2 a0 s2 s6 s7 = some c8 := hm
     unfold ref05_Great_L2 at hm
     show CWalk _ [.fact 0 (.rep [0] (a0 : List Disk)), .fact 3 (.rep [] (s6 : Int)), .fact 4 (.rep [] (s2 : Int)), .fact 5 (.rep [] (s7 : Int))] _ _
     refine Cs ?_
     refine Cs ?_
     refine Cr ?_
     refine mv ?_
     refine mv ?_
     refine mv ?_
     obtain ⟨x9, hx9, hm⟩ := bind_some hm
     refine wo (Spec.indexAddr hx9 sl49 (Hs rfl) (Hs rfl)) ?_
     refine wo (Spec.fieldAddrP fd61_0 (chDisk x9) rfl (Hs rfl)) ?_
     refine wo (Spec.load ty36 (Hs rfl)) ?_
     refine wo (Spec.len (Hs rfl) Try.underlying36) ?_
     refine wo (Spec.lssI (Hs rfl) (Hs rfl)) ?_
     refine Wn ?_
     refine Lt ?_
     refine CWalk.cond rfl (fun hb => ?_) (fun hb => ?_)
     ·have hm := cond_t hb hm
      refine CWalk.skip ?_
      refine Lt ?_
      refine Cs ?_
      refine CWalk.block ?_
      refine Cr ?_
      refine mv ?_
      refine mv ?_
      refine mv ?_
      obtain ⟨x10, hx10, hm⟩ := bind_some hm
      refine wo (Spec.indexAddr hx10 sl49 (Hs rfl) (Hs rfl)) ?_
      refine wo (Spec.fieldAddrP fd61_0 (chDisk x10) rfl (Hs rfl)) ?_
      refine wo (Spec.load ty36 (Hs rfl)) ?_
      refine mv ?_
      obtain ⟨x11, hx11, hm⟩ := bind_some hm
      refine wo (Spec.indexAddr hx11 sl36 (Hs rfl) (Hs rfl)) ?_
      refine wo (Spec.load ty37 (Hs rfl)) ?_
      refine wo (Spec.len (Hs rfl) Try.underlying37) ?_
      refine wo (Spec.addI Has.int (Hs rfl)) ?_
      refine wo (Spec.addI (Hs rfl) (Hs rfl)) ?_
      refine wo (Spec.assign (Hs rfl)) ?_
      refine Wn ?_
      refine Leaf.blockN ?_
      refine Lt ?_
      refine Cr ?_
      refine mv ?_
      refine wo (Spec.addI (Hs rfl) Has.int) ?_
      refine wo (Spec.assign (Hs rfl)) ?_
      refine Wn ?_
      exact Leaf.next hm (su (st (st (st Sub.nil))))
     ·have hm := cond_f hb hm
      refine CWalk.exit ?_
      refine Leaf.thenE ?_
      exact Leaf.brk hm (fun h => nomatch h) rfl (su (st (st Sub.nil)))
    ·intro _
     refine Leaf.blockE ?_
     refine Lt ?_
     refine Cs ?_
     refine Cs ?_
     refine Cr ?_
     refine wo (Spec.assign Has.int) ?_
     refine Wn ?_
     refine Lt ?_
     refine CWalk.block ?_
     obtain ⟨b19, hb19, hm⟩ := bind_some hm
     refine CWalk.loop (fun s : Int × Int => [.fact 0 (.rep [0] (a0 : List Disk)), .fact 3 (.rep [] s.1), .fact 4 (.rep [] (s2 : Int)), .fact 6 (.rep [] s.2)]) (fun b : Int => (Exit.exit 4, [.fact 0 (.rep [0] (a0 : List Disk)), .fact 3 (.rep [] (b : Int)), .fact 4 (.rep [] (s2 : Int))])) hb19 (su (st (st (st Sub.nil)))) ?_ ?_
     ·rintro ⟨s13, s14⟩ c15 hm
      replace hm : ref05_Great_L3 a0 s2 s13 s14 = some c15 := hm
      unfold ref05_Great_L3 at hm
      show CWalk _ [.fact 0 (.rep [0] (a0 : List Disk)), .fact 3 (.rep [] (s13 : Int)), .fact 4 (.rep [] (s2 : Int)), .fact 6 (.rep [] (s14 : Int))] _ _
      refine Cs ?_
      refine Cs ?_
      refine Cr ?_
      refine mv ?_
      refine mv ?_
      refine mv ?_
      obtain ⟨x16, hx16, hm⟩ := bind_some hm
      refine wo (Spec.indexAddr hx16 sl49 (Hs rfl) (Hs rfl)) ?_
      refine wo (Spec.fieldAddrP fd61_1 (chDisk x16) rfl (Hs rfl)) ?_
      refine wo (Spec.load ty59 (Hs rfl)) ?_
      refine wo (Spec.len (Hs rfl) Try.underlying59) ?_
      refine wo (Spec.lssI (Hs rfl) (Hs rfl)) ?_
      refine Wn ?_
      refine Lt ?_
      refine CWalk.cond rfl (fun hb => ?_) (fun hb => ?_)
      ·have hm := cond_t hb hm
       refine CWalk.skip ?_
       refine Lt ?_
       refine Cs ?_
       refine CWalk.block ?_
       refine Cr ?_
       refine mv ?_
       refine mv ?_
       refine mv ?_
       obtain ⟨x17, hx17, hm⟩ := bind_some hm
       refine wo (Spec.indexAddr hx17 sl49 (Hs rfl) (Hs rfl)) ?_
       refine wo (Spec.fieldAddrP fd61_1 (chDisk x17) rfl (Hs rfl)) ?_
       refine wo (Spec.load ty59 (Hs rfl)) ?_
       refine mv ?_
       obtain ⟨x18, hx18, hm⟩ := bind_some hm
       refine wo (Spec.indexAddr hx18 sl59 (Hs rfl) (Hs rfl)) ?_
       refine wo (Spec.fieldAddrP fd86_1 (chWrite x18) rfl (Hs rfl)) ?_
       refine wo (Spec.load ty37 (Hs rfl)) ?_
       refine wo (Spec.len (Hs rfl) Try.underlying37) ?_
       refine wo (Spec.addI Has.int (Hs rfl)) ?_
       refine wo (Spec.addI (Hs rfl) (Hs rfl)) ?_
       refine wo (Spec.assign (Hs rfl)) ?_
       refine Wn ?_
       refine Leaf.blockN ?_
       refine Lt ?_
       refine Cr ?_
       refine mv ?_
       refine wo (Spec.addI (Hs rfl) Has.int) ?_
       refine wo (Spec.assign (Hs rfl)) ?_
       refine Wn ?_
       exact Leaf.next hm (su (st (st (st Sub.nil))))
      ·have hm := cond_f hb hm
       refine CWalk.exit ?_
       refine Leaf.thenE ?_
       exact Leaf.brk hm (fun h => nomatch h) rfl (su (st (st Sub.nil)))
     ·intro _
      refine Leaf.blockE ?_
      refine Lt ?_
      refine Cs ?_
      refine Cr ?_
      refine mv ?_
      refine wo (Spec.gtrI (Hs rfl) Has.int) ?_
      refine Wn ?_
      refine Lt ?_
      refine CWalk.cond rfl (fun hb => ?_) (fun hb => ?_)
      ·have hm := cond_t hb hm
       refine Cs ?_
       refine Cr ?_
       refine wo (Spec.assign Has.bool) ?_
       refine Wn ?_
       refine Lt ?_
       refine CWalk.ret ?_
       refine Leaf.blockR ?_
       refine Leaf.thenR ?_
       exact Leaf.brk hm (fun h => nomatch h) rfl (st Sub.nil)
      ·have hm := cond_f hb hm
       refine CWalk.skip ?_
       refine Leaf.blockN ?_
       refine Lt ?_
       refine Cr ?_
       refine mv ?_
       refine wo (Spec.addI (Hs rfl) Has.int) ?_
       refine wo (Spec.assign (Hs rfl)) ?_
       refine Wn ?_
       exact Leaf.next hm (su (st (st Sub.nil)))
  ·have hm := cond_f hb hm
   refine CWalk.exit ?_
   refine Leaf.thenE ?_
   exact Leaf.brk hm (fun h => nomatch h) rfl (su Sub.nil)
 ·intro _
  rcases b20 with b21 | b22
  ·have hm := selim_l hm
   refine Leaf.blockE ?_
   refine Lt ?_
   refine Cs ?_
   refine Cr ?_
   refine mv ?_
   refine wo (Spec.len (Hs rfl) Try.underlying49) ?_
   refine wo (Spec.gtrI (Hs rfl) Has.int) ?_
   refine wo (Spec.assign (Hs rfl)) ?_
   refine Wn ?_
   refine Lt ?_
   refine CWalk.ret ?_
   obtain rfl := Option.some.inj hm
   exact Leaf.retC1 rfl (HasR.cv (HasR.tmp (Hs rfl)) Cv.fl)
  ·have hm := selim_r hm
   refine Leaf.blockR ?_
   refine Leaf.thenR ?_
   obtain rfl := Option.some.inj hm
   exact Leaf.retC1 rfl (HasR.cv (HasR.tmp (Hs rfl)) Cv.fl)

/-- freeboard/shape.Member -/
def shape_Member (a0 : Config) : Option (Int × Int) :=
  Option.bind (shape_told a0 (wI ((wI (a0.Chunk * a0.Rows)) + (1 : Int)))) (fun x1 => some (x1.1, x1.2))
theorem shape_Member_c (a0 : Config) {r : Int × Int} (hm : shape_Member a0 = some r) : Ctr Try.prog 37 [.rep 0 a0] (.tup2 (.fl r.1) (.fl r.2)) [] := by
 refine ctr_of_walk [[]] 14 Try.func37 rfl rfl rfl rfl (fun w0 om => ?_)
 unfold shape_Member at hm
 refine CWalk.sub (G' := [.fact 0 (.rep [] (a0 : Config))]) (Sub.cons (Has.fl (Hs rfl)) Sub.nil) ?_
 refine Cs ?_
 refine Cr ?_
 refine ws (Step.boxObj (ls := [(false, 1, Fact.rep [] a0.Id), (false, 1, Fact.rep [] a0.Members), (false, 1, Fact.rep [] a0.Chunk), (false, 1, Fact.rep [] a0.Rows), (false, 1, Fact.rep [] a0.Log), (false, 1, Fact.rep [] a0.Heads)]) 10 rfl rfl rfl rfl (HasL.flds (Has.cv (Hs rfl) (Cv.trans (Cv.opens (chConfig a0)) (Cv.flds (Vf (Vf (Vf (Vf (Vf (Vf CvL.nil))))))))))) ?_
 refine wo (Spec.assign Has.int) ?_
 refine wo (Spec.assign Has.int) ?_
 refine Wn ?_
 refine Lt ?_
 refine Cs ?_
 refine Cr ?_
 refine wo (Spec.loadObj (ls := [(false, 1, Fact.rep [] a0.Id), (false, 1, Fact.rep [] a0.Members), (false, 1, Fact.rep [] a0.Chunk), (false, 1, Fact.rep [] a0.Rows), (false, 1, Fact.rep [] a0.Log), (false, 1, Fact.rep [] a0.Heads)]) ty30 rfl rfl (Hs rfl) rfl (Gz rfl (Gz rfl (Gz rfl (Gz rfl (Gz rfl (Gz rfl HasGs.nil))))))) ?_
 refine wo (Spec.fieldAddrO fd30_2 (Has.cv (Hs rfl) (Cv.isvP rfl))) ?_
 refine wo (Spec.loadF (i := 2) ty3 rfl (Hs rfl) rfl (HasG.s rfl)) ?_
 refine wo (Spec.fieldAddrO fd30_3 (Has.cv (Hs rfl) (Cv.isvP rfl))) ?_
 refine wo (Spec.loadF (i := 3) ty3 rfl (Hs rfl) rfl (HasG.s rfl)) ?_
 refine wo (Spec.mulI (Hs rfl) (Hs rfl)) ?_
 refine wo (Spec.addI (Hs rfl) Has.int) ?_
 obtain ⟨x1, hx1, hm⟩ := bind_some hm
 refine wo (f := Fact.tup2 (Fact.rep [] x1.1) (Fact.rep [] x1.2)) (Spec.callE [] 17 rfl en65 (shape_told_c a0 (wI ((wI (a0.Chunk * a0.Rows)) + (1 : Int))) hx1) (HasAll.cons (Has.fl (Has.cv (Hs rfl) (Cv.trans (Cv.flds (Vf (Vf (Vf (Vf (Vf (Vf CvL.nil))))))) (Cv.close (T := []) (chConfig a0))))) (HasAll.cons (Has.fl (Hs rfl)) HasAll.nil))) ?_
 refine wo (Spec.ext0 (Hs rfl)) ?_
 refine wo (Spec.ext1 (Hs rfl)) ?_
 refine wo (Spec.assign (Hs rfl)) ?_
 refine wo (Spec.assign (Hs rfl)) ?_
 refine Wn ?_
 refine Lt ?_
 refine CWalk.ret ?_
 obtain rfl := Option.some.inj hm
 exact Leaf.retC2 rfl (HasR.cv (HasR.tmp (Hs rfl)) Cv.fl) (HasR.cv (HasR.tmp (Hs rfl)) Cv.fl)

/-- freeboard/shape.Journal -/
def shape_Journal (a0 : Config) : Option (Int × Int) :=
  Option.bind (shape_told a0 (wI (a0.Log + (1 : Int)))) (fun x1 => some (x1.1, x1.2))
theorem shape_Journal_c (a0 : Config) {r : Int × Int} (hm : shape_Journal a0 = some r) : Ctr Try.prog 38 [.rep 0 a0] (.tup2 (.fl r.1) (.fl r.2)) [] := by
 refine ctr_of_walk [[]] 11 Try.func38 rfl rfl rfl rfl (fun w0 om => ?_)
 unfold shape_Journal at hm
 refine CWalk.sub (G' := [.fact 0 (.rep [] (a0 : Config))]) (Sub.cons (Has.fl (Hs rfl)) Sub.nil) ?_
 refine Cs ?_
 refine Cr ?_
 refine ws (Step.boxObj (ls := [(false, 1, Fact.rep [] a0.Id), (false, 1, Fact.rep [] a0.Members), (false, 1, Fact.rep [] a0.Chunk), (false, 1, Fact.rep [] a0.Rows), (false, 1, Fact.rep [] a0.Log), (false, 1, Fact.rep [] a0.Heads)]) 10 rfl rfl rfl rfl (HasL.flds (Has.cv (Hs rfl) (Cv.trans (Cv.opens (chConfig a0)) (Cv.flds (Vf (Vf (Vf (Vf (Vf (Vf CvL.nil))))))))))) ?_
 refine wo (Spec.assign Has.int) ?_
 refine wo (Spec.assign Has.int) ?_
 refine Wn ?_
 refine Lt ?_
 refine Cs ?_
 refine Cr ?_
 refine wo (Spec.loadObj (ls := [(false, 1, Fact.rep [] a0.Id), (false, 1, Fact.rep [] a0.Members), (false, 1, Fact.rep [] a0.Chunk), (false, 1, Fact.rep [] a0.Rows), (false, 1, Fact.rep [] a0.Log), (false, 1, Fact.rep [] a0.Heads)]) ty30 rfl rfl (Hs rfl) rfl (Gz rfl (Gz rfl (Gz rfl (Gz rfl (Gz rfl (Gz rfl HasGs.nil))))))) ?_
 refine wo (Spec.fieldAddrO fd30_4 (Has.cv (Hs rfl) (Cv.isvP rfl))) ?_
 refine wo (Spec.loadF (i := 4) ty3 rfl (Hs rfl) rfl (HasG.s rfl)) ?_
 refine wo (Spec.addI (Hs rfl) Has.int) ?_
 obtain ⟨x1, hx1, hm⟩ := bind_some hm
 refine wo (f := Fact.tup2 (Fact.rep [] x1.1) (Fact.rep [] x1.2)) (Spec.callE [] 17 rfl en65 (shape_told_c a0 (wI (a0.Log + (1 : Int))) hx1) (HasAll.cons (Has.fl (Has.cv (Hs rfl) (Cv.trans (Cv.flds (Vf (Vf (Vf (Vf (Vf (Vf CvL.nil))))))) (Cv.close (T := []) (chConfig a0))))) (HasAll.cons (Has.fl (Hs rfl)) HasAll.nil))) ?_
 refine wo (Spec.ext0 (Hs rfl)) ?_
 refine wo (Spec.ext1 (Hs rfl)) ?_
 refine wo (Spec.assign (Hs rfl)) ?_
 refine wo (Spec.assign (Hs rfl)) ?_
 refine Wn ?_
 refine Lt ?_
 refine CWalk.ret ?_
 obtain rfl := Option.some.inj hm
 exact Leaf.retC2 rfl (HasR.cv (HasR.tmp (Hs rfl)) Cv.fl) (HasR.cv (HasR.tmp (Hs rfl)) Cv.fl)

/-- freeboard/disk.odd -/
def disk_odd (a0 : List UInt8) : Option (Bool) :=
  some ((((a0).length : Int) != (0 : Int)) && (((a0).length : Int) != (128 : Int)))
theorem disk_odd_c (a0 : List UInt8) {r : Bool} (hm : disk_odd a0 = some r) : Ctr Try.prog 66 [.rep 0 a0] (.fl r) [] := by
 refine ctr_of_walk [[]] 11 Try.func66 rfl rfl rfl rfl (fun w0 om => ?_)
 unfold disk_odd at hm
 refine CWalk.sub (G' := [.fact 0 (.rep [0] (a0 : List UInt8))]) (sn Sub.nil) ?_
 refine Cs ?_
 refine Cr ?_
 refine wo (Spec.assign Has.bool) ?_
 refine Wn ?_
 refine Lt ?_
 refine Cs ?_
 refine Cr ?_
 refine mv ?_
 refine wo (Spec.len (Hs rfl) Try.underlying37) ?_
 refine wo (Spec.neqI (Hs rfl) Has.int) ?_
 refine mv ?_
 refine wg rfl rfl (fun hb => Spec.move (Hs rfl)) ?_
 refine wg rfl rfl (fun hb => Spec.len (Has.u rfl hb) Try.underlying37) ?_
 refine wg rfl rfl (fun hb => Spec.neqI (Has.u rfl hb) Has.int) ?_
 refine wo (Spec.and (Hs rfl) (fun h => Has.u rfl h)) ?_
 refine wo (Spec.assign (Hs rfl)) ?_
 refine Wn ?_
 refine Lt ?_
 refine CWalk.ret ?_
 obtain rfl := Option.some.inj hm
 exact Leaf.retC1 rfl (HasR.cv (HasR.tmp (Hs rfl)) Cv.fl)

def slices_IndexFunc_api_Write_api_Write_L1 (a0 : List Write) (a1 : Write → Option Bool) (s1 : Int) : Option (Ctl (Int) ((Unit) ⊕ (Int))) :=
  (bif (decide (s1 < ((a0).length : Int))) then Option.bind (idx a0 s1) (fun x3 => Option.bind (a1 x3) (fun x4 => (bif x4 then some (Ctl.brk (Sum.inr s1)) else some (Ctl.next (wI (s1 + (1 : Int))))))) else some (Ctl.brk (Sum.inl ())))
/-- slices.IndexFunc[[]freeboard/api.Write,freeboard/api.Write] -/
def slices_IndexFunc_api_Write_api_Write (a0 : List Write) (a1 : Write → Option Bool) : Option (Int) :=
  Option.bind (loopM (fun s : Int => slices_IndexFunc_api_Write_api_Write_L1 a0 a1 s) FUEL (0 : Int)) (fun b5 => Sum.elim (fun b6 => some (-1 : Int)) (fun b7 => some b7) b5)
theorem slices_IndexFunc_api_Write_api_Write_c (a0 : List Write) (a1 : Write → Option Bool) {r : Int} (hm : slices_IndexFunc_api_Write_api_Write a0 a1 = some r) : Ctr Try.prog 94 [.rep 0 a0, .fn Try.prog pre1 0 a1] (.fl r) [] := by
 refine ctr_of_walk [[]] 19 Try.func94 rfl rfl rfl rfl (fun w0 om => ?_)
 unfold slices_IndexFunc_api_Write_api_Write at hm
 refine CWalk.sub (G' := [.fact 0 (.rep [0] (a0 : List Write)), .fact 1 (.fn Try.prog pre1 [0] (a1))]) (sn (sn Sub.nil)) ?_
 refine Cs ?_
 refine Cr ?_
 refine wo (Spec.assign Has.int) ?_
 refine Wn ?_
 refine Lt ?_
 refine Cs ?_
 refine Cs ?_
 refine Cr ?_
 refine mv ?_
 refine wo (Spec.len (Hs rfl) Try.underlying59) ?_
 refine wo (Spec.move Has.int) ?_
 refine Wn ?_
 refine Lt ?_
 refine CWalk.block ?_
 obtain ⟨b5, hb5, hm⟩ := bind_some hm
 refine CWalk.loop (fun s : Int => [.fact 0 (.rep [0] (a0 : List Write)), .fact 1 (.fn Try.prog pre1 [0] (a1)), .fact 7 (.rep [] (((a0).length : Int) : Int)), .fact 8 (.rep [] (s : Int))]) (fun b : (Unit) ⊕ (Int) => Sum.elim (fun b => (Exit.exit 0, [])) (fun b => (Exit.ret, [.fact 4 (.rep [] (b : Int))])) b) hb5 (su (sn (st (st Sub.nil)))) ?_ ?_
 ·rintro s1 c2 hm
  replace hm : slices_IndexFunc_api_Write_api_Write_L1 a0 a1 s1 = some c2 := hm
  unfold slices_IndexFunc_api_Write_api_Write_L1 at hm
  show CWalk _ [.fact 0 (.rep [0] (a0 : List Write)), .fact 1 (.fn Try.prog pre1 [0] (a1)), .fact 7 (.rep [] (((a0).length : Int) : Int)), .fact 8 (.rep [] (s1 : Int))] _ _
  refine Cs ?_
  refine Cr ?_
  refine wo (Spec.lssI (Hs rfl) (Hs rfl)) ?_
  refine Wn ?_
  refine Lt ?_
  refine Cs ?_
  refine CWalk.cond rfl (fun hb => ?_) (fun hb => ?_)
  ·have hm := cond_t hb hm
   refine CWalk.skip ?_
   refine Lt ?_
   refine Cs ?_
   refine CWalk.block ?_
   refine Cs ?_
   refine Cr ?_
   refine mv ?_
   refine wo (Spec.assign (Hs rfl)) ?_
   refine Wn ?_
   refine Lt ?_
   refine Cs ?_
   refine Cr ?_
   refine mv ?_
   refine mv ?_
   refine mv ?_
   obtain ⟨x3, hx3, hm⟩ := bind_some hm
   refine wo (Spec.indexAddr hx3 sl59 (Hs rfl) (Hs rfl)) ?_
   refine wo (Spec.load ty86 (Hs rfl)) ?_
   obtain ⟨x4, hx4, hm⟩ := bind_some hm
   refine wo (Spec.callFn (xs := [.tmp 15]) (x := x3) [0] 10 rfl hx4 (Hs rfl) (HasAll.cons (Has.m (Hs rfl) rfl) HasAll.nil)) ?_
   refine Wn ?_
   refine Lt ?_
   refine CWalk.cond rfl (fun hb => ?_) (fun hb => ?_)
   ·have hm := cond_t hb hm
    refine Cs ?_
    refine Cr ?_
    refine mv ?_
    refine wo (Spec.assign (Hs rfl)) ?_
    refine Wn ?_
    refine Lt ?_
    refine CWalk.ret ?_
    refine Leaf.blockR ?_
    refine Leaf.thenR ?_
    exact Leaf.brk hm (fun h => nomatch h) rfl (st Sub.nil)
   ·have hm := cond_f hb hm
    refine CWalk.skip ?_
    refine Leaf.blockN ?_
    refine Lt ?_
    refine Cr ?_
    refine wo (Spec.addI (Hs rfl) Has.int) ?_
    refine mv ?_
    refine Wn ?_
    exact Leaf.next hm (su (sn (st (st Sub.nil))))
  ·have hm := cond_f hb hm
   refine CWalk.exit ?_
   refine Leaf.thenE ?_
   exact Leaf.brk hm (fun h => nomatch h) rfl (Sub.nil)
 ·intro _
  rcases b5 with b6 | b7
  ·have hm := selim_l hm
   refine Leaf.blockE ?_
   refine Lt ?_
   refine Cs ?_
   refine Cr ?_
   refine wo (Spec.assign Has.int) ?_
   refine Wn ?_
   refine Lt ?_
   refine CWalk.ret ?_
   obtain rfl := Option.some.inj hm
   exact Leaf.retC1 rfl (HasR.cv (HasR.tmp (Hs rfl)) Cv.fl)
  ·have hm := selim_r hm
   refine Leaf.blockR ?_
   refine Leaf.thenR ?_
   obtain rfl := Option.some.inj hm
   exact Leaf.retC1 rfl (HasR.cv (HasR.tmp (Hs rfl)) Cv.fl)

/-- slices.ContainsFunc[[]freeboard/api.Write,freeboard/api.Write] -/
def slices_ContainsFunc_api_Write_api_Write (a0 : List Write) (a1 : Write → Option Bool) : Option (Bool) :=
  Option.bind (slices_IndexFunc_api_Write_api_Write a0 a1) (fun x1 => some (decide (x1 ≥ (0 : Int))))
theorem slices_ContainsFunc_api_Write_api_Write_c (a0 : List Write) (a1 : Write → Option Bool) {r : Bool} (hm : slices_ContainsFunc_api_Write_api_Write a0 a1 = some r) : Ctr Try.prog 67 [.rep 0 a0, .fn Try.prog pre1 0 a1] (.fl r) [] := by
 refine ctr_of_walk [[]] 9 Try.func67 rfl rfl rfl rfl (fun w0 om => ?_)
 unfold slices_ContainsFunc_api_Write_api_Write at hm
 refine CWalk.sub (G' := [.fact 0 (.rep [0] (a0 : List Write)), .fact 1 (.fn Try.prog pre1 [0] (a1))]) (sn (sn Sub.nil)) ?_
 refine Cs ?_
 refine Cr ?_
 refine wo (Spec.assign Has.bool) ?_
 refine Wn ?_
 refine Lt ?_
 refine Cs ?_
 refine Cr ?_
 refine mv ?_
 refine mv ?_
 obtain ⟨x1, hx1, hm⟩ := bind_some hm
 refine wo (f := Fact.rep [] (x1 : Int)) (Spec.callE [0] 10 rfl en94 (slices_IndexFunc_api_Write_api_Write_c a0 a1 hx1) (HasAll.cons (Has.m (Hs rfl) rfl) (HasAll.cons (Has.cv (Hs rfl) (Cv.fnM rfl)) HasAll.nil))) ?_
 refine wo (Spec.geqI (Hs rfl) Has.int) ?_
 refine wo (Spec.assign (Hs rfl)) ?_
 refine Wn ?_
 refine Lt ?_
 refine CWalk.ret ?_
 obtain rfl := Option.some.inj hm
 exact Leaf.retC1 rfl (HasR.cv (HasR.tmp (Hs rfl)) Cv.fl)

/-- freeboard/disk.Check$1 -/
def disk_Check_1 (a0 : Write) (a1 : Int) : Option (Bool) :=
  Option.bind (gO (!((decide (a0.At < (0 : Int))) || (decide (a0.At ≥ a1)))) (disk_odd a0.Data)) (fun x1 => some (((decide (a0.At < (0 : Int))) || (decide (a0.At ≥ a1))) || x1))
theorem disk_Check_1_c (a0 : Write) (a1 : Int) {r : Bool} (hm : disk_Check_1 a0 a1 = some r) : Ctr Try.prog 68 [.rep 0 a0, .ptr 0 a1] (.fl r) [] := by
 refine ctr_of_walk [[]] 18 Try.func68 rfl rfl rfl rfl (fun w0 om => ?_)
 unfold disk_Check_1 at hm
 refine CWalk.sub (G' := [.fact 0 (.rep [0] (a0 : Write)), .fact 1 (.ptr [0] (a1 : Int))]) (sn (sn Sub.nil)) ?_
 refine Cs ?_
 refine Cr ?_
 refine ws (Step.boxObj (ls := [(false, 1, Fact.rep [] a0.At), (false, 1, Fact.rep [0] a0.Data)]) 10 rfl rfl rfl rfl (HasL.flds (Has.cv (Hs rfl) (Cv.trans (Cv.opens (chWrite a0)) (Cv.flds (Vf (CvL.cons Cv.refl CvL.nil))))))) ?_
 refine wo (Spec.assign Has.bool) ?_
 refine Wn ?_
 refine Lt ?_
 refine Cs ?_
 refine Cr ?_
 refine wo (Spec.fieldAddrO fd86_0 (Has.cv (Hs rfl) (Cv.isvP rfl))) ?_
 refine wo (Spec.loadF (i := 0) ty3 rfl (Hs rfl) rfl (HasG.s rfl)) ?_
 refine wo (Spec.lssI (Hs rfl) Has.int) ?_
 refine mv ?_
 refine wg rfl rfl (fun hb => Spec.fieldAddrO fd86_0 (Has.cv (Hs rfl) (Cv.isvP rfl))) ?_
 refine wg rfl rfl (fun hb => Spec.loadF (i := 0) ty3 rfl (Has.u rfl hb) rfl (HasG.s rfl)) ?_
 refine wg rfl rfl (fun hb => (Spec.load ty3 (Hs rfl)).flat (T' := [])) ?_
 refine wg rfl rfl (fun hb => Spec.geqI (Has.u rfl hb) (Has.u rfl hb)) ?_
 refine wo (Spec.or (Hs rfl) (fun h => Has.u rfl h)) ?_
 refine mv ?_
 refine wg rfl rfl (fun hb => Spec.fieldAddrO fd86_1 (Has.cv (Hs rfl) (Cv.isvP rfl))) ?_
 refine wg rfl rfl (fun hb => Spec.loadF (i := 1) ty37 rfl (Has.u rfl hb) rfl (HasG.s rfl)) ?_
 obtain ⟨x1, hx1, hm⟩ := bind_some hm
 refine wg (f := Fact.rep [] (x1 : Bool)) rfl rfl (fun hb => Spec.callE [0] 13 rfl en66 (disk_odd_c a0.Data (gO_t hx1 (not_t hb))) (HasAll.cons (Has.m (Has.u rfl hb) rfl) HasAll.nil)) ?_
 refine wo (Spec.or (Hs rfl) (fun h => Has.u rfl h)) ?_
 refine wo (Spec.assign (Hs rfl)) ?_
 refine Wn ?_
 refine Lt ?_
 refine CWalk.ret ?_
 obtain rfl := Option.some.inj hm
 exact Leaf.retC1 rfl (HasR.cv (HasR.tmp (Hs rfl)) Cv.fl)

/-- freeboard/disk.Check$2 -/
def disk_Check_2 (a0 : List UInt8) : Option (Bool) :=
  some (decide (((a0).length : Int) > (0 : Int)))
theorem disk_Check_2_c (a0 : List UInt8) {r : Bool} (hm : disk_Check_2 a0 = some r) : Ctr Try.prog 69 [.rep 0 a0] (.fl r) [] := by
 refine ctr_of_walk [[]] 6 Try.func69 rfl rfl rfl rfl (fun w0 om => ?_)
 unfold disk_Check_2 at hm
 refine CWalk.sub (G' := [.fact 0 (.rep [0] (a0 : List UInt8))]) (sn Sub.nil) ?_
 refine Cs ?_
 refine Cr ?_
 refine wo (Spec.assign Has.bool) ?_
 refine Wn ?_
 refine Lt ?_
 refine Cs ?_
 refine Cr ?_
 refine mv ?_
 refine wo (Spec.len (Hs rfl) Try.underlying37) ?_
 refine wo (Spec.gtrI (Hs rfl) Has.int) ?_
 refine wo (Spec.assign (Hs rfl)) ?_
 refine Wn ?_
 refine Lt ?_
 refine CWalk.ret ?_
 obtain rfl := Option.some.inj hm
 exact Leaf.retC1 rfl (HasR.cv (HasR.tmp (Hs rfl)) Cv.fl)

/-- freeboard/disk.Check -/
def disk_Check (a0 : Disk) : Option (Int) :=
  Option.bind (gO (!(((decide (((a0.Blocks).length : Int) < (1 : Int))) || (decide (((a0.Blocks).length : Int) > (256 : Int)))) || (decide (((a0.Wait).length : Int) > (1024 : Int))))) (slices_ContainsFunc_byte_byte a0.Blocks (fun y => disk_odd y))) (fun x1 => (bif ((((decide (((a0.Blocks).length : Int) < (1 : Int))) || (decide (((a0.Blocks).length : Int) > (256 : Int)))) || (decide (((a0.Wait).length : Int) > (1024 : Int)))) || x1) then some (8 : Int) else Option.bind (slices_ContainsFunc_api_Write_api_Write a0.Wait (fun y => disk_Check_1 y ((a0.Blocks).length : Int))) (fun x2 => (bif x2 then some (8 : Int) else Option.bind (gO ((a0.Dead) && (!(decide (((a0.Wait).length : Int) > (0 : Int))))) (slices_ContainsFunc_byte_byte a0.Blocks (fun y => disk_Check_2 y))) (fun x3 => (bif (a0.Dead && ((decide (((a0.Wait).length : Int) > (0 : Int))) || x3)) then some (8 : Int) else some (0 : Int)))))))
theorem disk_Check_c (a0 : Disk) {r : Int} (hm : disk_Check a0 = some r) : Ctr Try.prog 39 [.rep 0 a0] (.fl r) [] := by
 refine ctr_of_walk [[]] 41 Try.func39 rfl rfl rfl rfl (fun w0 om => ?_)
 unfold disk_Check at hm
 refine CWalk.sub (G' := [.fact 0 (.rep [0] (a0 : Disk))]) (sn Sub.nil) ?_
 refine Cs ?_
 refine Cr ?_
 refine ws (Step.boxObj (ls := [(false, 1, Fact.rep [0] a0.Blocks), (false, 1, Fact.rep [0] a0.Wait), (false, 1, Fact.rep [] a0.Dead)]) 10 rfl rfl rfl rfl (HasL.flds (Has.cv (Hs rfl) (Cv.trans (Cv.opens (chDisk a0)) (Cv.flds (CvL.cons Cv.refl (CvL.cons Cv.refl (Vf CvL.nil)))))))) ?_
 refine wo (Spec.assign Has.int) ?_
 refine Wn ?_
 refine Lt ?_
 refine Cs ?_
 refine Cr ?_
 refine wo (Spec.fieldAddrO fd61_0 (Has.cv (Hs rfl) (Cv.isvP rfl))) ?_
 refine wo (Spec.loadF (i := 0) ty36 rfl (Hs rfl) rfl (HasG.s rfl)) ?_
 refine wo (Spec.len (Hs rfl) Try.underlying36) ?_
 refine ws (Step.allocObj (ls := [(false, 1, Fact.rep [] ((0 : Int) : Int))]) 14 rfl rfl rfl rfl zl3) ?_
 refine ws (Step.storeF (i := 0) (f := Fact.rep [] (((a0.Blocks).length : Int) : Int)) rfl ty3 rfl (Has.cv (Hs rfl) (Cv.isvP rfl)) rfl (Hs rfl) (Hs rfl) rfl) ?_
 refine Wn ?_
 refine Lt ?_
 refine Cs ?_
 refine Cs ?_
 refine Cr ?_
 refine wo (Spec.loadF (i := 0) ty3 rfl (Has.cv (Hs rfl) (Cv.isvP rfl)) rfl (HasG.s rfl)) ?_
 refine wo (Spec.lssI (Hs rfl) Has.int) ?_
 refine mv ?_
 refine wg rfl rfl (fun hb => Spec.loadF (i := 0) ty3 rfl (Has.cv (Hs rfl) (Cv.isvP rfl)) rfl (HasG.s rfl)) ?_
 refine wg rfl rfl (fun hb => Spec.gtrI (Has.u rfl hb) Has.int) ?_
 refine wo (Spec.or (Hs rfl) (fun h => Has.u rfl h)) ?_
 refine mv ?_
 refine wg rfl rfl (fun hb => Spec.fieldAddrO fd61_1 (Has.cv (Hs rfl) (Cv.isvP rfl))) ?_
 refine wg rfl rfl (fun hb => Spec.loadF (i := 1) ty59 rfl (Has.u rfl hb) rfl (HasG.s rfl)) ?_
 refine wg rfl rfl (fun hb => Spec.len (Has.u rfl hb) Try.underlying59) ?_
 refine wg rfl rfl (fun hb => Spec.gtrI (Has.u rfl hb) Has.int) ?_
 refine wo (Spec.or (Hs rfl) (fun h => Has.u rfl h)) ?_
 refine mv ?_
 refine wg rfl rfl (fun hb => Spec.fieldAddrO fd61_0 (Has.cv (Hs rfl) (Cv.isvP rfl))) ?_
 refine wg rfl rfl (fun hb => Spec.loadF (i := 0) ty36 rfl (Has.u rfl hb) rfl (HasG.s rfl)) ?_
 obtain ⟨x1, hx1, hm⟩ := bind_some hm
 refine wg (f := Fact.rep [] (x1 : Bool)) rfl rfl (fun hb => Spec.callE [0] 16 rfl en54 (slices_ContainsFunc_byte_byte_c a0.Blocks (fun y => disk_odd y) (gO_t hx1 (not_t hb))) (HasAll.cons (Has.m (Has.u rfl hb) rfl) (HasAll.cons (Has.cv Has.func (Cv.fn (pu := []) (pc := []) (shc := []) en66 CvF.nil CvF.nil (fun y r h => disk_odd_c y h))) HasAll.nil))) ?_
 refine wo (Spec.or (Hs rfl) (fun h => Has.u rfl h)) ?_
 refine Wn ?_
 refine Lt ?_
 refine CWalk.cond rfl (fun hb => ?_) (fun hb => ?_)
 ·have hm := cond_t hb hm
  refine Cs ?_
  refine Cr ?_
  refine wo (Spec.assign Has.int) ?_
  refine Wn ?_
  refine Lt ?_
  refine CWalk.ret ?_
  refine Leaf.thenR ?_
  obtain rfl := Option.some.inj hm
  exact Leaf.retC1 rfl (HasR.cv (HasR.tmp (Hs rfl)) Cv.fl)
 ·have hm := cond_f hb hm
  refine CWalk.skip ?_
  refine Lt ?_
  refine Cs ?_
  refine Cs ?_
  refine Cr ?_
  refine wo (Spec.fieldAddrO fd61_1 (Has.cv (Hs rfl) (Cv.isvP rfl))) ?_
  refine wo (Spec.loadF (i := 1) ty59 rfl (Hs rfl) rfl (HasG.s rfl)) ?_
  refine wo (Spec.makeFunc (xs := []) (ys := [.tmp 3]) rfl rfl HasF.nil (HasF.cons (Hs rfl) HasF.nil) (fun _ _ _ => rfl)) ?_
  obtain ⟨x2, hx2, hm⟩ := bind_some hm
  refine wo (f := Fact.rep [] (x2 : Bool)) (Spec.callE [0, 14] 17 rfl en67 (slices_ContainsFunc_api_Write_api_Write_c a0.Wait (fun y => disk_Check_1 y ((a0.Blocks).length : Int)) hx2) (HasAll.cons (Has.m (Hs rfl) rfl) (HasAll.cons (Has.cv (Hs rfl) (Cv.fn (pu := []) (pc := [.ptr 0 ((a0.Blocks).length : Int)]) (shc := []) en68 CvF.nil (CvF.cons (Cv.trans (Cv.objPtr1 (f := Fact.rep [] (((a0.Blocks).length : Int) : Int)) rfl rfl (HasG.s rfl) (Cv.fl (T' := []))) (Cv.ptrM rfl)) CvF.nil) (fun y r h => disk_Check_1_c y ((a0.Blocks).length : Int) h))) HasAll.nil))) ?_
  refine Wn ?_
  refine Lt ?_
  refine CWalk.cond rfl (fun hb => ?_) (fun hb => ?_)
  ·have hm := cond_t hb hm
   refine Cs ?_
   refine Cr ?_
   refine wo (Spec.assign Has.int) ?_
   refine Wn ?_
   refine Lt ?_
   refine CWalk.ret ?_
   refine Leaf.thenR ?_
   obtain rfl := Option.some.inj hm
   exact Leaf.retC1 rfl (HasR.cv (HasR.tmp (Hs rfl)) Cv.fl)
  ·have hm := cond_f hb hm
   refine CWalk.skip ?_
   refine Lt ?_
   refine Cs ?_
   refine Cs ?_
   refine Cr ?_
   refine wo (Spec.fieldAddrO fd61_2 (Has.cv (Hs rfl) (Cv.isvP rfl))) ?_
   refine wo (Spec.loadF (i := 2) ty4 rfl (Hs rfl) rfl (HasG.s rfl)) ?_
   refine mv ?_
   refine wg rfl rfl (fun hb => Spec.fieldAddrO fd61_1 (Has.cv (Hs rfl) (Cv.isvP rfl))) ?_
   refine wg rfl rfl (fun hb => Spec.loadF (i := 1) ty59 rfl (Has.u rfl hb) rfl (HasG.s rfl)) ?_
   refine wg rfl rfl (fun hb => Spec.len (Has.u rfl hb) Try.underlying59) ?_
   refine wg rfl rfl (fun hb => Spec.gtrI (Has.u rfl hb) Has.int) ?_
   refine wg rfl rfl (fun hb => Spec.move (Has.u rfl hb)) ?_
   refine Walk.opgu rfl rfl rfl (fun hb => Spec.fieldAddrO fd61_0 (Has.cv (Hs rfl) (Cv.isvP rfl))) ?_
   refine Walk.opgu rfl rfl rfl (fun hb => Spec.loadF (i := 0) ty36 rfl (Has.u rfl hb) rfl (HasG.s rfl)) ?_
   obtain ⟨x3, hx3, hm⟩ := bind_some hm
   refine Walk.opgu (f := Fact.rep [] (x3 : Bool)) rfl rfl rfl (fun hb => Spec.callE [0] 18 rfl en54 (slices_ContainsFunc_byte_byte_c a0.Blocks (fun y => disk_Check_2 y) (gO_t hx3 (and_t hb.1 (not_t hb.2)))) (HasAll.cons (Has.m (Has.u rfl hb) rfl) (HasAll.cons (Has.cv Has.func (Cv.fn (pu := []) (pc := []) (shc := []) en69 CvF.nil CvF.nil (fun y r h => disk_Check_2_c y h))) HasAll.nil))) ?_
   refine wg rfl rfl (fun hb => Spec.or (Has.u rfl hb) (fun h => Has.u rfl ⟨hb, h⟩)) ?_
   refine wo (Spec.and (Hs rfl) (fun h => Has.u rfl h)) ?_
   refine Wn ?_
   refine Lt ?_
   refine CWalk.cond rfl (fun hb => ?_) (fun hb => ?_)
   ·have hm := cond_t hb hm
    refine Cs ?_
    refine Cr ?_
    refine wo (Spec.assign Has.int) ?_
    refine Wn ?_
    refine Lt ?_
    refine CWalk.ret ?_
    refine Leaf.thenR ?_
    obtain rfl := Option.some.inj hm
    exact Leaf.retC1 rfl (HasR.cv (HasR.tmp (Hs rfl)) Cv.fl)
   ·have hm := cond_f hb hm
    refine CWalk.skip ?_
    refine Lt ?_
    refine Cs ?_
    refine Cr ?_
    refine wo (Spec.assign Has.int) ?_
    refine Wn ?_
    refine Lt ?_
    refine CWalk.ret ?_
    obtain rfl := Option.some.inj hm
    exact Leaf.retC1 rfl (HasR.cv (HasR.tmp (Hs rfl)) Cv.fl)

def eye_Check_J2 (s3 : Int) (x5 : Disk) (j6 : Int) : Option (Ctl (Int) ((Unit) ⊕ (Unit))) :=
  Option.bind (disk_Check x5) (fun x7 => (bif ((x7 != (0 : Int)) || (((x5.Blocks).length : Int) != j6)) then some (Ctl.brk (Sum.inr ())) else some (Ctl.next (wI (s3 + (1 : Int))))))
def eye_Check_L1 (a0 : Config) (a1 : List Disk) (x1 : Int × Int) (x2 : Int × Int) (s3 : Int) : Option (Ctl (Int) ((Unit) ⊕ (Unit))) :=
  (bif (decide (s3 < ((a1).length : Int))) then Option.bind (idx a1 s3) (fun x5 => (bif (s3 == a0.Members) then (eye_Check_J2 s3 x5 x2.1) else (eye_Check_J2 s3 x5 x1.1))) else some (Ctl.brk (Sum.inl ())))
/-- freeboard/eye.Check -/
def eye_Check (a0 : Config) (a1 : List Disk) : Option (Int) :=
  Option.bind (shape_Member a0) (fun x1 => (bif (x1.2 != (0 : Int)) then some x1.2 else Option.bind (shape_Journal a0) (fun x2 => (bif (((a1).length : Int) != (wI (a0.Members + (1 : Int)))) then some (8 : Int) else Option.bind (loopM (fun s : Int => eye_Check_L1 a0 a1 x1 x2 s) FUEL (0 : Int)) (fun b8 => Sum.elim (fun b9 => some (0 : Int)) (fun b10 => some (8 : Int)) b8)))))
theorem eye_Check_c (a0 : Config) (a1 : List Disk) {r : Int} (hm : eye_Check a0 a1 = some r) : Ctr Try.prog 16 [.rep 0 a0, .rep 0 a1] (.fl r) [] := by
 refine ctr_of_walk [[]] 55 Try.func16 rfl rfl rfl rfl (fun w0 om => ?_)
 unfold eye_Check at hm
 refine CWalk.sub (G' := [.fact 0 (.rep [] (a0 : Config)), .fact 1 (.rep [0] (a1 : List Disk))]) (Sub.cons (Has.fl (Hs rfl)) (sn Sub.nil)) ?_
 refine Cs ?_
 refine Cr ?_
 refine ws (Step.boxObj (ls := [(false, 1, Fact.rep [] a0.Id), (false, 1, Fact.rep [] a0.Members), (false, 1, Fact.rep [] a0.Chunk), (false, 1, Fact.rep [] a0.Rows), (false, 1, Fact.rep [] a0.Log), (false, 1, Fact.rep [] a0.Heads)]) 10 rfl rfl rfl rfl (HasL.flds (Has.cv (Hs rfl) (Cv.trans (Cv.opens (chConfig a0)) (Cv.flds (Vf (Vf (Vf (Vf (Vf (Vf CvL.nil))))))))))) ?_
 refine wo (Spec.assign Has.int) ?_
 refine Wn ?_
 refine Lt ?_
 refine Cs ?_
 refine Cr ?_
 refine wo (Spec.loadObj (ls := [(false, 1, Fact.rep [] a0.Id), (false, 1, Fact.rep [] a0.Members), (false, 1, Fact.rep [] a0.Chunk), (false, 1, Fact.rep [] a0.Rows), (false, 1, Fact.rep [] a0.Log), (false, 1, Fact.rep [] a0.Heads)]) ty30 rfl rfl (Hs rfl) rfl (Gz rfl (Gz rfl (Gz rfl (Gz rfl (Gz rfl (Gz rfl HasGs.nil))))))) ?_
 obtain ⟨x1, hx1, hm⟩ := bind_some hm
 refine wo (f := Fact.tup2 (Fact.rep [] x1.1) (Fact.rep [] x1.2)) (Spec.callE [] 17 rfl en37 (shape_Member_c a0 hx1) (HasAll.cons (Has.fl (Has.cv (Hs rfl) (Cv.trans (Cv.flds (Vf (Vf (Vf (Vf (Vf (Vf CvL.nil))))))) (Cv.close (T := []) (chConfig a0))))) HasAll.nil)) ?_
 refine mv ?_
 refine wo (Spec.ext0 (Hs rfl)) ?_
 refine wo (Spec.ext1 (Hs rfl)) ?_
 refine wo (Spec.assign (Hs rfl)) ?_
 refine wo (Spec.assign (Hs rfl)) ?_
 refine Wn ?_
 refine Lt ?_
 refine Cs ?_
 refine Cs ?_
 refine Cr ?_
 refine mv ?_
 refine wo (Spec.neqI (Hs rfl) Has.int) ?_
 refine Wn ?_
 refine Lt ?_
 refine CWalk.cond rfl (fun hb => ?_) (fun hb => ?_)
 ·have hm := cond_t hb hm
  refine Cs ?_
  refine Cr ?_
  refine mv ?_
  refine wo (Spec.assign (Hs rfl)) ?_
  refine Wn ?_
  refine Lt ?_
  refine CWalk.ret ?_
  refine Leaf.thenR ?_
  obtain rfl := Option.some.inj hm
  exact Leaf.retC1 rfl (HasR.cv (HasR.tmp (Hs rfl)) Cv.fl)
 ·have hm := cond_f hb hm
  refine CWalk.skip ?_
  refine Lt ?_
  refine Cs ?_
  refine Cr ?_
  refine wo (Spec.loadObj (ls := [(false, 1, Fact.rep [] a0.Id), (false, 1, Fact.rep [] a0.Members), (false, 1, Fact.rep [] a0.Chunk), (false, 1, Fact.rep [] a0.Rows), (false, 1, Fact.rep [] a0.Log), (false, 1, Fact.rep [] a0.Heads)]) ty30 rfl rfl (Hs rfl) rfl (Gz rfl (Gz rfl (Gz rfl (Gz rfl (Gz rfl (Gz rfl HasGs.nil))))))) ?_
  obtain ⟨x2, hx2, hm⟩ := bind_some hm
  refine wo (f := Fact.tup2 (Fact.rep [] x2.1) (Fact.rep [] x2.2)) (Spec.callE [] 18 rfl en38 (shape_Journal_c a0 hx2) (HasAll.cons (Has.fl (Has.cv (Hs rfl) (Cv.trans (Cv.flds (Vf (Vf (Vf (Vf (Vf (Vf CvL.nil))))))) (Cv.close (T := []) (chConfig a0))))) HasAll.nil)) ?_
  refine mv ?_
  refine wo (Spec.ext0 (Hs rfl)) ?_
  refine wo (Spec.ext1 (Hs rfl)) ?_
  refine wo (Spec.assign (Hs rfl)) ?_
  refine wo (Spec.assign (Hs rfl)) ?_
  refine Wn ?_
  refine Lt ?_
  refine Cs ?_
  refine Cs ?_
  refine Cr ?_
  refine mv ?_
  refine wo (Spec.len (Hs rfl) Try.underlying49) ?_
  refine wo (Spec.fieldAddrO fd30_1 (Has.cv (Hs rfl) (Cv.isvP rfl))) ?_
  refine wo (Spec.loadF (i := 1) ty3 rfl (Hs rfl) rfl (HasG.s rfl)) ?_
  refine wo (Spec.addI (Hs rfl) Has.int) ?_
  refine wo (Spec.neqI (Hs rfl) (Hs rfl)) ?_
  refine Wn ?_
  refine Lt ?_
  refine CWalk.cond rfl (fun hb => ?_) (fun hb => ?_)
  ·have hm := cond_t hb hm
   refine Cs ?_
   refine Cr ?_
   refine wo (Spec.assign Has.int) ?_
   refine Wn ?_
   refine Lt ?_
   refine CWalk.ret ?_
   refine Leaf.thenR ?_
   obtain rfl := Option.some.inj hm
   exact Leaf.retC1 rfl (HasR.cv (HasR.tmp (Hs rfl)) Cv.fl)
  ·have hm := cond_f hb hm
   refine CWalk.skip ?_
   refine Lt ?_
   refine Cs ?_
   refine Cs ?_
   refine Cr ?_
   refine mv ?_
   refine wo (Spec.len (Hs rfl) Try.underlying49) ?_
   refine wo (Spec.move Has.int) ?_
   refine Wn ?_
   refine Lt ?_
   refine CWalk.block ?_
   obtain ⟨b8, hb8, hm⟩ := bind_some hm
   refine CWalk.loop (fun s : Int => [.fact 2 (.isv 10), .fact 5 (.rep [] x1.1), .fact 7 (.rep [] x2.1), .fact 31 (.rep [0] (a1 : List Disk)), .fact 32 (.rep [] (((a1).length : Int) : Int)), .fact 33 (.rep [] (s : Int)), .fact 100011 (.at 11 (.rep [] a0.Id)), .fact 100012 (.at 12 (.rep [] a0.Members)), .fact 100013 (.at 13 (.rep [] a0.Chunk)), .fact 100014 (.at 14 (.rep [] a0.Rows)), .fact 100015 (.at 15 (.rep [] a0.Log)), .fact 100016 (.at 16 (.rep [] a0.Heads)), .fact 100010 (.obj 10 [(false, 1), (false, 1), (false, 1), (false, 1), (false, 1), (false, 1)])]) (fun b : (Unit) ⊕ (Unit) => Sum.elim (fun b => (Exit.exit 0, [])) (fun b => (Exit.ret, [.fact 4 (.rep [] ((8 : Int) : Int))])) b) hb8 (sn (st (st (su (st (st (sf (sf (sf (sf (sf (sf (sn Sub.nil))))))))))))) ?_ ?_
   ·rintro s3 c4 hm
    replace hm : eye_Check_L1 a0 a1 x1 x2 s3 = some c4 := hm
    unfold eye_Check_L1 at hm
    show CWalk _ [.fact 2 (.isv 10), .fact 5 (.rep [] x1.1), .fact 7 (.rep [] x2.1), .fact 31 (.rep [0] (a1 : List Disk)), .fact 32 (.rep [] (((a1).length : Int) : Int)), .fact 33 (.rep [] (s3 : Int)), .fact 100011 (.at 11 (.rep [] a0.Id)), .fact 100012 (.at 12 (.rep [] a0.Members)), .fact 100013 (.at 13 (.rep [] a0.Chunk)), .fact 100014 (.at 14 (.rep [] a0.Rows)), .fact 100015 (.at 15 (.rep [] a0.Log)), .fact 100016 (.at 16 (.rep [] a0.Heads)), .fact 100010 (.obj 10 [(false, 1), (false, 1), (false, 1), (false, 1), (false, 1), (false, 1)])] _ _
    refine Cs ?_
    refine Cr ?_
    refine wo (Spec.lssI (Hs rfl) (Hs rfl)) ?_
    refine Wn ?_
    refine Lt ?_
    refine Cs ?_
    refine CWalk.cond rfl (fun hb => ?_) (fun hb => ?_)
    ·have hm := cond_t hb hm
     refine CWalk.skip ?_
     refine Lt ?_
     refine Cs ?_
     refine CWalk.block ?_
     refine Cs ?_
     refine Cr ?_
     refine mv ?_
     obtain ⟨x5, hx5, hm⟩ := bind_some hm
     refine wo (Spec.indexAddr hx5 sl49 (Hs rfl) (Hs rfl)) ?_
     refine wo (Spec.load ty61 (Hs rfl)) ?_
     refine ws (Step.allocObj (ls := [(false, 1, Fact.nilv), (false, 1, Fact.nilv), (false, 1, Fact.rep [] (false : Bool))]) 19 rfl rfl rfl rfl zl61) ?_
     refine wo (Spec.assign (Hs rfl)) ?_
     refine ws (Step.storeObj (ls := [(false, 1, Fact.rep [0] x5.Blocks), (false, 1, Fact.rep [0] x5.Wait), (false, 1, Fact.rep [] x5.Dead)]) rfl ty61 rfl rfl (Hs rfl) rfl (HasL.flds (Has.cv (Hs rfl) (Cv.trans (Cv.opens (chDisk x5)) (Cv.flds (CvL.cons Cv.refl (CvL.cons Cv.refl (Vf CvL.nil))))))) rfl) ?_
     refine Wn ?_
     refine Lt ?_
     refine Cs ?_
     refine Cr ?_
     refine mv ?_
     refine wo (Spec.assign (Hs rfl)) ?_
     refine Wn ?_
     refine Lt ?_
     refine CWalk.seqJ (fun p : Int => [.fact 2 (.isv 10), .fact 5 (.rep [] x1.1), .fact 7 (.rep [] x2.1), .fact 10 (.isv 19), .fact 11 (.rep [] (p : Int)), .fact 31 (.rep [0] (a1 : List Disk)), .fact 32 (.rep [] (((a1).length : Int) : Int)), .fact 33 (.rep [] (s3 : Int)), .fact 100011 (.at 11 (.rep [] a0.Id)), .fact 100012 (.at 12 (.rep [] a0.Members)), .fact 100013 (.at 13 (.rep [] a0.Chunk)), .fact 100014 (.at 14 (.rep [] a0.Rows)), .fact 100015 (.at 15 (.rep [] a0.Log)), .fact 100016 (.at 16 (.rep [] a0.Heads)), .fact 100020 (.at 20 (.rep [0] x5.Blocks)), .fact 100021 (.at 21 (.rep [0] x5.Wait)), .fact 100022 (.at 22 (.rep [] x5.Dead)), .fact 100010 (.obj 10 [(false, 1), (false, 1), (false, 1), (false, 1), (false, 1), (false, 1)]), .fact 100019 (.obj 19 [(false, 1), (false, 1), (false, 1)])]) (fun p : Int => eye_Check_J2 s3 x5 p = some c4) ?_ ?_
     ·rintro j6 hm
      replace hm : eye_Check_J2 s3 x5 j6 = some c4 := hm
      unfold eye_Check_J2 at hm
      show CWalk _ [.fact 2 (.isv 10), .fact 5 (.rep [] x1.1), .fact 7 (.rep [] x2.1), .fact 10 (.isv 19), .fact 11 (.rep [] (j6 : Int)), .fact 31 (.rep [0] (a1 : List Disk)), .fact 32 (.rep [] (((a1).length : Int) : Int)), .fact 33 (.rep [] (s3 : Int)), .fact 100011 (.at 11 (.rep [] a0.Id)), .fact 100012 (.at 12 (.rep [] a0.Members)), .fact 100013 (.at 13 (.rep [] a0.Chunk)), .fact 100014 (.at 14 (.rep [] a0.Rows)), .fact 100015 (.at 15 (.rep [] a0.Log)), .fact 100016 (.at 16 (.rep [] a0.Heads)), .fact 100020 (.at 20 (.rep [0] x5.Blocks)), .fact 100021 (.at 21 (.rep [0] x5.Wait)), .fact 100022 (.at 22 (.rep [] x5.Dead)), .fact 100010 (.obj 10 [(false, 1), (false, 1), (false, 1), (false, 1), (false, 1), (false, 1)]), .fact 100019 (.obj 19 [(false, 1), (false, 1), (false, 1)])] _ _
      refine Cs ?_
      refine Cr ?_
      refine wo (Spec.loadObj (ls := [(false, 1, Fact.rep [0] x5.Blocks), (false, 1, Fact.rep [0] x5.Wait), (false, 1, Fact.rep [] x5.Dead)]) ty61 rfl rfl (Hs rfl) rfl (Gz rfl (Gz rfl (Gz rfl HasGs.nil)))) ?_
      obtain ⟨x7, hx7, hm⟩ := bind_some hm
      refine wo (f := Fact.rep [] (x7 : Int)) (Spec.callE [0] 23 rfl en39 (disk_Check_c x5 hx7) (HasAll.cons (Has.m (Has.cv (Hs rfl) (Cv.trans (Cv.flds (CvL.cons (Cv.m rfl) (CvL.cons (Cv.m rfl) (Vf CvL.nil)))) (Cv.close (T := [0]) (chDisk x5)))) rfl) HasAll.nil)) ?_
      refine wo (Spec.neqI (Hs rfl) Has.int) ?_
      refine mv ?_
      refine wg rfl rfl (fun hb => Spec.fieldAddrO fd61_0 (Has.cv (Hs rfl) (Cv.isvP rfl))) ?_
      refine wg rfl rfl (fun hb => Spec.loadF (i := 0) ty36 rfl (Has.u rfl hb) rfl (HasG.s rfl)) ?_
      refine wg rfl rfl (fun hb => Spec.len (Has.u rfl hb) Try.underlying36) ?_
      refine wg rfl rfl (fun hb => Spec.move (Hs rfl)) ?_
      refine wg rfl rfl (fun hb => Spec.neqI (Has.u rfl hb) (Has.u rfl hb)) ?_
      refine wo (Spec.or (Hs rfl) (fun h => Has.u rfl h)) ?_
      refine Wn ?_
      refine Lt ?_
      refine CWalk.cond rfl (fun hb => ?_) (fun hb => ?_)
      ·have hm := cond_t hb hm
       refine Cs ?_
       refine Cr ?_
       refine wo (Spec.assign Has.int) ?_
       refine Wn ?_
       refine Lt ?_
       refine CWalk.ret ?_
       refine Leaf.blockR ?_
       refine Leaf.thenR ?_
       exact Leaf.brk hm (fun h => nomatch h) rfl (st Sub.nil)
      ·have hm := cond_f hb hm
       refine CWalk.skip ?_
       refine Leaf.blockN ?_
       refine Lt ?_
       refine Cr ?_
       refine wo (Spec.addI (Hs rfl) Has.int) ?_
       refine mv ?_
       refine Wn ?_
       exact Leaf.next hm (sn (st (st (su (st (st (sf (sf (sf (sf (sf (sf (sn Sub.nil)))))))))))))
     ·refine Cs ?_
      refine Cr ?_
      refine mv ?_
      refine wo (Spec.fieldAddrO fd30_1 (Has.cv (Hs rfl) (Cv.isvP rfl))) ?_
      refine wo (Spec.loadF (i := 1) ty3 rfl (Hs rfl) rfl (HasG.s rfl)) ?_
      refine wo (Spec.eqlI (Hs rfl) (Hs rfl)) ?_
      refine Wn ?_
      refine Lt ?_
      refine CWalk.cond rfl (fun hb => ?_) (fun hb => ?_)
      ·have hm := cond_t hb hm
       refine Cr ?_
       refine mv ?_
       refine wo (Spec.assign (Hs rfl)) ?_
       refine Wn ?_
       exact Leaf.join x2.1 hm (sn (st (st (sn (st (su (st (st (sf (sf (sf (sf (sf (sf (sm (sm (sf (sn (sn Sub.nil)))))))))))))))))))
      ·have hm := cond_f hb hm
       refine CWalk.skip ?_
       exact Leaf.join x1.1 hm (sn (st (st (sn (st (su (st (st (sf (sf (sf (sf (sf (sf (sm (sm (sf (sn (sn Sub.nil)))))))))))))))))))
    ·have hm := cond_f hb hm
     refine CWalk.exit ?_
     refine Leaf.thenE ?_
     exact Leaf.brk hm (fun h => nomatch h) rfl (Sub.nil)
   ·intro _
    rcases b8 with b9 | b10
    ·have hm := selim_l hm
     refine Leaf.blockE ?_
     refine Lt ?_
     refine Cs ?_
     refine Cr ?_
     refine wo (Spec.assign Has.int) ?_
     refine Wn ?_
     refine Lt ?_
     refine CWalk.ret ?_
     obtain rfl := Option.some.inj hm
     exact Leaf.retC1 rfl (HasR.cv (HasR.tmp (Hs rfl)) Cv.fl)
    ·have hm := selim_r hm
     refine Leaf.blockR ?_
     refine Leaf.thenR ?_
     obtain rfl := Option.some.inj hm
     exact Leaf.retC1 rfl (HasR.cv (HasR.tmp (Hs rfl)) Cv.fl)

def slices_IndexFunc_api_Disk_api_Disk_L1 (a0 : List Disk) (a1 : Disk → Option Bool) (s1 : Int) : Option (Ctl (Int) ((Unit) ⊕ (Int))) :=
  (bif (decide (s1 < ((a0).length : Int))) then Option.bind (idx a0 s1) (fun x3 => Option.bind (a1 x3) (fun x4 => (bif x4 then some (Ctl.brk (Sum.inr s1)) else some (Ctl.next (wI (s1 + (1 : Int))))))) else some (Ctl.brk (Sum.inl ())))
/-- slices.IndexFunc[[]freeboard/api.Disk,freeboard/api.Disk] -/
def slices_IndexFunc_api_Disk_api_Disk (a0 : List Disk) (a1 : Disk → Option Bool) : Option (Int) :=
  Option.bind (loopM (fun s : Int => slices_IndexFunc_api_Disk_api_Disk_L1 a0 a1 s) FUEL (0 : Int)) (fun b5 => Sum.elim (fun b6 => some (-1 : Int)) (fun b7 => some b7) b5)
theorem slices_IndexFunc_api_Disk_api_Disk_c (a0 : List Disk) (a1 : Disk → Option Bool) {r : Int} (hm : slices_IndexFunc_api_Disk_api_Disk a0 a1 = some r) : Ctr Try.prog 97 [.rep 0 a0, .fn Try.prog pre1 0 a1] (.fl r) [] := by
 refine ctr_of_walk [[]] 19 Try.func97 rfl rfl rfl rfl (fun w0 om => ?_)
 unfold slices_IndexFunc_api_Disk_api_Disk at hm
 refine CWalk.sub (G' := [.fact 0 (.rep [0] (a0 : List Disk)), .fact 1 (.fn Try.prog pre1 [0] (a1))]) (sn (sn Sub.nil)) ?_
 refine Cs ?_
 refine Cr ?_
 refine wo (Spec.assign Has.int) ?_
 refine Wn ?_
 refine Lt ?_
 refine Cs ?_
 refine Cs ?_
 refine Cr ?_
 refine mv ?_
 refine wo (Spec.len (Hs rfl) Try.underlying49) ?_
 refine wo (Spec.move Has.int) ?_
 refine Wn ?_
 refine Lt ?_
 refine CWalk.block ?_
 obtain ⟨b5, hb5, hm⟩ := bind_some hm
 refine CWalk.loop (fun s : Int => [.fact 0 (.rep [0] (a0 : List Disk)), .fact 1 (.fn Try.prog pre1 [0] (a1)), .fact 7 (.rep [] (((a0).length : Int) : Int)), .fact 8 (.rep [] (s : Int))]) (fun b : (Unit) ⊕ (Int) => Sum.elim (fun b => (Exit.exit 0, [])) (fun b => (Exit.ret, [.fact 4 (.rep [] (b : Int))])) b) hb5 (su (sn (st (st Sub.nil)))) ?_ ?_
 ·rintro s1 c2 hm
  replace hm : slices_IndexFunc_api_Disk_api_Disk_L1 a0 a1 s1 = some c2 := hm
  unfold slices_IndexFunc_api_Disk_api_Disk_L1 at hm
  show CWalk _ [.fact 0 (.rep [0] (a0 : List Disk)), .fact 1 (.fn Try.prog pre1 [0] (a1)), .fact 7 (.rep [] (((a0).length : Int) : Int)), .fact 8 (.rep [] (s1 : Int))] _ _
  refine Cs ?_
  refine Cr ?_
  refine wo (Spec.lssI (Hs rfl) (Hs rfl)) ?_
  refine Wn ?_
  refine Lt ?_
  refine Cs ?_
  refine CWalk.cond rfl (fun hb => ?_) (fun hb => ?_)
  ·have hm := cond_t hb hm
   refine CWalk.skip ?_
   refine Lt ?_
   refine Cs ?_
   refine CWalk.block ?_
   refine Cs ?_
   refine Cr ?_
   refine mv ?_
   refine wo (Spec.assign (Hs rfl)) ?_
   refine Wn ?_
   refine Lt ?_
   refine Cs ?_
   refine Cr ?_
   refine mv ?_
   refine mv ?_
   refine mv ?_
   obtain ⟨x3, hx3, hm⟩ := bind_some hm
   refine wo (Spec.indexAddr hx3 sl49 (Hs rfl) (Hs rfl)) ?_
   refine wo (Spec.load ty61 (Hs rfl)) ?_
   obtain ⟨x4, hx4, hm⟩ := bind_some hm
   refine wo (Spec.callFn (xs := [.tmp 15]) (x := x3) [0] 10 rfl hx4 (Hs rfl) (HasAll.cons (Has.m (Hs rfl) rfl) HasAll.nil)) ?_
   refine Wn ?_
   refine Lt ?_
   refine CWalk.cond rfl (fun hb => ?_) (fun hb => ?_)
   ·have hm := cond_t hb hm
    refine Cs ?_
    refine Cr ?_
    refine mv ?_
    refine wo (Spec.assign (Hs rfl)) ?_
    refine Wn ?_
    refine Lt ?_
    refine CWalk.ret ?_
    refine Leaf.blockR ?_
    refine Leaf.thenR ?_
    exact Leaf.brk hm (fun h => nomatch h) rfl (st Sub.nil)
   ·have hm := cond_f hb hm
    refine CWalk.skip ?_
    refine Leaf.blockN ?_
    refine Lt ?_
    refine Cr ?_
    refine wo (Spec.addI (Hs rfl) Has.int) ?_
    refine mv ?_
    refine Wn ?_
    exact Leaf.next hm (su (sn (st (st Sub.nil))))
  ·have hm := cond_f hb hm
   refine CWalk.exit ?_
   refine Leaf.thenE ?_
   exact Leaf.brk hm (fun h => nomatch h) rfl (Sub.nil)
 ·intro _
  rcases b5 with b6 | b7
  ·have hm := selim_l hm
   refine Leaf.blockE ?_
   refine Lt ?_
   refine Cs ?_
   refine Cr ?_
   refine wo (Spec.assign Has.int) ?_
   refine Wn ?_
   refine Lt ?_
   refine CWalk.ret ?_
   obtain rfl := Option.some.inj hm
   exact Leaf.retC1 rfl (HasR.cv (HasR.tmp (Hs rfl)) Cv.fl)
  ·have hm := selim_r hm
   refine Leaf.blockR ?_
   refine Leaf.thenR ?_
   obtain rfl := Option.some.inj hm
   exact Leaf.retC1 rfl (HasR.cv (HasR.tmp (Hs rfl)) Cv.fl)

/-- slices.ContainsFunc[[]freeboard/api.Disk,freeboard/api.Disk] -/
def slices_ContainsFunc_api_Disk_api_Disk (a0 : List Disk) (a1 : Disk → Option Bool) : Option (Bool) :=
  Option.bind (slices_IndexFunc_api_Disk_api_Disk a0 a1) (fun x1 => some (decide (x1 ≥ (0 : Int))))
theorem slices_ContainsFunc_api_Disk_api_Disk_c (a0 : List Disk) (a1 : Disk → Option Bool) {r : Bool} (hm : slices_ContainsFunc_api_Disk_api_Disk a0 a1 = some r) : Ctr Try.prog 80 [.rep 0 a0, .fn Try.prog pre1 0 a1] (.fl r) [] := by
 refine ctr_of_walk [[]] 9 Try.func80 rfl rfl rfl rfl (fun w0 om => ?_)
 unfold slices_ContainsFunc_api_Disk_api_Disk at hm
 refine CWalk.sub (G' := [.fact 0 (.rep [0] (a0 : List Disk)), .fact 1 (.fn Try.prog pre1 [0] (a1))]) (sn (sn Sub.nil)) ?_
 refine Cs ?_
 refine Cr ?_
 refine wo (Spec.assign Has.bool) ?_
 refine Wn ?_
 refine Lt ?_
 refine Cs ?_
 refine Cr ?_
 refine mv ?_
 refine mv ?_
 obtain ⟨x1, hx1, hm⟩ := bind_some hm
 refine wo (f := Fact.rep [] (x1 : Int)) (Spec.callE [0] 10 rfl en97 (slices_IndexFunc_api_Disk_api_Disk_c a0 a1 hx1) (HasAll.cons (Has.m (Hs rfl) rfl) (HasAll.cons (Has.cv (Hs rfl) (Cv.fnM rfl)) HasAll.nil))) ?_
 refine wo (Spec.geqI (Hs rfl) Has.int) ?_
 refine wo (Spec.assign (Hs rfl)) ?_
 refine Wn ?_
 refine Lt ?_
 refine CWalk.ret ?_
 obtain rfl := Option.some.inj hm
 exact Leaf.retC1 rfl (HasR.cv (HasR.tmp (Hs rfl)) Cv.fl)

end Go.Proofs.Ytmlmlfghogoadaa
