/- Printed by a program of ours: models of functions, and that calls do what they say. -/
import Derived.Test.YtfilegnndamngaaGfo1
namespace Go.Proofs.Ytfilegnndamngaa
open Go GL
set_option linter.unusedVariables false

def fetch_Block_J4 (s5 : Int) (s6 : List (List UInt8)) (j9 : List UInt8) (j10 : Int) : Option (Ctl (Int × (List (List UInt8))) (((List (List UInt8))) ⊕ ((List (List UInt8))))) :=
  (bif (j10 != (0 : Int)) then some (Ctl.brk (Sum.inr s6)) else Option.bind (app s6 ([j9])) (fun x11 => some (Ctl.next ((wI (s5 + (1 : Int))), x11))))
def fetch_Block_L3 (a0 : Config) (a1 : List Disk) (a2 : Int) (a3 : Int) (x2 : Int × Int) (s5 : Int) (s6 : List (List UInt8)) : Option (Ctl (Int × (List (List UInt8))) (((List (List UInt8))) ⊕ ((List (List UInt8))))) :=
  (bif (decide (s5 < a0.Members)) then (bif (s5 != x2.1) then Option.bind (gO (!(s5 == a2)) (idx a1 s5)) (fun x12 => (bif ((s5 == a2) || x12.Dead) then (fetch_Block_J4 s5 s6 ([] : List UInt8) (230 : Int)) else Option.bind (idx a1 s5) (fun x13 => Option.bind (disk_Read x13 (wI (a3 + (1 : Int)))) (fun x14 => (fetch_Block_J4 s5 s6 x14.1 x14.2))))) else some (Ctl.next ((wI (s5 + (1 : Int))), s6))) else some (Ctl.brk (Sum.inl s6)))
def fetch_Block_J2 (a0 : Config) (a1 : List Disk) (a2 : Int) (a3 : Int) (x2 : Int × Int) : Option ((List UInt8) × Int) :=
  Option.bind (loopM (fun s : Int × (List (List UInt8)) => fetch_Block_L3 a0 a1 a2 a3 x2 s.1 s.2) FUEL ((0 : Int), ([] : List (List UInt8)))) (fun b15 => Sum.elim (fun b16 => Option.bind (fold_Fold b16) (fun x17 => some (x17.1, x17.2))) (fun b18 => some (([] : List UInt8), (230 : Int))) b15)
def fetch_Block_J1 (a0 : Config) (a1 : List Disk) (a2 : Int) (a3 : Int) (x2 : Int × Int) (j3 : List UInt8) (j4 : Int) : Option ((List UInt8) × Int) :=
  (bif (j4 == (0 : Int)) then some (j3, (0 : Int)) else (fetch_Block_J2 a0 a1 a2 a3 x2))
/-- freeboard/fetch.Block -/
def fetch_Block (a0 : Config) (a1 : List Disk) (a2 : Int) (a3 : Int) (a4 : Int) : Option ((List UInt8) × Int) :=
  Option.bind (fetch_Check a0 a1) (fun x1 => (bif (x1 != (0 : Int)) then some (([] : List UInt8), x1) else Option.bind (turn_Member a0 a3 a4) (fun x2 => (bif (((x2.2 != (0 : Int)) || (decide (a2 < (-1 : Int)))) || (decide (a2 ≥ a0.Members))) then some (([] : List UInt8), (2 : Int)) else Option.bind (gO (!(x2.1 == a2)) (idx a1 x2.1)) (fun x19 => (bif ((x2.1 == a2) || x19.Dead) then (fetch_Block_J1 a0 a1 a2 a3 x2 ([] : List UInt8) (230 : Int)) else Option.bind (idx a1 x2.1) (fun x20 => Option.bind (disk_Read x20 (wI (a3 + (1 : Int)))) (fun x21 => (fetch_Block_J1 a0 a1 a2 a3 x2 x21.1 x21.2)))))))))
set_option maxRecDepth 100000 in
set_option maxHeartbeats 2000000 in
theorem fetch_Block_c (a0 : Config) (a1 : List Disk) (a2 : Int) (a3 : Int) (a4 : Int) {r : (List UInt8) × Int} (hm : fetch_Block a0 a1 a2 a3 a4 = some r) : Ctr Try.prog 9 [.rep 0 a0, .rep 0 a1, .rep 0 a2, .rep 0 a3, .rep 0 a4] (.tup2 (.sl 0 none r.1) (.fl r.2)) [] := by
 refine ctr_of_walkM [[31, 43]] 78 Try.func9 rfl rfl rfl rfl (fun w0 om => ?_)
 unfold fetch_Block at hm
 refine CWalk.sub (G' := [.fact 0 (.rep [] (a0 : Config)), .fact 1 (.rep [0] (a1 : List Disk)), .fact 2 (.rep [] (a2 : Int)), .fact 3 (.rep [] (a3 : Int)), .fact 4 (.rep [] (a4 : Int))]) (Sub.cons (Has.fl (Has.s rfl)) (sn (Sub.cons (Has.fl (Has.s rfl)) (Sub.cons (Has.fl (Has.s rfl)) (Sub.cons (Has.fl (Has.s rfl)) Sub.nil))))) ?_
 refine CWalk.seq ?_
 refine CWalk.region ?_
 refine ws (Step.boxObj (ls := [(false, 1, Fact.rep [] a0.Id), (false, 1, Fact.rep [] a0.Members), (false, 1, Fact.rep [] a0.Chunk), (false, 1, Fact.rep [] a0.Rows), (false, 1, Fact.rep [] a0.Log), (false, 1, Fact.rep [] a0.Heads)]) 10 rfl rfl rfl rfl (HasL.flds (Has.cv (Has.s rfl) (Cv.trans (Cv.opens (chConfig a0)) (Cv.flds (CvL.cons Cv.fl (CvL.cons Cv.fl (CvL.cons Cv.fl (CvL.cons Cv.fl (CvL.cons Cv.fl (CvL.cons Cv.fl CvL.nil))))))))))) ?_
 refine ws (Step.boxObj (ls := [(false, 1, Fact.rep [0] (a1 : List Disk))]) 17 rfl rfl rfl rfl (HasL.one (Has.s rfl) rfl (Has.s rfl))) ?_
 refine ws (Step.boxObj (ls := [(false, 1, Fact.rep [] (a2 : Int))]) 19 rfl rfl rfl rfl (HasL.one (Has.s rfl) rfl (Has.s rfl))) ?_
 refine ws (Step.boxObj (ls := [(false, 1, Fact.rep [] (a3 : Int))]) 21 rfl rfl rfl rfl (HasL.one (Has.s rfl) rfl (Has.s rfl))) ?_
 refine ws (Step.allocObj (ls := [(false, 1, Fact.nilv)]) 23 rfl rfl rfl rfl zl28) ?_
 refine ws (Step.allocObj (ls := [(false, 1, Fact.rep [] ((0 : Int) : Int))]) 25 rfl rfl rfl rfl zl29) ?_
 refine Walk.nil ?_
 refine Leaf.thenN ?_
 refine CWalk.seq ?_
 refine CWalk.seq ?_
 refine CWalk.region ?_
 refine wo (Spec.loadObj (ls := [(false, 1, Fact.rep [] a0.Id), (false, 1, Fact.rep [] a0.Members), (false, 1, Fact.rep [] a0.Chunk), (false, 1, Fact.rep [] a0.Rows), (false, 1, Fact.rep [] a0.Log), (false, 1, Fact.rep [] a0.Heads)]) ty24 rfl rfl (Has.s rfl) rfl (HasGs.cons (HasG.s rfl) (HasGs.cons (HasG.s rfl) (HasGs.cons (HasG.s rfl) (HasGs.cons (HasG.s rfl) (HasGs.cons (HasG.s rfl) (HasGs.cons (HasG.s rfl) HasGs.nil))))))) ?_
 refine wo (Spec.loadF (i := 0) ty25 rfl (Has.cv (Has.s rfl) (Cv.isvP rfl)) rfl (HasG.s rfl)) ?_
 obtain ⟨x1, hx1, hm⟩ := bind_some hm
 refine wo (f := Fact.rep [] (x1 : Int)) (Spec.callE [0] 27 rfl en11 (fetch_Check_c a0 a1 hx1) (HasAll.cons (Has.fl (Has.cv (Has.s rfl) (Cv.trans (Cv.flds (CvL.cons Cv.fl (CvL.cons Cv.fl (CvL.cons Cv.fl (CvL.cons Cv.fl (CvL.cons Cv.fl (CvL.cons Cv.fl CvL.nil))))))) (Cv.close (T := []) (chConfig a0))))) (HasAll.cons (Has.m (Has.s rfl) rfl) HasAll.nil))) ?_
 refine wo (Spec.assign (Has.s rfl)) ?_
 refine Walk.nil ?_
 refine Leaf.thenN ?_
 refine CWalk.seq ?_
 refine CWalk.region ?_
 refine mv ?_
 refine wo (Spec.neqI (Has.s rfl) Has.int) ?_
 refine Walk.nil ?_
 refine Leaf.thenN ?_
 refine CWalk.cond rfl (fun hb => ?_) (fun hb => ?_)
 ·have hm := cond_t hb hm
  refine CWalk.seq ?_
  refine CWalk.region ?_
  refine mv ?_
  refine ws (Step.storeF (i := 0) (f := Fact.nilv) rfl ty28 rfl (Has.cv (Has.s rfl) (Cv.isvP rfl)) rfl (Has.cv Has.nilv (Cv.nil (T := []))) Has.nilv rfl) ?_
  refine ws (Step.storeF (i := 0) (f := Fact.rep [] (x1 : Int)) rfl ty29 rfl (Has.cv (Has.s rfl) (Cv.isvP rfl)) rfl (Has.s rfl) (Has.s rfl) rfl) ?_
  refine Walk.nil ?_
  refine Leaf.thenN ?_
  refine CWalk.ret ?_
  refine Leaf.thenR ?_
  obtain rfl := Option.some.inj hm
  exact Leaf.retM (Leaf.retC2 rfl (HasR.cv (HasR.cell1 ty28 rfl (Has.s rfl) rfl (HasG.s rfl)) (Cv.trans Cv.nilSl (Cv.slF (T := []) (te := []) rfl))) (HasR.cv (HasR.cell1 ty29 rfl (Has.s rfl) rfl (HasG.s rfl)) Cv.fl))
 ·have hm := cond_f hb hm
  refine CWalk.skip ?_
  refine Leaf.thenN ?_
  refine CWalk.seq ?_
  refine CWalk.region ?_
  refine wo (Spec.loadObj (ls := [(false, 1, Fact.rep [] a0.Id), (false, 1, Fact.rep [] a0.Members), (false, 1, Fact.rep [] a0.Chunk), (false, 1, Fact.rep [] a0.Rows), (false, 1, Fact.rep [] a0.Log), (false, 1, Fact.rep [] a0.Heads)]) ty24 rfl rfl (Has.s rfl) rfl (HasGs.cons (HasG.s rfl) (HasGs.cons (HasG.s rfl) (HasGs.cons (HasG.s rfl) (HasGs.cons (HasG.s rfl) (HasGs.cons (HasG.s rfl) (HasGs.cons (HasG.s rfl) HasGs.nil))))))) ?_
  refine wo (Spec.loadF (i := 0) ty3 rfl (Has.cv (Has.s rfl) (Cv.isvP rfl)) rfl (HasG.s rfl)) ?_
  refine mv ?_
  obtain ⟨x2, hx2, hm⟩ := bind_some hm
  refine wo (f := Fact.tup2 (Fact.rep [] x2.1) (Fact.rep [] x2.2)) (Spec.callE [] 28 rfl en19 (turn_Member_c a0 a3 a4 hx2) (HasAll.cons (Has.fl (Has.cv (Has.s rfl) (Cv.trans (Cv.flds (CvL.cons Cv.fl (CvL.cons Cv.fl (CvL.cons Cv.fl (CvL.cons Cv.fl (CvL.cons Cv.fl (CvL.cons Cv.fl CvL.nil))))))) (Cv.close (T := []) (chConfig a0))))) (HasAll.cons (Has.fl (Has.s rfl)) (HasAll.cons (Has.fl (Has.s rfl)) HasAll.nil)))) ?_
  refine mv ?_
  refine wo (Spec.ext0 (Has.s rfl)) ?_
  refine wo (Spec.ext1 (Has.s rfl)) ?_
  refine wo (Spec.assign (Has.s rfl)) ?_
  refine wo (Spec.assign (Has.s rfl)) ?_
  refine Walk.nil ?_
  refine Leaf.thenN ?_
  refine CWalk.seq ?_
  refine CWalk.seq ?_
  refine CWalk.region ?_
  refine mv ?_
  refine wo (Spec.neqI (Has.s rfl) Has.int) ?_
  refine mv ?_
  refine wg rfl rfl (fun hb => Spec.loadF (i := 0) ty3 rfl (Has.cv (Has.s rfl) (Cv.isvP rfl)) rfl (HasG.s rfl)) ?_
  refine wg rfl rfl (fun hb => Spec.lssI (Has.u rfl hb) Has.int) ?_
  refine wo (Spec.or (Has.s rfl) (fun h => Has.u rfl h)) ?_
  refine mv ?_
  refine wg rfl rfl (fun hb => Spec.loadF (i := 0) ty3 rfl (Has.cv (Has.s rfl) (Cv.isvP rfl)) rfl (HasG.s rfl)) ?_
  refine wg rfl rfl (fun hb => Spec.fieldAddrO fd24_1 (Has.cv (Has.s rfl) (Cv.isvP rfl))) ?_
  refine wg rfl rfl (fun hb => Spec.loadF (i := 1) ty3 rfl (Has.u rfl hb) rfl (HasG.s rfl)) ?_
  refine wg rfl rfl (fun hb => Spec.geqI (Has.u rfl hb) (Has.u rfl hb)) ?_
  refine wo (Spec.or (Has.s rfl) (fun h => Has.u rfl h)) ?_
  refine Walk.nil ?_
  refine Leaf.thenN ?_
  refine CWalk.cond rfl (fun hb => ?_) (fun hb => ?_)
  ·have hm := cond_t hb hm
   refine CWalk.seq ?_
   refine CWalk.region ?_
   refine ws (Step.storeF (i := 0) (f := Fact.nilv) rfl ty28 rfl (Has.cv (Has.s rfl) (Cv.isvP rfl)) rfl (Has.cv Has.nilv (Cv.nil (T := []))) Has.nilv rfl) ?_
   refine ws (Step.storeF (i := 0) (f := Fact.rep [] ((2 : Int) : Int)) rfl ty29 rfl (Has.cv (Has.s rfl) (Cv.isvP rfl)) rfl Has.int Has.int rfl) ?_
   refine Walk.nil ?_
   refine Leaf.thenN ?_
   refine CWalk.ret ?_
   refine Leaf.thenR ?_
   obtain rfl := Option.some.inj hm
   exact Leaf.retM (Leaf.retC2 rfl (HasR.cv (HasR.cell1 ty28 rfl (Has.s rfl) rfl (HasG.s rfl)) (Cv.trans Cv.nilSl (Cv.slF (T := []) (te := []) rfl))) (HasR.cv (HasR.cell1 ty29 rfl (Has.s rfl) rfl (HasG.s rfl)) Cv.fl))
  ·have hm := cond_f hb hm
   refine CWalk.skip ?_
   refine Leaf.thenN ?_
   refine CWalk.seq ?_
   refine CWalk.region ?_
   refine wo (Spec.makeFunc (xs := []) (ys := [.tmp 7, .tmp 6, .tmp 8]) rfl rfl HasF.nil (HasF.cons (Has.s rfl) (HasF.cons (Has.s rfl) (HasF.cons (Has.s rfl) HasF.nil))) (fun _ _ _ => rfl)) ?_
   refine ws (Step.allocObj (ls := [(false, 1, Fact.top)]) 29 rfl rfl rfl rfl zl54) ?_
   refine ws (Step.storeFn (i := 0) (f := Fact.fnv 23 [] [Fact.isv 19, Fact.isv 17, Fact.isv 21]) rfl tc54 rfl (Has.cv (Has.s rfl) (Cv.isvP rfl)) rfl OneC.fnv (Has.s rfl) rfl) ?_
   refine Walk.nil ?_
   refine Leaf.thenN ?_
   refine CWalk.seq ?_
   refine CWalk.seq ?_
   refine CWalk.region ?_
   refine wo (Spec.loadF (α := Int) (i := 0) ty54 rfl (Has.cv (Has.s rfl) (Cv.isvP rfl)) rfl (HasG.s rfl)) ?_
   refine mv ?_
   refine Walk.inline (S := (List UInt8) × Int) (fun p : (List UInt8) × Int => [.fact 5 (.isv 10), .fact 10 (.isv 23), .fact 11 (.isv 25), .fact 13 (.rep [] x2.1), .fact 15 (.isv 29), .fact 51 (.tup2 (Fact.ow [31] [] 5 (p.1 : List UInt8)) (Fact.rep [] p.2)), .fact 100011 (.at 11 (.rep [] a0.Id)), .fact 100012 (.at 12 (.rep [] a0.Members)), .fact 100013 (.at 13 (.rep [] a0.Chunk)), .fact 100014 (.at 14 (.rep [] a0.Rows)), .fact 100015 (.at 15 (.rep [] a0.Log)), .fact 100016 (.at 16 (.rep [] a0.Heads)), .fact 100024 (.at 24 (.nilv)), .fact 100026 (.at 26 (.rep [] ((0 : Int) : Int))), .fact 100030 (.at 30 (.fnv 23 [] [Fact.isv 19, Fact.isv 17, Fact.isv 21])), .fact 100018 (.at 18 (.rep [0] (a1 : List Disk))), .fact 100020 (.at 20 (.rep [] (a2 : Int))), .fact 100022 (.at 22 (.rep [] (a3 : Int))), .fact 100010 (.obj 10 [(false, 1), (false, 1), (false, 1), (false, 1), (false, 1), (false, 1)]), .fact 100023 (.obj 23 [(false, 1)]), .fact 100025 (.obj 25 [(false, 1)]), .fact 100029 (.obj 29 [(false, 1)]), .fact 100017 (.obj 17 [(false, 1)]), .fact 100019 (.obj 19 [(false, 1)]), .fact 100021 (.obj 21 [(false, 1)])]) (fun p : (List UInt8) × Int => fetch_Block_J1 a0 a1 a2 a3 x2 p.1 p.2 = some r) (fun u1 => [.fact 100011 (.at 11 (.rep [] a0.Id)), .fact 100012 (.at 12 (.rep [] a0.Members)), .fact 100013 (.at 13 (.rep [] a0.Chunk)), .fact 100014 (.at 14 (.rep [] a0.Rows)), .fact 100015 (.at 15 (.rep [] a0.Log)), .fact 100016 (.at 16 (.rep [] a0.Heads)), .fact 100018 (.at 18 (.rep [0] (a1 : List Disk))), .fact 100020 (.at 20 (.rep [] (a2 : Int))), .fact 100022 (.at 22 (.rep [] (a3 : Int))), .fact 100024 (.at 24 (.nilv)), .fact 100026 (.at 26 (.rep [] ((0 : Int) : Int))), .fact 100030 (.at 30 (.fnv 23 [] [Fact.isv 19, Fact.isv 17, Fact.isv 21])), .fact 902005 (.cst (u1 5) (Fact.isv 10)), .fact 902010 (.cst (u1 10) (Fact.isv 23)), .fact 902011 (.cst (u1 11) (Fact.isv 25)), .fact 902013 (.cst (u1 13) (Fact.rep [] x2.1)), .fact 902015 (.cst (u1 15) (Fact.isv 29)), .fact 100010 (.obj 10 [(false, 1), (false, 1), (false, 1), (false, 1), (false, 1), (false, 1)]), .fact 100017 (.obj 17 [(false, 1)]), .fact 100019 (.obj 19 [(false, 1)]), .fact 100021 (.obj 21 [(false, 1)]), .fact 100023 (.obj 23 [(false, 1)]), .fact 100025 (.obj 25 [(false, 1)]), .fact 100029 (.obj 29 [(false, 1)])]) (FA := [Fact.rep [] x2.1, Fact.isv 19, Fact.isv 17, Fact.isv 21]) rfl Try.func23 rfl rfl rfl (CallOk.valE en23 (Has.s rfl) (HasF.cons (Has.s rfl) HasF.nil)) (fun u1 => (ck (ck (ck (ck (ck (ck (ck (ck (ck (ck (ck (ck (cs 902000 5 (cs 902000 10 (cs 902000 11 (cs 902000 13 (cs 902000 15 (ck (ck (ck (ck (ck (ck (ck Carry.nil))))))))))))))))))))))))) (fun u1 => ?_) ?_
   ·refine CWalk.seq ?_
    refine CWalk.region ?_
    refine wo (Spec.assign Has.nilv) ?_
    refine wo (Spec.assign Has.int) ?_
    refine Walk.nil ?_
    refine Leaf.thenN ?_
    refine CWalk.seq ?_
    refine CWalk.seq ?_
    refine CWalk.region ?_
    refine mv ?_
    refine wo (Spec.loadF (i := 0) ty3 rfl (Has.cv (Has.s rfl) (Cv.isvP rfl)) rfl (HasG.s rfl)) ?_
    refine wo (Spec.eqlI (Has.s rfl) (Has.s rfl)) ?_
    refine mv ?_
    refine wg rfl rfl (fun hb => Spec.loadF (i := 0) ty25 rfl (Has.cv (Has.s rfl) (Cv.isvP rfl)) rfl (HasG.s rfl)) ?_
    refine wg rfl rfl (fun hb => Spec.move (Has.s rfl)) ?_
    obtain ⟨x19, hx19, hm⟩ := bind_some hm
    refine wg rfl rfl (fun hb => Spec.indexAddr (gO_t hx19 (not_t hb)) sl25 (Has.u rfl hb) (Has.u rfl hb)) ?_
    refine wg rfl rfl (fun hb => Spec.fieldAddrP fd49_2 (chDisk x19) rfl (Has.u rfl hb)) ?_
    refine wg rfl rfl (fun hb => (Spec.load ty4 (Has.u rfl hb)).flat (T' := [])) ?_
    refine wo (Spec.or (Has.s rfl) (fun h => Has.u rfl h)) ?_
    refine Walk.nil ?_
    refine Leaf.thenN ?_
    refine CWalk.cond rfl (fun hb => ?_) (fun hb => ?_)
    ·have hm := cond_t hb hm
     refine CWalk.seq ?_
     refine CWalk.region ?_
     refine wo (Spec.assign Has.nilv) ?_
     refine wo (Spec.assign Has.int) ?_
     refine Walk.nil ?_
     refine Leaf.thenN ?_
     refine CWalk.ret ?_
     refine Leaf.thenR ?_
     exact Leaf.in2 (([] : List UInt8), (230 : Int)) hm rfl rfl (HasR.cv (HasR.tmp (Has.s rfl)) (Cv.trans Cv.nilOw (Cv.owF (T := []) (te := []) rfl))) (HasR.cv (HasR.tmp (Has.s rfl)) Cv.fl) (ls 902005 (ls 902010 (ls 902011 (Low.slot rfl (HasC.cv (HasC.s (s := 902013) rfl) Cv.fl) (ls 902015 (Low.res (lf (lf (lf (lf (lf (lf (lg (lf (lg (lm (lf (lf (lo (lo (lo (lo (lo (lo (lo Low.nil)))))))))))))))))))))))))
    ·have hm := cond_f hb hm
     refine CWalk.skip ?_
     refine Leaf.thenN ?_
     refine CWalk.seq ?_
     obtain ⟨x20, hx20, hm⟩ := bind_some hm
     obtain ⟨x21, hx21, hm⟩ := bind_some hm
     refine CWalk.drawM [[], [], [0, 1], [0, 1, 2], [], [4], [0, 1, 2, 3, 4, 5], [0, 1, 2, 3, 4, 5, 6], [0, 1, 2, 3, 4, 5, 6], [0, 1, 2, 3, 4, 5, 6, 7, 8], [0, 1, 2, 3, 4, 5, 6, 7, 8, 9]] [[.fact 17 (.rep [0] (a1 : List Disk))], [.fact 18 (.rep [] x2.1)], [.fact 19 (.ptr [0] (x20 : Disk))], [.fact 20 (.rep [0] (x20 : Disk))], [.fact 21 (.rep [] (a3 : Int))], [.fact 22 (.rep [] ((wI (a3 + (1 : Int))) : Int))], [.fact 23 (.tup2 (Fact.ow [31] [] 5 (x21.1 : List UInt8)) (Fact.rep [] x21.2))], [.fact 24 (.ow [31] [] 5 (x21.1 : List UInt8))], [.fact 25 (.rep [] x21.2)], [.fact 5 (.ow [31] [] 5 (x21.1 : List UInt8))], [.fact 6 (.rep [] x21.2)]] mixed (by kernel_rfl) (ao (so (Spec.loadF (i := 0) ty25 rfl (Has.cv (Has.s rfl) (Cv.isvP rfl)) rfl (HasG.s rfl))) (ao (so (Spec.move (Has.s rfl))) (ao (so (Spec.indexAddr hx20 sl25 (Has.s rfl) (Has.s rfl))) (ao (so (Spec.load ty49 (Has.s rfl))) (ao (so (Spec.loadF (i := 0) ty3 rfl (Has.cv (Has.s rfl) (Cv.isvP rfl)) rfl (HasG.s rfl))) (ao (so (Spec.addI (Has.s rfl) Has.int)) (ao (so (Spec.callE [0] 31 rfl en20 (disk_Read_c x20 (wI (a3 + (1 : Int))) hx21) (HasAll.cons (Has.m (Has.s rfl) rfl) (HasAll.cons (Has.fl (Has.s rfl)) HasAll.nil)))) (ao (so (Spec.ext0 (Has.s rfl))) (ao (so (Spec.ext1 (Has.s rfl))) (ao (so (Spec.assign (Has.s rfl))) (ao (so (Spec.assign (Has.s rfl))) AllM.nil))))))))))) ?_
     refine Leaf.thenN ?_
     refine CWalk.ret ?_
     exact Leaf.in2 (x21.1, x21.2) hm rfl rfl (HasR.cv (HasR.tmp (Has.s rfl)) (Cv.owF (T := [31]) (te := []) rfl)) (HasR.cv (HasR.tmp (Has.s rfl)) Cv.fl) (ls 902005 (ls 902010 (ls 902011 (Low.slot rfl (HasC.cv (HasC.s (s := 902013) rfl) Cv.fl) (ls 902015 (Low.res (lf (lf (lf (lf (lf (lf (lg (lf (lg (lm (lf (lf (lo (lo (lo (lo (lo (lo (lo Low.nil)))))))))))))))))))))))))
   ·rintro ⟨j3, j4⟩ hm
    replace hm : fetch_Block_J1 a0 a1 a2 a3 x2 j3 j4 = some r := hm
    unfold fetch_Block_J1 at hm
    show Walk _ _ _ [.fact 5 (.isv 10), .fact 10 (.isv 23), .fact 11 (.isv 25), .fact 13 (.rep [] x2.1), .fact 15 (.isv 29), .fact 51 (.tup2 (Fact.ow [31] [] 5 (j3 : List UInt8)) (Fact.rep [] (j4 : Int))), .fact 100011 (.at 11 (.rep [] a0.Id)), .fact 100012 (.at 12 (.rep [] a0.Members)), .fact 100013 (.at 13 (.rep [] a0.Chunk)), .fact 100014 (.at 14 (.rep [] a0.Rows)), .fact 100015 (.at 15 (.rep [] a0.Log)), .fact 100016 (.at 16 (.rep [] a0.Heads)), .fact 100024 (.at 24 (.nilv)), .fact 100026 (.at 26 (.rep [] ((0 : Int) : Int))), .fact 100030 (.at 30 (.fnv 23 [] [Fact.isv 19, Fact.isv 17, Fact.isv 21])), .fact 100018 (.at 18 (.rep [0] (a1 : List Disk))), .fact 100020 (.at 20 (.rep [] (a2 : Int))), .fact 100022 (.at 22 (.rep [] (a3 : Int))), .fact 100010 (.obj 10 [(false, 1), (false, 1), (false, 1), (false, 1), (false, 1), (false, 1)]), .fact 100023 (.obj 23 [(false, 1)]), .fact 100025 (.obj 25 [(false, 1)]), .fact 100029 (.obj 29 [(false, 1)]), .fact 100017 (.obj 17 [(false, 1)]), .fact 100019 (.obj 19 [(false, 1)]), .fact 100021 (.obj 21 [(false, 1)])] _
    refine mv ?_
    refine wo (Spec.ext0 (Has.s rfl)) ?_
    refine wo (Spec.ext1 (Has.s rfl)) ?_
    refine wo (Spec.assign (Has.s rfl)) ?_
    refine wo (Spec.assign (Has.s rfl)) ?_
    refine Walk.nil ?_
    refine Leaf.thenN ?_
    refine CWalk.seq ?_
    refine CWalk.region ?_
    refine mv ?_
    refine wo (Spec.eqlI (Has.s rfl) Has.int) ?_
    refine Walk.nil ?_
    refine Leaf.thenN ?_
    refine CWalk.cond rfl (fun hb => ?_) (fun hb => ?_)
    ·have hm := cond_t hb hm
     refine CWalk.seq ?_
     refine CWalk.region ?_
     refine mv ?_
     refine ws (Step.storeF (i := 0) (f := Fact.ow [31] [] 5 (j3 : List UInt8)) rfl ty28 rfl (Has.cv (Has.s rfl) (Cv.isvP rfl)) rfl (Has.cv (Has.s rfl) (Cv.trans Cv.owSl (Cv.slRep (T' := [31]) rfl rfl))) (Has.s rfl) rfl) ?_
     refine ws (Step.storeF (i := 0) (f := Fact.rep [] ((0 : Int) : Int)) rfl ty29 rfl (Has.cv (Has.s rfl) (Cv.isvP rfl)) rfl Has.int Has.int rfl) ?_
     refine Walk.nil ?_
     refine Leaf.thenN ?_
     refine CWalk.ret ?_
     refine Leaf.thenR ?_
     obtain rfl := Option.some.inj hm
     exact Leaf.retM (Leaf.retC2 rfl (HasR.cv (HasR.cell1 ty28 rfl (Has.s rfl) rfl (HasG.s rfl)) (Cv.trans Cv.owSl (Cv.slF (T := [31]) (te := []) rfl))) (HasR.cv (HasR.cell1 ty29 rfl (Has.s rfl) rfl (HasG.s rfl)) Cv.fl))
    ·have hm := cond_f hb hm
     refine CWalk.skip ?_
     refine Leaf.thenN ?_
     refine CWalk.seq ?_
     refine CWalk.region ?_
     refine ws (Step.allocObj (ls := [(false, 1, Fact.nilv)]) 32 rfl rfl rfl rfl zl46) ?_
     refine Walk.nil ?_
     refine Leaf.thenN ?_
     refine CWalk.seq ?_
     refine CWalk.seq ?_
     refine CWalk.region ?_
     refine wo (Spec.fieldAddrO fd24_1 (Has.cv (Has.s rfl) (Cv.isvP rfl))) ?_
     refine wo (Spec.loadF (i := 1) ty3 rfl (Has.s rfl) rfl (HasG.s rfl)) ?_
     refine mv ?_
     refine Walk.inline (S := Unit) (fun p : Unit => [.fact 10 (.isv 23), .fact 11 (.isv 25), .fact 15 (.isv 29), .fact 18 (.isv 32), .fact 60 (.fnv 44 [] [Fact.isv 34, Fact.isv 36]), .fact 100024 (.at 24 (.nilv)), .fact 100026 (.at 26 (.rep [] ((0 : Int) : Int))), .fact 100030 (.at 30 (.fnv 23 [] [Fact.isv 19, Fact.isv 17, Fact.isv 21])), .fact 100033 (.at 33 (.nilv)), .fact 100035 (.at 35 (.rep [] a0.Members)), .fact 100037 (.at 37 (.rep [] x2.1)), .fact 100018 (.at 18 (.rep [0] (a1 : List Disk))), .fact 100020 (.at 20 (.rep [] (a2 : Int))), .fact 100022 (.at 22 (.rep [] (a3 : Int))), .fact 100023 (.obj 23 [(false, 1)]), .fact 100025 (.obj 25 [(false, 1)]), .fact 100029 (.obj 29 [(false, 1)]), .fact 100032 (.obj 32 [(false, 1)]), .fact 100034 (.obj 34 [(false, 1)]), .fact 100036 (.obj 36 [(false, 1)]), .fact 100017 (.obj 17 [(false, 1)]), .fact 100019 (.obj 19 [(false, 1)]), .fact 100021 (.obj 21 [(false, 1)])]) (fun p : Unit => fetch_Block_J2 a0 a1 a2 a3 x2 = some r) (fun u1 => [.fact 100018 (.at 18 (.rep [0] (a1 : List Disk))), .fact 100020 (.at 20 (.rep [] (a2 : Int))), .fact 100022 (.at 22 (.rep [] (a3 : Int))), .fact 100024 (.at 24 (.nilv)), .fact 100026 (.at 26 (.rep [] ((0 : Int) : Int))), .fact 100030 (.at 30 (.fnv 23 [] [Fact.isv 19, Fact.isv 17, Fact.isv 21])), .fact 100033 (.at 33 (.nilv)), .fact 902010 (.cst (u1 10) (Fact.isv 23)), .fact 902011 (.cst (u1 11) (Fact.isv 25)), .fact 902015 (.cst (u1 15) (Fact.isv 29)), .fact 902018 (.cst (u1 18) (Fact.isv 32)), .fact 100023 (.obj 23 [(false, 1)]), .fact 100025 (.obj 25 [(false, 1)]), .fact 100029 (.obj 29 [(false, 1)]), .fact 100017 (.obj 17 [(false, 1)]), .fact 100019 (.obj 19 [(false, 1)]), .fact 100021 (.obj 21 [(false, 1)]), .fact 100032 (.obj 32 [(false, 1)])]) (FA := [Fact.rep [] a0.Members, Fact.rep [] x2.1]) rfl Try.func24 rfl rfl rfl (CallOk.fn en24 (HasF.cons (Has.s rfl) (HasF.cons (Has.s rfl) HasF.nil))) (fun u1 => (ck (ck (ck (ck (ck (ck (ck (cs 902000 10 (cs 902000 11 (cs 902000 15 (cs 902000 18 (ck (ck (ck (ck (ck (ck (ck Carry.nil))))))))))))))))))) (fun u1 => ?_) ?_
     ·refine CWalk.seq ?_
      refine CWalk.region ?_
      refine ws (Step.boxObj (ls := [(false, 1, Fact.rep [] a0.Members)]) 34 rfl rfl rfl rfl (HasL.one (Has.s rfl) rfl (Has.s rfl))) ?_
      refine ws (Step.boxObj (ls := [(false, 1, Fact.rep [] x2.1)]) 36 rfl rfl rfl rfl (HasL.one (Has.s rfl) rfl (Has.s rfl))) ?_
      refine wo (Spec.assign Has.top) ?_
      refine Walk.nil ?_
      refine Leaf.thenN ?_
      refine CWalk.seq ?_
      refine CWalk.region ?_
      refine wo (Spec.makeFunc (xs := []) (ys := [.tmp 2, .tmp 3]) rfl rfl HasF.nil (HasF.cons (Has.s rfl) (HasF.cons (Has.s rfl) HasF.nil)) (fun _ _ _ => rfl)) ?_
      refine wo (Spec.assign (Has.s rfl)) ?_
      refine Walk.nil ?_
      refine Leaf.thenN ?_
      refine CWalk.ret ?_
      exact Leaf.in1 () hm rfl rfl (HasR.tmp (Has.s rfl)) (ls 902010 (ls 902011 (ls 902015 (ls 902018 (Low.res (lg (lf (lg (lg (lf (lf (lm (lf (lf (lo (lo (lo (lo (lo (lo (lo (lo (lo Low.nil)))))))))))))))))))))))
     ·rintro _ hm
      replace hm : fetch_Block_J2 a0 a1 a2 a3 x2 = some r := hm
      unfold fetch_Block_J2 at hm
      show Walk _ _ _ [.fact 10 (.isv 23), .fact 11 (.isv 25), .fact 15 (.isv 29), .fact 18 (.isv 32), .fact 60 (.fnv 44 [] [Fact.isv 34, Fact.isv 36]), .fact 100024 (.at 24 (.nilv)), .fact 100026 (.at 26 (.rep [] ((0 : Int) : Int))), .fact 100030 (.at 30 (.fnv 23 [] [Fact.isv 19, Fact.isv 17, Fact.isv 21])), .fact 100033 (.at 33 (.nilv)), .fact 100035 (.at 35 (.rep [] a0.Members)), .fact 100037 (.at 37 (.rep [] x2.1)), .fact 100018 (.at 18 (.rep [0] (a1 : List Disk))), .fact 100020 (.at 20 (.rep [] (a2 : Int))), .fact 100022 (.at 22 (.rep [] (a3 : Int))), .fact 100023 (.obj 23 [(false, 1)]), .fact 100025 (.obj 25 [(false, 1)]), .fact 100029 (.obj 29 [(false, 1)]), .fact 100032 (.obj 32 [(false, 1)]), .fact 100034 (.obj 34 [(false, 1)]), .fact 100036 (.obj 36 [(false, 1)]), .fact 100017 (.obj 17 [(false, 1)]), .fact 100019 (.obj 19 [(false, 1)]), .fact 100021 (.obj 21 [(false, 1)])] _
      refine Walk.nil ?_
      refine Leaf.thenN ?_
      refine CWalk.block ?_
      refine CWalk.rangeFunc (cs := [Fact.isv 34, Fact.isv 36]) 38 (fun u1 => [.fact 902010 (.cst (u1 10) (Fact.isv 23)), .fact 902011 (.cst (u1 11) (Fact.isv 25)), .fact 902015 (.cst (u1 15) (Fact.isv 29)), .fact 902018 (.cst (u1 18) (Fact.isv 32)), .fact 902060 (.cst (u1 60) (Fact.fnv 44 [] [Fact.isv 34, Fact.isv 36])), .fact 100018 (.at 18 (.rep [0] (a1 : List Disk))), .fact 100020 (.at 20 (.rep [] (a2 : Int))), .fact 100022 (.at 22 (.rep [] (a3 : Int))), .fact 100024 (.at 24 (.nilv)), .fact 100026 (.at 26 (.rep [] ((0 : Int) : Int))), .fact 100030 (.at 30 (.fnv 23 [] [Fact.isv 19, Fact.isv 17, Fact.isv 21])), .fact 100033 (.at 33 (.nilv)), .fact 100035 (.at 35 (.rep [] a0.Members)), .fact 100037 (.at 37 (.rep [] x2.1)), .fact 100017 (.obj 17 [(false, 1)]), .fact 100019 (.obj 19 [(false, 1)]), .fact 100021 (.obj 21 [(false, 1)]), .fact 100023 (.obj 23 [(false, 1)]), .fact 100025 (.obj 25 [(false, 1)]), .fact 100029 (.obj 29 [(false, 1)]), .fact 100032 (.obj 32 [(false, 1)]), .fact 100034 (.obj 34 [(false, 1)]), .fact 100036 (.obj 36 [(false, 1)])]) rfl rfl rfl rfl Try.func44 rfl rfl en44 rfl (fun u1 => (cs 902000 10 (cs 902000 11 (cs 902000 15 (cs 902000 18 (cs 902000 60 (ck (ck (ck (ck (ck (ck (ck (ck (ck (ck (ck (ck (ck (ck (ck (ck (ck (ck Carry.nil)))))))))))))))))))))))) (fun u1 rr1 hrr1 => ?_)
      refine CWalk.seq ?_
      refine CWalk.region ?_
      refine wo (Spec.loadF (i := 0) ty3 rfl (Has.cv (Has.s rfl) (Cv.isvP rfl)) rfl (HasG.s rfl)) ?_
      refine wo (Spec.move Has.int) ?_
      refine Walk.nil ?_
      refine Leaf.thenN ?_
      refine CWalk.block ?_
      obtain ⟨b15, hb15, hm⟩ := bind_some hm
      refine CWalk.loop (fun s : Int × (List (List UInt8)) => [.fact 0 (.yv rr1.l), .fact 2 (.isv 36), .fact 5 (.rep [] a0.Members), .fact 6 (.rep [] s.1), .fact 902010 (.cst (u1 10) (Fact.isv 23)), .fact 902011 (.cst (u1 11) (Fact.isv 25)), .fact 902015 (.cst (u1 15) (Fact.isv 29)), .fact 902018 (.cst (u1 18) (Fact.isv 32)), .fact 902060 (.cst (u1 60) (Fact.fnv 44 [] [Fact.isv 34, Fact.isv 36])), .fact 100037 (.at 37 (.rep [] x2.1)), .fact 100024 (.at 24 (.nilv)), .fact 100026 (.at 26 (.rep [] ((0 : Int) : Int))), .fact 100030 (.at 30 (.fnv 23 [] [Fact.isv 19, Fact.isv 17, Fact.isv 21])), .fact 100033 (.at 33 (.ow [42] [40, 41] 28 (s.2 : List (List UInt8)))), .fact 100035 (.at 35 (.rep [] a0.Members)), .fact 100018 (.at 18 (.rep [0] (a1 : List Disk))), .fact 100020 (.at 20 (.rep [] (a2 : Int))), .fact 100022 (.at 22 (.rep [] (a3 : Int))), .fact 100036 (.obj 36 [(false, 1)]), .fact 100023 (.obj 23 [(false, 1)]), .fact 100025 (.obj 25 [(false, 1)]), .fact 100029 (.obj 29 [(false, 1)]), .fact 100032 (.obj 32 [(false, 1)]), .fact 100034 (.obj 34 [(false, 1)]), .fact 100017 (.obj 17 [(false, 1)]), .fact 100019 (.obj 19 [(false, 1)]), .fact 100021 (.obj 21 [(false, 1)]), .fact 100038 (.rc 38 rr1 .ready none), .fact 100039 (.dm 39 rr1.D)]) (fun b : ((List (List UInt8))) ⊕ ((List (List UInt8))) => Sum.elim (fun b => (Exit.exit 0, [.fact 902010 (.cst (u1 10) (Fact.isv 23)), .fact 902011 (.cst (u1 11) (Fact.isv 25)), .fact 902015 (.cst (u1 15) (Fact.isv 29)), .fact 902018 (.cst (u1 18) (Fact.isv 32)), .fact 902060 (.cst (u1 60) (Fact.fnv 44 [] [Fact.isv 34, Fact.isv 36])), .fact 100024 (.at 24 (.nilv)), .fact 100026 (.at 26 (.rep [] ((0 : Int) : Int))), .fact 100030 (.at 30 (.fnv 23 [] [Fact.isv 19, Fact.isv 17, Fact.isv 21])), .fact 100033 (.at 33 (.ow [42] [40, 41] 28 (b : List (List UInt8)))), .fact 100035 (.at 35 (.rep [] a0.Members)), .fact 100037 (.at 37 (.rep [] x2.1)), .fact 100018 (.at 18 (.rep [0] (a1 : List Disk))), .fact 100020 (.at 20 (.rep [] (a2 : Int))), .fact 100022 (.at 22 (.rep [] (a3 : Int))), .fact 100023 (.obj 23 [(false, 1)]), .fact 100025 (.obj 25 [(false, 1)]), .fact 100029 (.obj 29 [(false, 1)]), .fact 100032 (.obj 32 [(false, 1)]), .fact 100034 (.obj 34 [(false, 1)]), .fact 100036 (.obj 36 [(false, 1)]), .fact 100017 (.obj 17 [(false, 1)]), .fact 100019 (.obj 19 [(false, 1)]), .fact 100021 (.obj 21 [(false, 1)]), .fact 100038 (.rc 38 rr1 .ready none), .fact 100039 (.dm 39 rr1.D)])) (fun b => (Exit.ret, [.fact 902010 (.cst (u1 10) (Fact.isv 23)), .fact 902011 (.cst (u1 11) (Fact.isv 25)), .fact 902015 (.cst (u1 15) (Fact.isv 29)), .fact 902018 (.cst (u1 18) (Fact.isv 32)), .fact 902060 (.cst (u1 60) (Fact.fnv 44 [] [Fact.isv 34, Fact.isv 36])), .fact 100024 (.at 24 (.nilv)), .fact 100026 (.at 26 (.rep [] ((230 : Int) : Int))), .fact 100030 (.at 30 (.fnv 23 [] [Fact.isv 19, Fact.isv 17, Fact.isv 21])), .fact 100033 (.at 33 (.ow [42] [40, 41] 28 (b : List (List UInt8)))), .fact 100035 (.at 35 (.rep [] a0.Members)), .fact 100037 (.at 37 (.rep [] x2.1)), .fact 100018 (.at 18 (.rep [0] (a1 : List Disk))), .fact 100020 (.at 20 (.rep [] (a2 : Int))), .fact 100022 (.at 22 (.rep [] (a3 : Int))), .fact 100023 (.obj 23 [(false, 1)]), .fact 100025 (.obj 25 [(false, 1)]), .fact 100029 (.obj 29 [(false, 1)]), .fact 100032 (.obj 32 [(false, 1)]), .fact 100034 (.obj 34 [(false, 1)]), .fact 100036 (.obj 36 [(false, 1)]), .fact 100017 (.obj 17 [(false, 1)]), .fact 100019 (.obj 19 [(false, 1)]), .fact 100021 (.obj 21 [(false, 1)]), .fact 100038 (.rc 38 rr1 (.done) (some .ret)), .fact 100039 (.dm 39 rr1.D)])) b) hb15 (sn (sn (st (st (sc (sc (sc (sc (sc (sf (sg (sf (sg (Sub.cons (Has.at (HasG.cv (HasG.s rfl) (Cv.trans Cv.nilOw (Cv.owM (T := []) (te := []) rfl rfl)))) (sf (sm (sf (sf (sn (sn (sn (sn (sn (sn (sn (sn (sn (sn (sn Sub.nil))))))))))))))))))))))))))))) ?_ ?_
      ·rintro ⟨s5, s6⟩ c7 hm
       replace hm : fetch_Block_L3 a0 a1 a2 a3 x2 s5 s6 = some c7 := hm
       unfold fetch_Block_L3 at hm
       show CWalk _ [.fact 0 (.yv rr1.l), .fact 2 (.isv 36), .fact 5 (.rep [] a0.Members), .fact 6 (.rep [] (s5 : Int)), .fact 902010 (.cst (u1 10) (Fact.isv 23)), .fact 902011 (.cst (u1 11) (Fact.isv 25)), .fact 902015 (.cst (u1 15) (Fact.isv 29)), .fact 902018 (.cst (u1 18) (Fact.isv 32)), .fact 902060 (.cst (u1 60) (Fact.fnv 44 [] [Fact.isv 34, Fact.isv 36])), .fact 100037 (.at 37 (.rep [] x2.1)), .fact 100024 (.at 24 (.nilv)), .fact 100026 (.at 26 (.rep [] ((0 : Int) : Int))), .fact 100030 (.at 30 (.fnv 23 [] [Fact.isv 19, Fact.isv 17, Fact.isv 21])), .fact 100033 (.at 33 (.ow [42] [40, 41] 28 (s6 : List (List UInt8)))), .fact 100035 (.at 35 (.rep [] a0.Members)), .fact 100018 (.at 18 (.rep [0] (a1 : List Disk))), .fact 100020 (.at 20 (.rep [] (a2 : Int))), .fact 100022 (.at 22 (.rep [] (a3 : Int))), .fact 100036 (.obj 36 [(false, 1)]), .fact 100023 (.obj 23 [(false, 1)]), .fact 100025 (.obj 25 [(false, 1)]), .fact 100029 (.obj 29 [(false, 1)]), .fact 100032 (.obj 32 [(false, 1)]), .fact 100034 (.obj 34 [(false, 1)]), .fact 100017 (.obj 17 [(false, 1)]), .fact 100019 (.obj 19 [(false, 1)]), .fact 100021 (.obj 21 [(false, 1)]), .fact 100038 (.rc 38 rr1 .ready none), .fact 100039 (.dm 39 rr1.D)] _ _
       refine CWalk.seq ?_
       refine CWalk.region ?_
       refine wo (Spec.lssI (Has.s rfl) (Has.s rfl)) ?_
       refine Walk.nil ?_
       refine Leaf.thenN ?_
       refine CWalk.seq ?_
       refine CWalk.cond rfl (fun hb => ?_) (fun hb => ?_)
       ·have hm := cond_t hb hm
        refine CWalk.skip ?_
        refine Leaf.thenN ?_
        refine CWalk.seq ?_
        refine CWalk.block ?_
        refine CWalk.seq ?_
        refine CWalk.region ?_
        refine mv ?_
        refine wo (Spec.assign (Has.s rfl)) ?_
        refine Walk.nil ?_
        refine Leaf.thenN ?_
        refine CWalk.seq ?_
        refine CWalk.region ?_
        refine mv ?_
        refine wo (Spec.loadF (i := 0) ty3 rfl (Has.cv (Has.s rfl) (Cv.isvP rfl)) rfl (HasG.s rfl)) ?_
        refine wo (Spec.neqI (Has.s rfl) (Has.s rfl)) ?_
        refine mv ?_
        refine wg rfl rfl (fun hb => Spec.move (Has.s rfl)) ?_
        refine wg rfl rfl (fun hb => Spec.move (Has.s rfl)) ?_
        refine Walk.gsplitU (gp := ((s5 != x2.1) = true)) (Fact.rep [] (true : Bool)) rfl (GOk.one rfl rfl) (fun hg8 => ?_) (fun hg8 => ?_)
        ·have hm := cond_t hg8 hm
         refine Walk.yieldH (t := 38) (fs := [Fact.rep [] (s5 : Int)]) (fun u2 => [.fact 904000 (.cst (u2 0) (Fact.yv rr1.l)), .fact 904002 (.cst (u2 2) (Fact.isv 36)), .fact 904005 (.cst (u2 5) (Fact.rep [] a0.Members)), .fact 904006 (.cst (u2 6) (Fact.rep [] (s5 : Int))), .fact 904012 (.cst (u2 12) (Fact.rep [] ((s5 != x2.1) : Bool))), .fact 100018 (.at 18 (.rep [0] (a1 : List Disk))), .fact 100020 (.at 20 (.rep [] (a2 : Int))), .fact 100022 (.at 22 (.rep [] (a3 : Int))), .fact 100024 (.at 24 (.nilv)), .fact 100026 (.at 26 (.rep [] ((0 : Int) : Int))), .fact 100030 (.at 30 (.fnv 23 [] [Fact.isv 19, Fact.isv 17, Fact.isv 21])), .fact 100033 (.at 33 (.ow [42] [40, 41] 28 (s6 : List (List UInt8)))), .fact 100035 (.at 35 (.rep [] a0.Members)), .fact 100037 (.at 37 (.rep [] x2.1)), .fact 902010 (.cst (u1 10) (Fact.isv 23)), .fact 902011 (.cst (u1 11) (Fact.isv 25)), .fact 902015 (.cst (u1 15) (Fact.isv 29)), .fact 902018 (.cst (u1 18) (Fact.isv 32)), .fact 902060 (.cst (u1 60) (Fact.fnv 44 [] [Fact.isv 34, Fact.isv 36])), .fact 10 (.isv 23), .fact 11 (.isv 25), .fact 15 (.isv 29), .fact 18 (.isv 32), .fact 60 (.fnv 44 [] [Fact.isv 34, Fact.isv 36]), .fact 100017 (.obj 17 [(false, 1)]), .fact 100019 (.obj 19 [(false, 1)]), .fact 100021 (.obj 21 [(false, 1)]), .fact 100023 (.obj 23 [(false, 1)]), .fact 100025 (.obj 25 [(false, 1)]), .fact 100029 (.obj 29 [(false, 1)]), .fact 100032 (.obj 32 [(false, 1)]), .fact 100034 (.obj 34 [(false, 1)]), .fact 100036 (.obj 36 [(false, 1)]), .fact 100038 (.rc 38 rr1 .ready none), .fact 100039 (.dm 39 rr1.D)]) hrr1 rfl rfl (Has.u rfl hg8) rfl rfl (HasF.cons (Has.u rfl hg8) HasF.nil) rfl rfl (fun u2 => (Carry2.slot 904000 0 (Carry2.slot 904000 2 (Carry2.slot 904000 5 (Carry2.slot 904000 6 (Carry2.slot 904000 12 (Carry2.keep (Carry2.keep (Carry2.keep (Carry2.keep (Carry2.keep (Carry2.keep (Carry2.keep (Carry2.keep (Carry2.keep (Carry2.keep (Carry2.keep (Carry2.keep (Carry2.keep (Carry2.keep (Carry2.low 902010 10 (Carry2.low 902011 11 (Carry2.low 902015 15 (Carry2.low 902018 18 (Carry2.low 902060 60 (Carry2.keep (Carry2.keep (Carry2.keep (Carry2.keep (Carry2.keep (Carry2.keep (Carry2.keep (Carry2.keep (Carry2.keep (Carry2.keep (Carry2.keep Carry2.nil)))))))))))))))))))))))))))))))))))) (fun u2 => ?_)
         refine CWalk.region ?_
         refine wo (Spec.assign (Has.s rfl)) ?_
         refine Walk.nil ?_
         refine Leaf.begin (t := 38) rfl rfl ?_
         refine CWalk.block ?_
         refine CWalk.seq ?_
         refine CWalk.region ?_
         refine wo (Spec.loadF (α := Int) (i := 0) ty54 rfl (Has.cv (Has.s rfl) (Cv.isvP rfl)) rfl (HasG.s rfl)) ?_
         refine mv ?_
         refine Walk.inline (S := (List UInt8) × Int) (fun p : (List UInt8) × Int => [.fact 10 (.isv 23), .fact 11 (.isv 25), .fact 18 (.isv 32), .fact 65 (.tup2 (Fact.ow [40] [] 5 (p.1 : List UInt8)) (Fact.rep [] p.2)), .fact 902010 (.cst (u1 10) (Fact.isv 23)), .fact 902011 (.cst (u1 11) (Fact.isv 25)), .fact 902015 (.cst (u1 15) (Fact.isv 29)), .fact 902018 (.cst (u1 18) (Fact.isv 32)), .fact 902060 (.cst (u1 60) (Fact.fnv 44 [] [Fact.isv 34, Fact.isv 36])), .fact 904000 (.cst (u2 0) (Fact.yv rr1.l)), .fact 904002 (.cst (u2 2) (Fact.isv 36)), .fact 904005 (.cst (u2 5) (Fact.rep [] a0.Members)), .fact 904006 (.cst (u2 6) (Fact.rep [] (s5 : Int))), .fact 904012 (.cst (u2 12) (Fact.rep [] ((s5 != x2.1) : Bool))), .fact 100024 (.at 24 (.nilv)), .fact 100026 (.at 26 (.rep [] ((0 : Int) : Int))), .fact 100033 (.at 33 (.ow [42] [40, 41] 28 (s6 : List (List UInt8)))), .fact 100030 (.at 30 (.fnv 23 [] [Fact.isv 19, Fact.isv 17, Fact.isv 21])), .fact 100035 (.at 35 (.rep [] a0.Members)), .fact 100037 (.at 37 (.rep [] x2.1)), .fact 100018 (.at 18 (.rep [0] (a1 : List Disk))), .fact 100020 (.at 20 (.rep [] (a2 : Int))), .fact 100022 (.at 22 (.rep [] (a3 : Int))), .fact 100023 (.obj 23 [(false, 1)]), .fact 100025 (.obj 25 [(false, 1)]), .fact 100032 (.obj 32 [(false, 1)]), .fact 100029 (.obj 29 [(false, 1)]), .fact 100034 (.obj 34 [(false, 1)]), .fact 100036 (.obj 36 [(false, 1)]), .fact 100017 (.obj 17 [(false, 1)]), .fact 100019 (.obj 19 [(false, 1)]), .fact 100021 (.obj 21 [(false, 1)]), .fact 100038 (.rc 38 rr1 .busy none), .fact 100039 (.dm 39 rr1.D)]) (fun p : (List UInt8) × Int => fetch_Block_J4 s5 s6 p.1 p.2 = some c7) (fun u3 => [.fact 100018 (.at 18 (.rep [0] (a1 : List Disk))), .fact 100020 (.at 20 (.rep [] (a2 : Int))), .fact 100022 (.at 22 (.rep [] (a3 : Int))), .fact 100024 (.at 24 (.nilv)), .fact 100026 (.at 26 (.rep [] ((0 : Int) : Int))), .fact 100030 (.at 30 (.fnv 23 [] [Fact.isv 19, Fact.isv 17, Fact.isv 21])), .fact 100033 (.at 33 (.ow [42] [40, 41] 28 (s6 : List (List UInt8)))), .fact 100035 (.at 35 (.rep [] a0.Members)), .fact 100037 (.at 37 (.rep [] x2.1)), .fact 902010 (.cst (u1 10) (Fact.isv 23)), .fact 902011 (.cst (u1 11) (Fact.isv 25)), .fact 902015 (.cst (u1 15) (Fact.isv 29)), .fact 902018 (.cst (u1 18) (Fact.isv 32)), .fact 902060 (.cst (u1 60) (Fact.fnv 44 [] [Fact.isv 34, Fact.isv 36])), .fact 904000 (.cst (u2 0) (Fact.yv rr1.l)), .fact 904002 (.cst (u2 2) (Fact.isv 36)), .fact 904005 (.cst (u2 5) (Fact.rep [] a0.Members)), .fact 904006 (.cst (u2 6) (Fact.rep [] (s5 : Int))), .fact 904012 (.cst (u2 12) (Fact.rep [] ((s5 != x2.1) : Bool))), .fact 906010 (.cst (u3 10) (Fact.isv 23)), .fact 906011 (.cst (u3 11) (Fact.isv 25)), .fact 906018 (.cst (u3 18) (Fact.isv 32)), .fact 100036 (.obj 36 [(false, 1)]), .fact 100023 (.obj 23 [(false, 1)]), .fact 100025 (.obj 25 [(false, 1)]), .fact 100029 (.obj 29 [(false, 1)]), .fact 100032 (.obj 32 [(false, 1)]), .fact 100034 (.obj 34 [(false, 1)]), .fact 100017 (.obj 17 [(false, 1)]), .fact 100019 (.obj 19 [(false, 1)]), .fact 100021 (.obj 21 [(false, 1)]), .fact 100038 (.rc 38 rr1 .busy none), .fact 100039 (.dm 39 rr1.D)]) (FA := [Fact.rep [] (s5 : Int), Fact.isv 19, Fact.isv 17, Fact.isv 21]) rfl Try.func23 rfl rfl rfl (CallOk.valE en23 (Has.s rfl) (HasF.cons (Has.s rfl) HasF.nil)) (fun u3 => (ck (ck (ck (ck (ck (ck (ck (ck (ck (ck (ck (ck (ck (ck (ck (ck (ck (ck (ck (cs 906000 10 (cs 906000 11 (cs 906000 18 (ck (ck (ck (ck (ck (ck (ck (ck (ck (ck (ck Carry.nil)))))))))))))))))))))))))))))))))) (fun u3 => ?_) ?_
         ·refine CWalk.seq ?_
          refine CWalk.region ?_
          refine wo (Spec.assign Has.nilv) ?_
          refine wo (Spec.assign Has.int) ?_
          refine Walk.nil ?_
          refine Leaf.thenN ?_
          refine CWalk.seq ?_
          refine CWalk.seq ?_
          refine CWalk.region ?_
          refine mv ?_
          refine wo (Spec.loadF (i := 0) ty3 rfl (Has.cv (Has.s rfl) (Cv.isvP rfl)) rfl (HasG.s rfl)) ?_
          refine wo (Spec.eqlI (Has.s rfl) (Has.s rfl)) ?_
          refine mv ?_
          refine wg rfl rfl (fun hb => Spec.loadF (i := 0) ty25 rfl (Has.cv (Has.s rfl) (Cv.isvP rfl)) rfl (HasG.s rfl)) ?_
          refine wg rfl rfl (fun hb => Spec.move (Has.s rfl)) ?_
          obtain ⟨x12, hx12, hm⟩ := bind_some hm
          refine wg rfl rfl (fun hb => Spec.indexAddr (gO_t hx12 (not_t hb)) sl25 (Has.u rfl hb) (Has.u rfl hb)) ?_
          refine wg rfl rfl (fun hb => Spec.fieldAddrP fd49_2 (chDisk x12) rfl (Has.u rfl hb)) ?_
          refine wg rfl rfl (fun hb => (Spec.load ty4 (Has.u rfl hb)).flat (T' := [])) ?_
          refine wo (Spec.or (Has.s rfl) (fun h => Has.u rfl h)) ?_
          refine Walk.nil ?_
          refine Leaf.thenN ?_
          refine CWalk.cond rfl (fun hb => ?_) (fun hb => ?_)
          ·have hm := cond_t hb hm
           refine CWalk.seq ?_
           refine CWalk.region ?_
           refine wo (Spec.assign Has.nilv) ?_
           refine wo (Spec.assign Has.int) ?_
           refine Walk.nil ?_
           refine Leaf.thenN ?_
           refine CWalk.ret ?_
           refine Leaf.thenR ?_
           exact Leaf.in2 (([] : List UInt8), (230 : Int)) hm rfl rfl (HasR.cv (HasR.tmp (Has.s rfl)) (Cv.trans Cv.nilOw (Cv.owF (T := []) (te := []) rfl))) (HasR.cv (HasR.tmp (Has.s rfl)) Cv.fl) (ls 906010 (ls 906011 (ls 906018 (Low.res (lc (lc (lc (lc (lc (lc (lc (Low.keepC (HasC.cv (HasC.s (s := 904005) rfl) Cv.fl) (Low.keepC (HasC.cv (HasC.s (s := 904006) rfl) Cv.fl) (Low.keepC (HasC.cv (HasC.s (s := 904012) rfl) Cv.fl) (lg (lf (Low.keepG (HasG.cv (HasG.s rfl) (Cv.owM (T := [42]) (te := [40, 41]) rfl rfl)) (lg (lf (lf (lm (lf (lf (lo (lo (lo (lo (lo (lo (lo (lo (lo (lk (lk Low.nil))))))))))))))))))))))))))))))))))
          ·have hm := cond_f hb hm
           refine CWalk.skip ?_
           refine Leaf.thenN ?_
           refine CWalk.seq ?_
           obtain ⟨x13, hx13, hm⟩ := bind_some hm
           obtain ⟨x14, hx14, hm⟩ := bind_some hm
           refine CWalk.drawM [[], [], [0, 1], [0, 1, 2], [], [4], [0, 1, 2, 3, 4, 5], [0, 1, 2, 3, 4, 5, 6], [0, 1, 2, 3, 4, 5, 6], [0, 1, 2, 3, 4, 5, 6, 7, 8], [0, 1, 2, 3, 4, 5, 6, 7, 8, 9]] [[.fact 17 (.rep [0] (a1 : List Disk))], [.fact 18 (.rep [] (s5 : Int))], [.fact 19 (.ptr [0] (x13 : Disk))], [.fact 20 (.rep [0] (x13 : Disk))], [.fact 21 (.rep [] (a3 : Int))], [.fact 22 (.rep [] ((wI (a3 + (1 : Int))) : Int))], [.fact 23 (.tup2 (Fact.ow [40] [] 5 (x14.1 : List UInt8)) (Fact.rep [] x14.2))], [.fact 24 (.ow [40] [] 5 (x14.1 : List UInt8))], [.fact 25 (.rep [] x14.2)], [.fact 5 (.ow [40] [] 5 (x14.1 : List UInt8))], [.fact 6 (.rep [] x14.2)]] mixed (by kernel_rfl) (ao (so (Spec.loadF (i := 0) ty25 rfl (Has.cv (Has.s rfl) (Cv.isvP rfl)) rfl (HasG.s rfl))) (ao (so (Spec.move (Has.s rfl))) (ao (so (Spec.indexAddr hx13 sl25 (Has.s rfl) (Has.s rfl))) (ao (so (Spec.load ty49 (Has.s rfl))) (ao (so (Spec.loadF (i := 0) ty3 rfl (Has.cv (Has.s rfl) (Cv.isvP rfl)) rfl (HasG.s rfl))) (ao (so (Spec.addI (Has.s rfl) Has.int)) (ao (so (Spec.callE [0] 40 rfl en20 (disk_Read_c x13 (wI (a3 + (1 : Int))) hx14) (HasAll.cons (Has.m (Has.s rfl) rfl) (HasAll.cons (Has.fl (Has.s rfl)) HasAll.nil)))) (ao (so (Spec.ext0 (Has.s rfl))) (ao (so (Spec.ext1 (Has.s rfl))) (ao (so (Spec.assign (Has.s rfl))) (ao (so (Spec.assign (Has.s rfl))) AllM.nil))))))))))) ?_
           refine Leaf.thenN ?_
           refine CWalk.ret ?_
           exact Leaf.in2 (x14.1, x14.2) hm rfl rfl (HasR.cv (HasR.tmp (Has.s rfl)) (Cv.owF (T := [40]) (te := []) rfl)) (HasR.cv (HasR.tmp (Has.s rfl)) Cv.fl) (ls 906010 (ls 906011 (ls 906018 (Low.res (lc (lc (lc (lc (lc (lc (lc (Low.keepC (HasC.cv (HasC.s (s := 904005) rfl) Cv.fl) (Low.keepC (HasC.cv (HasC.s (s := 904006) rfl) Cv.fl) (Low.keepC (HasC.cv (HasC.s (s := 904012) rfl) Cv.fl) (lg (lf (Low.keepG (HasG.cv (HasG.s rfl) (Cv.owM (T := [42]) (te := [40, 41]) rfl rfl)) (lg (lf (lf (lm (lf (lf (lo (lo (lo (lo (lo (lo (lo (lo (lo (lk (lk Low.nil))))))))))))))))))))))))))))))))))
         ·rintro ⟨j9, j10⟩ hm
          replace hm : fetch_Block_J4 s5 s6 j9 j10 = some c7 := hm
          unfold fetch_Block_J4 at hm
          show Walk _ _ _ [.fact 10 (.isv 23), .fact 11 (.isv 25), .fact 18 (.isv 32), .fact 65 (.tup2 (Fact.ow [40] [] 5 (j9 : List UInt8)) (Fact.rep [] (j10 : Int))), .fact 902010 (.cst (u1 10) (Fact.isv 23)), .fact 902011 (.cst (u1 11) (Fact.isv 25)), .fact 902015 (.cst (u1 15) (Fact.isv 29)), .fact 902018 (.cst (u1 18) (Fact.isv 32)), .fact 902060 (.cst (u1 60) (Fact.fnv 44 [] [Fact.isv 34, Fact.isv 36])), .fact 904000 (.cst (u2 0) (Fact.yv rr1.l)), .fact 904002 (.cst (u2 2) (Fact.isv 36)), .fact 904005 (.cst (u2 5) (Fact.rep [] a0.Members)), .fact 904006 (.cst (u2 6) (Fact.rep [] (s5 : Int))), .fact 904012 (.cst (u2 12) (Fact.rep [] ((s5 != x2.1) : Bool))), .fact 100024 (.at 24 (.nilv)), .fact 100026 (.at 26 (.rep [] ((0 : Int) : Int))), .fact 100033 (.at 33 (.ow [42] [40, 41] 28 (s6 : List (List UInt8)))), .fact 100030 (.at 30 (.fnv 23 [] [Fact.isv 19, Fact.isv 17, Fact.isv 21])), .fact 100035 (.at 35 (.rep [] a0.Members)), .fact 100037 (.at 37 (.rep [] x2.1)), .fact 100018 (.at 18 (.rep [0] (a1 : List Disk))), .fact 100020 (.at 20 (.rep [] (a2 : Int))), .fact 100022 (.at 22 (.rep [] (a3 : Int))), .fact 100023 (.obj 23 [(false, 1)]), .fact 100025 (.obj 25 [(false, 1)]), .fact 100032 (.obj 32 [(false, 1)]), .fact 100029 (.obj 29 [(false, 1)]), .fact 100034 (.obj 34 [(false, 1)]), .fact 100036 (.obj 36 [(false, 1)]), .fact 100017 (.obj 17 [(false, 1)]), .fact 100019 (.obj 19 [(false, 1)]), .fact 100021 (.obj 21 [(false, 1)]), .fact 100038 (.rc 38 rr1 .busy none), .fact 100039 (.dm 39 rr1.D)] _
          refine mv ?_
          refine wo (Spec.ext0 (Has.s rfl)) ?_
          refine wo (Spec.ext1 (Has.s rfl)) ?_
          refine wo (Spec.assign (Has.s rfl)) ?_
          refine wo (Spec.assign (Has.s rfl)) ?_
          refine Walk.nil ?_
          refine Leaf.thenN ?_
          refine CWalk.seq ?_
          refine CWalk.seq ?_
          refine CWalk.region ?_
          refine mv ?_
          refine wo (Spec.neqI (Has.s rfl) Has.int) ?_
          refine Walk.nil ?_
          refine Leaf.thenN ?_
          refine CWalk.cond rfl (fun hb => ?_) (fun hb => ?_)
          ·have hm := cond_t hb hm
           refine CWalk.seq ?_
           refine CWalk.region ?_
           refine ws (Step.storeF (i := 0) (f := Fact.nilv) rfl ty28 rfl (Has.cv (Has.s rfl) (Cv.isvP rfl)) rfl (Has.cv Has.nilv (Cv.nil (T := []))) Has.nilv rfl) ?_
           refine ws (Step.storeF (i := 0) (f := Fact.rep [] ((230 : Int) : Int)) rfl ty29 rfl (Has.cv (Has.s rfl) (Cv.isvP rfl)) rfl Has.int Has.int rfl) ?_
           refine Walk.nil ?_
           refine Leaf.thenN ?_
           refine CWalk.ret ?_
           refine Leaf.thenR ?_
           refine Leaf.blockR ?_
           refine Leaf.rdR (t := 38) (J := [.fact 15 (.rep [] (false : Bool)), .fact 100018 (.at 18 (.rep [0] (a1 : List Disk))), .fact 100020 (.at 20 (.rep [] (a2 : Int))), .fact 100022 (.at 22 (.rep [] (a3 : Int))), .fact 100024 (.at 24 (.nilv)), .fact 100026 (.at 26 (.rep [] ((230 : Int) : Int))), .fact 100030 (.at 30 (.fnv 23 [] [Fact.isv 19, Fact.isv 17, Fact.isv 21])), .fact 100033 (.at 33 (.ow [42] [40, 41] 28 (s6 : List (List UInt8)))), .fact 100035 (.at 35 (.rep [] a0.Members)), .fact 100037 (.at 37 (.rep [] x2.1)), .fact 902010 (.cst (u1 10) (Fact.isv 23)), .fact 902011 (.cst (u1 11) (Fact.isv 25)), .fact 902015 (.cst (u1 15) (Fact.isv 29)), .fact 902018 (.cst (u1 18) (Fact.isv 32)), .fact 902060 (.cst (u1 60) (Fact.fnv 44 [] [Fact.isv 34, Fact.isv 36])), .fact 0 (.yv rr1.l), .fact 2 (.isv 36), .fact 5 (.rep [] a0.Members), .fact 6 (.rep [] (s5 : Int)), .fact 12 (.rep [] ((s5 != x2.1) : Bool)), .fact 100017 (.obj 17 [(false, 1)]), .fact 100019 (.obj 19 [(false, 1)]), .fact 100021 (.obj 21 [(false, 1)]), .fact 100023 (.obj 23 [(false, 1)]), .fact 100025 (.obj 25 [(false, 1)]), .fact 100029 (.obj 29 [(false, 1)]), .fact 100032 (.obj 32 [(false, 1)]), .fact 100034 (.obj 34 [(false, 1)]), .fact 100036 (.obj 36 [(false, 1)]), .fact 100039 (.dm 39 rr1.D)]) rfl rfl rfl (Low.res (lg (lg (lg (lg (lg (lg (lg (lg (lg (lc (lc (lc (lc (lc (ls 904000 (ls 904002 (ls 904005 (ls 904006 (ls 904012 (lo (lo (lo (lo (lo (lo (lo (lo (lo (lk Low.nil)))))))))))))))))))))))))))))) ?_
           refine wg rfl rfl (fun hb => Spec.not (Has.s rfl)) ?_
           refine wo (Spec.andT hg8 (Spec.and (Has.s rfl) (fun h => Has.u rfl h))) ?_
           refine Walk.nil ?_
           refine Leaf.thenN ?_
           refine CWalk.cond rfl (fun hb => ?_) (fun hb => ?_)
           ·skip
            refine CWalk.ret ?_
            refine Leaf.blockR ?_
            refine Leaf.thenR ?_
            exact Leaf.brk hm (fun h => nomatch h) rfl (sc (sc (sc (sc (sc (sg (sf (sg (Sub.cons (Has.at (HasG.cv (HasG.s rfl) (Cv.owM (T := [42]) (te := [40, 41]) rfl rfl))) (sf (sf (sm (sf (sf (sn (sn (sn (sn (sn (sn (sn (sn (sn (sn (sn Sub.nil)))))))))))))))))))))))))
           ·exact absurd hb (by decide)
          ·have hm := cond_f hb hm
           refine CWalk.skip ?_
           refine Leaf.thenN ?_
           refine CWalk.region ?_
           refine wo (Spec.loadF (i := 0) ty46 rfl (Has.cv (Has.s rfl) (Cv.isvP rfl)) rfl (HasG.s rfl)) ?_
           refine mv ?_
           refine wo (Spec.lit (xs := [.tmp 71]) (T := [40]) 41 rfl ow46 rfl rfl rfl rfl (HasEach.cons (Has.m (Has.cv (Has.s rfl) (Cv.trans Cv.owSl (Cv.slRep (T' := [40]) rfl rfl))) rfl) HasEach.nil)) ?_
           obtain ⟨x11, hx11, hm⟩ := bind_some hm
           refine ws (Step.appendOw (T := [42]) (te' := [40, 41]) hx11 rfl rfl rfl ow46 (Has.s rfl) (Has.s rfl) (ElKeeps.tags rfl rfl) (ElKeeps.tags rfl rfl)) ?_
           refine ws (Step.storeF (i := 0) (f := Fact.ow [42] [40, 41] 28 (x11 : List (List UInt8))) rfl ty46 rfl (Has.cv (Has.s rfl) (Cv.isvP rfl)) rfl (Has.cv (Has.s rfl) (Cv.trans Cv.owSl (Cv.slRep (T' := [40, 41, 42]) rfl rfl))) (Has.s rfl) rfl) ?_
           refine Walk.nil ?_
           refine Leaf.blockN ?_
           refine Leaf.rdN (t := 38) (J := [.fact 15 (.rep [] (true : Bool)), .fact 100018 (.at 18 (.rep [0] (a1 : List Disk))), .fact 100020 (.at 20 (.rep [] (a2 : Int))), .fact 100022 (.at 22 (.rep [] (a3 : Int))), .fact 100024 (.at 24 (.nilv)), .fact 100026 (.at 26 (.rep [] ((0 : Int) : Int))), .fact 100030 (.at 30 (.fnv 23 [] [Fact.isv 19, Fact.isv 17, Fact.isv 21])), .fact 100033 (.at 33 (.ow [42] [40, 41] 28 (x11 : List (List UInt8)))), .fact 100035 (.at 35 (.rep [] a0.Members)), .fact 100037 (.at 37 (.rep [] x2.1)), .fact 902010 (.cst (u1 10) (Fact.isv 23)), .fact 902011 (.cst (u1 11) (Fact.isv 25)), .fact 902015 (.cst (u1 15) (Fact.isv 29)), .fact 902018 (.cst (u1 18) (Fact.isv 32)), .fact 902060 (.cst (u1 60) (Fact.fnv 44 [] [Fact.isv 34, Fact.isv 36])), .fact 0 (.yv rr1.l), .fact 2 (.isv 36), .fact 5 (.rep [] a0.Members), .fact 6 (.rep [] (s5 : Int)), .fact 12 (.rep [] ((s5 != x2.1) : Bool)), .fact 100017 (.obj 17 [(false, 1)]), .fact 100019 (.obj 19 [(false, 1)]), .fact 100021 (.obj 21 [(false, 1)]), .fact 100023 (.obj 23 [(false, 1)]), .fact 100025 (.obj 25 [(false, 1)]), .fact 100029 (.obj 29 [(false, 1)]), .fact 100032 (.obj 32 [(false, 1)]), .fact 100034 (.obj 34 [(false, 1)]), .fact 100036 (.obj 36 [(false, 1)]), .fact 100039 (.dm 39 rr1.D)]) rfl rfl rfl (Low.res (lg (lg (lg (lg (lg (lg (lg (lg (lg (lc (lc (lc (lc (lc (ls 904000 (ls 904002 (ls 904005 (ls 904006 (ls 904012 (lo (lo (lo (lo (lo (lo (lo (lo (lo (lk Low.nil)))))))))))))))))))))))))))))) ?_
           refine wg rfl rfl (fun hb => Spec.not (Has.s rfl)) ?_
           refine wo (Spec.andT hg8 (Spec.and (Has.s rfl) (fun h => Has.u rfl h))) ?_
           refine Walk.nil ?_
           refine Leaf.thenN ?_
           refine CWalk.cond rfl (fun hb => ?_) (fun hb => ?_)
           ·exact absurd hb (by decide)
           ·skip
            refine CWalk.skip ?_
            refine Leaf.blockN ?_
            refine Leaf.thenN ?_
            refine CWalk.region ?_
            refine wo (Spec.addI (Has.s rfl) Has.int) ?_
            refine mv ?_
            refine Walk.nil ?_
            exact Leaf.next hm (sn (sn (st (st (sc (sc (sc (sc (sc (sf (sg (sf (sg (Sub.cons (Has.at (HasG.cv (HasG.s rfl) (Cv.owM (T := [42]) (te := [40, 41]) rfl rfl))) (sf (sm (sf (sf (sn (sn (sn (sn (sn (sn (sn (sn (sn (sn (sn Sub.nil)))))))))))))))))))))))))))))
        ·have hm := cond_f (ne_f hg8) hm
         refine wg rfl rfl (fun hb => Spec.not (Has.u rfl hb)) ?_
         refine wo (Spec.andF (ne_f hg8) (Spec.and (Has.s rfl) (fun h => Has.u rfl h))) ?_
         refine Walk.nil ?_
         refine Leaf.thenN ?_
         refine CWalk.cond rfl (fun hb => ?_) (fun hb => ?_)
         ·exact absurd hb (by decide)
         ·skip
          refine CWalk.skip ?_
          refine Leaf.blockN ?_
          refine Leaf.thenN ?_
          refine CWalk.region ?_
          refine wo (Spec.addI (Has.s rfl) Has.int) ?_
          refine mv ?_
          refine Walk.nil ?_
          exact Leaf.next hm (sn (sn (st (st (sc (sc (sc (sc (sc (sf (sg (sf (sg (Sub.cons (Has.at (HasG.cv (HasG.s rfl) (Cv.owM (T := [42]) (te := [40, 41]) rfl rfl))) (sf (sm (sf (sf (sn (sn (sn (sn (sn (sn (sn (sn (sn (sn (sn Sub.nil)))))))))))))))))))))))))))))
       ·have hm := cond_f hb hm
        refine CWalk.exit ?_
        refine Leaf.thenE ?_
        exact Leaf.brk hm (fun h => nomatch h) rfl (sc (sc (sc (sc (sc (sg (sf (sg (Sub.cons (Has.at (HasG.cv (HasG.s rfl) (Cv.owM (T := [42]) (te := [40, 41]) rfl rfl))) (sf (sf (sm (sf (sf (sn (sn (sn (sn (sn (sn (sn (sn (sn (sn (sn Sub.nil)))))))))))))))))))))))))
      ·intro _
       rcases b15 with b16 | b18
       ·have hm := selim_l hm
        refine Leaf.blockE ?_
        refine Leaf.rfe ?_
        refine Leaf.rfN (t := 38) (st := .ready) (J := [.fact 100018 (.at 18 (.rep [0] (a1 : List Disk))), .fact 100020 (.at 20 (.rep [] (a2 : Int))), .fact 100022 (.at 22 (.rep [] (a3 : Int))), .fact 100024 (.at 24 (.nilv)), .fact 100026 (.at 26 (.rep [] ((0 : Int) : Int))), .fact 100030 (.at 30 (.fnv 23 [] [Fact.isv 19, Fact.isv 17, Fact.isv 21])), .fact 100033 (.at 33 (.ow [42] [40, 41] 28 (b16 : List (List UInt8)))), .fact 100035 (.at 35 (.rep [] a0.Members)), .fact 100037 (.at 37 (.rep [] x2.1)), .fact 10 (.isv 23), .fact 11 (.isv 25), .fact 15 (.isv 29), .fact 18 (.isv 32), .fact 60 (.fnv 44 [] [Fact.isv 34, Fact.isv 36]), .fact 100017 (.obj 17 [(false, 1)]), .fact 100019 (.obj 19 [(false, 1)]), .fact 100021 (.obj 21 [(false, 1)]), .fact 100023 (.obj 23 [(false, 1)]), .fact 100025 (.obj 25 [(false, 1)]), .fact 100029 (.obj 29 [(false, 1)]), .fact 100032 (.obj 32 [(false, 1)]), .fact 100034 (.obj 34 [(false, 1)]), .fact 100036 (.obj 36 [(false, 1)]), .fact 100039 (.dm 39 rr1.D)]) rfl rfl rfl (fun h => nomatch h) (lg (lg (lg (lg (lg (lg (lg (lg (lg (ls 902010 (ls 902011 (ls 902015 (ls 902018 (ls 902060 (lo (lo (lo (lo (lo (lo (lo (lo (lo (lk Low.nil)))))))))))))))))))))))) ?_
        refine Leaf.blockN ?_
        refine Leaf.thenN ?_
        refine CWalk.seq ?_
        refine CWalk.region ?_
        refine wo (Spec.loadF (i := 0) ty46 rfl (Has.cv (Has.s rfl) (Cv.isvP rfl)) rfl (HasG.s rfl)) ?_
        obtain ⟨x17, hx17, hm⟩ := bind_some hm
        refine wo (f := Fact.tup2 (Fact.sl [43] [] (x17.1 : List UInt8)) (Fact.rep [] x17.2)) (Spec.callE [40, 41, 42] 43 rfl en25 (fold_Fold_c b16 hx17) (HasAll.cons (Has.m (Has.cv (Has.s rfl) (Cv.trans Cv.owSl (Cv.slRep (T' := [40, 41, 42]) rfl rfl))) rfl) HasAll.nil)) ?_
        refine wo (Spec.ext0 (Has.s rfl)) ?_
        refine wo (Spec.ext1 (Has.s rfl)) ?_
        refine ws (Step.storeF (i := 0) (f := Fact.sl [43] [] (x17.1 : List UInt8)) rfl ty28 rfl (Has.cv (Has.s rfl) (Cv.isvP rfl)) rfl (Has.cv (Has.s rfl) (Cv.slRep (T' := [43]) rfl rfl)) (Has.s rfl) rfl) ?_
        refine ws (Step.storeF (i := 0) (f := Fact.rep [] x17.2) rfl ty29 rfl (Has.cv (Has.s rfl) (Cv.isvP rfl)) rfl (Has.s rfl) (Has.s rfl) rfl) ?_
        refine Walk.nil ?_
        refine Leaf.thenN ?_
        refine CWalk.ret ?_
        obtain rfl := Option.some.inj hm
        exact Leaf.unmark (t := 39) rfl rfl (Leaf.retC2 rfl (HasR.cv (HasR.cell1 ty28 rfl (Has.s rfl) rfl (HasG.s rfl)) (Cv.slF (T := [43]) (te := []) rfl)) (HasR.cv (HasR.cell1 ty29 rfl (Has.s rfl) rfl (HasG.s rfl)) Cv.fl))
       ·have hm := selim_r hm
        refine Leaf.blockR ?_
        refine Leaf.rfJ (t := 38) (st := (.done)) (J := [.fact 100018 (.at 18 (.rep [0] (a1 : List Disk))), .fact 100020 (.at 20 (.rep [] (a2 : Int))), .fact 100022 (.at 22 (.rep [] (a3 : Int))), .fact 100024 (.at 24 (.nilv)), .fact 100026 (.at 26 (.rep [] ((230 : Int) : Int))), .fact 100030 (.at 30 (.fnv 23 [] [Fact.isv 19, Fact.isv 17, Fact.isv 21])), .fact 100033 (.at 33 (.ow [42] [40, 41] 28 (b18 : List (List UInt8)))), .fact 100035 (.at 35 (.rep [] a0.Members)), .fact 100037 (.at 37 (.rep [] x2.1)), .fact 10 (.isv 23), .fact 11 (.isv 25), .fact 15 (.isv 29), .fact 18 (.isv 32), .fact 60 (.fnv 44 [] [Fact.isv 34, Fact.isv 36]), .fact 100017 (.obj 17 [(false, 1)]), .fact 100019 (.obj 19 [(false, 1)]), .fact 100021 (.obj 21 [(false, 1)]), .fact 100023 (.obj 23 [(false, 1)]), .fact 100025 (.obj 25 [(false, 1)]), .fact 100029 (.obj 29 [(false, 1)]), .fact 100032 (.obj 32 [(false, 1)]), .fact 100034 (.obj 34 [(false, 1)]), .fact 100036 (.obj 36 [(false, 1)]), .fact 100039 (.dm 39 rr1.D)]) rfl rfl rfl (fun h => nomatch h) (lg (lg (lg (lg (lg (lg (lg (lg (lg (ls 902010 (ls 902011 (ls 902015 (ls 902018 (ls 902060 (lo (lo (lo (lo (lo (lo (lo (lo (lo (lk Low.nil)))))))))))))))))))))))) ?_
        refine CWalk.ret ?_
        refine Leaf.blockR ?_
        refine Leaf.thenR ?_
        obtain rfl := Option.some.inj hm
        exact Leaf.unmark (t := 39) rfl rfl (Leaf.retC2 rfl (HasR.cv (HasR.cell1 ty28 rfl (Has.s rfl) rfl (HasG.s rfl)) (Cv.trans Cv.nilSl (Cv.slF (T := []) (te := []) rfl))) (HasR.cv (HasR.cell1 ty29 rfl (Has.s rfl) rfl (HasG.s rfl)) Cv.fl))

/-- freeboard/freeboardlaw20.is -/
def law20_is (a0 : List Disk) (a1 : Int) (a2 : Int) (a3 : UInt8) : Option (Bool) :=
  Option.bind (law20_three) (fun x1 => Option.bind (fetch_Block x1 a0 a1 (0 : Int) a2) (fun x2 => Option.bind (gO ((x2.2 == (0 : Int))) (law20_full a3)) (fun x3 => some ((x2.2 == (0 : Int)) && ((Str.mk x2.1).s == (Str.mk x3).s)))))
set_option maxRecDepth 100000 in
set_option maxHeartbeats 2000000 in
theorem law20_is_c (a0 : List Disk) (a1 : Int) (a2 : Int) (a3 : UInt8) {r : Bool} (hm : law20_is a0 a1 a2 a3 = some r) : Ctr Try.prog 38 [.rep 0 a0, .rep 0 a1, .rep 0 a2, .rep 0 a3] (.fl r) [] := by
 refine ctr_of_walk [[]] 29 Try.func38 rfl rfl rfl rfl (fun w0 om => ?_)
 unfold law20_is at hm
 refine CWalk.sub (G' := [.fact 0 (.rep [0] (a0 : List Disk)), .fact 1 (.rep [] (a1 : Int)), .fact 2 (.rep [] (a2 : Int)), .fact 3 (.rep [] (a3 : UInt8))]) (sn (Sub.cons (Has.fl (Has.s rfl)) (Sub.cons (Has.fl (Has.s rfl)) (Sub.cons (Has.fl (Has.s rfl)) Sub.nil)))) ?_
 refine CWalk.seq ?_
 refine CWalk.region ?_
 refine wo (Spec.assign Has.bool) ?_
 refine Walk.nil ?_
 refine Leaf.thenN ?_
 refine CWalk.seq ?_
 refine CWalk.region ?_
 obtain ⟨x1, hx1, hm⟩ := bind_some hm
 refine wo (f := Fact.rep [] (x1 : Config)) (Spec.callE [] 10 rfl en14 (law20_three_c  hx1) HasAll.nil) ?_
 refine mv ?_
 refine mv ?_
 refine mv ?_
 obtain ⟨x2, hx2, hm⟩ := bind_some hm
 refine wo (f := Fact.tup2 (Fact.sl [11] [] (x2.1 : List UInt8)) (Fact.rep [] x2.2)) (Spec.callE [0] 11 rfl en9 (fetch_Block_c x1 a0 a1 (0 : Int) a2 hx2) (HasAll.cons (Has.fl (Has.s rfl)) (HasAll.cons (Has.m (Has.s rfl) rfl) (HasAll.cons (Has.fl (Has.s rfl)) (HasAll.cons (Has.fl Has.int) (HasAll.cons (Has.fl (Has.s rfl)) HasAll.nil)))))) ?_
 refine mv ?_
 refine wo (Spec.ext0 (Has.s rfl)) ?_
 refine wo (Spec.ext1 (Has.s rfl)) ?_
 refine wo (Spec.assign (Has.s rfl)) ?_
 refine wo (Spec.assign (Has.s rfl)) ?_
 refine Walk.nil ?_
 refine Leaf.thenN ?_
 refine CWalk.seq ?_
 obtain ⟨x3, hx3, hm⟩ := bind_some hm
 refine CWalk.drawM [[], [0], [0, 1], [0, 1, 2], [0, 1, 2, 3], [0, 1, 2], [0, 1, 2, 5], [0, 1, 2, 5, 6], [0, 1, 2, 3, 4, 5, 6, 7], [0, 1, 2, 3, 4, 5, 6, 7, 8], [0, 1, 2, 3, 4, 5, 6, 7, 8, 9]] [[.fact 19 (.rep [] x2.2)], [.fact 20 (.rep [] ((x2.2 == (0 : Int)) : Bool))], [.fact 21 (.rep [] ((x2.2 == (0 : Int)) : Bool))], [.fact 22 (.under ((x2.2 == (0 : Int)) = true) (.sl [11] [] (x2.1 : List UInt8)))], [.fact 23 (.under ((x2.2 == (0 : Int)) = true) (.rep [] ((Str.mk x2.1) : Str)))], [.fact 24 (.under ((x2.2 == (0 : Int)) = true) (.rep [] (a3 : UInt8)))], [.fact 25 (.under ((x2.2 == (0 : Int)) = true) (.ow [12] [] 5 (x3 : List UInt8)))], [.fact 26 (.under ((x2.2 == (0 : Int)) = true) (.rep [] ((Str.mk x3) : Str)))], [.fact 27 (.under ((x2.2 == (0 : Int)) = true) (.rep [] (((Str.mk x2.1).s == (Str.mk x3).s) : Bool)))], [.fact 28 (.rep [] (((x2.2 == (0 : Int)) && ((Str.mk x2.1).s == (Str.mk x3).s)) : Bool))], [.fact 8 (.rep [] (((x2.2 == (0 : Int)) && ((Str.mk x2.1).s == (Str.mk x3).s)) : Bool))]] mixed (by kernel_rfl) (ao (so (Spec.move (Has.s rfl))) (ao (so (Spec.eqlI (Has.s rfl) Has.int)) (ao (so (Spec.move (Has.s rfl))) (ao (StepG.opg rfl rfl rfl (fun hb => Spec.move (Has.s rfl))) (ao (StepG.opg rfl rfl rfl (fun hb => Spec.toStr Try.underlying28 Try.underlying5 Try.underlying9 (Has.cv (Has.u rfl hb) (Cv.slRep (T' := [11]) rfl rfl)))) (ao (StepG.opg rfl rfl rfl (fun hb => Spec.move (Has.s rfl))) (ao (StepG.opg rfl rfl rfl (fun hb => Spec.callE [] 12 rfl en37 (law20_full_c a3 (gO_t hx3 hb)) (HasAll.cons (Has.fl (Has.u rfl hb)) HasAll.nil))) (ao (StepG.opg rfl rfl rfl (fun hb => Spec.toStr Try.underlying28 Try.underlying5 Try.underlying9 (Has.cv (Has.u rfl hb) (Cv.trans Cv.owSl (Cv.slRep (T' := [12]) rfl rfl))))) (ao (StepG.opg rfl rfl rfl (fun hb => Spec.eqlS (Has.u rfl hb) (Has.u rfl hb))) (ao (so (Spec.and (Has.s rfl) (fun h => Has.u rfl h))) (ao (so (Spec.assign (Has.s rfl))) AllM.nil))))))))))) ?_
 refine Leaf.thenN ?_
 refine CWalk.ret ?_
 obtain rfl := Option.some.inj hm
 exact Leaf.retC1 rfl (HasR.cv (HasR.tmp (Has.s rfl)) Cv.fl)

/-- freeboard/disk.Kill -/
def disk_Kill (a0 : Disk) : Option (Disk × Int) :=
  Option.bind (disk_Check a0) (fun x1 => (bif (x1 != (0 : Int)) then some ((Disk.mk ([] : List (List UInt8)) ([] : List Write) false), x1) else Option.bind (makeL ([] : List UInt8) ((a0.Blocks).length : Int)) (fun x2 => some ((Disk.mk x2 ([] : List Write) true), (0 : Int)))))
set_option maxRecDepth 100000 in
set_option maxHeartbeats 2000000 in
theorem disk_Kill_c (a0 : Disk) {r : Disk × Int} (hm : disk_Kill a0 = some r) : Ctr Try.prog 34 [.rep 0 a0] (.tup2 (.flds [(false, 1, (.own 0 none 28 r.1.Blocks)), (false, 1, (.own 0 none 52 r.1.Wait)), (false, 1, (.fl r.1.Dead))]) (.fl r.2)) [] := by
 refine ctr_of_walk [[19]] 16 Try.func34 rfl rfl rfl rfl (fun w0 om => ?_)
 unfold disk_Kill at hm
 refine CWalk.sub (G' := [.fact 0 (.rep [0] (a0 : Disk))]) (sn Sub.nil) ?_
 refine CWalk.seq ?_
 refine CWalk.region ?_
 refine ws (Step.boxObj (ls := [(false, 1, Fact.rep [0] a0.Blocks), (false, 1, Fact.rep [0] a0.Wait), (false, 1, Fact.rep [] a0.Dead)]) 10 rfl rfl rfl rfl (HasL.flds (Has.cv (Has.s rfl) (Cv.trans (Cv.opens (chDisk a0)) (Cv.flds (CvL.cons Cv.refl (CvL.cons Cv.refl (CvL.cons Cv.fl CvL.nil)))))))) ?_
 refine ws (Step.allocObj (ls := [(false, 1, Fact.nilv), (false, 1, Fact.nilv), (false, 1, Fact.rep [] (false : Bool))]) 14 rfl rfl rfl rfl zl49) ?_
 refine wo (Spec.assign Has.int) ?_
 refine Walk.nil ?_
 refine Leaf.thenN ?_
 refine CWalk.seq ?_
 refine CWalk.seq ?_
 refine CWalk.region ?_
 refine wo (Spec.loadObj (ls := [(false, 1, Fact.rep [0] a0.Blocks), (false, 1, Fact.rep [0] a0.Wait), (false, 1, Fact.rep [] a0.Dead)]) ty49 rfl rfl (Has.s rfl) rfl (HasGs.cons (HasG.s rfl) (HasGs.cons (HasG.s rfl) (HasGs.cons (HasG.s rfl) HasGs.nil)))) ?_
 obtain ⟨x1, hx1, hm⟩ := bind_some hm
 refine wo (f := Fact.rep [] (x1 : Int)) (Spec.callE [0] 18 rfl en30 (disk_Check_c a0 hx1) (HasAll.cons (Has.m (Has.cv (Has.s rfl) (Cv.trans (Cv.flds (CvL.cons (Cv.m rfl) (CvL.cons (Cv.m rfl) (CvL.cons Cv.fl CvL.nil)))) (Cv.close (T := [0]) (chDisk a0)))) rfl) HasAll.nil)) ?_
 refine wo (Spec.assign (Has.s rfl)) ?_
 refine Walk.nil ?_
 refine Leaf.thenN ?_
 refine CWalk.seq ?_
 refine CWalk.region ?_
 refine mv ?_
 refine wo (Spec.neqI (Has.s rfl) Has.int) ?_
 refine Walk.nil ?_
 refine Leaf.thenN ?_
 refine CWalk.cond rfl (fun hb => ?_) (fun hb => ?_)
 ·have hm := cond_t hb hm
  refine CWalk.seq ?_
  refine CWalk.region ?_
  refine wo (Spec.build (us := []) (ls' := [(false, 1, Fact.nilv), (false, 1, Fact.nilv), (false, 1, Fact.rep [] (false : Bool))]) bd49 rfl BP.nil) ?_
  refine mv ?_
  refine ws (Step.storeObj (ls := [(false, 1, Fact.nilv), (false, 1, Fact.nilv), (false, 1, Fact.rep [] (false : Bool))]) rfl ty49 rfl rfl (Has.s rfl) rfl (HasL.flds (Has.s rfl)) rfl) ?_
  refine wo (Spec.assign (Has.s rfl)) ?_
  refine Walk.nil ?_
  refine Leaf.thenN ?_
  refine CWalk.ret ?_
  refine Leaf.thenR ?_
  obtain rfl := Option.some.inj hm
  exact Leaf.retC2 rfl (HasR.cv (HasR.obj (ls := [(false, 1, Fact.nilv), (false, 1, Fact.nilv), (false, 1, Fact.rep [] (false : Bool))]) ty49 rfl rfl (Has.s rfl) rfl (HasGs.cons (HasG.s rfl) (HasGs.cons (HasG.s rfl) (HasGs.cons (HasG.s rfl) HasGs.nil)))) (Cv.flds (CvL.cons (Cv.trans Cv.nilOw (Cv.owM (T := []) (te := []) rfl rfl)) (CvL.cons (Cv.trans Cv.nilOw (Cv.owM (T := []) (te := []) rfl rfl)) (CvL.cons Cv.fl CvL.nil))))) (HasR.cv (HasR.tmp (Has.s rfl)) Cv.fl)
 ·have hm := cond_f hb hm
  refine CWalk.skip ?_
  refine Leaf.thenN ?_
  refine CWalk.seq ?_
  refine CWalk.region ?_
  refine wo (Spec.fieldAddrO fd49_0 (Has.cv (Has.s rfl) (Cv.isvP rfl))) ?_
  refine wo (Spec.loadF (i := 0) ty46 rfl (Has.s rfl) rfl (HasG.s rfl)) ?_
  refine wo (Spec.len (Has.s rfl) Try.underlying46) ?_
  obtain ⟨x2, hx2, hm⟩ := bind_some hm
  refine ws (Step.makeOwn 19 hx2 rfl rfl ow46 zt28 (Has.s rfl)) ?_
  refine wo (Spec.build (us := [(0, .tmp 14), (2, .const (.bool true))]) (ls' := [(false, 1, Fact.isv 19), (false, 1, Fact.nilv), (false, 1, Fact.rep [] (true : Bool))]) bd49 rfl (BP.cons rfl rfl (Has.cv (Has.s rfl) (Cv.own rfl)) (Has.s rfl) (BP.cons rfl rfl Has.bool Has.bool BP.nil))) ?_
  refine ws (Step.storeObj (ls := [(false, 1, Fact.isv 19), (false, 1, Fact.nilv), (false, 1, Fact.rep [] (true : Bool))]) rfl ty49 rfl rfl (Has.s rfl) rfl (HasL.flds (Has.s rfl)) rfl) ?_
  refine wo (Spec.assign Has.int) ?_
  refine Walk.nil ?_
  refine Leaf.thenN ?_
  refine CWalk.ret ?_
  obtain rfl := Option.some.inj hm
  exact Leaf.retC2 rfl (HasR.cv (HasR.obj (ls := [(false, 1, Fact.isv 19), (false, 1, Fact.nilv), (false, 1, Fact.rep [] (true : Bool))]) ty49 rfl rfl (Has.s rfl) rfl (HasGs.cons (HasG.s rfl) (HasGs.cons (HasG.s rfl) (HasGs.cons (HasG.s rfl) HasGs.nil)))) (Cv.flds (CvL.cons (Cv.trans (Cv.isvOw rfl) (Cv.owM (T := [19]) (te := []) rfl rfl)) (CvL.cons (Cv.trans Cv.nilOw (Cv.owM (T := []) (te := []) rfl rfl)) (CvL.cons Cv.fl CvL.nil))))) (HasR.cv (HasR.tmp (Has.s rfl)) Cv.fl)

def law20_dead_J1 (j4 : List Disk) : Option ((List Disk)) :=
  some j4
/-- freeboard/freeboardlaw20.dead -/
def law20_dead (a0 : List Disk) (a1 : Int) : Option ((List Disk)) :=
  Option.bind (app ([] : List Disk) a0) (fun x1 => Option.bind (idx a0 a1) (fun x2 => Option.bind (disk_Kill x2) (fun x3 => (bif (x3.2 == (0 : Int)) then Option.bind (bnd (x1).length a1) (fun x5 => (law20_dead_J1 ((x1).set x5 x3.1))) else (law20_dead_J1 x1)))))
set_option maxRecDepth 100000 in
set_option maxHeartbeats 2000000 in
theorem law20_dead_c (a0 : List Disk) (a1 : Int) {r : (List Disk)} (hm : law20_dead a0 a1 = some r) : Ctr Try.prog 15 [.rep 0 a0, .rep 0 a1] (.own 0 (some 1) 49 r) [1] := by
 refine ctr_of_walk [[10, 16], [0, 11]] 26 Try.func15 rfl rfl rfl rfl (fun w0 om => ?_)
 unfold law20_dead at hm
 refine CWalk.sub (G' := [.fact 0 (.rep [0] (a0 : List Disk)), .fact 1 (.rep [] (a1 : Int))]) (sn (Sub.cons (Has.fl (Has.s rfl)) Sub.nil)) ?_
 refine CWalk.seq ?_
 refine CWalk.region ?_
 refine wo (Spec.assign Has.nilv) ?_
 refine Walk.nil ?_
 refine Leaf.thenN ?_
 refine CWalk.seq ?_
 refine CWalk.region ?_
 refine wo (Spec.assign Has.nilv) ?_
 refine Walk.nil ?_
 refine Leaf.thenN ?_
 refine CWalk.seq ?_
 refine CWalk.region ?_
 refine mv ?_
 refine mv ?_
 obtain ⟨x1, hx1, hm⟩ := bind_some hm
 refine wo (Spec.appNilO (te' := [0]) 10 hx1 rfl ow25 (Has.s rfl) (Has.s rfl) (ElKeep.tags rfl rfl)) ?_
 refine wo (Spec.assign (Has.s rfl)) ?_
 refine Walk.nil ?_
 refine Leaf.thenN ?_
 refine CWalk.seq ?_
 refine CWalk.region ?_
 refine mv ?_
 refine mv ?_
 obtain ⟨x2, hx2, hm⟩ := bind_some hm
 refine wo (Spec.indexAddr hx2 sl25 (Has.s rfl) (Has.s rfl)) ?_
 refine wo (Spec.load ty49 (Has.s rfl)) ?_
 obtain ⟨x3, hx3, hm⟩ := bind_some hm
 refine wo (f := Fact.tup2 (Fact.flds [(false, 1, Fact.ow [11] [] 28 (x3.1.Blocks : List (List UInt8))), (false, 1, Fact.ow [11] [] 52 (x3.1.Wait : List Write)), (false, 1, Fact.rep [] x3.1.Dead)]) (Fact.rep [] x3.2)) (Spec.callE [0] 11 rfl en34 (disk_Kill_c x2 hx3) (HasAll.cons (Has.m (Has.s rfl) rfl) HasAll.nil)) ?_
 refine mv ?_
 refine wo (Spec.ext0 (Has.s rfl)) ?_
 refine wo (Spec.ext1 (Has.s rfl)) ?_
 refine ws (Step.allocObj (ls := [(false, 1, Fact.nilv), (false, 1, Fact.nilv), (false, 1, Fact.rep [] (false : Bool))]) 12 rfl rfl rfl rfl zl49) ?_
 refine ws (Step.storeObj (ls := [(false, 1, Fact.ow [11] [] 28 (x3.1.Blocks : List (List UInt8))), (false, 1, Fact.ow [11] [] 52 (x3.1.Wait : List Write)), (false, 1, Fact.rep [] x3.1.Dead)]) rfl ty49 rfl rfl (Has.s rfl) rfl (HasL.flds (Has.s rfl)) rfl) ?_
 refine wo (Spec.assign (Has.s rfl)) ?_
 refine Walk.nil ?_
 refine Leaf.thenN ?_
 refine CWalk.seqJ (fun p : (List Disk) => [.fact 5 (.ow [10, 16] [0, 11] 49 (p : List Disk))]) (fun p : (List Disk) => law20_dead_J1 p = some r) ?_ ?_
 ·rintro j4 hm
  replace hm : law20_dead_J1 j4 = some r := hm
  unfold law20_dead_J1 at hm
  show CWalk _ [.fact 5 (.ow [10, 16] [0, 11] 49 (j4 : List Disk))] _ _
  refine CWalk.seq ?_
  refine CWalk.region ?_
  refine mv ?_
  refine wo (Spec.assign (Has.s rfl)) ?_
  refine Walk.nil ?_
  refine Leaf.thenN ?_
  refine CWalk.ret ?_
  obtain rfl := Option.some.inj hm
  exact Leaf.retC1 rfl (HasR.cv (HasR.tmp (Has.s rfl)) (Cv.owM (T := [10, 16]) (te := [0, 11]) rfl rfl))
 ·refine CWalk.seq ?_
  refine CWalk.region ?_
  refine mv ?_
  refine wo (Spec.eqlI (Has.s rfl) Has.int) ?_
  refine Walk.nil ?_
  refine Leaf.thenN ?_
  refine CWalk.cond rfl (fun hb => ?_) (fun hb => ?_)
  ·have hm := cond_t hb hm
   refine CWalk.ad (Ad.ow (s := 5) 16 rfl rfl (ElT.tags rfl) rfl (Cv.owM (T := [10]) (te := [0]) (T' := [10]) (te' := [0]) rfl rfl)) ?_
   refine CWalk.region ?_
   refine mv ?_
   refine mv ?_
   refine wo (Spec.loadObj (ls := [(false, 1, Fact.ow [11] [] 28 (x3.1.Blocks : List (List UInt8))), (false, 1, Fact.ow [11] [] 52 (x3.1.Wait : List Write)), (false, 1, Fact.rep [] x3.1.Dead)]) ty49 rfl rfl (Has.s rfl) rfl (HasGs.cons (HasG.s rfl) (HasGs.cons (HasG.s rfl) (HasGs.cons (HasG.s rfl) HasGs.nil)))) ?_
   obtain ⟨x5, hx5, hm⟩ := bind_some hm
   refine wo (Spec.idxOwn hx5 ow25 (Has.s rfl) rfl (Has.s rfl)) ?_
   refine ws (Step.storeOwn (te' := [0, 11]) rfl (bnd_lt hx5 rfl) ty49 (Has.s rfl) rfl (Has.cv (Has.s rfl) (Cv.trans (Cv.flds (CvL.cons (Cv.trans (Cv.trans Cv.owSl (Cv.slRep (T' := [11]) rfl rfl)) (Cv.m rfl)) (CvL.cons (Cv.trans (Cv.trans Cv.owSl (Cv.slRep (T' := [11]) rfl rfl)) (Cv.m rfl)) (CvL.cons Cv.fl CvL.nil)))) (Cv.close (T := [11]) (chDisk x3.1)))) (ElKeep.tags rfl rfl) (ElKeep.tags rfl rfl)) ?_
   refine Walk.nil ?_
   exact Leaf.join ((x1).set x5 x3.1) hm (Sub.cons (Has.cv (Has.s rfl) (Cv.trans (Cv.isvOw rfl) (Cv.owM (T := [16]) (te := [0, 11]) rfl rfl))) Sub.nil)
  ·have hm := cond_f hb hm
   refine CWalk.skip ?_
   exact Leaf.join x1 hm (Sub.cons (Has.cv (Has.s rfl) (Cv.owM (T := [10]) (te := [0]) rfl rfl)) Sub.nil)

/-- freeboard/freeboardlaw20.alive -/
def law20_alive : Option (Bool) :=
  Option.bind (law20_some) (fun x1 => Option.bind (law20_is x1 (-1 : Int) (0 : Int) (5 : UInt8)) (fun x2 => Option.bind (gO (x2) (law20_some)) (fun x3 => Option.bind (gO (x2) (law20_is x3 (0 : Int) (0 : Int) (5 : UInt8))) (fun x4 => Option.bind (gO ((x2 && x4)) (law20_some)) (fun x5 => Option.bind (gO ((x2 && x4)) (law20_is x5 (1 : Int) (0 : Int) (5 : UInt8))) (fun x6 => Option.bind (gO (((x2 && x4) && x6)) (law20_some)) (fun x7 => Option.bind (gO (((x2 && x4) && x6)) (law20_is x7 (2 : Int) (2 : Int) (6 : UInt8))) (fun x8 => Option.bind (gO ((((x2 && x4) && x6) && x8)) (law20_some)) (fun x9 => Option.bind (gO ((((x2 && x4) && x6) && x8)) (law20_dead x9 (0 : Int))) (fun x10 => Option.bind (gO ((((x2 && x4) && x6) && x8)) (law20_is x10 (-1 : Int) (0 : Int) (5 : UInt8))) (fun x11 => some ((((x2 && x4) && x6) && x8) && x11))))))))))))
set_option maxRecDepth 100000 in
set_option maxHeartbeats 2000000 in
theorem law20_alive_c {r : Bool} (hm : law20_alive = some r) : Ctr Try.prog 17 [] (.fl r) [] := by
 refine ctr_of_walk [[]] 20 Try.func17 rfl rfl rfl rfl (fun w0 om => ?_)
 unfold law20_alive at hm
 refine CWalk.sub (G' := []) (Sub.nil) ?_
 refine CWalk.seq ?_
 refine CWalk.region ?_
 refine wo (Spec.assign Has.bool) ?_
 refine Walk.nil ?_
 refine Leaf.thenN ?_
 refine CWalk.seq ?_
 refine CWalk.region ?_
 obtain ⟨x1, hx1, hm⟩ := bind_some hm
 refine wo (f := Fact.ow [10] [11] 49 (x1 : List Disk)) (Spec.callE [] 10 rfl en16 (law20_some_c  hx1) HasAll.nil) ?_
 obtain ⟨x2, hx2, hm⟩ := bind_some hm
 refine wo (f := Fact.rep [] (x2 : Bool)) (Spec.callE [10, 11] 12 rfl en38 (law20_is_c x1 (-1 : Int) (0 : Int) (5 : UInt8) hx2) (HasAll.cons (Has.m (Has.cv (Has.s rfl) (Cv.trans Cv.owSl (Cv.slRep (T' := [10, 11]) rfl rfl))) rfl) (HasAll.cons (Has.fl Has.int) (HasAll.cons (Has.fl Has.int) (HasAll.cons (Has.fl (Has.u8 5 rfl)) HasAll.nil))))) ?_
 refine mv ?_
 obtain ⟨x3, hx3, hm⟩ := bind_some hm
 refine wg (f := Fact.ow [13] [14] 49 (x3 : List Disk)) rfl rfl (fun hb => Spec.callE [] 13 rfl en16 (law20_some_c  (gO_t hx3 hb)) HasAll.nil) ?_
 obtain ⟨x4, hx4, hm⟩ := bind_some hm
 refine wg (f := Fact.rep [] (x4 : Bool)) rfl rfl (fun hb => Spec.callE [13, 14] 15 rfl en38 (law20_is_c x3 (0 : Int) (0 : Int) (5 : UInt8) (gO_t hx4 hb)) (HasAll.cons (Has.m (Has.cv (Has.u rfl hb) (Cv.trans Cv.owSl (Cv.slRep (T' := [13, 14]) rfl rfl))) rfl) (HasAll.cons (Has.fl Has.int) (HasAll.cons (Has.fl Has.int) (HasAll.cons (Has.fl (Has.u8 5 rfl)) HasAll.nil))))) ?_
 refine wo (Spec.and (Has.s rfl) (fun h => Has.u rfl h)) ?_
 refine mv ?_
 obtain ⟨x5, hx5, hm⟩ := bind_some hm
 refine wg (f := Fact.ow [16] [17] 49 (x5 : List Disk)) rfl rfl (fun hb => Spec.callE [] 16 rfl en16 (law20_some_c  (gO_t hx5 hb)) HasAll.nil) ?_
 obtain ⟨x6, hx6, hm⟩ := bind_some hm
 refine wg (f := Fact.rep [] (x6 : Bool)) rfl rfl (fun hb => Spec.callE [16, 17] 18 rfl en38 (law20_is_c x5 (1 : Int) (0 : Int) (5 : UInt8) (gO_t hx6 hb)) (HasAll.cons (Has.m (Has.cv (Has.u rfl hb) (Cv.trans Cv.owSl (Cv.slRep (T' := [16, 17]) rfl rfl))) rfl) (HasAll.cons (Has.fl Has.int) (HasAll.cons (Has.fl Has.int) (HasAll.cons (Has.fl (Has.u8 5 rfl)) HasAll.nil))))) ?_
 refine wo (Spec.and (Has.s rfl) (fun h => Has.u rfl h)) ?_
 refine mv ?_
 obtain ⟨x7, hx7, hm⟩ := bind_some hm
 refine wg (f := Fact.ow [19] [20] 49 (x7 : List Disk)) rfl rfl (fun hb => Spec.callE [] 19 rfl en16 (law20_some_c  (gO_t hx7 hb)) HasAll.nil) ?_
 obtain ⟨x8, hx8, hm⟩ := bind_some hm
 refine wg (f := Fact.rep [] (x8 : Bool)) rfl rfl (fun hb => Spec.callE [19, 20] 21 rfl en38 (law20_is_c x7 (2 : Int) (2 : Int) (6 : UInt8) (gO_t hx8 hb)) (HasAll.cons (Has.m (Has.cv (Has.u rfl hb) (Cv.trans Cv.owSl (Cv.slRep (T' := [19, 20]) rfl rfl))) rfl) (HasAll.cons (Has.fl Has.int) (HasAll.cons (Has.fl Has.int) (HasAll.cons (Has.fl (Has.u8 6 rfl)) HasAll.nil))))) ?_
 refine wo (Spec.and (Has.s rfl) (fun h => Has.u rfl h)) ?_
 refine mv ?_
 obtain ⟨x9, hx9, hm⟩ := bind_some hm
 refine wg (f := Fact.ow [22] [23] 49 (x9 : List Disk)) rfl rfl (fun hb => Spec.callE [] 22 rfl en16 (law20_some_c  (gO_t hx9 hb)) HasAll.nil) ?_
 obtain ⟨x10, hx10, hm⟩ := bind_some hm
 refine wg (f := Fact.ow [24] [25, 22, 23] 49 (x10 : List Disk)) rfl rfl (fun hb => Spec.callE [22, 23] 24 rfl en15 (law20_dead_c x9 (0 : Int) (gO_t hx10 hb)) (HasAll.cons (Has.m (Has.cv (Has.u rfl hb) (Cv.trans Cv.owSl (Cv.slRep (T' := [22, 23]) rfl rfl))) rfl) (HasAll.cons (Has.fl Has.int) HasAll.nil))) ?_
 obtain ⟨x11, hx11, hm⟩ := bind_some hm
 refine wg (f := Fact.rep [] (x11 : Bool)) rfl rfl (fun hb => Spec.callE [22, 23, 24, 25] 26 rfl en38 (law20_is_c x10 (-1 : Int) (0 : Int) (5 : UInt8) (gO_t hx11 hb)) (HasAll.cons (Has.m (Has.cv (Has.u rfl hb) (Cv.trans Cv.owSl (Cv.slRep (T' := [22, 23, 24, 25]) rfl rfl))) rfl) (HasAll.cons (Has.fl Has.int) (HasAll.cons (Has.fl Has.int) (HasAll.cons (Has.fl (Has.u8 5 rfl)) HasAll.nil))))) ?_
 refine wo (Spec.and (Has.s rfl) (fun h => Has.u rfl h)) ?_
 refine wo (Spec.assign (Has.s rfl)) ?_
 refine Walk.nil ?_
 refine Leaf.thenN ?_
 refine CWalk.ret ?_
 obtain rfl := Option.some.inj hm
 exact Leaf.retC1 rfl (HasR.cv (HasR.tmp (Has.s rfl)) Cv.fl)

def ref04_Great_L1 (a0 : Disk) (s1 : Int) (s2 : Int) : Option (Ctl (Int × Int) (Int)) :=
  (bif ((decide (s2 < ((a0.Blocks).length : Int))) && (decide (s2 < (400 : Int)))) then Option.bind (idx a0.Blocks s2) (fun x4 => some (Ctl.next ((wI (s1 + (wI ((8 : Int) + (min ((x4).length : Int) (100000 : Int)))))), (wI (s2 + (1 : Int)))))) else some (Ctl.brk s1))
def ref04_Great_L2 (a0 : Disk) (s6 : Int) (s7 : Int) : Option (Ctl (Int × Int) (Int)) :=
  (bif ((decide (s7 < ((a0.Wait).length : Int))) && (decide (s7 < (1200 : Int)))) then Option.bind (idx a0.Wait s7) (fun x9 => some (Ctl.next ((wI (s6 + (wI ((8 : Int) + (min ((x9.Data).length : Int) (100000 : Int)))))), (wI (s7 + (1 : Int)))))) else some (Ctl.brk s6))
/-- freeboard/freeboardref04.Great -/
def ref04_Great (a0 : Disk) : Option (Bool) :=
  Option.bind (loopM (fun s : Int × Int => ref04_Great_L1 a0 s.1 s.2) FUEL ((0 : Int), (0 : Int))) (fun b5 => Option.bind (loopM (fun s : Int × Int => ref04_Great_L2 a0 s.1 s.2) FUEL (b5, (0 : Int))) (fun b10 => some (((decide (((a0.Blocks).length : Int) > (300 : Int))) || (decide (((a0.Wait).length : Int) > (1100 : Int)))) || (decide (b10 > (60000 : Int))))))
set_option maxRecDepth 100000 in
set_option maxHeartbeats 2000000 in
theorem ref04_Great_c (a0 : Disk) {r : Bool} (hm : ref04_Great a0 = some r) : Ctr Try.prog 21 [.rep 0 a0] (.fl r) [] := by
 refine ctr_of_walk [[]] 63 Try.func21 rfl rfl rfl rfl (fun w0 om => ?_)
 unfold ref04_Great at hm
 refine CWalk.sub (G' := [.fact 0 (.rep [0] (a0 : Disk))]) (sn Sub.nil) ?_
 refine CWalk.seq ?_
 refine CWalk.region ?_
 refine ws (Step.boxObj (ls := [(false, 1, Fact.rep [0] a0.Blocks), (false, 1, Fact.rep [0] a0.Wait), (false, 1, Fact.rep [] a0.Dead)]) 10 rfl rfl rfl rfl (HasL.flds (Has.cv (Has.s rfl) (Cv.trans (Cv.opens (chDisk a0)) (Cv.flds (CvL.cons Cv.refl (CvL.cons Cv.refl (CvL.cons Cv.fl CvL.nil)))))))) ?_
 refine wo (Spec.assign Has.bool) ?_
 refine Walk.nil ?_
 refine Leaf.thenN ?_
 refine CWalk.seq ?_
 refine CWalk.region ?_
 refine wo (Spec.assign Has.int) ?_
 refine Walk.nil ?_
 refine Leaf.thenN ?_
 refine CWalk.seq ?_
 refine CWalk.seq ?_
 refine CWalk.region ?_
 refine wo (Spec.assign Has.int) ?_
 refine Walk.nil ?_
 refine Leaf.thenN ?_
 refine CWalk.block ?_
 obtain ⟨b5, hb5, hm⟩ := bind_some hm
 refine CWalk.loop (fun s : Int × Int => [.fact 1 (.isv 10), .fact 3 (.rep [] s.1), .fact 4 (.rep [] s.2), .fact 100011 (.at 11 (.rep [0] a0.Blocks)), .fact 100012 (.at 12 (.rep [0] a0.Wait)), .fact 100013 (.at 13 (.rep [] a0.Dead)), .fact 100010 (.obj 10 [(false, 1), (false, 1), (false, 1)])]) (fun b : Int => (Exit.exit 0, [.fact 1 (.isv 10), .fact 3 (.rep [] (b : Int)), .fact 100011 (.at 11 (.rep [0] a0.Blocks)), .fact 100012 (.at 12 (.rep [0] a0.Wait)), .fact 100013 (.at 13 (.rep [] a0.Dead)), .fact 100010 (.obj 10 [(false, 1), (false, 1), (false, 1)])])) hb5 (sn (st (st (sm (sm (sf (sn Sub.nil))))))) ?_ ?_
 ·rintro ⟨s1, s2⟩ c3 hm
  replace hm : ref04_Great_L1 a0 s1 s2 = some c3 := hm
  unfold ref04_Great_L1 at hm
  show CWalk _ [.fact 1 (.isv 10), .fact 3 (.rep [] (s1 : Int)), .fact 4 (.rep [] (s2 : Int)), .fact 100011 (.at 11 (.rep [0] a0.Blocks)), .fact 100012 (.at 12 (.rep [0] a0.Wait)), .fact 100013 (.at 13 (.rep [] a0.Dead)), .fact 100010 (.obj 10 [(false, 1), (false, 1), (false, 1)])] _ _
  refine CWalk.seq ?_
  refine CWalk.seq ?_
  refine CWalk.region ?_
  refine mv ?_
  refine wo (Spec.fieldAddrO fd49_0 (Has.cv (Has.s rfl) (Cv.isvP rfl))) ?_
  refine wo (Spec.loadF (i := 0) ty46 rfl (Has.s rfl) rfl (HasG.s rfl)) ?_
  refine wo (Spec.len (Has.s rfl) Try.underlying46) ?_
  refine wo (Spec.lssI (Has.s rfl) (Has.s rfl)) ?_
  refine mv ?_
  refine wg rfl rfl (fun hb => Spec.move (Has.s rfl)) ?_
  refine wg rfl rfl (fun hb => Spec.lssI (Has.u rfl hb) Has.int) ?_
  refine wo (Spec.and (Has.s rfl) (fun h => Has.u rfl h)) ?_
  refine Walk.nil ?_
  refine Leaf.thenN ?_
  refine CWalk.cond rfl (fun hb => ?_) (fun hb => ?_)
  ·have hm := cond_t hb hm
   refine CWalk.skip ?_
   refine Leaf.thenN ?_
   refine CWalk.seq ?_
   refine CWalk.block ?_
   refine CWalk.region ?_
   refine mv ?_
   refine wo (Spec.fieldAddrO fd49_0 (Has.cv (Has.s rfl) (Cv.isvP rfl))) ?_
   refine wo (Spec.loadF (i := 0) ty46 rfl (Has.s rfl) rfl (HasG.s rfl)) ?_
   refine mv ?_
   obtain ⟨x4, hx4, hm⟩ := bind_some hm
   refine wo (Spec.indexAddr hx4 sl46 (Has.s rfl) (Has.s rfl)) ?_
   refine wo (Spec.load ty28 (Has.s rfl)) ?_
   refine wo (Spec.len (Has.s rfl) Try.underlying28) ?_
   refine wo (Spec.minI (Has.s rfl) Has.int) ?_
   refine wo (Spec.addI Has.int (Has.s rfl)) ?_
   refine wo (Spec.addI (Has.s rfl) (Has.s rfl)) ?_
   refine wo (Spec.assign (Has.s rfl)) ?_
   refine Walk.nil ?_
   refine Leaf.blockN ?_
   refine Leaf.thenN ?_
   refine CWalk.region ?_
   refine mv ?_
   refine wo (Spec.addI (Has.s rfl) Has.int) ?_
   refine wo (Spec.assign (Has.s rfl)) ?_
   refine Walk.nil ?_
   exact Leaf.next hm (sn (st (st (sm (sm (sf (sn Sub.nil)))))))
  ·have hm := cond_f hb hm
   refine CWalk.exit ?_
   refine Leaf.thenE ?_
   exact Leaf.brk hm (fun h => nomatch h) rfl (sn (st (sm (sm (sf (sn Sub.nil))))))
 ·intro _
  refine Leaf.blockE ?_
  refine Leaf.thenN ?_
  refine CWalk.seq ?_
  refine CWalk.seq ?_
  refine CWalk.region ?_
  refine wo (Spec.assign Has.int) ?_
  refine Walk.nil ?_
  refine Leaf.thenN ?_
  refine CWalk.block ?_
  obtain ⟨b10, hb10, hm⟩ := bind_some hm
  refine CWalk.loop (fun s : Int × Int => [.fact 1 (.isv 10), .fact 3 (.rep [] s.1), .fact 5 (.rep [] s.2), .fact 100011 (.at 11 (.rep [0] a0.Blocks)), .fact 100012 (.at 12 (.rep [0] a0.Wait)), .fact 100013 (.at 13 (.rep [] a0.Dead)), .fact 100010 (.obj 10 [(false, 1), (false, 1), (false, 1)])]) (fun b : Int => (Exit.exit 2, [.fact 1 (.isv 10), .fact 3 (.rep [] (b : Int)), .fact 100011 (.at 11 (.rep [0] a0.Blocks)), .fact 100012 (.at 12 (.rep [0] a0.Wait)), .fact 100013 (.at 13 (.rep [] a0.Dead)), .fact 100010 (.obj 10 [(false, 1), (false, 1), (false, 1)])])) hb10 (sn (st (st (sm (sm (sf (sn Sub.nil))))))) ?_ ?_
  ·rintro ⟨s6, s7⟩ c8 hm
   replace hm : ref04_Great_L2 a0 s6 s7 = some c8 := hm
   unfold ref04_Great_L2 at hm
   show CWalk _ [.fact 1 (.isv 10), .fact 3 (.rep [] (s6 : Int)), .fact 5 (.rep [] (s7 : Int)), .fact 100011 (.at 11 (.rep [0] a0.Blocks)), .fact 100012 (.at 12 (.rep [0] a0.Wait)), .fact 100013 (.at 13 (.rep [] a0.Dead)), .fact 100010 (.obj 10 [(false, 1), (false, 1), (false, 1)])] _ _
   refine CWalk.seq ?_
   refine CWalk.seq ?_
   refine CWalk.region ?_
   refine mv ?_
   refine wo (Spec.fieldAddrO fd49_1 (Has.cv (Has.s rfl) (Cv.isvP rfl))) ?_
   refine wo (Spec.loadF (i := 1) ty47 rfl (Has.s rfl) rfl (HasG.s rfl)) ?_
   refine wo (Spec.len (Has.s rfl) Try.underlying47) ?_
   refine wo (Spec.lssI (Has.s rfl) (Has.s rfl)) ?_
   refine mv ?_
   refine wg rfl rfl (fun hb => Spec.move (Has.s rfl)) ?_
   refine wg rfl rfl (fun hb => Spec.lssI (Has.u rfl hb) Has.int) ?_
   refine wo (Spec.and (Has.s rfl) (fun h => Has.u rfl h)) ?_
   refine Walk.nil ?_
   refine Leaf.thenN ?_
   refine CWalk.cond rfl (fun hb => ?_) (fun hb => ?_)
   ·have hm := cond_t hb hm
    refine CWalk.skip ?_
    refine Leaf.thenN ?_
    refine CWalk.seq ?_
    refine CWalk.block ?_
    refine CWalk.region ?_
    refine mv ?_
    refine wo (Spec.fieldAddrO fd49_1 (Has.cv (Has.s rfl) (Cv.isvP rfl))) ?_
    refine wo (Spec.loadF (i := 1) ty47 rfl (Has.s rfl) rfl (HasG.s rfl)) ?_
    refine mv ?_
    obtain ⟨x9, hx9, hm⟩ := bind_some hm
    refine wo (Spec.indexAddr hx9 sl47 (Has.s rfl) (Has.s rfl)) ?_
    refine wo (Spec.fieldAddrP fd52_1 (chWrite x9) rfl (Has.s rfl)) ?_
    refine wo (Spec.load ty28 (Has.s rfl)) ?_
    refine wo (Spec.len (Has.s rfl) Try.underlying28) ?_
    refine wo (Spec.minI (Has.s rfl) Has.int) ?_
    refine wo (Spec.addI Has.int (Has.s rfl)) ?_
    refine wo (Spec.addI (Has.s rfl) (Has.s rfl)) ?_
    refine wo (Spec.assign (Has.s rfl)) ?_
    refine Walk.nil ?_
    refine Leaf.blockN ?_
    refine Leaf.thenN ?_
    refine CWalk.region ?_
    refine mv ?_
    refine wo (Spec.addI (Has.s rfl) Has.int) ?_
    refine wo (Spec.assign (Has.s rfl)) ?_
    refine Walk.nil ?_
    exact Leaf.next hm (sn (st (st (sm (sm (sf (sn Sub.nil)))))))
   ·have hm := cond_f hb hm
    refine CWalk.exit ?_
    refine Leaf.thenE ?_
    exact Leaf.brk hm (fun h => nomatch h) rfl (sn (st (sm (sm (sf (sn Sub.nil))))))
  ·intro _
   refine Leaf.blockE ?_
   refine Leaf.thenN ?_
   refine CWalk.seq ?_
   refine CWalk.region ?_
   refine wo (Spec.fieldAddrO fd49_0 (Has.cv (Has.s rfl) (Cv.isvP rfl))) ?_
   refine wo (Spec.loadF (i := 0) ty46 rfl (Has.s rfl) rfl (HasG.s rfl)) ?_
   refine wo (Spec.len (Has.s rfl) Try.underlying46) ?_
   refine wo (Spec.gtrI (Has.s rfl) Has.int) ?_
   refine mv ?_
   refine wg rfl rfl (fun hb => Spec.fieldAddrO fd49_1 (Has.cv (Has.s rfl) (Cv.isvP rfl))) ?_
   refine wg rfl rfl (fun hb => Spec.loadF (i := 1) ty47 rfl (Has.u rfl hb) rfl (HasG.s rfl)) ?_
   refine wg rfl rfl (fun hb => Spec.len (Has.u rfl hb) Try.underlying47) ?_
   refine wg rfl rfl (fun hb => Spec.gtrI (Has.u rfl hb) Has.int) ?_
   refine wo (Spec.or (Has.s rfl) (fun h => Has.u rfl h)) ?_
   refine mv ?_
   refine wg rfl rfl (fun hb => Spec.move (Has.s rfl)) ?_
   refine wg rfl rfl (fun hb => Spec.gtrI (Has.u rfl hb) Has.int) ?_
   refine wo (Spec.or (Has.s rfl) (fun h => Has.u rfl h)) ?_
   refine wo (Spec.assign (Has.s rfl)) ?_
   refine Walk.nil ?_
   refine Leaf.thenN ?_
   refine CWalk.ret ?_
   obtain rfl := Option.some.inj hm
   exact Leaf.retC1 rfl (HasR.cv (HasR.tmp (Has.s rfl)) Cv.fl)

def ref05_Great_L2 (a0 : List Disk) (s2 : Int) (s6 : Int) (s7 : Int) : Option (Ctl (Int × Int) (Int)) :=
  Option.bind (idx a0 s2) (fun x9 => (bif (decide (s7 < ((x9.Blocks).length : Int))) then Option.bind (idx a0 s2) (fun x10 => Option.bind (idx x10.Blocks s7) (fun x11 => some (Ctl.next ((wI (s6 + (wI ((8 : Int) + ((x11).length : Int))))), (wI (s7 + (1 : Int))))))) else some (Ctl.brk s6)))
def ref05_Great_L3 (a0 : List Disk) (s2 : Int) (s13 : Int) (s14 : Int) : Option (Ctl (Int × Int) (Int)) :=
  Option.bind (idx a0 s2) (fun x16 => (bif (decide (s14 < ((x16.Wait).length : Int))) then Option.bind (idx a0 s2) (fun x17 => Option.bind (idx x17.Wait s14) (fun x18 => some (Ctl.next ((wI (s13 + (wI ((8 : Int) + ((x18.Data).length : Int))))), (wI (s14 + (1 : Int))))))) else some (Ctl.brk s13)))
def ref05_Great_L1 (a0 : List Disk) (s1 : Int) (s2 : Int) : Option (Ctl (Int × Int) ((Unit) ⊕ (Unit))) :=
  (bif ((decide (s2 < ((a0).length : Int))) && (decide (s2 < (30 : Int)))) then Option.bind (idx a0 s2) (fun x4 => Option.bind (ref04_Great x4) (fun x5 => (bif x5 then some (Ctl.brk (Sum.inr ())) else Option.bind (loopM (fun s : Int × Int => ref05_Great_L2 a0 s2 s.1 s.2) FUEL (s1, (0 : Int))) (fun b12 => Option.bind (loopM (fun s : Int × Int => ref05_Great_L3 a0 s2 s.1 s.2) FUEL (b12, (0 : Int))) (fun b19 => (bif (decide (b19 > (60000 : Int))) then some (Ctl.brk (Sum.inr ())) else some (Ctl.next (b19, (wI (s2 + (1 : Int))))))))))) else some (Ctl.brk (Sum.inl ())))
/-- freeboard/freeboardref05.Great -/
def ref05_Great (a0 : List Disk) : Option (Bool) :=
  Option.bind (loopM (fun s : Int × Int => ref05_Great_L1 a0 s.1 s.2) FUEL ((0 : Int), (0 : Int))) (fun b20 => Sum.elim (fun b21 => some (decide (((a0).length : Int) > (30 : Int)))) (fun b22 => some true) b20)
set_option maxRecDepth 100000 in
set_option maxHeartbeats 2000000 in
theorem ref05_Great_c (a0 : List Disk) {r : Bool} (hm : ref05_Great a0 = some r) : Ctr Try.prog 7 [.rep 0 a0] (.fl r) [] := by
 refine ctr_of_walk [[]] 72 Try.func7 rfl rfl rfl rfl (fun w0 om => ?_)
 unfold ref05_Great at hm
 refine CWalk.sub (G' := [.fact 0 (.rep [0] (a0 : List Disk))]) (sn Sub.nil) ?_
 refine CWalk.seq ?_
 refine CWalk.region ?_
 refine wo (Spec.assign Has.bool) ?_
 refine Walk.nil ?_
 refine Leaf.thenN ?_
 refine CWalk.seq ?_
 refine CWalk.region ?_
 refine wo (Spec.assign Has.int) ?_
 refine Walk.nil ?_
 refine Leaf.thenN ?_
 refine CWalk.seq ?_
 refine CWalk.seq ?_
 refine CWalk.region ?_
 refine wo (Spec.assign Has.int) ?_
 refine Walk.nil ?_
 refine Leaf.thenN ?_
 refine CWalk.block ?_
 obtain ⟨b20, hb20, hm⟩ := bind_some hm
 refine CWalk.loop (fun s : Int × Int => [.fact 0 (.rep [0] (a0 : List Disk)), .fact 3 (.rep [] s.1), .fact 4 (.rep [] s.2)]) (fun b : (Unit) ⊕ (Unit) => Sum.elim (fun b => (Exit.exit 0, [.fact 0 (.rep [0] (a0 : List Disk))])) (fun b => (Exit.ret, [.fact 2 (.rep [] (true : Bool))])) b) hb20 (su (st (st Sub.nil))) ?_ ?_
 ·rintro ⟨s1, s2⟩ c3 hm
  replace hm : ref05_Great_L1 a0 s1 s2 = some c3 := hm
  unfold ref05_Great_L1 at hm
  show CWalk _ [.fact 0 (.rep [0] (a0 : List Disk)), .fact 3 (.rep [] (s1 : Int)), .fact 4 (.rep [] (s2 : Int))] _ _
  refine CWalk.seq ?_
  refine CWalk.seq ?_
  refine CWalk.region ?_
  refine mv ?_
  refine mv ?_
  refine wo (Spec.len (Has.s rfl) Try.underlying25) ?_
  refine wo (Spec.lssI (Has.s rfl) (Has.s rfl)) ?_
  refine mv ?_
  refine wg rfl rfl (fun hb => Spec.move (Has.s rfl)) ?_
  refine wg rfl rfl (fun hb => Spec.lssI (Has.u rfl hb) Has.int) ?_
  refine wo (Spec.and (Has.s rfl) (fun h => Has.u rfl h)) ?_
  refine Walk.nil ?_
  refine Leaf.thenN ?_
  refine CWalk.cond rfl (fun hb => ?_) (fun hb => ?_)
  ·have hm := cond_t hb hm
   refine CWalk.skip ?_
   refine Leaf.thenN ?_
   refine CWalk.seq ?_
   refine CWalk.block ?_
   refine CWalk.seq ?_
   refine CWalk.seq ?_
   refine CWalk.region ?_
   refine mv ?_
   refine mv ?_
   obtain ⟨x4, hx4, hm⟩ := bind_some hm
   refine wo (Spec.indexAddr hx4 sl25 (Has.s rfl) (Has.s rfl)) ?_
   refine wo (Spec.load ty49 (Has.s rfl)) ?_
   obtain ⟨x5, hx5, hm⟩ := bind_some hm
   refine wo (f := Fact.rep [] (x5 : Bool)) (Spec.callE [0] 10 rfl en21 (ref04_Great_c x4 hx5) (HasAll.cons (Has.m (Has.s rfl) rfl) HasAll.nil)) ?_
   refine Walk.nil ?_
   refine Leaf.thenN ?_
   refine CWalk.cond rfl (fun hb => ?_) (fun hb => ?_)
   ·have hm := cond_t hb hm
    refine CWalk.seq ?_
    refine CWalk.region ?_
    refine wo (Spec.assign Has.bool) ?_
    refine Walk.nil ?_
    refine Leaf.thenN ?_
    refine CWalk.ret ?_
    refine Leaf.thenR ?_
    refine Leaf.blockR ?_
    refine Leaf.thenR ?_
    exact Leaf.brk hm (fun h => nomatch h) rfl (st Sub.nil)
   ·have hm := cond_f hb hm
    refine CWalk.skip ?_
    refine Leaf.thenN ?_
    refine CWalk.seq ?_
    refine CWalk.seq ?_
    refine CWalk.region ?_
    refine wo (Spec.assign Has.int) ?_
    refine Walk.nil ?_
    refine Leaf.thenN ?_
    refine CWalk.block ?_
    obtain ⟨b12, hb12, hm⟩ := bind_some hm
    refine CWalk.loop (fun s : Int × Int => [.fact 0 (.rep [0] (a0 : List Disk)), .fact 3 (.rep [] s.1), .fact 4 (.rep [] (s2 : Int)), .fact 5 (.rep [] s.2)]) (fun b : Int => (Exit.exit 2, [.fact 0 (.rep [0] (a0 : List Disk)), .fact 3 (.rep [] (b : Int)), .fact 4 (.rep [] (s2 : Int))])) hb12 (su (st (st (st Sub.nil)))) ?_ ?_
    ·rintro ⟨s6, s7⟩ c8 hm
     replace hm : ref05_Great_L2 a0 s2 s6 s7 = some c8 := hm
     unfold ref05_Great_L2 at hm
     show CWalk _ [.fact 0 (.rep [0] (a0 : List Disk)), .fact 3 (.rep [] (s6 : Int)), .fact 4 (.rep [] (s2 : Int)), .fact 5 (.rep [] (s7 : Int))] _ _
     refine CWalk.seq ?_
     refine CWalk.seq ?_
     refine CWalk.region ?_
     refine mv ?_
     refine mv ?_
     refine mv ?_
     obtain ⟨x9, hx9, hm⟩ := bind_some hm
     refine wo (Spec.indexAddr hx9 sl25 (Has.s rfl) (Has.s rfl)) ?_
     refine wo (Spec.fieldAddrP fd49_0 (chDisk x9) rfl (Has.s rfl)) ?_
     refine wo (Spec.load ty46 (Has.s rfl)) ?_
     refine wo (Spec.len (Has.s rfl) Try.underlying46) ?_
     refine wo (Spec.lssI (Has.s rfl) (Has.s rfl)) ?_
     refine Walk.nil ?_
     refine Leaf.thenN ?_
     refine CWalk.cond rfl (fun hb => ?_) (fun hb => ?_)
     ·have hm := cond_t hb hm
      refine CWalk.skip ?_
      refine Leaf.thenN ?_
      refine CWalk.seq ?_
      refine CWalk.block ?_
      refine CWalk.region ?_
      refine mv ?_
      refine mv ?_
      refine mv ?_
      obtain ⟨x10, hx10, hm⟩ := bind_some hm
      refine wo (Spec.indexAddr hx10 sl25 (Has.s rfl) (Has.s rfl)) ?_
      refine wo (Spec.fieldAddrP fd49_0 (chDisk x10) rfl (Has.s rfl)) ?_
      refine wo (Spec.load ty46 (Has.s rfl)) ?_
      refine mv ?_
      obtain ⟨x11, hx11, hm⟩ := bind_some hm
      refine wo (Spec.indexAddr hx11 sl46 (Has.s rfl) (Has.s rfl)) ?_
      refine wo (Spec.load ty28 (Has.s rfl)) ?_
      refine wo (Spec.len (Has.s rfl) Try.underlying28) ?_
      refine wo (Spec.addI Has.int (Has.s rfl)) ?_
      refine wo (Spec.addI (Has.s rfl) (Has.s rfl)) ?_
      refine wo (Spec.assign (Has.s rfl)) ?_
      refine Walk.nil ?_
      refine Leaf.blockN ?_
      refine Leaf.thenN ?_
      refine CWalk.region ?_
      refine mv ?_
      refine wo (Spec.addI (Has.s rfl) Has.int) ?_
      refine wo (Spec.assign (Has.s rfl)) ?_
      refine Walk.nil ?_
      exact Leaf.next hm (su (st (st (st Sub.nil))))
     ·have hm := cond_f hb hm
      refine CWalk.exit ?_
      refine Leaf.thenE ?_
      exact Leaf.brk hm (fun h => nomatch h) rfl (su (st (st Sub.nil)))
    ·intro _
     refine Leaf.blockE ?_
     refine Leaf.thenN ?_
     refine CWalk.seq ?_
     refine CWalk.seq ?_
     refine CWalk.region ?_
     refine wo (Spec.assign Has.int) ?_
     refine Walk.nil ?_
     refine Leaf.thenN ?_
     refine CWalk.block ?_
     obtain ⟨b19, hb19, hm⟩ := bind_some hm
     refine CWalk.loop (fun s : Int × Int => [.fact 0 (.rep [0] (a0 : List Disk)), .fact 3 (.rep [] s.1), .fact 4 (.rep [] (s2 : Int)), .fact 6 (.rep [] s.2)]) (fun b : Int => (Exit.exit 4, [.fact 0 (.rep [0] (a0 : List Disk)), .fact 3 (.rep [] (b : Int)), .fact 4 (.rep [] (s2 : Int))])) hb19 (su (st (st (st Sub.nil)))) ?_ ?_
     ·rintro ⟨s13, s14⟩ c15 hm
      replace hm : ref05_Great_L3 a0 s2 s13 s14 = some c15 := hm
      unfold ref05_Great_L3 at hm
      show CWalk _ [.fact 0 (.rep [0] (a0 : List Disk)), .fact 3 (.rep [] (s13 : Int)), .fact 4 (.rep [] (s2 : Int)), .fact 6 (.rep [] (s14 : Int))] _ _
      refine CWalk.seq ?_
      refine CWalk.seq ?_
      refine CWalk.region ?_
      refine mv ?_
      refine mv ?_
      refine mv ?_
      obtain ⟨x16, hx16, hm⟩ := bind_some hm
      refine wo (Spec.indexAddr hx16 sl25 (Has.s rfl) (Has.s rfl)) ?_
      refine wo (Spec.fieldAddrP fd49_1 (chDisk x16) rfl (Has.s rfl)) ?_
      refine wo (Spec.load ty47 (Has.s rfl)) ?_
      refine wo (Spec.len (Has.s rfl) Try.underlying47) ?_
      refine wo (Spec.lssI (Has.s rfl) (Has.s rfl)) ?_
      refine Walk.nil ?_
      refine Leaf.thenN ?_
      refine CWalk.cond rfl (fun hb => ?_) (fun hb => ?_)
      ·have hm := cond_t hb hm
       refine CWalk.skip ?_
       refine Leaf.thenN ?_
       refine CWalk.seq ?_
       refine CWalk.block ?_
       refine CWalk.region ?_
       refine mv ?_
       refine mv ?_
       refine mv ?_
       obtain ⟨x17, hx17, hm⟩ := bind_some hm
       refine wo (Spec.indexAddr hx17 sl25 (Has.s rfl) (Has.s rfl)) ?_
       refine wo (Spec.fieldAddrP fd49_1 (chDisk x17) rfl (Has.s rfl)) ?_
       refine wo (Spec.load ty47 (Has.s rfl)) ?_
       refine mv ?_
       obtain ⟨x18, hx18, hm⟩ := bind_some hm
       refine wo (Spec.indexAddr hx18 sl47 (Has.s rfl) (Has.s rfl)) ?_
       refine wo (Spec.fieldAddrP fd52_1 (chWrite x18) rfl (Has.s rfl)) ?_
       refine wo (Spec.load ty28 (Has.s rfl)) ?_
       refine wo (Spec.len (Has.s rfl) Try.underlying28) ?_
       refine wo (Spec.addI Has.int (Has.s rfl)) ?_
       refine wo (Spec.addI (Has.s rfl) (Has.s rfl)) ?_
       refine wo (Spec.assign (Has.s rfl)) ?_
       refine Walk.nil ?_
       refine Leaf.blockN ?_
       refine Leaf.thenN ?_
       refine CWalk.region ?_
       refine mv ?_
       refine wo (Spec.addI (Has.s rfl) Has.int) ?_
       refine wo (Spec.assign (Has.s rfl)) ?_
       refine Walk.nil ?_
       exact Leaf.next hm (su (st (st (st Sub.nil))))
      ·have hm := cond_f hb hm
       refine CWalk.exit ?_
       refine Leaf.thenE ?_
       exact Leaf.brk hm (fun h => nomatch h) rfl (su (st (st Sub.nil)))
     ·intro _
      refine Leaf.blockE ?_
      refine Leaf.thenN ?_
      refine CWalk.seq ?_
      refine CWalk.region ?_
      refine mv ?_
      refine wo (Spec.gtrI (Has.s rfl) Has.int) ?_
      refine Walk.nil ?_
      refine Leaf.thenN ?_
      refine CWalk.cond rfl (fun hb => ?_) (fun hb => ?_)
      ·have hm := cond_t hb hm
       refine CWalk.seq ?_
       refine CWalk.region ?_
       refine wo (Spec.assign Has.bool) ?_
       refine Walk.nil ?_
       refine Leaf.thenN ?_
       refine CWalk.ret ?_
       refine Leaf.blockR ?_
       refine Leaf.thenR ?_
       exact Leaf.brk hm (fun h => nomatch h) rfl (st Sub.nil)
      ·have hm := cond_f hb hm
       refine CWalk.skip ?_
       refine Leaf.blockN ?_
       refine Leaf.thenN ?_
       refine CWalk.region ?_
       refine mv ?_
       refine wo (Spec.addI (Has.s rfl) Has.int) ?_
       refine wo (Spec.assign (Has.s rfl)) ?_
       refine Walk.nil ?_
       exact Leaf.next hm (su (st (st Sub.nil)))
  ·have hm := cond_f hb hm
   refine CWalk.exit ?_
   refine Leaf.thenE ?_
   exact Leaf.brk hm (fun h => nomatch h) rfl (su Sub.nil)
 ·intro _
  rcases b20 with b21 | b22
  ·have hm := selim_l hm
   refine Leaf.blockE ?_
   refine Leaf.thenN ?_
   refine CWalk.seq ?_
   refine CWalk.region ?_
   refine mv ?_
   refine wo (Spec.len (Has.s rfl) Try.underlying25) ?_
   refine wo (Spec.gtrI (Has.s rfl) Has.int) ?_
   refine wo (Spec.assign (Has.s rfl)) ?_
   refine Walk.nil ?_
   refine Leaf.thenN ?_
   refine CWalk.ret ?_
   obtain rfl := Option.some.inj hm
   exact Leaf.retC1 rfl (HasR.cv (HasR.tmp (Has.s rfl)) Cv.fl)
  ·have hm := selim_r hm
   refine Leaf.blockR ?_
   refine Leaf.thenR ?_
   obtain rfl := Option.some.inj hm
   exact Leaf.retC1 rfl (HasR.cv (HasR.tmp (Has.s rfl)) Cv.fl)

def law20_FetchAlone_J2 (s9 : Int) (j11 : Int) : Option (Ctl (Int × Int) (Int)) :=
  some (Ctl.next (j11, (wI (s9 + (1 : Int)))))
def law20_FetchAlone_L1 (a0 : Config) (a1 : List Disk) (a2 : Int) (x2 : Int × Int) (s8 : Int) (s9 : Int) : Option (Ctl (Int × Int) (Int)) :=
  (bif (decide (s9 < a0.Members)) then Option.bind (gO ((s9 != x2.1)) (idx a1 s9)) (fun x12 => (bif ((s9 != x2.1) && (x12.Dead || (s9 == a2))) then (law20_FetchAlone_J2 s9 (wI (s8 + (1 : Int)))) else (law20_FetchAlone_J2 s9 s8))) else some (Ctl.brk s8))
/-- freeboard/freeboardlaw20.FetchAlone -/
def law20_FetchAlone (a0 : Config) (a1 : List Disk) (a2 : Int) (a3 : Int) (a4 : Int) : Option (Bool) :=
  Option.bind (law20_alive) (fun x1 => Option.bind (turn_Member a0 a3 a4) (fun x2 => Option.bind (ref05_Great a1) (fun x3 => Option.bind (gO (!x3) (fetch_Check a0 a1)) (fun x4 => (bif (((((x3 || (x4 != (0 : Int))) || (x2.2 != (0 : Int))) || (decide (a2 < (-1 : Int)))) || (decide (a2 ≥ a0.Members))) || (!x1)) then some x1 else Option.bind (fetch_Block a0 a1 a2 a3 a4) (fun x5 => Option.bind (idx a1 x2.1) (fun x6 => Option.bind (disk_Read x6 (wI (a3 + (1 : Int)))) (fun x7 => (bif ((x7.2 == (0 : Int)) && (x2.1 != a2)) then some ((x5.2 == (0 : Int)) && ((Str.mk x5.1).s == (Str.mk x7.1).s)) else Option.bind (loopM (fun s : Int × Int => law20_FetchAlone_L1 a0 a1 a2 x2 s.1 s.2) FUEL ((0 : Int), (0 : Int))) (fun b13 => some (((x5.2 == (230 : Int)) == (decide (b13 > (0 : Int)))) && ((x5.2 == (0 : Int)) == (b13 == (0 : Int))))))))))))))
set_option maxRecDepth 100000 in
set_option maxHeartbeats 2000000 in
theorem law20_FetchAlone_c (a0 : Config) (a1 : List Disk) (a2 : Int) (a3 : Int) (a4 : Int) {r : Bool} (hm : law20_FetchAlone a0 a1 a2 a3 a4 = some r) : Ctr Try.prog 6 [.rep 0 a0, .rep 0 a1, .rep 0 a2, .rep 0 a3, .rep 0 a4] (.fl r) [] := by
 refine ctr_of_walk [[]] 125 Try.func6 rfl rfl rfl rfl (fun w0 om => ?_)
 unfold law20_FetchAlone at hm
 refine CWalk.sub (G' := [.fact 0 (.rep [] (a0 : Config)), .fact 1 (.rep [0] (a1 : List Disk)), .fact 2 (.rep [] (a2 : Int)), .fact 3 (.rep [] (a3 : Int)), .fact 4 (.rep [] (a4 : Int))]) (Sub.cons (Has.fl (Has.s rfl)) (sn (Sub.cons (Has.fl (Has.s rfl)) (Sub.cons (Has.fl (Has.s rfl)) (Sub.cons (Has.fl (Has.s rfl)) Sub.nil))))) ?_
 refine CWalk.seq ?_
 refine CWalk.region ?_
 refine ws (Step.boxObj (ls := [(false, 1, Fact.rep [] a0.Id), (false, 1, Fact.rep [] a0.Members), (false, 1, Fact.rep [] a0.Chunk), (false, 1, Fact.rep [] a0.Rows), (false, 1, Fact.rep [] a0.Log), (false, 1, Fact.rep [] a0.Heads)]) 10 rfl rfl rfl rfl (HasL.flds (Has.cv (Has.s rfl) (Cv.trans (Cv.opens (chConfig a0)) (Cv.flds (CvL.cons Cv.fl (CvL.cons Cv.fl (CvL.cons Cv.fl (CvL.cons Cv.fl (CvL.cons Cv.fl (CvL.cons Cv.fl CvL.nil))))))))))) ?_
 refine wo (Spec.assign Has.bool) ?_
 refine Walk.nil ?_
 refine Leaf.thenN ?_
 refine CWalk.seq ?_
 refine CWalk.region ?_
 obtain ⟨x1, hx1, hm⟩ := bind_some hm
 refine wo (f := Fact.rep [] (x1 : Bool)) (Spec.callE [] 17 rfl en17 (law20_alive_c  hx1) HasAll.nil) ?_
 refine wo (Spec.assign (Has.s rfl)) ?_
 refine Walk.nil ?_
 refine Leaf.thenN ?_
 refine CWalk.seq ?_
 refine CWalk.region ?_
 refine wo (Spec.loadObj (ls := [(false, 1, Fact.rep [] a0.Id), (false, 1, Fact.rep [] a0.Members), (false, 1, Fact.rep [] a0.Chunk), (false, 1, Fact.rep [] a0.Rows), (false, 1, Fact.rep [] a0.Log), (false, 1, Fact.rep [] a0.Heads)]) ty24 rfl rfl (Has.s rfl) rfl (HasGs.cons (HasG.s rfl) (HasGs.cons (HasG.s rfl) (HasGs.cons (HasG.s rfl) (HasGs.cons (HasG.s rfl) (HasGs.cons (HasG.s rfl) (HasGs.cons (HasG.s rfl) HasGs.nil))))))) ?_
 refine mv ?_
 refine mv ?_
 obtain ⟨x2, hx2, hm⟩ := bind_some hm
 refine wo (f := Fact.tup2 (Fact.rep [] x2.1) (Fact.rep [] x2.2)) (Spec.callE [] 18 rfl en19 (turn_Member_c a0 a3 a4 hx2) (HasAll.cons (Has.fl (Has.cv (Has.s rfl) (Cv.trans (Cv.flds (CvL.cons Cv.fl (CvL.cons Cv.fl (CvL.cons Cv.fl (CvL.cons Cv.fl (CvL.cons Cv.fl (CvL.cons Cv.fl CvL.nil))))))) (Cv.close (T := []) (chConfig a0))))) (HasAll.cons (Has.fl (Has.s rfl)) (HasAll.cons (Has.fl (Has.s rfl)) HasAll.nil)))) ?_
 refine mv ?_
 refine wo (Spec.ext0 (Has.s rfl)) ?_
 refine wo (Spec.ext1 (Has.s rfl)) ?_
 refine wo (Spec.assign (Has.s rfl)) ?_
 refine wo (Spec.assign (Has.s rfl)) ?_
 refine Walk.nil ?_
 refine Leaf.thenN ?_
 refine CWalk.seq ?_
 refine CWalk.seq ?_
 refine CWalk.region ?_
 refine mv ?_
 obtain ⟨x3, hx3, hm⟩ := bind_some hm
 refine wo (f := Fact.rep [] (x3 : Bool)) (Spec.callE [0] 19 rfl en7 (ref05_Great_c a1 hx3) (HasAll.cons (Has.m (Has.s rfl) rfl) HasAll.nil)) ?_
 refine mv ?_
 refine wg rfl rfl (fun hb => Spec.loadObj (ls := [(false, 1, Fact.rep [] a0.Id), (false, 1, Fact.rep [] a0.Members), (false, 1, Fact.rep [] a0.Chunk), (false, 1, Fact.rep [] a0.Rows), (false, 1, Fact.rep [] a0.Log), (false, 1, Fact.rep [] a0.Heads)]) ty24 rfl rfl (Has.s rfl) rfl (HasGs.cons (HasG.s rfl) (HasGs.cons (HasG.s rfl) (HasGs.cons (HasG.s rfl) (HasGs.cons (HasG.s rfl) (HasGs.cons (HasG.s rfl) (HasGs.cons (HasG.s rfl) HasGs.nil))))))) ?_
 refine wg rfl rfl (fun hb => Spec.move (Has.s rfl)) ?_
 obtain ⟨x4, hx4, hm⟩ := bind_some hm
 refine wg (f := Fact.rep [] (x4 : Int)) rfl rfl (fun hb => Spec.callE [0] 20 rfl en11 (fetch_Check_c a0 a1 (gO_t hx4 (not_t hb))) (HasAll.cons (Has.fl (Has.cv (Has.u rfl hb) (Cv.trans (Cv.flds (CvL.cons Cv.fl (CvL.cons Cv.fl (CvL.cons Cv.fl (CvL.cons Cv.fl (CvL.cons Cv.fl (CvL.cons Cv.fl CvL.nil))))))) (Cv.close (T := []) (chConfig a0))))) (HasAll.cons (Has.m (Has.u rfl hb) rfl) HasAll.nil))) ?_
 refine wg rfl rfl (fun hb => Spec.neqI (Has.u rfl hb) Has.int) ?_
 refine wo (Spec.or (Has.s rfl) (fun h => Has.u rfl h)) ?_
 refine mv ?_
 refine wg rfl rfl (fun hb => Spec.move (Has.s rfl)) ?_
 refine wg rfl rfl (fun hb => Spec.neqI (Has.u rfl hb) Has.int) ?_
 refine wo (Spec.or (Has.s rfl) (fun h => Has.u rfl h)) ?_
 refine mv ?_
 refine wg rfl rfl (fun hb => Spec.move (Has.s rfl)) ?_
 refine wg rfl rfl (fun hb => Spec.lssI (Has.u rfl hb) Has.int) ?_
 refine wo (Spec.or (Has.s rfl) (fun h => Has.u rfl h)) ?_
 refine mv ?_
 refine wg rfl rfl (fun hb => Spec.move (Has.s rfl)) ?_
 refine wg rfl rfl (fun hb => Spec.fieldAddrO fd24_1 (Has.cv (Has.s rfl) (Cv.isvP rfl))) ?_
 refine wg rfl rfl (fun hb => Spec.loadF (i := 1) ty3 rfl (Has.u rfl hb) rfl (HasG.s rfl)) ?_
 refine wg rfl rfl (fun hb => Spec.geqI (Has.u rfl hb) (Has.u rfl hb)) ?_
 refine wo (Spec.or (Has.s rfl) (fun h => Has.u rfl h)) ?_
 refine mv ?_
 refine wg rfl rfl (fun hb => Spec.move (Has.s rfl)) ?_
 refine wg rfl rfl (fun hb => Spec.not (Has.u rfl hb)) ?_
 refine wo (Spec.or (Has.s rfl) (fun h => Has.u rfl h)) ?_
 refine Walk.nil ?_
 refine Leaf.thenN ?_
 refine CWalk.cond rfl (fun hb => ?_) (fun hb => ?_)
 ·have hm := cond_t hb hm
  refine CWalk.seq ?_
  refine CWalk.region ?_
  refine mv ?_
  refine wo (Spec.assign (Has.s rfl)) ?_
  refine Walk.nil ?_
  refine Leaf.thenN ?_
  refine CWalk.ret ?_
  refine Leaf.thenR ?_
  obtain rfl := Option.some.inj hm
  exact Leaf.retC1 rfl (HasR.cv (HasR.tmp (Has.s rfl)) Cv.fl)
 ·have hm := cond_f hb hm
  refine CWalk.skip ?_
  refine Leaf.thenN ?_
  refine CWalk.seq ?_
  refine CWalk.region ?_
  refine wo (Spec.loadObj (ls := [(false, 1, Fact.rep [] a0.Id), (false, 1, Fact.rep [] a0.Members), (false, 1, Fact.rep [] a0.Chunk), (false, 1, Fact.rep [] a0.Rows), (false, 1, Fact.rep [] a0.Log), (false, 1, Fact.rep [] a0.Heads)]) ty24 rfl rfl (Has.s rfl) rfl (HasGs.cons (HasG.s rfl) (HasGs.cons (HasG.s rfl) (HasGs.cons (HasG.s rfl) (HasGs.cons (HasG.s rfl) (HasGs.cons (HasG.s rfl) (HasGs.cons (HasG.s rfl) HasGs.nil))))))) ?_
  refine mv ?_
  refine mv ?_
  refine mv ?_
  refine mv ?_
  obtain ⟨x5, hx5, hm⟩ := bind_some hm
  refine wo (f := Fact.tup2 (Fact.sl [21] [] (x5.1 : List UInt8)) (Fact.rep [] x5.2)) (Spec.callE [0] 21 rfl en9 (fetch_Block_c a0 a1 a2 a3 a4 hx5) (HasAll.cons (Has.fl (Has.cv (Has.s rfl) (Cv.trans (Cv.flds (CvL.cons Cv.fl (CvL.cons Cv.fl (CvL.cons Cv.fl (CvL.cons Cv.fl (CvL.cons Cv.fl (CvL.cons Cv.fl CvL.nil))))))) (Cv.close (T := []) (chConfig a0))))) (HasAll.cons (Has.m (Has.s rfl) rfl) (HasAll.cons (Has.fl (Has.s rfl)) (HasAll.cons (Has.fl (Has.s rfl)) (HasAll.cons (Has.fl (Has.s rfl)) HasAll.nil)))))) ?_
  refine mv ?_
  refine wo (Spec.ext0 (Has.s rfl)) ?_
  refine wo (Spec.ext1 (Has.s rfl)) ?_
  refine wo (Spec.assign (Has.s rfl)) ?_
  refine wo (Spec.assign (Has.s rfl)) ?_
  refine Walk.nil ?_
  refine Leaf.thenN ?_
  refine CWalk.seq ?_
  refine CWalk.region ?_
  refine mv ?_
  refine mv ?_
  obtain ⟨x6, hx6, hm⟩ := bind_some hm
  refine wo (Spec.indexAddr hx6 sl25 (Has.s rfl) (Has.s rfl)) ?_
  refine wo (Spec.load ty49 (Has.s rfl)) ?_
  refine mv ?_
  refine wo (Spec.addI (Has.s rfl) Has.int) ?_
  obtain ⟨x7, hx7, hm⟩ := bind_some hm
  refine wo (f := Fact.tup2 (Fact.ow [22] [] 5 (x7.1 : List UInt8)) (Fact.rep [] x7.2)) (Spec.callE [0] 22 rfl en20 (disk_Read_c x6 (wI (a3 + (1 : Int))) hx7) (HasAll.cons (Has.m (Has.s rfl) rfl) (HasAll.cons (Has.fl (Has.s rfl)) HasAll.nil))) ?_
  refine mv ?_
  refine wo (Spec.ext0 (Has.s rfl)) ?_
  refine wo (Spec.ext1 (Has.s rfl)) ?_
  refine wo (Spec.assign (Has.s rfl)) ?_
  refine wo (Spec.assign (Has.s rfl)) ?_
  refine Walk.nil ?_
  refine Leaf.thenN ?_
  refine CWalk.seq ?_
  refine CWalk.seq ?_
  refine CWalk.region ?_
  refine mv ?_
  refine wo (Spec.eqlI (Has.s rfl) Has.int) ?_
  refine mv ?_
  refine wg rfl rfl (fun hb => Spec.move (Has.s rfl)) ?_
  refine wg rfl rfl (fun hb => Spec.move (Has.s rfl)) ?_
  refine wg rfl rfl (fun hb => Spec.neqI (Has.u rfl hb) (Has.u rfl hb)) ?_
  refine wo (Spec.and (Has.s rfl) (fun h => Has.u rfl h)) ?_
  refine Walk.nil ?_
  refine Leaf.thenN ?_
  refine CWalk.cond rfl (fun hb => ?_) (fun hb => ?_)
  ·have hm := cond_t hb hm
   refine CWalk.seq ?_
   refine CWalk.region ?_
   refine mv ?_
   refine wo (Spec.eqlI (Has.s rfl) Has.int) ?_
   refine mv ?_
   refine wg rfl rfl (fun hb => Spec.move (Has.s rfl)) ?_
   refine wg rfl rfl (fun hb => Spec.toStr Try.underlying28 Try.underlying5 Try.underlying9 (Has.cv (Has.u rfl hb) (Cv.slRep (T' := [21]) rfl rfl))) ?_
   refine wg rfl rfl (fun hb => Spec.move (Has.s rfl)) ?_
   refine wg rfl rfl (fun hb => Spec.toStr Try.underlying28 Try.underlying5 Try.underlying9 (Has.cv (Has.u rfl hb) (Cv.trans Cv.owSl (Cv.slRep (T' := [22]) rfl rfl)))) ?_
   refine wg rfl rfl (fun hb => Spec.eqlS (Has.u rfl hb) (Has.u rfl hb)) ?_
   refine wo (Spec.and (Has.s rfl) (fun h => Has.u rfl h)) ?_
   refine wo (Spec.assign (Has.s rfl)) ?_
   refine Walk.nil ?_
   refine Leaf.thenN ?_
   refine CWalk.ret ?_
   refine Leaf.thenR ?_
   obtain rfl := Option.some.inj hm
   exact Leaf.retC1 rfl (HasR.cv (HasR.tmp (Has.s rfl)) Cv.fl)
  ·have hm := cond_f hb hm
   refine CWalk.skip ?_
   refine Leaf.thenN ?_
   refine CWalk.seq ?_
   refine CWalk.region ?_
   refine wo (Spec.assign Has.int) ?_
   refine Walk.nil ?_
   refine Leaf.thenN ?_
   refine CWalk.seq ?_
   refine CWalk.seq ?_
   refine CWalk.region ?_
   refine wo (Spec.assign Has.int) ?_
   refine Walk.nil ?_
   refine Leaf.thenN ?_
   refine CWalk.block ?_
   obtain ⟨b13, hb13, hm⟩ := bind_some hm
   refine CWalk.loop (fun s : Int × Int => [.fact 1 (.rep [0] (a1 : List Disk)), .fact 2 (.rep [] (a2 : Int)), .fact 5 (.isv 10), .fact 12 (.rep [] x2.1), .fact 15 (.rep [] x5.2), .fact 18 (.rep [] s.1), .fact 19 (.rep [] s.2), .fact 100011 (.at 11 (.rep [] a0.Id)), .fact 100012 (.at 12 (.rep [] a0.Members)), .fact 100013 (.at 13 (.rep [] a0.Chunk)), .fact 100014 (.at 14 (.rep [] a0.Rows)), .fact 100015 (.at 15 (.rep [] a0.Log)), .fact 100016 (.at 16 (.rep [] a0.Heads)), .fact 100010 (.obj 10 [(false, 1), (false, 1), (false, 1), (false, 1), (false, 1), (false, 1)])]) (fun b : Int => (Exit.exit 0, [.fact 15 (.rep [] x5.2), .fact 18 (.rep [] (b : Int))])) hb13 (su (st (sn (st (st (st (st (sf (sf (sf (sf (sf (sf (sn Sub.nil)))))))))))))) ?_ ?_
   ·rintro ⟨s8, s9⟩ c10 hm
    replace hm : law20_FetchAlone_L1 a0 a1 a2 x2 s8 s9 = some c10 := hm
    unfold law20_FetchAlone_L1 at hm
    show CWalk _ [.fact 1 (.rep [0] (a1 : List Disk)), .fact 2 (.rep [] (a2 : Int)), .fact 5 (.isv 10), .fact 12 (.rep [] x2.1), .fact 15 (.rep [] x5.2), .fact 18 (.rep [] (s8 : Int)), .fact 19 (.rep [] (s9 : Int)), .fact 100011 (.at 11 (.rep [] a0.Id)), .fact 100012 (.at 12 (.rep [] a0.Members)), .fact 100013 (.at 13 (.rep [] a0.Chunk)), .fact 100014 (.at 14 (.rep [] a0.Rows)), .fact 100015 (.at 15 (.rep [] a0.Log)), .fact 100016 (.at 16 (.rep [] a0.Heads)), .fact 100010 (.obj 10 [(false, 1), (false, 1), (false, 1), (false, 1), (false, 1), (false, 1)])] _ _
    refine CWalk.seq ?_
    refine CWalk.seq ?_
    refine CWalk.region ?_
    refine mv ?_
    refine wo (Spec.fieldAddrO fd24_1 (Has.cv (Has.s rfl) (Cv.isvP rfl))) ?_
    refine wo (Spec.loadF (i := 1) ty3 rfl (Has.s rfl) rfl (HasG.s rfl)) ?_
    refine wo (Spec.lssI (Has.s rfl) (Has.s rfl)) ?_
    refine Walk.nil ?_
    refine Leaf.thenN ?_
    refine CWalk.cond rfl (fun hb => ?_) (fun hb => ?_)
    ·have hm := cond_t hb hm
     refine CWalk.skip ?_
     refine Leaf.thenN ?_
     refine CWalk.seqJ (fun p : Int => [.fact 1 (.rep [0] (a1 : List Disk)), .fact 2 (.rep [] (a2 : Int)), .fact 5 (.isv 10), .fact 12 (.rep [] x2.1), .fact 15 (.rep [] x5.2), .fact 18 (.rep [] (p : Int)), .fact 19 (.rep [] (s9 : Int)), .fact 100011 (.at 11 (.rep [] a0.Id)), .fact 100012 (.at 12 (.rep [] a0.Members)), .fact 100013 (.at 13 (.rep [] a0.Chunk)), .fact 100014 (.at 14 (.rep [] a0.Rows)), .fact 100015 (.at 15 (.rep [] a0.Log)), .fact 100016 (.at 16 (.rep [] a0.Heads)), .fact 100010 (.obj 10 [(false, 1), (false, 1), (false, 1), (false, 1), (false, 1), (false, 1)])]) (fun p : Int => law20_FetchAlone_J2 s9 p = some c10) ?_ ?_
     ·rintro j11 hm
      replace hm : law20_FetchAlone_J2 s9 j11 = some c10 := hm
      unfold law20_FetchAlone_J2 at hm
      show CWalk _ [.fact 1 (.rep [0] (a1 : List Disk)), .fact 2 (.rep [] (a2 : Int)), .fact 5 (.isv 10), .fact 12 (.rep [] x2.1), .fact 15 (.rep [] x5.2), .fact 18 (.rep [] (j11 : Int)), .fact 19 (.rep [] (s9 : Int)), .fact 100011 (.at 11 (.rep [] a0.Id)), .fact 100012 (.at 12 (.rep [] a0.Members)), .fact 100013 (.at 13 (.rep [] a0.Chunk)), .fact 100014 (.at 14 (.rep [] a0.Rows)), .fact 100015 (.at 15 (.rep [] a0.Log)), .fact 100016 (.at 16 (.rep [] a0.Heads)), .fact 100010 (.obj 10 [(false, 1), (false, 1), (false, 1), (false, 1), (false, 1), (false, 1)])] _ _
      refine CWalk.region ?_
      refine mv ?_
      refine wo (Spec.addI (Has.s rfl) Has.int) ?_
      refine wo (Spec.assign (Has.s rfl)) ?_
      refine Walk.nil ?_
      exact Leaf.next hm (su (st (sn (st (st (st (st (sf (sf (sf (sf (sf (sf (sn Sub.nil))))))))))))))
     ·refine CWalk.block ?_
      refine CWalk.seq ?_
      refine CWalk.region ?_
      refine mv ?_
      refine mv ?_
      refine wo (Spec.neqI (Has.s rfl) (Has.s rfl)) ?_
      refine mv ?_
      refine wg rfl rfl (fun hb => Spec.move (Has.s rfl)) ?_
      refine wg rfl rfl (fun hb => Spec.move (Has.s rfl)) ?_
      obtain ⟨x12, hx12, hm⟩ := bind_some hm
      refine wg rfl rfl (fun hb => Spec.indexAddr (gO_t hx12 hb) sl25 (Has.u rfl hb) (Has.u rfl hb)) ?_
      refine wg rfl rfl (fun hb => Spec.fieldAddrP fd49_2 (chDisk x12) rfl (Has.u rfl hb)) ?_
      refine wg rfl rfl (fun hb => (Spec.load ty4 (Has.u rfl hb)).flat (T' := [])) ?_
      refine wg rfl rfl (fun hb => Spec.move (Has.u rfl hb)) ?_
      refine Walk.opgu rfl rfl rfl (fun hb => Spec.move (Has.s rfl)) ?_
      refine Walk.opgu rfl rfl rfl (fun hb => Spec.move (Has.s rfl)) ?_
      refine Walk.opgu rfl rfl rfl (fun hb => Spec.eqlI (Has.u rfl hb) (Has.u rfl hb)) ?_
      refine wg rfl rfl (fun hb => Spec.or (Has.u rfl hb) (fun h => Has.u rfl ⟨hb, h⟩)) ?_
      refine wo (Spec.and (Has.s rfl) (fun h => Has.u rfl h)) ?_
      refine Walk.nil ?_
      refine Leaf.thenN ?_
      refine CWalk.cond rfl (fun hb => ?_) (fun hb => ?_)
      ·have hm := cond_t hb hm
       refine CWalk.region ?_
       refine mv ?_
       refine wo (Spec.addI (Has.s rfl) Has.int) ?_
       refine wo (Spec.assign (Has.s rfl)) ?_
       refine Walk.nil ?_
       refine Leaf.blockN ?_
       exact Leaf.join (wI (s8 + (1 : Int))) hm (su (st (sn (st (st (st (st (sf (sf (sf (sf (sf (sf (sn Sub.nil))))))))))))))
      ·have hm := cond_f hb hm
       refine CWalk.skip ?_
       refine Leaf.blockN ?_
       exact Leaf.join s8 hm (su (st (sn (st (st (st (st (sf (sf (sf (sf (sf (sf (sn Sub.nil))))))))))))))
    ·have hm := cond_f hb hm
     refine CWalk.exit ?_
     refine Leaf.thenE ?_
     exact Leaf.brk hm (fun h => nomatch h) rfl (st (st Sub.nil))
   ·intro _
    refine Leaf.blockE ?_
    refine Leaf.thenN ?_
    refine CWalk.seq ?_
    refine CWalk.region ?_
    refine mv ?_
    refine wo (Spec.eqlI (Has.s rfl) Has.int) ?_
    refine mv ?_
    refine wo (Spec.gtrI (Has.s rfl) Has.int) ?_
    refine wo (Spec.eqlT (Has.s rfl) (Has.s rfl) Try.underlying4) ?_
    refine mv ?_
    refine wg rfl rfl (fun hb => Spec.move (Has.s rfl)) ?_
    refine wg rfl rfl (fun hb => Spec.eqlI (Has.u rfl hb) Has.int) ?_
    refine wg rfl rfl (fun hb => Spec.move (Has.s rfl)) ?_
    refine wg rfl rfl (fun hb => Spec.eqlI (Has.u rfl hb) Has.int) ?_
    refine wg rfl rfl (fun hb => Spec.eqlT (Has.u rfl hb) (Has.u rfl hb) Try.underlying4) ?_
    refine wo (Spec.and (Has.s rfl) (fun h => Has.u rfl h)) ?_
    refine wo (Spec.assign (Has.s rfl)) ?_
    refine Walk.nil ?_
    refine Leaf.thenN ?_
    refine CWalk.ret ?_
    obtain rfl := Option.some.inj hm
    exact Leaf.retC1 rfl (HasR.cv (HasR.tmp (Has.s rfl)) Cv.fl)

end Go.Proofs.Ytfilegnndamngaa
