/- Printed by a program of ours: models of functions, and that calls do what they say. -/
import Derived.Test.YtcnmlbgcnkfnhaaGha2
namespace Go.Proofs.Ytcnmlbgcnkfnhaa
open Go GL
set_option linter.unusedVariables false

def law21_HomeAgain_L1 (a0 : Config) (a1 : List Disk) (a2 : Int) (a3 : Deal) (x7 : (List Disk) × Int) (x12 : (List Disk) × Int) (s13 : Int) : Option (Ctl (Int) ((Unit) ⊕ (Unit))) :=
  (bif (decide (s13 < a0.Members)) then Option.bind (law21_has a0 x7.1 a1 a2 a3 s13) (fun x15 => Option.bind (gO (!(!x15)) (law21_has a0 x12.1 a1 a2 a3 s13)) (fun x16 => (bif ((!x15) || (!x16)) then some (Ctl.brk (Sum.inr ())) else some (Ctl.next (wI (s13 + (1 : Int))))))) else some (Ctl.brk (Sum.inl ())))
/-- freeboard/freeboardlaw21.HomeAgain -/
def law21_HomeAgain (a0 : Config) (a1 : List Disk) (a2 : Int) (a3 : Deal) (a4 : Int) (a5 : List Bool) : Option (Bool) :=
  Option.bind (law21_alive) (fun x1 => Option.bind (ref05_Great a1) (fun x2 => Option.bind (gO (!x2) (ref13_Great a3)) (fun x3 => Option.bind (gO (!((x2 || x3) || (decide (((a5).length : Int) > (2000 : Int))))) (fetch_Check a0 a1)) (fun x4 => (bif ((((x2 || x3) || (decide (((a5).length : Int) > (2000 : Int)))) || (x4 != (0 : Int))) || (!x1)) then some x1 else Option.bind (home_Again a0 a2 a3) (fun x5 => Option.bind (acts_Waits a1) (fun x6 => (bif (((((x5.2 != (0 : Int)) || (x6.2 != (0 : Int))) || (decide (x6.1 > (0 : Int)))) || (decide (a4 < (0 : Int)))) || (decide (a4 > ((x5.1).length : Int)))) then some true else Option.bind (acts_Run a1 x5.1 ((x5.1).length : Int)) (fun x7 => Option.bind (acts_Run a1 x5.1 a4) (fun x8 => Option.bind (acts_Waits x8.1) (fun x9 => (bif (((x7.2 != (0 : Int)) || (x8.2 != (0 : Int))) || (x9.2 != (0 : Int))) then some false else Option.bind (slc a5 0 (min ((a5).length : Int) x9.1)) (fun x10 => Option.bind (acts_Crash x8.1 x10) (fun x11 => Option.bind (acts_Run x11.1 x5.1 ((x5.1).length : Int)) (fun x12 => (bif ((((x11.2 != (0 : Int)) || (x12.2 != (0 : Int))) || (((x7.1).length : Int) != ((a1).length : Int))) || (((x12.1).length : Int) != ((a1).length : Int))) then some false else Option.bind (loopM (fun s : Int => law21_HomeAgain_L1 a0 a1 a2 a3 x7 x12 s) FUEL (0 : Int)) (fun b17 => Sum.elim (fun b18 => Option.bind (idx x7.1 a0.Members) (fun x19 => Option.bind (idx a1 a0.Members) (fun x20 => Option.bind (disk_Same x19 x20) (fun x21 => some x21)))) (fun b22 => some false) b17)))))))))))))))))
set_option maxRecDepth 100000 in
set_option maxHeartbeats 2000000 in
theorem law21_HomeAgain_c (a0 : Config) (a1 : List Disk) (a2 : Int) (a3 : Deal) (a4 : Int) (a5 : List Bool) {r : Bool} (hm : law21_HomeAgain a0 a1 a2 a3 a4 a5 = some r) : Ctr Try.prog 6 [.rep 0 a0, .rep 0 a1, .rep 0 a2, .rep 0 a3, .rep 0 a4, .rep 0 a5] (.fl r) [] := by
 refine ctr_of_walk [[]] 188 Try.func6 rfl rfl rfl rfl (fun w0 om => ?_)
 unfold law21_HomeAgain at hm
 refine CWalk.sub (G' := [.fact 0 (.rep [] (a0 : Config)), .fact 1 (.rep [0] (a1 : List Disk)), .fact 2 (.rep [] (a2 : Int)), .fact 3 (.rep [0] (a3 : Deal)), .fact 4 (.rep [] (a4 : Int)), .fact 5 (.rep [0] (a5 : List Bool))]) (Sub.cons (Has.fl (Has.s rfl)) (sn (Sub.cons (Has.fl (Has.s rfl)) (sn (Sub.cons (Has.fl (Has.s rfl)) (sn Sub.nil)))))) ?_
 refine CWalk.seq ?_
 refine CWalk.region ?_
 refine ws (Step.boxObj (ls := [(false, 1, Fact.rep [] a0.Id), (false, 1, Fact.rep [] a0.Members), (false, 1, Fact.rep [] a0.Chunk), (false, 1, Fact.rep [] a0.Rows), (false, 1, Fact.rep [] a0.Log), (false, 1, Fact.rep [] a0.Heads)]) 10 rfl rfl rfl rfl (HasL.flds (Has.cv (Has.s rfl) (Cv.trans (Cv.opens (chConfig a0)) (Cv.flds (CvL.cons Cv.fl (CvL.cons Cv.fl (CvL.cons Cv.fl (CvL.cons Cv.fl (CvL.cons Cv.fl (CvL.cons Cv.fl CvL.nil))))))))))) ?_
 refine ws (Step.boxObj (ls := [(false, 1, Fact.rep [] a3.Stripe), (false, 1, Fact.rep [0] a3.Slots), (false, 1, Fact.rep [0] a3.Blocks), (false, 1, Fact.rep [0] a3.Parity)]) 17 rfl rfl rfl rfl (HasL.flds (Has.cv (Has.s rfl) (Cv.trans (Cv.opens (chDeal a3)) (Cv.flds (CvL.cons Cv.fl (CvL.cons Cv.refl (CvL.cons Cv.refl (CvL.cons Cv.refl CvL.nil))))))))) ?_
 refine wo (Spec.assign Has.bool) ?_
 refine Walk.nil ?_
 refine Leaf.thenN ?_
 refine CWalk.seq ?_
 refine CWalk.region ?_
 obtain ⟨x1, hx1, hm⟩ := bind_some hm
 refine wo (f := Fact.rep [] (x1 : Bool)) (Spec.callE [] 22 rfl en7 (law21_alive_c  hx1) HasAll.nil) ?_
 refine wo (Spec.assign (Has.s rfl)) ?_
 refine Walk.nil ?_
 refine Leaf.thenN ?_
 refine CWalk.seq ?_
 refine CWalk.seq ?_
 refine CWalk.region ?_
 refine mv ?_
 obtain ⟨x2, hx2, hm⟩ := bind_some hm
 refine wo (f := Fact.rep [] (x2 : Bool)) (Spec.callE [0] 23 rfl en19 (ref05_Great_c a1 hx2) (HasAll.cons (Has.m (Has.s rfl) rfl) HasAll.nil)) ?_
 refine mv ?_
 refine wg rfl rfl (fun hb => Spec.loadObj (ls := [(false, 1, Fact.rep [] a3.Stripe), (false, 1, Fact.rep [0] a3.Slots), (false, 1, Fact.rep [0] a3.Blocks), (false, 1, Fact.rep [0] a3.Parity)]) ty43 rfl rfl (Has.s rfl) rfl (HasGs.cons (HasG.s rfl) (HasGs.cons (HasG.s rfl) (HasGs.cons (HasG.s rfl) (HasGs.cons (HasG.s rfl) HasGs.nil))))) ?_
 obtain ⟨x3, hx3, hm⟩ := bind_some hm
 refine wg (f := Fact.rep [] (x3 : Bool)) rfl rfl (fun hb => Spec.callE [0] 24 rfl en20 (ref13_Great_c a3 (gO_t hx3 (not_t hb))) (HasAll.cons (Has.m (Has.cv (Has.u rfl hb) (Cv.trans (Cv.flds (CvL.cons Cv.fl (CvL.cons (Cv.m rfl) (CvL.cons (Cv.m rfl) (CvL.cons (Cv.m rfl) CvL.nil))))) (Cv.close (T := [0]) (chDeal a3)))) rfl) HasAll.nil)) ?_
 refine wo (Spec.or (Has.s rfl) (fun h => Has.u rfl h)) ?_
 refine mv ?_
 refine wg rfl rfl (fun hb => Spec.move (Has.s rfl)) ?_
 refine wg rfl rfl (fun hb => Spec.len (Has.u rfl hb) Try.underlying26) ?_
 refine wg rfl rfl (fun hb => Spec.gtrI (Has.u rfl hb) Has.int) ?_
 refine wo (Spec.or (Has.s rfl) (fun h => Has.u rfl h)) ?_
 refine mv ?_
 refine wg rfl rfl (fun hb => Spec.loadObj (ls := [(false, 1, Fact.rep [] a0.Id), (false, 1, Fact.rep [] a0.Members), (false, 1, Fact.rep [] a0.Chunk), (false, 1, Fact.rep [] a0.Rows), (false, 1, Fact.rep [] a0.Log), (false, 1, Fact.rep [] a0.Heads)]) ty24 rfl rfl (Has.s rfl) rfl (HasGs.cons (HasG.s rfl) (HasGs.cons (HasG.s rfl) (HasGs.cons (HasG.s rfl) (HasGs.cons (HasG.s rfl) (HasGs.cons (HasG.s rfl) (HasGs.cons (HasG.s rfl) HasGs.nil))))))) ?_
 refine wg rfl rfl (fun hb => Spec.move (Has.s rfl)) ?_
 obtain ⟨x4, hx4, hm⟩ := bind_some hm
 refine wg (f := Fact.rep [] (x4 : Int)) rfl rfl (fun hb => Spec.callE [0] 25 rfl en21 (fetch_Check_c a0 a1 (gO_t hx4 (not_t hb))) (HasAll.cons (Has.fl (Has.cv (Has.u rfl hb) (Cv.trans (Cv.flds (CvL.cons Cv.fl (CvL.cons Cv.fl (CvL.cons Cv.fl (CvL.cons Cv.fl (CvL.cons Cv.fl (CvL.cons Cv.fl CvL.nil))))))) (Cv.close (T := []) (chConfig a0))))) (HasAll.cons (Has.m (Has.u rfl hb) rfl) HasAll.nil))) ?_
 refine wg rfl rfl (fun hb => Spec.neqI (Has.u rfl hb) Has.int) ?_
 refine wo (Spec.or (Has.s rfl) (fun h => Has.u rfl h)) ?_
 refine mv ?_
 refine wg rfl rfl (fun hb => Spec.move (Has.s rfl)) ?_
 refine wg rfl rfl (fun hb => Spec.not (Has.u rfl hb)) ?_
 refine wo (Spec.or (Has.s rfl) (fun h => Has.u rfl h)) ?_
 refine Walk.nil ?_
 refine Leaf.thenN ?_
 refine CWalk.cond rfl (fun hb => ?_) (fun hb => ?_)
 ·have hm := cond_t hb hm
  refine CWalk.seq ?_
  refine CWalk.region ?_
  refine mv ?_
  refine wo (Spec.assign (Has.s rfl)) ?_
  refine Walk.nil ?_
  refine Leaf.thenN ?_
  refine CWalk.ret ?_
  refine Leaf.thenR ?_
  obtain rfl := Option.some.inj hm
  exact Leaf.retC1 rfl (HasR.cv (HasR.tmp (Has.s rfl)) Cv.fl)
 ·have hm := cond_f hb hm
  refine CWalk.skip ?_
  refine Leaf.thenN ?_
  refine CWalk.seq ?_
  refine CWalk.region ?_
  refine wo (Spec.loadObj (ls := [(false, 1, Fact.rep [] a0.Id), (false, 1, Fact.rep [] a0.Members), (false, 1, Fact.rep [] a0.Chunk), (false, 1, Fact.rep [] a0.Rows), (false, 1, Fact.rep [] a0.Log), (false, 1, Fact.rep [] a0.Heads)]) ty24 rfl rfl (Has.s rfl) rfl (HasGs.cons (HasG.s rfl) (HasGs.cons (HasG.s rfl) (HasGs.cons (HasG.s rfl) (HasGs.cons (HasG.s rfl) (HasGs.cons (HasG.s rfl) (HasGs.cons (HasG.s rfl) HasGs.nil))))))) ?_
  refine mv ?_
  refine wo (Spec.loadObj (ls := [(false, 1, Fact.rep [] a3.Stripe), (false, 1, Fact.rep [0] a3.Slots), (false, 1, Fact.rep [0] a3.Blocks), (false, 1, Fact.rep [0] a3.Parity)]) ty43 rfl rfl (Has.s rfl) rfl (HasGs.cons (HasG.s rfl) (HasGs.cons (HasG.s rfl) (HasGs.cons (HasG.s rfl) (HasGs.cons (HasG.s rfl) HasGs.nil))))) ?_
  obtain ⟨x5, hx5, hm⟩ := bind_some hm
  refine wo (f := Fact.tup2 (Fact.ow [26] [27] 37 (x5.1 : List Act37)) (Fact.rep [] x5.2)) (Spec.callE [0] 26 rfl en12 (home_Again_c a0 a2 a3 hx5) (HasAll.cons (Has.fl (Has.cv (Has.s rfl) (Cv.trans (Cv.flds (CvL.cons Cv.fl (CvL.cons Cv.fl (CvL.cons Cv.fl (CvL.cons Cv.fl (CvL.cons Cv.fl (CvL.cons Cv.fl CvL.nil))))))) (Cv.close (T := []) (chConfig a0))))) (HasAll.cons (Has.fl (Has.s rfl)) (HasAll.cons (Has.m (Has.cv (Has.s rfl) (Cv.trans (Cv.flds (CvL.cons Cv.fl (CvL.cons (Cv.m rfl) (CvL.cons (Cv.m rfl) (CvL.cons (Cv.m rfl) CvL.nil))))) (Cv.close (T := [0]) (chDeal a3)))) rfl) HasAll.nil)))) ?_
  refine mv ?_
  refine wo (Spec.ext0 (Has.s rfl)) ?_
  refine wo (Spec.ext1 (Has.s rfl)) ?_
  refine wo (Spec.assign (Has.s rfl)) ?_
  refine wo (Spec.assign (Has.s rfl)) ?_
  refine Walk.nil ?_
  refine Leaf.thenN ?_
  refine CWalk.seq ?_
  refine CWalk.region ?_
  refine mv ?_
  obtain ⟨x6, hx6, hm⟩ := bind_some hm
  refine wo (f := Fact.tup2 (Fact.rep [] x6.1) (Fact.rep [] x6.2)) (Spec.callE [0] 28 rfl en27 (acts_Waits_c a1 hx6) (HasAll.cons (Has.m (Has.s rfl) rfl) HasAll.nil)) ?_
  refine mv ?_
  refine wo (Spec.ext0 (Has.s rfl)) ?_
  refine wo (Spec.ext1 (Has.s rfl)) ?_
  refine wo (Spec.assign (Has.s rfl)) ?_
  refine wo (Spec.assign (Has.s rfl)) ?_
  refine Walk.nil ?_
  refine Leaf.thenN ?_
  refine CWalk.seq ?_
  refine CWalk.seq ?_
  refine CWalk.region ?_
  refine mv ?_
  refine wo (Spec.neqI (Has.s rfl) Has.int) ?_
  refine mv ?_
  refine wg rfl rfl (fun hb => Spec.move (Has.s rfl)) ?_
  refine wg rfl rfl (fun hb => Spec.neqI (Has.u rfl hb) Has.int) ?_
  refine wo (Spec.or (Has.s rfl) (fun h => Has.u rfl h)) ?_
  refine mv ?_
  refine wg rfl rfl (fun hb => Spec.move (Has.s rfl)) ?_
  refine wg rfl rfl (fun hb => Spec.gtrI (Has.u rfl hb) Has.int) ?_
  refine wo (Spec.or (Has.s rfl) (fun h => Has.u rfl h)) ?_
  refine mv ?_
  refine wg rfl rfl (fun hb => Spec.move (Has.s rfl)) ?_
  refine wg rfl rfl (fun hb => Spec.lssI (Has.u rfl hb) Has.int) ?_
  refine wo (Spec.or (Has.s rfl) (fun h => Has.u rfl h)) ?_
  refine mv ?_
  refine wg rfl rfl (fun hb => Spec.move (Has.s rfl)) ?_
  refine wg rfl rfl (fun hb => Spec.move (Has.s rfl)) ?_
  refine wg rfl rfl (fun hb => Spec.len (Has.cv (Has.u rfl hb) (Cv.trans Cv.owSl (Cv.slRep (T' := [26, 27]) rfl rfl))) Try.underlying31) ?_
  refine wg rfl rfl (fun hb => Spec.gtrI (Has.u rfl hb) (Has.u rfl hb)) ?_
  refine wo (Spec.or (Has.s rfl) (fun h => Has.u rfl h)) ?_
  refine Walk.nil ?_
  refine Leaf.thenN ?_
  refine CWalk.cond rfl (fun hb => ?_) (fun hb => ?_)
  ·have hm := cond_t hb hm
   refine CWalk.seq ?_
   refine CWalk.region ?_
   refine wo (Spec.assign Has.bool) ?_
   refine Walk.nil ?_
   refine Leaf.thenN ?_
   refine CWalk.ret ?_
   refine Leaf.thenR ?_
   obtain rfl := Option.some.inj hm
   exact Leaf.retC1 rfl (HasR.cv (HasR.tmp (Has.s rfl)) Cv.fl)
  ·have hm := cond_f hb hm
   refine CWalk.skip ?_
   refine Leaf.thenN ?_
   refine CWalk.seq ?_
   refine CWalk.region ?_
   refine mv ?_
   refine mv ?_
   refine mv ?_
   refine wo (Spec.len (Has.cv (Has.s rfl) (Cv.trans Cv.owSl (Cv.slRep (T' := [26, 27]) rfl rfl))) Try.underlying31) ?_
   obtain ⟨x7, hx7, hm⟩ := bind_some hm
   refine wo (f := Fact.tup2 (Fact.ow [29] [30] 66 (x7.1 : List Disk)) (Fact.rep [] x7.2)) (Spec.callE [0, 26, 27] 29 rfl en26 (acts_Run_c a1 x5.1 ((x5.1).length : Int) hx7) (HasAll.cons (Has.m (Has.s rfl) rfl) (HasAll.cons (Has.m (Has.cv (Has.s rfl) (Cv.trans Cv.owSl (Cv.slRep (T' := [26, 27]) rfl rfl))) rfl) (HasAll.cons (Has.fl (Has.s rfl)) HasAll.nil)))) ?_
   refine mv ?_
   refine wo (Spec.ext0 (Has.s rfl)) ?_
   refine wo (Spec.ext1 (Has.s rfl)) ?_
   refine wo (Spec.assign (Has.s rfl)) ?_
   refine wo (Spec.assign (Has.s rfl)) ?_
   refine Walk.nil ?_
   refine Leaf.thenN ?_
   refine CWalk.seq ?_
   refine CWalk.region ?_
   refine mv ?_
   refine mv ?_
   refine mv ?_
   obtain ⟨x8, hx8, hm⟩ := bind_some hm
   refine wo (f := Fact.tup2 (Fact.ow [31] [32] 66 (x8.1 : List Disk)) (Fact.rep [] x8.2)) (Spec.callE [0, 26, 27] 31 rfl en26 (acts_Run_c a1 x5.1 a4 hx8) (HasAll.cons (Has.m (Has.s rfl) rfl) (HasAll.cons (Has.m (Has.cv (Has.s rfl) (Cv.trans Cv.owSl (Cv.slRep (T' := [26, 27]) rfl rfl))) rfl) (HasAll.cons (Has.fl (Has.s rfl)) HasAll.nil)))) ?_
   refine mv ?_
   refine wo (Spec.ext0 (Has.s rfl)) ?_
   refine wo (Spec.ext1 (Has.s rfl)) ?_
   refine wo (Spec.assign (Has.s rfl)) ?_
   refine wo (Spec.assign (Has.s rfl)) ?_
   refine Walk.nil ?_
   refine Leaf.thenN ?_
   refine CWalk.seq ?_
   refine CWalk.region ?_
   refine mv ?_
   obtain ⟨x9, hx9, hm⟩ := bind_some hm
   refine wo (f := Fact.tup2 (Fact.rep [] x9.1) (Fact.rep [] x9.2)) (Spec.callE [31, 32] 33 rfl en27 (acts_Waits_c x8.1 hx9) (HasAll.cons (Has.m (Has.cv (Has.s rfl) (Cv.trans Cv.owSl (Cv.slRep (T' := [31, 32]) rfl rfl))) rfl) HasAll.nil)) ?_
   refine mv ?_
   refine wo (Spec.ext0 (Has.s rfl)) ?_
   refine wo (Spec.ext1 (Has.s rfl)) ?_
   refine wo (Spec.assign (Has.s rfl)) ?_
   refine wo (Spec.assign (Has.s rfl)) ?_
   refine Walk.nil ?_
   refine Leaf.thenN ?_
   refine CWalk.seq ?_
   refine CWalk.seq ?_
   refine CWalk.region ?_
   refine mv ?_
   refine wo (Spec.neqI (Has.s rfl) Has.int) ?_
   refine mv ?_
   refine wg rfl rfl (fun hb => Spec.move (Has.s rfl)) ?_
   refine wg rfl rfl (fun hb => Spec.neqI (Has.u rfl hb) Has.int) ?_
   refine wo (Spec.or (Has.s rfl) (fun h => Has.u rfl h)) ?_
   refine mv ?_
   refine wg rfl rfl (fun hb => Spec.move (Has.s rfl)) ?_
   refine wg rfl rfl (fun hb => Spec.neqI (Has.u rfl hb) Has.int) ?_
   refine wo (Spec.or (Has.s rfl) (fun h => Has.u rfl h)) ?_
   refine Walk.nil ?_
   refine Leaf.thenN ?_
   refine CWalk.cond rfl (fun hb => ?_) (fun hb => ?_)
   ·have hm := cond_t hb hm
    refine CWalk.seq ?_
    refine CWalk.region ?_
    refine wo (Spec.assign Has.bool) ?_
    refine Walk.nil ?_
    refine Leaf.thenN ?_
    refine CWalk.ret ?_
    refine Leaf.thenR ?_
    obtain rfl := Option.some.inj hm
    exact Leaf.retC1 rfl (HasR.cv (HasR.tmp (Has.s rfl)) Cv.fl)
   ·have hm := cond_f hb hm
    refine CWalk.skip ?_
    refine Leaf.thenN ?_
    refine CWalk.seq ?_
    refine CWalk.region ?_
    refine mv ?_
    refine mv ?_
    refine mv ?_
    refine wo (Spec.len (Has.s rfl) Try.underlying26) ?_
    refine mv ?_
    refine wo (Spec.minI (Has.s rfl) (Has.s rfl)) ?_
    obtain ⟨x10, hx10, hm⟩ := bind_some hm
    refine wo (Spec.slcHi hx10 sl26 (Has.s rfl) (Has.s rfl)) ?_
    obtain ⟨x11, hx11, hm⟩ := bind_some hm
    refine wo (f := Fact.tup2 (Fact.ow [34] [35] 66 (x11.1 : List Disk)) (Fact.rep [] x11.2)) (Spec.callE [0, 31, 32] 34 rfl en28 (acts_Crash_c x8.1 x10 hx11) (HasAll.cons (Has.m (Has.cv (Has.s rfl) (Cv.trans Cv.owSl (Cv.slRep (T' := [31, 32]) rfl rfl))) rfl) (HasAll.cons (Has.m (Has.s rfl) rfl) HasAll.nil))) ?_
    refine mv ?_
    refine wo (Spec.ext0 (Has.s rfl)) ?_
    refine wo (Spec.ext1 (Has.s rfl)) ?_
    refine wo (Spec.assign (Has.s rfl)) ?_
    refine wo (Spec.assign (Has.s rfl)) ?_
    refine Walk.nil ?_
    refine Leaf.thenN ?_
    refine CWalk.seq ?_
    refine CWalk.region ?_
    refine mv ?_
    refine mv ?_
    refine mv ?_
    refine wo (Spec.len (Has.cv (Has.s rfl) (Cv.trans Cv.owSl (Cv.slRep (T' := [26, 27]) rfl rfl))) Try.underlying31) ?_
    obtain ⟨x12, hx12, hm⟩ := bind_some hm
    refine wo (f := Fact.tup2 (Fact.ow [36] [37] 66 (x12.1 : List Disk)) (Fact.rep [] x12.2)) (Spec.callE [26, 27, 34, 35] 36 rfl en26 (acts_Run_c x11.1 x5.1 ((x5.1).length : Int) hx12) (HasAll.cons (Has.m (Has.cv (Has.s rfl) (Cv.trans Cv.owSl (Cv.slRep (T' := [34, 35]) rfl rfl))) rfl) (HasAll.cons (Has.m (Has.cv (Has.s rfl) (Cv.trans Cv.owSl (Cv.slRep (T' := [26, 27]) rfl rfl))) rfl) (HasAll.cons (Has.fl (Has.s rfl)) HasAll.nil)))) ?_
    refine mv ?_
    refine wo (Spec.ext0 (Has.s rfl)) ?_
    refine wo (Spec.ext1 (Has.s rfl)) ?_
    refine wo (Spec.assign (Has.s rfl)) ?_
    refine wo (Spec.assign (Has.s rfl)) ?_
    refine Walk.nil ?_
    refine Leaf.thenN ?_
    refine CWalk.seq ?_
    refine CWalk.seq ?_
    refine CWalk.region ?_
    refine mv ?_
    refine wo (Spec.neqI (Has.s rfl) Has.int) ?_
    refine mv ?_
    refine wg rfl rfl (fun hb => Spec.move (Has.s rfl)) ?_
    refine wg rfl rfl (fun hb => Spec.neqI (Has.u rfl hb) Has.int) ?_
    refine wo (Spec.or (Has.s rfl) (fun h => Has.u rfl h)) ?_
    refine mv ?_
    refine wg rfl rfl (fun hb => Spec.move (Has.s rfl)) ?_
    refine wg rfl rfl (fun hb => Spec.len (Has.cv (Has.u rfl hb) (Cv.trans Cv.owSl (Cv.slRep (T' := [29, 30]) rfl rfl))) Try.underlying53) ?_
    refine wg rfl rfl (fun hb => Spec.move (Has.s rfl)) ?_
    refine wg rfl rfl (fun hb => Spec.len (Has.u rfl hb) Try.underlying53) ?_
    refine wg rfl rfl (fun hb => Spec.neqI (Has.u rfl hb) (Has.u rfl hb)) ?_
    refine wo (Spec.or (Has.s rfl) (fun h => Has.u rfl h)) ?_
    refine mv ?_
    refine wg rfl rfl (fun hb => Spec.move (Has.s rfl)) ?_
    refine wg rfl rfl (fun hb => Spec.len (Has.cv (Has.u rfl hb) (Cv.trans Cv.owSl (Cv.slRep (T' := [36, 37]) rfl rfl))) Try.underlying53) ?_
    refine wg rfl rfl (fun hb => Spec.move (Has.s rfl)) ?_
    refine wg rfl rfl (fun hb => Spec.len (Has.u rfl hb) Try.underlying53) ?_
    refine wg rfl rfl (fun hb => Spec.neqI (Has.u rfl hb) (Has.u rfl hb)) ?_
    refine wo (Spec.or (Has.s rfl) (fun h => Has.u rfl h)) ?_
    refine Walk.nil ?_
    refine Leaf.thenN ?_
    refine CWalk.cond rfl (fun hb => ?_) (fun hb => ?_)
    ·have hm := cond_t hb hm
     refine CWalk.seq ?_
     refine CWalk.region ?_
     refine wo (Spec.assign Has.bool) ?_
     refine Walk.nil ?_
     refine Leaf.thenN ?_
     refine CWalk.ret ?_
     refine Leaf.thenR ?_
     obtain rfl := Option.some.inj hm
     exact Leaf.retC1 rfl (HasR.cv (HasR.tmp (Has.s rfl)) Cv.fl)
    ·have hm := cond_f hb hm
     refine CWalk.skip ?_
     refine Leaf.thenN ?_
     refine CWalk.seq ?_
     refine CWalk.seq ?_
     refine CWalk.region ?_
     refine wo (Spec.assign Has.int) ?_
     refine Walk.nil ?_
     refine Leaf.thenN ?_
     refine CWalk.block ?_
     obtain ⟨b17, hb17, hm⟩ := bind_some hm
     refine CWalk.loop (fun s : Int => [.fact 1 (.rep [0] (a1 : List Disk)), .fact 2 (.rep [] (a2 : Int)), .fact 6 (.isv 10), .fact 9 (.isv 17), .fact 18 (.ow [29] [30] 66 (x7.1 : List Disk)), .fact 26 (.ow [36] [37] 66 (x12.1 : List Disk)), .fact 28 (.rep [] (s : Int)), .fact 100011 (.at 11 (.rep [] a0.Id)), .fact 100012 (.at 12 (.rep [] a0.Members)), .fact 100013 (.at 13 (.rep [] a0.Chunk)), .fact 100014 (.at 14 (.rep [] a0.Rows)), .fact 100015 (.at 15 (.rep [] a0.Log)), .fact 100016 (.at 16 (.rep [] a0.Heads)), .fact 100018 (.at 18 (.rep [] a3.Stripe)), .fact 100019 (.at 19 (.rep [0] a3.Slots)), .fact 100020 (.at 20 (.rep [0] a3.Blocks)), .fact 100021 (.at 21 (.rep [0] a3.Parity)), .fact 100010 (.obj 10 [(false, 1), (false, 1), (false, 1), (false, 1), (false, 1), (false, 1)]), .fact 100017 (.obj 17 [(false, 1), (false, 1), (false, 1), (false, 1)])]) (fun b : (Unit) ⊕ (Unit) => Sum.elim (fun b => (Exit.exit 0, [.fact 1 (.rep [0] (a1 : List Disk)), .fact 6 (.isv 10), .fact 18 (.ow [29] [30] 66 (x7.1 : List Disk)), .fact 100011 (.at 11 (.rep [] a0.Id)), .fact 100012 (.at 12 (.rep [] a0.Members)), .fact 100013 (.at 13 (.rep [] a0.Chunk)), .fact 100014 (.at 14 (.rep [] a0.Rows)), .fact 100015 (.at 15 (.rep [] a0.Log)), .fact 100016 (.at 16 (.rep [] a0.Heads)), .fact 100010 (.obj 10 [(false, 1), (false, 1), (false, 1), (false, 1), (false, 1), (false, 1)])])) (fun b => (Exit.ret, [.fact 12 (.rep [] (false : Bool))])) b) hb17 (su (st (sn (sn (Sub.cons (Has.cv (Has.s rfl) (Cv.owM (T := [29]) (te := [30]) rfl rfl)) (Sub.cons (Has.cv (Has.s rfl) (Cv.owM (T := [36]) (te := [37]) rfl rfl)) (st (sf (sf (sf (sf (sf (sf (sf (sm (sm (sm (sn (sn Sub.nil))))))))))))))))))) ?_ ?_
     ·rintro s13 c14 hm
      replace hm : law21_HomeAgain_L1 a0 a1 a2 a3 x7 x12 s13 = some c14 := hm
      unfold law21_HomeAgain_L1 at hm
      show CWalk _ [.fact 1 (.rep [0] (a1 : List Disk)), .fact 2 (.rep [] (a2 : Int)), .fact 6 (.isv 10), .fact 9 (.isv 17), .fact 18 (.ow [29] [30] 66 (x7.1 : List Disk)), .fact 26 (.ow [36] [37] 66 (x12.1 : List Disk)), .fact 28 (.rep [] (s13 : Int)), .fact 100011 (.at 11 (.rep [] a0.Id)), .fact 100012 (.at 12 (.rep [] a0.Members)), .fact 100013 (.at 13 (.rep [] a0.Chunk)), .fact 100014 (.at 14 (.rep [] a0.Rows)), .fact 100015 (.at 15 (.rep [] a0.Log)), .fact 100016 (.at 16 (.rep [] a0.Heads)), .fact 100018 (.at 18 (.rep [] a3.Stripe)), .fact 100019 (.at 19 (.rep [0] a3.Slots)), .fact 100020 (.at 20 (.rep [0] a3.Blocks)), .fact 100021 (.at 21 (.rep [0] a3.Parity)), .fact 100010 (.obj 10 [(false, 1), (false, 1), (false, 1), (false, 1), (false, 1), (false, 1)]), .fact 100017 (.obj 17 [(false, 1), (false, 1), (false, 1), (false, 1)])] _ _
      refine CWalk.seq ?_
      refine CWalk.seq ?_
      refine CWalk.region ?_
      refine mv ?_
      refine wo (Spec.fieldAddrO fd24_1 (Has.cv (Has.s rfl) (Cv.isvP rfl))) ?_
      refine wo (Spec.loadF (i := 1) ty3 rfl (Has.s rfl) rfl (HasG.s rfl)) ?_
      refine wo (Spec.lssI (Has.s rfl) (Has.s rfl)) ?_
      refine Walk.nil ?_
      refine Leaf.thenN ?_
      refine CWalk.cond rfl (fun hb => ?_) (fun hb => ?_)
      ·have hm := cond_t hb hm
       refine CWalk.skip ?_
       refine Leaf.thenN ?_
       refine CWalk.seq ?_
       refine CWalk.block ?_
       refine CWalk.seq ?_
       refine CWalk.region ?_
       refine wo (Spec.loadObj (ls := [(false, 1, Fact.rep [] a0.Id), (false, 1, Fact.rep [] a0.Members), (false, 1, Fact.rep [] a0.Chunk), (false, 1, Fact.rep [] a0.Rows), (false, 1, Fact.rep [] a0.Log), (false, 1, Fact.rep [] a0.Heads)]) ty24 rfl rfl (Has.s rfl) rfl (HasGs.cons (HasG.s rfl) (HasGs.cons (HasG.s rfl) (HasGs.cons (HasG.s rfl) (HasGs.cons (HasG.s rfl) (HasGs.cons (HasG.s rfl) (HasGs.cons (HasG.s rfl) HasGs.nil))))))) ?_
       refine mv ?_
       refine mv ?_
       refine mv ?_
       refine wo (Spec.loadObj (ls := [(false, 1, Fact.rep [] a3.Stripe), (false, 1, Fact.rep [0] a3.Slots), (false, 1, Fact.rep [0] a3.Blocks), (false, 1, Fact.rep [0] a3.Parity)]) ty43 rfl rfl (Has.s rfl) rfl (HasGs.cons (HasG.s rfl) (HasGs.cons (HasG.s rfl) (HasGs.cons (HasG.s rfl) (HasGs.cons (HasG.s rfl) HasGs.nil))))) ?_
       refine mv ?_
       obtain ⟨x15, hx15, hm⟩ := bind_some hm
       refine wo (f := Fact.rep [] (x15 : Bool)) (Spec.callE [0, 29, 30] 38 rfl en29 (law21_has_c a0 x7.1 a1 a2 a3 s13 hx15) (HasAll.cons (Has.fl (Has.cv (Has.s rfl) (Cv.trans (Cv.flds (CvL.cons Cv.fl (CvL.cons Cv.fl (CvL.cons Cv.fl (CvL.cons Cv.fl (CvL.cons Cv.fl (CvL.cons Cv.fl CvL.nil))))))) (Cv.close (T := []) (chConfig a0))))) (HasAll.cons (Has.m (Has.cv (Has.s rfl) (Cv.trans Cv.owSl (Cv.slRep (T' := [29, 30]) rfl rfl))) rfl) (HasAll.cons (Has.m (Has.s rfl) rfl) (HasAll.cons (Has.fl (Has.s rfl)) (HasAll.cons (Has.m (Has.cv (Has.s rfl) (Cv.trans (Cv.flds (CvL.cons Cv.fl (CvL.cons (Cv.m rfl) (CvL.cons (Cv.m rfl) (CvL.cons (Cv.m rfl) CvL.nil))))) (Cv.close (T := [0]) (chDeal a3)))) rfl) (HasAll.cons (Has.fl (Has.s rfl)) HasAll.nil))))))) ?_
       refine wo (Spec.not (Has.s rfl)) ?_
       refine mv ?_
       refine wg rfl rfl (fun hb => Spec.loadObj (ls := [(false, 1, Fact.rep [] a0.Id), (false, 1, Fact.rep [] a0.Members), (false, 1, Fact.rep [] a0.Chunk), (false, 1, Fact.rep [] a0.Rows), (false, 1, Fact.rep [] a0.Log), (false, 1, Fact.rep [] a0.Heads)]) ty24 rfl rfl (Has.s rfl) rfl (HasGs.cons (HasG.s rfl) (HasGs.cons (HasG.s rfl) (HasGs.cons (HasG.s rfl) (HasGs.cons (HasG.s rfl) (HasGs.cons (HasG.s rfl) (HasGs.cons (HasG.s rfl) HasGs.nil))))))) ?_
       refine wg rfl rfl (fun hb => Spec.move (Has.s rfl)) ?_
       refine wg rfl rfl (fun hb => Spec.move (Has.s rfl)) ?_
       refine wg rfl rfl (fun hb => Spec.move (Has.s rfl)) ?_
       refine wg rfl rfl (fun hb => Spec.loadObj (ls := [(false, 1, Fact.rep [] a3.Stripe), (false, 1, Fact.rep [0] a3.Slots), (false, 1, Fact.rep [0] a3.Blocks), (false, 1, Fact.rep [0] a3.Parity)]) ty43 rfl rfl (Has.s rfl) rfl (HasGs.cons (HasG.s rfl) (HasGs.cons (HasG.s rfl) (HasGs.cons (HasG.s rfl) (HasGs.cons (HasG.s rfl) HasGs.nil))))) ?_
       refine wg rfl rfl (fun hb => Spec.move (Has.s rfl)) ?_
       obtain ⟨x16, hx16, hm⟩ := bind_some hm
       refine wg (f := Fact.rep [] (x16 : Bool)) rfl rfl (fun hb => Spec.callE [0, 36, 37] 39 rfl en29 (law21_has_c a0 x12.1 a1 a2 a3 s13 (gO_t hx16 (not_t hb))) (HasAll.cons (Has.fl (Has.cv (Has.u rfl hb) (Cv.trans (Cv.flds (CvL.cons Cv.fl (CvL.cons Cv.fl (CvL.cons Cv.fl (CvL.cons Cv.fl (CvL.cons Cv.fl (CvL.cons Cv.fl CvL.nil))))))) (Cv.close (T := []) (chConfig a0))))) (HasAll.cons (Has.m (Has.cv (Has.u rfl hb) (Cv.trans Cv.owSl (Cv.slRep (T' := [36, 37]) rfl rfl))) rfl) (HasAll.cons (Has.m (Has.u rfl hb) rfl) (HasAll.cons (Has.fl (Has.u rfl hb)) (HasAll.cons (Has.m (Has.cv (Has.u rfl hb) (Cv.trans (Cv.flds (CvL.cons Cv.fl (CvL.cons (Cv.m rfl) (CvL.cons (Cv.m rfl) (CvL.cons (Cv.m rfl) CvL.nil))))) (Cv.close (T := [0]) (chDeal a3)))) rfl) (HasAll.cons (Has.fl (Has.u rfl hb)) HasAll.nil))))))) ?_
       refine wg rfl rfl (fun hb => Spec.not (Has.u rfl hb)) ?_
       refine wo (Spec.or (Has.s rfl) (fun h => Has.u rfl h)) ?_
       refine Walk.nil ?_
       refine Leaf.thenN ?_
       refine CWalk.cond rfl (fun hb => ?_) (fun hb => ?_)
       ·have hm := cond_t hb hm
        refine CWalk.seq ?_
        refine CWalk.region ?_
        refine wo (Spec.assign Has.bool) ?_
        refine Walk.nil ?_
        refine Leaf.thenN ?_
        refine CWalk.ret ?_
        refine Leaf.blockR ?_
        refine Leaf.thenR ?_
        exact Leaf.brk hm (fun h => nomatch h) rfl (st Sub.nil)
       ·have hm := cond_f hb hm
        refine CWalk.skip ?_
        refine Leaf.blockN ?_
        refine Leaf.thenN ?_
        refine CWalk.region ?_
        refine mv ?_
        refine wo (Spec.addI (Has.s rfl) Has.int) ?_
        refine wo (Spec.assign (Has.s rfl)) ?_
        refine Walk.nil ?_
        exact Leaf.next hm (su (st (sn (sn (Sub.cons (Has.cv (Has.s rfl) (Cv.owM (T := [29]) (te := [30]) rfl rfl)) (Sub.cons (Has.cv (Has.s rfl) (Cv.owM (T := [36]) (te := [37]) rfl rfl)) (st (sf (sf (sf (sf (sf (sf (sf (sm (sm (sm (sn (sn Sub.nil)))))))))))))))))))
      ·have hm := cond_f hb hm
       refine CWalk.exit ?_
       refine Leaf.thenE ?_
       exact Leaf.brk hm (fun h => nomatch h) rfl (su (sn (Sub.cons (Has.cv (Has.s rfl) (Cv.owM (T := [29]) (te := [30]) rfl rfl)) (sf (sf (sf (sf (sf (sf (sn Sub.nil))))))))))
     ·intro _
      rcases b17 with b18 | b22
      ·have hm := selim_l hm
       refine Leaf.blockE ?_
       refine Leaf.thenN ?_
       refine CWalk.seq ?_
       obtain ⟨x19, hx19, hm⟩ := bind_some hm
       obtain ⟨x20, hx20, hm⟩ := bind_some hm
       obtain ⟨x21, hx21, hm⟩ := bind_some hm
       refine CWalk.drawM [[], [], [1], [0, 1, 2], [0, 1, 2, 3], [], [], [6], [5, 6, 7], [5, 6, 7, 8], [0, 1, 2, 3, 4, 5, 6, 7, 8, 9], [0, 1, 2, 3, 4, 5, 6, 7, 8, 9, 10]] [[.fact 177 (.ow [29] [30] 66 (x7.1 : List Disk))], [.fact 178 (.pto 10 1)], [.fact 179 (.rep [] a0.Members)], [.fact 180 (.pts [29] [30] (x19 : Disk))], [.fact 181 (.rep [30] (x19 : Disk))], [.fact 182 (.rep [0] (a1 : List Disk))], [.fact 183 (.pto 10 1)], [.fact 184 (.rep [] a0.Members)], [.fact 185 (.ptr [0] (x20 : Disk))], [.fact 186 (.rep [0] (x20 : Disk))], [.fact 187 (.rep [] (x21 : Bool))], [.fact 12 (.rep [] (x21 : Bool))]] mixed (by kernel_rfl) (ao (so (Spec.move (Has.s rfl))) (ao (so (Spec.fieldAddrO fd24_1 (Has.cv (Has.s rfl) (Cv.isvP rfl)))) (ao (so (Spec.loadF (i := 1) ty3 rfl (Has.s rfl) rfl (HasG.s rfl))) (ao (so (Spec.indexSl hx19 sl53 (Has.cv (Has.s rfl) Cv.owSl) (Has.s rfl))) (ao (so (Spec.loadS ty66 (Has.s rfl))) (ao (so (Spec.move (Has.s rfl))) (ao (so (Spec.fieldAddrO fd24_1 (Has.cv (Has.s rfl) (Cv.isvP rfl)))) (ao (so (Spec.loadF (i := 1) ty3 rfl (Has.s rfl) rfl (HasG.s rfl))) (ao (so (Spec.indexAddr hx20 sl53 (Has.s rfl) (Has.s rfl))) (ao (so (Spec.load ty66 (Has.s rfl))) (ao (so (Spec.callE [0, 30] 40 rfl en30 (disk_Same_c x19 x20 hx21) (HasAll.cons (Has.m (Has.s rfl) rfl) (HasAll.cons (Has.m (Has.s rfl) rfl) HasAll.nil)))) (ao (so (Spec.assign (Has.s rfl))) AllM.nil)))))))))))) ?_
       refine Leaf.thenN ?_
       refine CWalk.ret ?_
       obtain rfl := Option.some.inj hm
       exact Leaf.retC1 rfl (HasR.cv (HasR.tmp (Has.s rfl)) Cv.fl)
      ·have hm := selim_r hm
       refine Leaf.blockR ?_
       refine Leaf.thenR ?_
       obtain rfl := Option.some.inj hm
       exact Leaf.retC1 rfl (HasR.cv (HasR.tmp (Has.s rfl)) Cv.fl)

end Go.Proofs.Ytcnmlbgcnkfnhaa
