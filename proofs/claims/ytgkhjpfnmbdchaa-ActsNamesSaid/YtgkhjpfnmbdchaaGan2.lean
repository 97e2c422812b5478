/- Printed by a program of ours: models of functions, and that calls do what they say. -/
import Derived.Test.YtgkhjpfnmbdchaaGan1
namespace Go.Proofs.Ytgkhjpfnmbdchaa
open Go GL
set_option linter.unusedVariables false

def ref04_Same_L1 (a0 : Disk) (a1 : Disk) (s1 : Int) : Option (Ctl (Int) ((Unit) ⊕ (Unit))) :=
  (bif (decide (s1 < ((a0.Blocks).length : Int))) then Option.bind (idx a0.Blocks s1) (fun x3 => Option.bind (ref04_Full x3) (fun x4 => Option.bind (idx a1.Blocks s1) (fun x5 => Option.bind (ref04_Full x5) (fun x6 => (bif (!((Str.mk x4).s == (Str.mk x6).s)) then some (Ctl.brk (Sum.inr ())) else some (Ctl.next (wI (s1 + (1 : Int))))))))) else some (Ctl.brk (Sum.inl ())))
def ref04_Same_L2 (a0 : Disk) (a1 : Disk) (s9 : Int) : Option (Ctl (Int) ((Unit) ⊕ (Unit))) :=
  (bif (decide (s9 < ((a0.Wait).length : Int))) then Option.bind (idx a0.Wait s9) (fun x11 => Option.bind (idx a1.Wait s9) (fun x12 => Option.bind (gO (!(x11.At != x12.At)) (idx a0.Wait s9)) (fun x13 => Option.bind (gO (!(x11.At != x12.At)) (ref04_Full x13.Data)) (fun x14 => Option.bind (gO (!(x11.At != x12.At)) (idx a1.Wait s9)) (fun x15 => Option.bind (gO (!(x11.At != x12.At)) (ref04_Full x15.Data)) (fun x16 => (bif ((x11.At != x12.At) || (!((Str.mk x14).s == (Str.mk x16).s))) then some (Ctl.brk (Sum.inr ())) else some (Ctl.next (wI (s9 + (1 : Int))))))))))) else some (Ctl.brk (Sum.inl ())))
/-- freeboard/freeboardref04.Same -/
def ref04_Same (a0 : Disk) (a1 : Disk) : Option (Bool) :=
  (bif (((((a0.Blocks).length : Int) != ((a1.Blocks).length : Int)) || (((a0.Wait).length : Int) != ((a1.Wait).length : Int))) || (a0.Dead != a1.Dead)) then some false else Option.bind (loopM (fun s : Int => ref04_Same_L1 a0 a1 s) FUEL (0 : Int)) (fun b7 => Sum.elim (fun b8 => Option.bind (loopM (fun s : Int => ref04_Same_L2 a0 a1 s) FUEL (0 : Int)) (fun b17 => Sum.elim (fun b18 => some true) (fun b19 => some false) b17)) (fun b20 => some false) b7))
set_option maxRecDepth 100000 in
set_option maxHeartbeats 2000000 in
theorem ref04_Same_c (a0 : Disk) (a1 : Disk) {r : Bool} (hm : ref04_Same a0 a1 = some r) : Ctr Try.prog 17 [.rep 0 a0, .rep 0 a1] (.fl r) [] := by
 refine ctr_of_walk [[]] 91 Try.func17 rfl rfl rfl rfl (fun w0 om => ?_)
 unfold ref04_Same at hm
 refine CWalk.sub (G' := [.fact 0 (.rep [0] (a0 : Disk)), .fact 1 (.rep [0] (a1 : Disk))]) (sn (sn Sub.nil)) ?_
 refine CWalk.seq ?_
 refine CWalk.region ?_
 refine ws (Step.boxObj (ls := [(false, 1, Fact.rep [0] a0.Blocks), (false, 1, Fact.rep [0] a0.Wait), (false, 1, Fact.rep [] a0.Dead)]) 10 rfl rfl rfl rfl (HasL.flds (Has.cv (Has.s rfl) (Cv.trans (Cv.opens (chDisk a0)) (Cv.flds (CvL.cons Cv.refl (CvL.cons Cv.refl (CvL.cons Cv.fl CvL.nil)))))))) ?_
 refine ws (Step.boxObj (ls := [(false, 1, Fact.rep [0] a1.Blocks), (false, 1, Fact.rep [0] a1.Wait), (false, 1, Fact.rep [] a1.Dead)]) 14 rfl rfl rfl rfl (HasL.flds (Has.cv (Has.s rfl) (Cv.trans (Cv.opens (chDisk a1)) (Cv.flds (CvL.cons Cv.refl (CvL.cons Cv.refl (CvL.cons Cv.fl CvL.nil)))))))) ?_
 refine wo (Spec.assign Has.bool) ?_
 refine Walk.nil ?_
 refine Leaf.thenN ?_
 refine CWalk.seq ?_
 refine CWalk.seq ?_
 refine CWalk.region ?_
 refine wo (Spec.fieldAddrO fd41_0 (Has.cv (Has.s rfl) (Cv.isvP rfl))) ?_
 refine wo (Spec.loadF (i := 0) ty38 rfl (Has.s rfl) rfl (HasG.s rfl)) ?_
 refine wo (Spec.len (Has.s rfl) Try.underlying38) ?_
 refine wo (Spec.fieldAddrO fd41_0 (Has.cv (Has.s rfl) (Cv.isvP rfl))) ?_
 refine wo (Spec.loadF (i := 0) ty38 rfl (Has.s rfl) rfl (HasG.s rfl)) ?_
 refine wo (Spec.len (Has.s rfl) Try.underlying38) ?_
 refine wo (Spec.neqI (Has.s rfl) (Has.s rfl)) ?_
 refine mv ?_
 refine wg rfl rfl (fun hb => Spec.fieldAddrO fd41_1 (Has.cv (Has.s rfl) (Cv.isvP rfl))) ?_
 refine wg rfl rfl (fun hb => Spec.loadF (i := 1) ty39 rfl (Has.u rfl hb) rfl (HasG.s rfl)) ?_
 refine wg rfl rfl (fun hb => Spec.len (Has.u rfl hb) Try.underlying39) ?_
 refine wg rfl rfl (fun hb => Spec.fieldAddrO fd41_1 (Has.cv (Has.s rfl) (Cv.isvP rfl))) ?_
 refine wg rfl rfl (fun hb => Spec.loadF (i := 1) ty39 rfl (Has.u rfl hb) rfl (HasG.s rfl)) ?_
 refine wg rfl rfl (fun hb => Spec.len (Has.u rfl hb) Try.underlying39) ?_
 refine wg rfl rfl (fun hb => Spec.neqI (Has.u rfl hb) (Has.u rfl hb)) ?_
 refine wo (Spec.or (Has.s rfl) (fun h => Has.u rfl h)) ?_
 refine mv ?_
 refine wg rfl rfl (fun hb => Spec.fieldAddrO fd41_2 (Has.cv (Has.s rfl) (Cv.isvP rfl))) ?_
 refine wg rfl rfl (fun hb => Spec.loadF (i := 2) ty4 rfl (Has.u rfl hb) rfl (HasG.s rfl)) ?_
 refine wg rfl rfl (fun hb => Spec.fieldAddrO fd41_2 (Has.cv (Has.s rfl) (Cv.isvP rfl))) ?_
 refine wg rfl rfl (fun hb => Spec.loadF (i := 2) ty4 rfl (Has.u rfl hb) rfl (HasG.s rfl)) ?_
 refine wg rfl rfl (fun hb => Spec.neqT (Has.u rfl hb) (Has.u rfl hb) Try.underlying4) ?_
 refine wo (Spec.or (Has.s rfl) (fun h => Has.u rfl h)) ?_
 refine Walk.nil ?_
 refine Leaf.thenN ?_
 refine CWalk.cond rfl (fun hb => ?_) (fun hb => ?_)
 ·have hm := cond_t hb hm
  refine CWalk.seq ?_
  refine CWalk.region ?_
  refine wo (Spec.assign Has.bool) ?_
  refine Walk.nil ?_
  refine Leaf.thenN ?_
  refine CWalk.ret ?_
  refine Leaf.thenR ?_
  obtain rfl := Option.some.inj hm
  exact Leaf.retC1 rfl (HasR.cv (HasR.tmp (Has.s rfl)) Cv.fl)
 ·have hm := cond_f hb hm
  refine CWalk.skip ?_
  refine Leaf.thenN ?_
  refine CWalk.seq ?_
  refine CWalk.seq ?_
  refine CWalk.region ?_
  refine wo (Spec.assign Has.int) ?_
  refine Walk.nil ?_
  refine Leaf.thenN ?_
  refine CWalk.block ?_
  obtain ⟨b7, hb7, hm⟩ := bind_some hm
  refine CWalk.loop (fun s : Int => [.fact 2 (.isv 10), .fact 3 (.isv 14), .fact 5 (.rep [] (s : Int)), .fact 100011 (.at 11 (.rep [0] a0.Blocks)), .fact 100012 (.at 12 (.rep [0] a0.Wait)), .fact 100013 (.at 13 (.rep [] a0.Dead)), .fact 100015 (.at 15 (.rep [0] a1.Blocks)), .fact 100016 (.at 16 (.rep [0] a1.Wait)), .fact 100017 (.at 17 (.rep [] a1.Dead)), .fact 100010 (.obj 10 [(false, 1), (false, 1), (false, 1)]), .fact 100014 (.obj 14 [(false, 1), (false, 1), (false, 1)])]) (fun b : (Unit) ⊕ (Unit) => Sum.elim (fun b => (Exit.exit 0, [.fact 2 (.isv 10), .fact 3 (.isv 14), .fact 100011 (.at 11 (.rep [0] a0.Blocks)), .fact 100012 (.at 12 (.rep [0] a0.Wait)), .fact 100013 (.at 13 (.rep [] a0.Dead)), .fact 100015 (.at 15 (.rep [0] a1.Blocks)), .fact 100016 (.at 16 (.rep [0] a1.Wait)), .fact 100017 (.at 17 (.rep [] a1.Dead)), .fact 100010 (.obj 10 [(false, 1), (false, 1), (false, 1)]), .fact 100014 (.obj 14 [(false, 1), (false, 1), (false, 1)])])) (fun b => (Exit.ret, [.fact 4 (.rep [] (false : Bool))])) b) hb7 (sn (sn (st (sm (sm (sf (sm (sm (sf (sn (sn Sub.nil))))))))))) ?_ ?_
  ·rintro s1 c2 hm
   replace hm : ref04_Same_L1 a0 a1 s1 = some c2 := hm
   unfold ref04_Same_L1 at hm
   show CWalk _ [.fact 2 (.isv 10), .fact 3 (.isv 14), .fact 5 (.rep [] (s1 : Int)), .fact 100011 (.at 11 (.rep [0] a0.Blocks)), .fact 100012 (.at 12 (.rep [0] a0.Wait)), .fact 100013 (.at 13 (.rep [] a0.Dead)), .fact 100015 (.at 15 (.rep [0] a1.Blocks)), .fact 100016 (.at 16 (.rep [0] a1.Wait)), .fact 100017 (.at 17 (.rep [] a1.Dead)), .fact 100010 (.obj 10 [(false, 1), (false, 1), (false, 1)]), .fact 100014 (.obj 14 [(false, 1), (false, 1), (false, 1)])] _ _
   refine CWalk.seq ?_
   refine CWalk.seq ?_
   refine CWalk.region ?_
   refine mv ?_
   refine wo (Spec.fieldAddrO fd41_0 (Has.cv (Has.s rfl) (Cv.isvP rfl))) ?_
   refine wo (Spec.loadF (i := 0) ty38 rfl (Has.s rfl) rfl (HasG.s rfl)) ?_
   refine wo (Spec.len (Has.s rfl) Try.underlying38) ?_
   refine wo (Spec.lssI (Has.s rfl) (Has.s rfl)) ?_
   refine Walk.nil ?_
   refine Leaf.thenN ?_
   refine CWalk.cond rfl (fun hb => ?_) (fun hb => ?_)
   ·have hm := cond_t hb hm
    refine CWalk.skip ?_
    refine Leaf.thenN ?_
    refine CWalk.seq ?_
    refine CWalk.block ?_
    refine CWalk.seq ?_
    obtain ⟨x3, hx3, hm⟩ := bind_some hm
    obtain ⟨x4, hx4, hm⟩ := bind_some hm
    obtain ⟨x5, hx5, hm⟩ := bind_some hm
    obtain ⟨x6, hx6, hm⟩ := bind_some hm
    refine CWalk.drawM [[], [0], [], [0, 1, 2], [0, 1, 2, 3], [0, 1, 2, 3, 4], [0, 1, 2, 3, 4, 5], [], [7], [], [7, 8, 9], [7, 8, 9, 10], [0, 1, 2, 3, 4, 5, 7, 8, 9, 10, 11], [0, 1, 2, 3, 4, 5, 7, 8, 9, 10, 11, 12], [0, 1, 2, 3, 4, 5, 6, 7, 8, 9, 10, 11, 12, 13]] [[.fact 37 (.pto 10 0)], [.fact 38 (.rep [0] a0.Blocks)], [.fact 39 (.rep [] (s1 : Int))], [.fact 40 (.ptr [0] (x3 : List UInt8))], [.fact 41 (.rep [0] (x3 : List UInt8))], [.fact 42 (.ow [18] [] 5 (x4 : List UInt8))], [.fact 43 (.rep [] ((Str.mk x4) : Str))], [.fact 44 (.pto 14 0)], [.fact 45 (.rep [0] a1.Blocks)], [.fact 46 (.rep [] (s1 : Int))], [.fact 47 (.ptr [0] (x5 : List UInt8))], [.fact 48 (.rep [0] (x5 : List UInt8))], [.fact 49 (.ow [19] [] 5 (x6 : List UInt8))], [.fact 50 (.rep [] ((Str.mk x6) : Str))], [.fact 51 (.rep [] ((!((Str.mk x4).s == (Str.mk x6).s)) : Bool))]] mixed (by kernel_rfl) (ao (so (Spec.fieldAddrO fd41_0 (Has.cv (Has.s rfl) (Cv.isvP rfl)))) (ao (so (Spec.loadF (i := 0) ty38 rfl (Has.s rfl) rfl (HasG.s rfl))) (ao (so (Spec.move (Has.s rfl))) (ao (so (Spec.indexAddr hx3 sl38 (Has.s rfl) (Has.s rfl))) (ao (so (Spec.load ty54 (Has.s rfl))) (ao (so (Spec.callE [0] 18 rfl en41 (ref04_Full_c x3 hx4) (HasAll.cons (Has.m (Has.s rfl) rfl) HasAll.nil))) (ao (so (Spec.toStr Try.underlying54 Try.underlying5 Try.underlying9 (Has.cv (Has.s rfl) (Cv.trans Cv.owSl (Cv.slRep (T' := [18]) rfl rfl))))) (ao (so (Spec.fieldAddrO fd41_0 (Has.cv (Has.s rfl) (Cv.isvP rfl)))) (ao (so (Spec.loadF (i := 0) ty38 rfl (Has.s rfl) rfl (HasG.s rfl))) (ao (so (Spec.move (Has.s rfl))) (ao (so (Spec.indexAddr hx5 sl38 (Has.s rfl) (Has.s rfl))) (ao (so (Spec.load ty54 (Has.s rfl))) (ao (so (Spec.callE [0] 19 rfl en41 (ref04_Full_c x5 hx6) (HasAll.cons (Has.m (Has.s rfl) rfl) HasAll.nil))) (ao (so (Spec.toStr Try.underlying54 Try.underlying5 Try.underlying9 (Has.cv (Has.s rfl) (Cv.trans Cv.owSl (Cv.slRep (T' := [19]) rfl rfl))))) (ao (so (Spec.neqS (Has.s rfl) (Has.s rfl))) AllM.nil))))))))))))))) ?_
    refine Leaf.thenN ?_
    refine CWalk.cond rfl (fun hb => ?_) (fun hb => ?_)
    ·have hm := cond_t hb hm
     refine CWalk.seq ?_
     refine CWalk.region ?_
     refine wo (Spec.assign Has.bool) ?_
     refine Walk.nil ?_
     refine Leaf.thenN ?_
     refine CWalk.ret ?_
     refine Leaf.blockR ?_
     refine Leaf.thenR ?_
     exact Leaf.brk hm (fun h => nomatch h) rfl (st Sub.nil)
    ·have hm := cond_f hb hm
     refine CWalk.skip ?_
     refine Leaf.blockN ?_
     refine Leaf.thenN ?_
     refine CWalk.region ?_
     refine mv ?_
     refine wo (Spec.addI (Has.s rfl) Has.int) ?_
     refine wo (Spec.assign (Has.s rfl)) ?_
     refine Walk.nil ?_
     exact Leaf.next hm (sn (sn (st (sm (sm (sf (sm (sm (sf (sn (sn Sub.nil)))))))))))
   ·have hm := cond_f hb hm
    refine CWalk.exit ?_
    refine Leaf.thenE ?_
    exact Leaf.brk hm (fun h => nomatch h) rfl (sn (sn (sm (sm (sf (sm (sm (sf (sn (sn Sub.nil))))))))))
  ·intro _
   rcases b7 with b8 | b20
   ·have hm := selim_l hm
    refine Leaf.blockE ?_
    refine Leaf.thenN ?_
    refine CWalk.seq ?_
    refine CWalk.seq ?_
    refine CWalk.region ?_
    refine wo (Spec.assign Has.int) ?_
    refine Walk.nil ?_
    refine Leaf.thenN ?_
    refine CWalk.block ?_
    obtain ⟨b17, hb17, hm⟩ := bind_some hm
    refine CWalk.loop (fun s : Int => [.fact 2 (.isv 10), .fact 3 (.isv 14), .fact 6 (.rep [] (s : Int)), .fact 100011 (.at 11 (.rep [0] a0.Blocks)), .fact 100012 (.at 12 (.rep [0] a0.Wait)), .fact 100013 (.at 13 (.rep [] a0.Dead)), .fact 100015 (.at 15 (.rep [0] a1.Blocks)), .fact 100016 (.at 16 (.rep [0] a1.Wait)), .fact 100017 (.at 17 (.rep [] a1.Dead)), .fact 100010 (.obj 10 [(false, 1), (false, 1), (false, 1)]), .fact 100014 (.obj 14 [(false, 1), (false, 1), (false, 1)])]) (fun b : (Unit) ⊕ (Unit) => Sum.elim (fun b => (Exit.exit 2, [])) (fun b => (Exit.ret, [.fact 4 (.rep [] (false : Bool))])) b) hb17 (sn (sn (st (sm (sm (sf (sm (sm (sf (sn (sn Sub.nil))))))))))) ?_ ?_
    ·rintro s9 c10 hm
     replace hm : ref04_Same_L2 a0 a1 s9 = some c10 := hm
     unfold ref04_Same_L2 at hm
     show CWalk _ [.fact 2 (.isv 10), .fact 3 (.isv 14), .fact 6 (.rep [] (s9 : Int)), .fact 100011 (.at 11 (.rep [0] a0.Blocks)), .fact 100012 (.at 12 (.rep [0] a0.Wait)), .fact 100013 (.at 13 (.rep [] a0.Dead)), .fact 100015 (.at 15 (.rep [0] a1.Blocks)), .fact 100016 (.at 16 (.rep [0] a1.Wait)), .fact 100017 (.at 17 (.rep [] a1.Dead)), .fact 100010 (.obj 10 [(false, 1), (false, 1), (false, 1)]), .fact 100014 (.obj 14 [(false, 1), (false, 1), (false, 1)])] _ _
     refine CWalk.seq ?_
     refine CWalk.seq ?_
     refine CWalk.region ?_
     refine mv ?_
     refine wo (Spec.fieldAddrO fd41_1 (Has.cv (Has.s rfl) (Cv.isvP rfl))) ?_
     refine wo (Spec.loadF (i := 1) ty39 rfl (Has.s rfl) rfl (HasG.s rfl)) ?_
     refine wo (Spec.len (Has.s rfl) Try.underlying39) ?_
     refine wo (Spec.lssI (Has.s rfl) (Has.s rfl)) ?_
     refine Walk.nil ?_
     refine Leaf.thenN ?_
     refine CWalk.cond rfl (fun hb => ?_) (fun hb => ?_)
     ·have hm := cond_t hb hm
      refine CWalk.skip ?_
      refine Leaf.thenN ?_
      refine CWalk.seq ?_
      refine CWalk.block ?_
      refine CWalk.seq ?_
      obtain ⟨x11, hx11, hm⟩ := bind_some hm
      obtain ⟨x12, hx12, hm⟩ := bind_some hm
      obtain ⟨x13, hx13, hm⟩ := bind_some hm
      obtain ⟨x14, hx14, hm⟩ := bind_some hm
      obtain ⟨x15, hx15, hm⟩ := bind_some hm
      obtain ⟨x16, hx16, hm⟩ := bind_some hm
      refine CWalk.drawM [[], [0], [], [0, 1, 2], [0, 1, 2, 3], [0, 1, 2, 3, 4], [], [6], [], [6, 7, 8], [6, 7, 8, 9], [6, 7, 8, 9, 10], [0, 1, 2, 3, 4, 5, 6, 7, 8, 9, 10, 11], [0, 1, 2, 3, 4, 5, 6, 7, 8, 9, 10, 11, 12], [0, 1, 2, 3, 4, 5, 6, 7, 8, 9, 10, 11, 12, 13], [0, 1, 2, 3, 4, 5, 6, 7, 8, 9, 10, 11, 12, 13, 14], [0, 1, 2, 3, 4, 5, 6, 7, 8, 9, 10, 11, 12, 13], [0, 1, 2, 3, 4, 5, 6, 7, 8, 9, 10, 11, 12, 13, 14, 15, 16], [0, 1, 2, 3, 4, 5, 6, 7, 8, 9, 10, 11, 12, 13, 14, 15, 16, 17], [0, 1, 2, 3, 4, 5, 6, 7, 8, 9, 10, 11, 12, 13, 14, 15, 16, 17, 18], [0, 1, 2, 3, 4, 5, 6, 7, 8, 9, 10, 11, 12, 13, 14, 15, 16, 17, 18, 19], [0, 1, 2, 3, 4, 5, 6, 7, 8, 9, 10, 11, 12, 13, 14, 15, 16, 17, 18, 19, 20], [0, 1, 2, 3, 4, 5, 6, 7, 8, 9, 10, 11, 12, 13], [0, 1, 2, 3, 4, 5, 6, 7, 8, 9, 10, 11, 12, 13, 22], [0, 1, 2, 3, 4, 5, 6, 7, 8, 9, 10, 11, 12, 13], [0, 1, 2, 3, 4, 5, 6, 7, 8, 9, 10, 11, 12, 13, 22, 23, 24], [0, 1, 2, 3, 4, 5, 6, 7, 8, 9, 10, 11, 12, 13, 22, 23, 24, 25], [0, 1, 2, 3, 4, 5, 6, 7, 8, 9, 10, 11, 12, 13, 22, 23, 24, 25, 26], [0, 1, 2, 3, 4, 5, 6, 7, 8, 9, 10, 11, 12, 13, 14, 15, 16, 17, 18, 19, 20, 22, 23, 24, 25, 26, 27], [0, 1, 2, 3, 4, 5, 6, 7, 8, 9, 10, 11, 12, 13, 14, 15, 16, 17, 18, 19, 20, 22, 23, 24, 25, 26, 27, 28], [0, 1, 2, 3, 4, 5, 6, 7, 8, 9, 10, 11, 12, 13, 14, 15, 16, 17, 18, 19, 20, 21, 22, 23, 24, 25, 26, 27, 28, 29], [0, 1, 2, 3, 4, 5, 6, 7, 8, 9, 10, 11, 12, 13, 14, 15, 16, 17, 18, 19, 20, 21, 22, 23, 24, 25, 26, 27, 28, 29, 30]] [[.fact 59 (.pto 10 1)], [.fact 60 (.rep [0] a0.Wait)], [.fact 61 (.rep [] (s9 : Int))], [.fact 62 (.ptr [0] (x11 : Write))], [.fact 63 (.ptr [0] (x11.At : Int))], [.fact 64 (.rep [] x11.At)], [.fact 65 (.pto 14 1)], [.fact 66 (.rep [0] a1.Wait)], [.fact 67 (.rep [] (s9 : Int))], [.fact 68 (.ptr [0] (x12 : Write))], [.fact 69 (.ptr [0] (x12.At : Int))], [.fact 70 (.rep [] x12.At)], [.fact 71 (.rep [] ((x11.At != x12.At) : Bool))], [.fact 72 (.rep [] ((x11.At != x12.At) : Bool))], [.fact 73 (.under ((x11.At != x12.At) = false) (.pto 10 1))], [.fact 74 (.under ((x11.At != x12.At) = false) (.rep [0] a0.Wait))], [.fact 75 (.under ((x11.At != x12.At) = false) (.rep [] (s9 : Int)))], [.fact 76 (.under ((x11.At != x12.At) = false) (.ptr [0] (x13 : Write)))], [.fact 77 (.under ((x11.At != x12.At) = false) (.ptr [0] (x13.Data : List UInt8)))], [.fact 78 (.under ((x11.At != x12.At) = false) (.rep [0] x13.Data))], [.fact 79 (.under ((x11.At != x12.At) = false) (.ow [20] [] 5 (x14 : List UInt8)))], [.fact 80 (.under ((x11.At != x12.At) = false) (.rep [] ((Str.mk x14) : Str)))], [.fact 81 (.under ((x11.At != x12.At) = false) (.pto 14 1))], [.fact 82 (.under ((x11.At != x12.At) = false) (.rep [0] a1.Wait))], [.fact 83 (.under ((x11.At != x12.At) = false) (.rep [] (s9 : Int)))], [.fact 84 (.under ((x11.At != x12.At) = false) (.ptr [0] (x15 : Write)))], [.fact 85 (.under ((x11.At != x12.At) = false) (.ptr [0] (x15.Data : List UInt8)))], [.fact 86 (.under ((x11.At != x12.At) = false) (.rep [0] x15.Data))], [.fact 87 (.under ((x11.At != x12.At) = false) (.ow [21] [] 5 (x16 : List UInt8)))], [.fact 88 (.under ((x11.At != x12.At) = false) (.rep [] ((Str.mk x16) : Str)))], [.fact 89 (.under ((x11.At != x12.At) = false) (.rep [] ((!((Str.mk x14).s == (Str.mk x16).s)) : Bool)))], [.fact 90 (.rep [] (((x11.At != x12.At) || (!((Str.mk x14).s == (Str.mk x16).s))) : Bool))]] mixed (by kernel_rfl) (ao (so (Spec.fieldAddrO fd41_1 (Has.cv (Has.s rfl) (Cv.isvP rfl)))) (ao (so (Spec.loadF (i := 1) ty39 rfl (Has.s rfl) rfl (HasG.s rfl))) (ao (so (Spec.move (Has.s rfl))) (ao (so (Spec.indexAddr hx11 sl39 (Has.s rfl) (Has.s rfl))) (ao (so (Spec.fieldAddrP fd58_0 (chWrite x11) rfl (Has.s rfl))) (ao (so ((Spec.load ty3 (Has.s rfl)).flat (T' := []))) (ao (so (Spec.fieldAddrO fd41_1 (Has.cv (Has.s rfl) (Cv.isvP rfl)))) (ao (so (Spec.loadF (i := 1) ty39 rfl (Has.s rfl) rfl (HasG.s rfl))) (ao (so (Spec.move (Has.s rfl))) (ao (so (Spec.indexAddr hx12 sl39 (Has.s rfl) (Has.s rfl))) (ao (so (Spec.fieldAddrP fd58_0 (chWrite x12) rfl (Has.s rfl))) (ao (so ((Spec.load ty3 (Has.s rfl)).flat (T' := []))) (ao (so (Spec.neqI (Has.s rfl) (Has.s rfl))) (ao (so (Spec.move (Has.s rfl))) (ao (StepG.opg rfl rfl rfl (fun hb => Spec.fieldAddrO fd41_1 (Has.cv (Has.s rfl) (Cv.isvP rfl)))) (ao (StepG.opg rfl rfl rfl (fun hb => Spec.loadF (i := 1) ty39 rfl (Has.u rfl hb) rfl (HasG.s rfl))) (ao (StepG.opg rfl rfl rfl (fun hb => Spec.move (Has.s rfl))) (ao (StepG.opg rfl rfl rfl (fun hb => Spec.indexAddr (gO_t hx13 (not_t hb)) sl39 (Has.u rfl hb) (Has.u rfl hb))) (ao (StepG.opg rfl rfl rfl (fun hb => Spec.fieldAddrP fd58_1 (chWrite x13) rfl (Has.u rfl hb))) (ao (StepG.opg rfl rfl rfl (fun hb => Spec.load ty54 (Has.u rfl hb))) (ao (StepG.opg rfl rfl rfl (fun hb => Spec.callE [0] 20 rfl en41 (ref04_Full_c x13.Data (gO_t hx14 (not_t hb))) (HasAll.cons (Has.m (Has.u rfl hb) rfl) HasAll.nil))) (ao (StepG.opg rfl rfl rfl (fun hb => Spec.toStr Try.underlying54 Try.underlying5 Try.underlying9 (Has.cv (Has.u rfl hb) (Cv.trans Cv.owSl (Cv.slRep (T' := [20]) rfl rfl))))) (ao (StepG.opg rfl rfl rfl (fun hb => Spec.fieldAddrO fd41_1 (Has.cv (Has.s rfl) (Cv.isvP rfl)))) (ao (StepG.opg rfl rfl rfl (fun hb => Spec.loadF (i := 1) ty39 rfl (Has.u rfl hb) rfl (HasG.s rfl))) (ao (StepG.opg rfl rfl rfl (fun hb => Spec.move (Has.s rfl))) (ao (StepG.opg rfl rfl rfl (fun hb => Spec.indexAddr (gO_t hx15 (not_t hb)) sl39 (Has.u rfl hb) (Has.u rfl hb))) (ao (StepG.opg rfl rfl rfl (fun hb => Spec.fieldAddrP fd58_1 (chWrite x15) rfl (Has.u rfl hb))) (ao (StepG.opg rfl rfl rfl (fun hb => Spec.load ty54 (Has.u rfl hb))) (ao (StepG.opg rfl rfl rfl (fun hb => Spec.callE [0] 21 rfl en41 (ref04_Full_c x15.Data (gO_t hx16 (not_t hb))) (HasAll.cons (Has.m (Has.u rfl hb) rfl) HasAll.nil))) (ao (StepG.opg rfl rfl rfl (fun hb => Spec.toStr Try.underlying54 Try.underlying5 Try.underlying9 (Has.cv (Has.u rfl hb) (Cv.trans Cv.owSl (Cv.slRep (T' := [21]) rfl rfl))))) (ao (StepG.opg rfl rfl rfl (fun hb => Spec.neqS (Has.u rfl hb) (Has.u rfl hb))) (ao (so (Spec.or (Has.s rfl) (fun h => Has.u rfl h))) AllM.nil)))))))))))))))))))))))))))))))) ?_
      refine Leaf.thenN ?_
      refine CWalk.cond rfl (fun hb => ?_) (fun hb => ?_)
      ·have hm := cond_t hb hm
       refine CWalk.seq ?_
       refine CWalk.region ?_
       refine wo (Spec.assign Has.bool) ?_
       refine Walk.nil ?_
       refine Leaf.thenN ?_
       refine CWalk.ret ?_
       refine Leaf.blockR ?_
       refine Leaf.thenR ?_
       exact Leaf.brk hm (fun h => nomatch h) rfl (st Sub.nil)
      ·have hm := cond_f hb hm
       refine CWalk.skip ?_
       refine Leaf.blockN ?_
       refine Leaf.thenN ?_
       refine CWalk.region ?_
       refine mv ?_
       refine wo (Spec.addI (Has.s rfl) Has.int) ?_
       refine wo (Spec.assign (Has.s rfl)) ?_
       refine Walk.nil ?_
       exact Leaf.next hm (sn (sn (st (sm (sm (sf (sm (sm (sf (sn (sn Sub.nil)))))))))))
     ·have hm := cond_f hb hm
      refine CWalk.exit ?_
      refine Leaf.thenE ?_
      exact Leaf.brk hm (fun h => nomatch h) rfl (Sub.nil)
    ·intro _
     rcases b17 with b18 | b19
     ·have hm := selim_l hm
      refine Leaf.blockE ?_
      refine Leaf.thenN ?_
      refine CWalk.seq ?_
      refine CWalk.region ?_
      refine wo (Spec.assign Has.bool) ?_
      refine Walk.nil ?_
      refine Leaf.thenN ?_
      refine CWalk.ret ?_
      obtain rfl := Option.some.inj hm
      exact Leaf.retC1 rfl (HasR.cv (HasR.tmp (Has.s rfl)) Cv.fl)
     ·have hm := selim_r hm
      refine Leaf.blockR ?_
      refine Leaf.thenR ?_
      obtain rfl := Option.some.inj hm
      exact Leaf.retC1 rfl (HasR.cv (HasR.tmp (Has.s rfl)) Cv.fl)
   ·have hm := selim_r hm
    refine Leaf.blockR ?_
    refine Leaf.thenR ?_
    obtain rfl := Option.some.inj hm
    exact Leaf.retC1 rfl (HasR.cv (HasR.tmp (Has.s rfl)) Cv.fl)

def ref05_SameDisks_L1 (a0 : List Disk) (a1 : List Disk) (s1 : Int) : Option (Ctl (Int) ((Unit) ⊕ (Unit))) :=
  (bif (decide (s1 < ((a0).length : Int))) then Option.bind (idx a0 s1) (fun x3 => Option.bind (idx a1 s1) (fun x4 => Option.bind (ref04_Same x3 x4) (fun x5 => (bif (!x5) then some (Ctl.brk (Sum.inr ())) else some (Ctl.next (wI (s1 + (1 : Int)))))))) else some (Ctl.brk (Sum.inl ())))
/-- freeboard/freeboardref05.SameDisks -/
def ref05_SameDisks (a0 : List Disk) (a1 : List Disk) : Option (Bool) :=
  (bif (((a0).length : Int) != ((a1).length : Int)) then some false else Option.bind (loopM (fun s : Int => ref05_SameDisks_L1 a0 a1 s) FUEL (0 : Int)) (fun b6 => Sum.elim (fun b7 => some true) (fun b8 => some false) b6))
set_option maxRecDepth 100000 in
set_option maxHeartbeats 2000000 in
theorem ref05_SameDisks_c (a0 : List Disk) (a1 : List Disk) {r : Bool} (hm : ref05_SameDisks a0 a1 = some r) : Ctr Try.prog 15 [.rep 0 a0, .rep 0 a1] (.fl r) [] := by
 refine ctr_of_walk [[]] 27 Try.func15 rfl rfl rfl rfl (fun w0 om => ?_)
 unfold ref05_SameDisks at hm
 refine CWalk.sub (G' := [.fact 0 (.rep [0] (a0 : List Disk)), .fact 1 (.rep [0] (a1 : List Disk))]) (sn (sn Sub.nil)) ?_
 refine CWalk.seq ?_
 refine CWalk.region ?_
 refine wo (Spec.assign Has.bool) ?_
 refine Walk.nil ?_
 refine Leaf.thenN ?_
 refine CWalk.seq ?_
 refine CWalk.seq ?_
 refine CWalk.region ?_
 refine mv ?_
 refine wo (Spec.len (Has.s rfl) Try.underlying22) ?_
 refine mv ?_
 refine wo (Spec.len (Has.s rfl) Try.underlying22) ?_
 refine wo (Spec.neqI (Has.s rfl) (Has.s rfl)) ?_
 refine Walk.nil ?_
 refine Leaf.thenN ?_
 refine CWalk.cond rfl (fun hb => ?_) (fun hb => ?_)
 ·have hm := cond_t hb hm
  refine CWalk.seq ?_
  refine CWalk.region ?_
  refine wo (Spec.assign Has.bool) ?_
  refine Walk.nil ?_
  refine Leaf.thenN ?_
  refine CWalk.ret ?_
  refine Leaf.thenR ?_
  obtain rfl := Option.some.inj hm
  exact Leaf.retC1 rfl (HasR.cv (HasR.tmp (Has.s rfl)) Cv.fl)
 ·have hm := cond_f hb hm
  refine CWalk.skip ?_
  refine Leaf.thenN ?_
  refine CWalk.seq ?_
  refine CWalk.seq ?_
  refine CWalk.region ?_
  refine wo (Spec.assign Has.int) ?_
  refine Walk.nil ?_
  refine Leaf.thenN ?_
  refine CWalk.block ?_
  obtain ⟨b6, hb6, hm⟩ := bind_some hm
  refine CWalk.loop (fun s : Int => [.fact 0 (.rep [0] (a0 : List Disk)), .fact 1 (.rep [0] (a1 : List Disk)), .fact 5 (.rep [] (s : Int))]) (fun b : (Unit) ⊕ (Unit) => Sum.elim (fun b => (Exit.exit 0, [])) (fun b => (Exit.ret, [.fact 4 (.rep [] (false : Bool))])) b) hb6 (su (su (st Sub.nil))) ?_ ?_
  ·rintro s1 c2 hm
   replace hm : ref05_SameDisks_L1 a0 a1 s1 = some c2 := hm
   unfold ref05_SameDisks_L1 at hm
   show CWalk _ [.fact 0 (.rep [0] (a0 : List Disk)), .fact 1 (.rep [0] (a1 : List Disk)), .fact 5 (.rep [] (s1 : Int))] _ _
   refine CWalk.seq ?_
   refine CWalk.seq ?_
   refine CWalk.region ?_
   refine mv ?_
   refine mv ?_
   refine wo (Spec.len (Has.s rfl) Try.underlying22) ?_
   refine wo (Spec.lssI (Has.s rfl) (Has.s rfl)) ?_
   refine Walk.nil ?_
   refine Leaf.thenN ?_
   refine CWalk.cond rfl (fun hb => ?_) (fun hb => ?_)
   ·have hm := cond_t hb hm
    refine CWalk.skip ?_
    refine Leaf.thenN ?_
    refine CWalk.seq ?_
    refine CWalk.block ?_
    refine CWalk.seq ?_
    obtain ⟨x3, hx3, hm⟩ := bind_some hm
    obtain ⟨x4, hx4, hm⟩ := bind_some hm
    obtain ⟨x5, hx5, hm⟩ := bind_some hm
    refine CWalk.drawM [[], [], [0, 1], [0, 1, 2], [], [], [4, 5], [4, 5, 6], [0, 1, 2, 3, 4, 5, 6, 7], [0, 1, 2, 3, 4, 5, 6, 7, 8]] [[.fact 17 (.rep [0] (a0 : List Disk))], [.fact 18 (.rep [] (s1 : Int))], [.fact 19 (.ptr [0] (x3 : Disk))], [.fact 20 (.rep [0] (x3 : Disk))], [.fact 21 (.rep [0] (a1 : List Disk))], [.fact 22 (.rep [] (s1 : Int))], [.fact 23 (.ptr [0] (x4 : Disk))], [.fact 24 (.rep [0] (x4 : Disk))], [.fact 25 (.rep [] (x5 : Bool))], [.fact 26 (.rep [] ((!x5) : Bool))]] mixed (by kernel_rfl) (ao (so (Spec.move (Has.s rfl))) (ao (so (Spec.move (Has.s rfl))) (ao (so (Spec.indexAddr hx3 sl22 (Has.s rfl) (Has.s rfl))) (ao (so (Spec.load ty41 (Has.s rfl))) (ao (so (Spec.move (Has.s rfl))) (ao (so (Spec.move (Has.s rfl))) (ao (so (Spec.indexAddr hx4 sl22 (Has.s rfl) (Has.s rfl))) (ao (so (Spec.load ty41 (Has.s rfl))) (ao (so (Spec.callE [0] 10 rfl en17 (ref04_Same_c x3 x4 hx5) (HasAll.cons (Has.m (Has.s rfl) rfl) (HasAll.cons (Has.m (Has.s rfl) rfl) HasAll.nil)))) (ao (so (Spec.not (Has.s rfl))) AllM.nil)))))))))) ?_
    refine Leaf.thenN ?_
    refine CWalk.cond rfl (fun hb => ?_) (fun hb => ?_)
    ·have hm := cond_t hb hm
     refine CWalk.seq ?_
     refine CWalk.region ?_
     refine wo (Spec.assign Has.bool) ?_
     refine Walk.nil ?_
     refine Leaf.thenN ?_
     refine CWalk.ret ?_
     refine Leaf.blockR ?_
     refine Leaf.thenR ?_
     exact Leaf.brk hm (fun h => nomatch h) rfl (st Sub.nil)
    ·have hm := cond_f hb hm
     refine CWalk.skip ?_
     refine Leaf.blockN ?_
     refine Leaf.thenN ?_
     refine CWalk.region ?_
     refine mv ?_
     refine wo (Spec.addI (Has.s rfl) Has.int) ?_
     refine wo (Spec.assign (Has.s rfl)) ?_
     refine Walk.nil ?_
     exact Leaf.next hm (su (su (st Sub.nil)))
   ·have hm := cond_f hb hm
    refine CWalk.exit ?_
    refine Leaf.thenE ?_
    exact Leaf.brk hm (fun h => nomatch h) rfl (Sub.nil)
  ·intro _
   rcases b6 with b7 | b8
   ·have hm := selim_l hm
    refine Leaf.blockE ?_
    refine Leaf.thenN ?_
    refine CWalk.seq ?_
    refine CWalk.region ?_
    refine wo (Spec.assign Has.bool) ?_
    refine Walk.nil ?_
    refine Leaf.thenN ?_
    refine CWalk.ret ?_
    obtain rfl := Option.some.inj hm
    exact Leaf.retC1 rfl (HasR.cv (HasR.tmp (Has.s rfl)) Cv.fl)
   ·have hm := selim_r hm
    refine Leaf.blockR ?_
    refine Leaf.thenR ?_
    obtain rfl := Option.some.inj hm
    exact Leaf.retC1 rfl (HasR.cv (HasR.tmp (Has.s rfl)) Cv.fl)

/-- freeboard/freeboardlaw05.ActsNames -/
def law05_ActsNames : Option (Bool) :=
  Option.bind (law05_two) (fun x1 => Option.bind (law05_some) (fun x2 => Option.bind (acts_Run x1 x2 (1 : Int)) (fun x3 => Option.bind (makeL false (2 : Int)) (fun x4 => Option.bind (acts_Crash x3.1 x4) (fun x5 => Option.bind (law05_two) (fun x6 => Option.bind (law05_some) (fun x7 => Option.bind (acts_Run x6 x7 (3 : Int)) (fun x8 => Option.bind (law05_two) (fun x9 => Option.bind (acts_Run x9 ([(Act64.mk (2 : Int) (3 : UInt8) (0 : Int) ([] : List UInt8))]) (0 : Int)) (fun x10 => Option.bind (law05_two) (fun x11 => Option.bind (idx x11 (0 : Int)) (fun x12 => Option.bind (disk_Kill x12) (fun x13 => Option.bind (law05_two) (fun x14 => Option.bind (idx x14 (1 : Int)) (fun x15 => Option.bind (law05_some) (fun x16 => Option.bind (acts_Run ([x13.1, x15]) x16 (1 : Int)) (fun x17 => Option.bind (gO (true) (law05_alive)) (fun x18 => Option.bind (gO (((((((true && x18) && (x5.2 == (2 : Int))) && (x8.2 == (2 : Int))) && (x10.2 == (2 : Int))) && (x13.2 == (0 : Int))) && (x17.2 == (0 : Int)))) (ref05_SameDisks x17.1 ([x13.1, x15]))) (fun x19 => Option.bind (gO ((((((((true && x18) && (x5.2 == (2 : Int))) && (x8.2 == (2 : Int))) && (x10.2 == (2 : Int))) && (x13.2 == (0 : Int))) && (x17.2 == (0 : Int))) && x19)) (acts_Check ([] : List Act64) ([] : List Disk))) (fun x20 => Option.bind (gO (((((((((true && x18) && (x5.2 == (2 : Int))) && (x8.2 == (2 : Int))) && (x10.2 == (2 : Int))) && (x13.2 == (0 : Int))) && (x17.2 == (0 : Int))) && x19) && (x20 == (8 : Int)))) (makeL (Act64.mk (0 : Int) (0 : UInt8) (0 : Int) ([] : List UInt8)) (1025 : Int))) (fun x21 => Option.bind (gO (((((((((true && x18) && (x5.2 == (2 : Int))) && (x8.2 == (2 : Int))) && (x10.2 == (2 : Int))) && (x13.2 == (0 : Int))) && (x17.2 == (0 : Int))) && x19) && (x20 == (8 : Int)))) (law05_two)) (fun x22 => Option.bind (gO (((((((((true && x18) && (x5.2 == (2 : Int))) && (x8.2 == (2 : Int))) && (x10.2 == (2 : Int))) && (x13.2 == (0 : Int))) && (x17.2 == (0 : Int))) && x19) && (x20 == (8 : Int)))) (acts_Check x21 x22)) (fun x23 => some (((((((((true && x18) && (x5.2 == (2 : Int))) && (x8.2 == (2 : Int))) && (x10.2 == (2 : Int))) && (x13.2 == (0 : Int))) && (x17.2 == (0 : Int))) && x19) && (x20 == (8 : Int))) && (x23 == (4 : Int))))))))))))))))))))))))))
set_option maxRecDepth 100000 in
set_option maxHeartbeats 2000000 in
theorem law05_ActsNames_c {r : Bool} (hm : law05_ActsNames = some r) : Ctr Try.prog 7 [] (.fl r) [] := by
 refine ctr_of_walk [[]] 95 Try.func7 rfl rfl rfl rfl (fun w0 om => ?_)
 unfold law05_ActsNames at hm
 refine CWalk.sub (G' := []) (Sub.nil) ?_
 refine CWalk.seq ?_
 refine CWalk.region ?_
 refine wo (Spec.assign Has.bool) ?_
 refine Walk.nil ?_
 refine Leaf.thenN ?_
 refine CWalk.seq ?_
 refine CWalk.region ?_
 obtain ⟨x1, hx1, hm⟩ := bind_some hm
 refine wo (f := Fact.rep [10] (x1 : List Disk)) (Spec.callE [] 10 rfl en29 (law05_two_c  hx1) HasAll.nil) ?_
 obtain ⟨x2, hx2, hm⟩ := bind_some hm
 refine wo (f := Fact.rep [11] (x2 : List Act64)) (Spec.callE [] 11 rfl en30 (law05_some_c  hx2) HasAll.nil) ?_
 obtain ⟨x3, hx3, hm⟩ := bind_some hm
 refine wo (f := Fact.tup2 (Fact.ow [12] [13] 41 (x3.1 : List Disk)) (Fact.rep [] x3.2)) (Spec.callE [10, 11] 12 rfl en20 (acts_Run_c x1 x2 (1 : Int) hx3) (HasAll.cons (Has.m (Has.s rfl) rfl) (HasAll.cons (Has.m (Has.s rfl) rfl) (HasAll.cons (Has.fl Has.int) HasAll.nil)))) ?_
 refine mv ?_
 refine wo (Spec.ext0 (Has.s rfl)) ?_
 refine wo (Spec.ext1 (Has.s rfl)) ?_
 refine wo (Spec.assign (Has.s rfl)) ?_
 refine wo (Spec.assign (Has.s rfl)) ?_
 refine Walk.nil ?_
 refine Leaf.thenN ?_
 refine CWalk.seq ?_
 refine CWalk.region ?_
 refine mv ?_
 obtain ⟨x4, hx4, hm⟩ := bind_some hm
 refine ws (Step.makeOwn 14 hx4 rfl rfl ow23 zt4 Has.int) ?_
 obtain ⟨x5, hx5, hm⟩ := bind_some hm
 refine wo (f := Fact.tup2 (Fact.ow [15] [16] 41 (x5.1 : List Disk)) (Fact.rep [] x5.2)) (Spec.callE [12, 13, 14] 15 rfl en11 (acts_Crash_c x3.1 x4 hx5) (HasAll.cons (Has.m (Has.cv (Has.s rfl) (Cv.trans Cv.owSl (Cv.slRep (T' := [12, 13]) rfl rfl))) rfl) (HasAll.cons (Has.m (Has.cv (Has.s rfl) (Cv.own rfl)) rfl) HasAll.nil))) ?_
 refine mv ?_
 refine wo (Spec.ext0 (Has.s rfl)) ?_
 refine wo (Spec.ext1 (Has.s rfl)) ?_
 refine wo (Spec.assign (Has.s rfl)) ?_
 refine wo (Spec.assign (Has.s rfl)) ?_
 refine Walk.nil ?_
 refine Leaf.thenN ?_
 refine CWalk.seq ?_
 refine CWalk.region ?_
 obtain ⟨x6, hx6, hm⟩ := bind_some hm
 refine wo (f := Fact.rep [17] (x6 : List Disk)) (Spec.callE [] 17 rfl en29 (law05_two_c  hx6) HasAll.nil) ?_
 obtain ⟨x7, hx7, hm⟩ := bind_some hm
 refine wo (f := Fact.rep [18] (x7 : List Act64)) (Spec.callE [] 18 rfl en30 (law05_some_c  hx7) HasAll.nil) ?_
 obtain ⟨x8, hx8, hm⟩ := bind_some hm
 refine wo (f := Fact.tup2 (Fact.ow [19] [20] 41 (x8.1 : List Disk)) (Fact.rep [] x8.2)) (Spec.callE [17, 18] 19 rfl en20 (acts_Run_c x6 x7 (3 : Int) hx8) (HasAll.cons (Has.m (Has.s rfl) rfl) (HasAll.cons (Has.m (Has.s rfl) rfl) (HasAll.cons (Has.fl Has.int) HasAll.nil)))) ?_
 refine mv ?_
 refine wo (Spec.ext0 (Has.s rfl)) ?_
 refine wo (Spec.ext1 (Has.s rfl)) ?_
 refine wo (Spec.assign (Has.s rfl)) ?_
 refine wo (Spec.assign (Has.s rfl)) ?_
 refine Walk.nil ?_
 refine Leaf.thenN ?_
 refine CWalk.seq ?_
 refine CWalk.region ?_
 obtain ⟨x9, hx9, hm⟩ := bind_some hm
 refine wo (f := Fact.rep [21] (x9 : List Disk)) (Spec.callE [] 21 rfl en29 (law05_two_c  hx9) HasAll.nil) ?_
 refine wo (Spec.build (us := [(0, .const (.int .i64 2)), (1, .const (.int .u8 3))]) (ls' := [(false, 1, Fact.rep [] ((2 : Int) : Int)), (false, 1, Fact.rep [] ((3 : UInt8) : UInt8)), (false, 1, Fact.rep [] ((0 : Int) : Int)), (false, 1, Fact.nilv)]) bd64 rfl (BP.cons rfl rfl Has.int Has.int (BP.cons rfl rfl (Has.u8 3 rfl) (Has.u8 3 rfl) BP.nil))) ?_
 refine wo (Spec.lit (xs := [.tmp 34]) (T := []) 22 rfl ow43 rfl rfl rfl rfl (HasEach.cons (Has.m (Has.cv (Has.s rfl) (Cv.trans (Cv.flds (CvL.cons Cv.fl (CvL.cons Cv.fl (CvL.cons Cv.fl (CvL.cons (Cv.trans (Cv.nil (T := [])) (Cv.m rfl)) CvL.nil))))) (Cv.close (T := []) (chAct64 (Act64.mk (2 : Int) (3 : UInt8) (0 : Int) ([] : List UInt8)))))) rfl) HasEach.nil)) ?_
 obtain ⟨x10, hx10, hm⟩ := bind_some hm
 refine wo (f := Fact.tup2 (Fact.ow [23] [24] 41 (x10.1 : List Disk)) (Fact.rep [] x10.2)) (Spec.callE [21, 22] 23 rfl en20 (acts_Run_c x9 ([(Act64.mk (2 : Int) (3 : UInt8) (0 : Int) ([] : List UInt8))]) (0 : Int) hx10) (HasAll.cons (Has.m (Has.s rfl) rfl) (HasAll.cons (Has.m (Has.s rfl) rfl) (HasAll.cons (Has.fl Has.int) HasAll.nil)))) ?_
 refine mv ?_
 refine wo (Spec.ext0 (Has.s rfl)) ?_
 refine wo (Spec.ext1 (Has.s rfl)) ?_
 refine wo (Spec.assign (Has.s rfl)) ?_
 refine wo (Spec.assign (Has.s rfl)) ?_
 refine Walk.nil ?_
 refine Leaf.thenN ?_
 refine CWalk.seq ?_
 refine CWalk.region ?_
 obtain ⟨x11, hx11, hm⟩ := bind_some hm
 refine wo (f := Fact.rep [25] (x11 : List Disk)) (Spec.callE [] 25 rfl en29 (law05_two_c  hx11) HasAll.nil) ?_
 obtain ⟨x12, hx12, hm⟩ := bind_some hm
 refine wo (Spec.indexAddr hx12 sl22 (Has.s rfl) Has.int) ?_
 refine wo (Spec.load ty41 (Has.s rfl)) ?_
 obtain ⟨x13, hx13, hm⟩ := bind_some hm
 refine wo (f := Fact.tup2 (Fact.flds [(false, 1, Fact.ow [26] [] 54 (x13.1.Blocks : List (List UInt8))), (false, 1, Fact.ow [26] [] 58 (x13.1.Wait : List Write)), (false, 1, Fact.rep [] x13.1.Dead)]) (Fact.rep [] x13.2)) (Spec.callE [25] 26 rfl en31 (disk_Kill_c x12 hx13) (HasAll.cons (Has.m (Has.s rfl) rfl) HasAll.nil)) ?_
 refine mv ?_
 refine wo (Spec.ext0 (Has.s rfl)) ?_
 refine wo (Spec.ext1 (Has.s rfl)) ?_
 refine ws (Step.allocObj (ls := [(false, 1, Fact.nilv), (false, 1, Fact.nilv), (false, 1, Fact.rep [] (false : Bool))]) 27 rfl rfl rfl rfl zl41) ?_
 refine ws (Step.storeObj (ls := [(false, 1, Fact.ow [26] [] 54 (x13.1.Blocks : List (List UInt8))), (false, 1, Fact.ow [26] [] 58 (x13.1.Wait : List Write)), (false, 1, Fact.rep [] x13.1.Dead)]) rfl ty41 rfl rfl (Has.s rfl) rfl (HasL.flds (Has.s rfl)) rfl) ?_
 refine wo (Spec.assign (Has.s rfl)) ?_
 refine Walk.nil ?_
 refine Leaf.thenN ?_
 refine CWalk.seq ?_
 obtain ⟨x14, hx14, hm⟩ := bind_some hm
 obtain ⟨x15, hx15, hm⟩ := bind_some hm
 refine CWalk.drawM [[], [], [1], [1, 2], [0, 1, 2, 3], [0, 1, 2, 3, 4]] [[.fact 46 (.flds [(false, 1, Fact.ow [26] [] 54 (x13.1.Blocks : List (List UInt8))), (false, 1, Fact.ow [26] [] 58 (x13.1.Wait : List Write)), (false, 1, Fact.rep [] x13.1.Dead)])], [.fact 47 (.rep [31] (x14 : List Disk))], [.fact 48 (.ptr [31] (x15 : Disk))], [.fact 49 (.rep [31] (x15 : Disk))], [.fact 50 (.rep [32, 26, 31] ([x13.1, x15] : List Disk))], [.fact 11 (.rep [32, 26, 31] ([x13.1, x15] : List Disk))]] mixed (by kernel_rfl) (ao (so (Spec.loadObj (ls := [(false, 1, Fact.ow [26] [] 54 (x13.1.Blocks : List (List UInt8))), (false, 1, Fact.ow [26] [] 58 (x13.1.Wait : List Write)), (false, 1, Fact.rep [] x13.1.Dead)]) ty41 rfl rfl (Has.s rfl) rfl (HasGs.cons (HasG.s rfl) (HasGs.cons (HasG.s rfl) (HasGs.cons (HasG.s rfl) HasGs.nil))))) (ao (so (Spec.callE [] 31 rfl en29 (law05_two_c  hx14) HasAll.nil)) (ao (so (Spec.indexAddr hx15 sl22 (Has.s rfl) Has.int)) (ao (so (Spec.load ty41 (Has.s rfl))) (ao (so (Spec.lit (xs := [.tmp 46, .tmp 49]) (T := [26, 31]) 32 rfl ow22 rfl rfl rfl rfl (HasEach.cons (Has.m (Has.cv (Has.s rfl) (Cv.trans (Cv.flds (CvL.cons (Cv.trans (Cv.trans Cv.owSl (Cv.slRep (T' := [26]) rfl rfl)) (Cv.m rfl)) (CvL.cons (Cv.trans (Cv.trans Cv.owSl (Cv.slRep (T' := [26]) rfl rfl)) (Cv.m rfl)) (CvL.cons Cv.fl CvL.nil)))) (Cv.close (T := [26]) (chDisk x13.1)))) rfl) (HasEach.cons (Has.m (Has.s rfl) rfl) HasEach.nil)))) (ao (so (Spec.assign (Has.s rfl))) AllM.nil)))))) ?_
 refine Leaf.thenN ?_
 refine CWalk.seq ?_
 refine CWalk.region ?_
 refine mv ?_
 obtain ⟨x16, hx16, hm⟩ := bind_some hm
 refine wo (f := Fact.rep [33] (x16 : List Act64)) (Spec.callE [] 33 rfl en30 (law05_some_c  hx16) HasAll.nil) ?_
 obtain ⟨x17, hx17, hm⟩ := bind_some hm
 refine wo (f := Fact.tup2 (Fact.ow [34] [35] 41 (x17.1 : List Disk)) (Fact.rep [] x17.2)) (Spec.callE [26, 31, 32, 33] 34 rfl en20 (acts_Run_c ([x13.1, x15]) x16 (1 : Int) hx17) (HasAll.cons (Has.m (Has.s rfl) rfl) (HasAll.cons (Has.m (Has.s rfl) rfl) (HasAll.cons (Has.fl Has.int) HasAll.nil)))) ?_
 refine mv ?_
 refine wo (Spec.ext0 (Has.s rfl)) ?_
 refine wo (Spec.ext1 (Has.s rfl)) ?_
 refine wo (Spec.assign (Has.s rfl)) ?_
 refine wo (Spec.assign (Has.s rfl)) ?_
 refine Walk.nil ?_
 refine Leaf.thenN ?_
 refine CWalk.seq ?_
 obtain ⟨x18, hx18, hm⟩ := bind_some hm
 obtain ⟨x19, hx19, hm⟩ := bind_some hm
 obtain ⟨x20, hx20, hm⟩ := bind_some hm
 obtain ⟨x21, hx21, hm⟩ := bind_some hm
 obtain ⟨x22, hx22, hm⟩ := bind_some hm
 obtain ⟨x23, hx23, hm⟩ := bind_some hm
 refine CWalk.drawM [[], [0], [0, 1], [0, 1, 2], [0, 1, 2, 3], [0, 1, 2, 3, 4], [0, 1, 2, 3, 4, 5], [0, 1, 2, 3, 4, 5, 6], [0, 1, 2, 3, 4, 5, 6, 7], [0, 1, 2, 3, 4, 5, 6, 7, 8], [0, 1, 2, 3, 4, 5, 6, 7, 8, 9], [0, 1, 2, 3, 4, 5, 6, 7, 8, 9, 10], [0, 1, 2, 3, 4, 5, 6, 7, 8, 9, 10, 11], [0, 1, 2, 3, 4, 5, 6, 7, 8, 9, 10, 11, 12], [0, 1, 2, 3, 4, 5, 6, 7, 8, 9, 10, 11, 12, 13], [0, 1, 2, 3, 4, 5, 6, 7, 8, 9, 10, 11, 12, 13, 14], [0, 1, 2, 3, 4, 5, 6, 7, 8, 9, 10, 11, 12, 13, 14, 15], [0, 1, 2, 3, 4, 5, 6, 7, 8, 9, 10, 11, 12, 13, 14, 15, 16], [0, 1, 2, 3, 4, 5, 6, 7, 8, 9, 10, 11, 12, 13, 14, 15, 16, 17], [0, 1, 2, 3, 4, 5, 6, 7, 8, 9, 10, 11, 12, 13, 14, 15, 16, 17, 18], [0, 1, 2, 3, 4, 5, 6, 7, 8, 9, 10, 11, 12, 13, 14, 15, 16, 17, 18, 19], [0, 1, 2, 3, 4, 5, 6, 7, 8, 9, 10, 11, 12, 13, 14, 15, 16, 17, 18, 19, 20], [0, 1, 2, 3, 4, 5, 6, 7, 8, 9, 10, 11, 12, 13, 14, 15, 16, 17, 18, 19, 20, 21], [0, 1, 2, 3, 4, 5, 6, 7, 8, 9, 10, 11, 12, 13, 14, 15, 16, 17, 18, 19, 20, 21, 22], [0, 1, 2, 3, 4, 5, 6, 7, 8, 9, 10, 11, 12, 13, 14, 15, 16, 17, 18, 19, 20, 21, 22, 23], [0, 1, 2, 3, 4, 5, 6, 7, 8, 9, 10, 11, 12, 13, 14, 15, 16, 17, 18, 19, 20, 21, 22, 23], [0, 1, 2, 3, 4, 5, 6, 7, 8, 9, 10, 11, 12, 13, 14, 15, 16, 17, 18, 19, 20, 21, 22, 23, 24, 25], [0, 1, 2, 3, 4, 5, 6, 7, 8, 9, 10, 11, 12, 13, 14, 15, 16, 17, 18, 19, 20, 21, 22, 23, 24, 25, 26], [0, 1, 2, 3, 4, 5, 6, 7, 8, 9, 10, 11, 12, 13, 14, 15, 16, 17, 18, 19, 20, 21, 22, 23, 24, 25, 26, 27], [0, 1, 2, 3, 4, 5, 6, 7, 8, 9, 10, 11, 12, 13, 14, 15, 16, 17, 18, 19, 20, 21, 22, 23, 24, 25, 26, 27, 28], [0, 1, 2, 3, 4, 5, 6, 7, 8, 9, 10, 11, 12, 13, 14, 15, 16, 17, 18, 19, 20, 21, 22, 23, 24, 25, 26, 27, 28, 29], [0, 1, 2, 3, 4, 5, 6, 7, 8, 9, 10, 11, 12, 13, 14, 15, 16, 17, 18, 19, 20, 21, 22, 23, 24, 25, 26, 27, 28, 29, 30], [0, 1, 2, 3, 4, 5, 6, 7, 8, 9, 10, 11, 12, 13, 14, 15, 16, 17, 18, 19, 20, 21, 22, 23, 24, 25, 26, 27, 28, 29, 30, 31], [0, 1, 2, 3, 4, 5, 6, 7, 8, 9, 10, 11, 12, 13, 14, 15, 16, 17, 18, 19, 20, 21, 22, 23, 24, 25, 26, 27, 28, 29, 30, 31, 32], [0, 1, 2, 3, 4, 5, 6, 7, 8, 9, 10, 11, 12, 13, 14, 15, 16, 17, 18, 19, 20, 21, 22, 23, 24, 25, 26, 27, 28, 29, 30, 31, 32], [0, 1, 2, 3, 4, 5, 6, 7, 8, 9, 10, 11, 12, 13, 14, 15, 16, 17, 18, 19, 20, 21, 22, 23, 24, 25, 26, 27, 28, 29, 30, 31, 32, 33, 34], [0, 1, 2, 3, 4, 5, 6, 7, 8, 9, 10, 11, 12, 13, 14, 15, 16, 17, 18, 19, 20, 21, 22, 23, 24, 25, 26, 27, 28, 29, 30, 31, 32, 33, 34, 35], [0, 1, 2, 3, 4, 5, 6, 7, 8, 9, 10, 11, 12, 13, 14, 15, 16, 17, 18, 19, 20, 21, 22, 23, 24, 25, 26, 27, 28, 29, 30, 31, 32, 33, 34, 35, 36], [0, 1, 2, 3, 4, 5, 6, 7, 8, 9, 10, 11, 12, 13, 14, 15, 16, 17, 18, 19, 20, 21, 22, 23, 24, 25, 26, 27, 28, 29, 30, 31, 32, 33, 34, 35, 36, 37]] [[.fact 57 (.rep [] (true : Bool))], [.fact 58 (.under (true = true) (.rep [] (x18 : Bool)))], [.fact 59 (.rep [] ((true && x18) : Bool))], [.fact 60 (.rep [] ((true && x18) : Bool))], [.fact 61 (.under ((true && x18) = true) (.rep [] x5.2))], [.fact 62 (.under ((true && x18) = true) (.rep [] ((x5.2 == (2 : Int)) : Bool)))], [.fact 63 (.rep [] (((true && x18) && (x5.2 == (2 : Int))) : Bool))], [.fact 64 (.rep [] (((true && x18) && (x5.2 == (2 : Int))) : Bool))], [.fact 65 (.under (((true && x18) && (x5.2 == (2 : Int))) = true) (.rep [] x8.2))], [.fact 66 (.under (((true && x18) && (x5.2 == (2 : Int))) = true) (.rep [] ((x8.2 == (2 : Int)) : Bool)))], [.fact 67 (.rep [] ((((true && x18) && (x5.2 == (2 : Int))) && (x8.2 == (2 : Int))) : Bool))], [.fact 68 (.rep [] ((((true && x18) && (x5.2 == (2 : Int))) && (x8.2 == (2 : Int))) : Bool))], [.fact 69 (.under ((((true && x18) && (x5.2 == (2 : Int))) && (x8.2 == (2 : Int))) = true) (.rep [] x10.2))], [.fact 70 (.under ((((true && x18) && (x5.2 == (2 : Int))) && (x8.2 == (2 : Int))) = true) (.rep [] ((x10.2 == (2 : Int)) : Bool)))], [.fact 71 (.rep [] (((((true && x18) && (x5.2 == (2 : Int))) && (x8.2 == (2 : Int))) && (x10.2 == (2 : Int))) : Bool))], [.fact 72 (.rep [] (((((true && x18) && (x5.2 == (2 : Int))) && (x8.2 == (2 : Int))) && (x10.2 == (2 : Int))) : Bool))], [.fact 73 (.under (((((true && x18) && (x5.2 == (2 : Int))) && (x8.2 == (2 : Int))) && (x10.2 == (2 : Int))) = true) (.rep [] x13.2))], [.fact 74 (.under (((((true && x18) && (x5.2 == (2 : Int))) && (x8.2 == (2 : Int))) && (x10.2 == (2 : Int))) = true) (.rep [] ((x13.2 == (0 : Int)) : Bool)))], [.fact 75 (.rep [] ((((((true && x18) && (x5.2 == (2 : Int))) && (x8.2 == (2 : Int))) && (x10.2 == (2 : Int))) && (x13.2 == (0 : Int))) : Bool))], [.fact 76 (.rep [] ((((((true && x18) && (x5.2 == (2 : Int))) && (x8.2 == (2 : Int))) && (x10.2 == (2 : Int))) && (x13.2 == (0 : Int))) : Bool))], [.fact 77 (.under ((((((true && x18) && (x5.2 == (2 : Int))) && (x8.2 == (2 : Int))) && (x10.2 == (2 : Int))) && (x13.2 == (0 : Int))) = true) (.rep [] x17.2))], [.fact 78 (.under ((((((true && x18) && (x5.2 == (2 : Int))) && (x8.2 == (2 : Int))) && (x10.2 == (2 : Int))) && (x13.2 == (0 : Int))) = true) (.rep [] ((x17.2 == (0 : Int)) : Bool)))], [.fact 79 (.rep [] (((((((true && x18) && (x5.2 == (2 : Int))) && (x8.2 == (2 : Int))) && (x10.2 == (2 : Int))) && (x13.2 == (0 : Int))) && (x17.2 == (0 : Int))) : Bool))], [.fact 80 (.rep [] (((((((true && x18) && (x5.2 == (2 : Int))) && (x8.2 == (2 : Int))) && (x10.2 == (2 : Int))) && (x13.2 == (0 : Int))) && (x17.2 == (0 : Int))) : Bool))], [.fact 81 (.under (((((((true && x18) && (x5.2 == (2 : Int))) && (x8.2 == (2 : Int))) && (x10.2 == (2 : Int))) && (x13.2 == (0 : Int))) && (x17.2 == (0 : Int))) = true) (.ow [34] [35] 41 (x17.1 : List Disk)))], [.fact 82 (.under (((((((true && x18) && (x5.2 == (2 : Int))) && (x8.2 == (2 : Int))) && (x10.2 == (2 : Int))) && (x13.2 == (0 : Int))) && (x17.2 == (0 : Int))) = true) (.rep [32, 26, 31] ([x13.1, x15] : List Disk)))], [.fact 83 (.under (((((((true && x18) && (x5.2 == (2 : Int))) && (x8.2 == (2 : Int))) && (x10.2 == (2 : Int))) && (x13.2 == (0 : Int))) && (x17.2 == (0 : Int))) = true) (.rep [] (x19 : Bool)))], [.fact 84 (.rep [] ((((((((true && x18) && (x5.2 == (2 : Int))) && (x8.2 == (2 : Int))) && (x10.2 == (2 : Int))) && (x13.2 == (0 : Int))) && (x17.2 == (0 : Int))) && x19) : Bool))], [.fact 85 (.rep [] ((((((((true && x18) && (x5.2 == (2 : Int))) && (x8.2 == (2 : Int))) && (x10.2 == (2 : Int))) && (x13.2 == (0 : Int))) && (x17.2 == (0 : Int))) && x19) : Bool))], [.fact 86 (.under ((((((((true && x18) && (x5.2 == (2 : Int))) && (x8.2 == (2 : Int))) && (x10.2 == (2 : Int))) && (x13.2 == (0 : Int))) && (x17.2 == (0 : Int))) && x19) = true) (.rep [] (x20 : Int)))], [.fact 87 (.under ((((((((true && x18) && (x5.2 == (2 : Int))) && (x8.2 == (2 : Int))) && (x10.2 == (2 : Int))) && (x13.2 == (0 : Int))) && (x17.2 == (0 : Int))) && x19) = true) (.rep [] ((x20 == (8 : Int)) : Bool)))], [.fact 88 (.rep [] (((((((((true && x18) && (x5.2 == (2 : Int))) && (x8.2 == (2 : Int))) && (x10.2 == (2 : Int))) && (x13.2 == (0 : Int))) && (x17.2 == (0 : Int))) && x19) && (x20 == (8 : Int))) : Bool))], [.fact 89 (.rep [] (((((((((true && x18) && (x5.2 == (2 : Int))) && (x8.2 == (2 : Int))) && (x10.2 == (2 : Int))) && (x13.2 == (0 : Int))) && (x17.2 == (0 : Int))) && x19) && (x20 == (8 : Int))) : Bool))], [.fact 90 (.under (((((((((true && x18) && (x5.2 == (2 : Int))) && (x8.2 == (2 : Int))) && (x10.2 == (2 : Int))) && (x13.2 == (0 : Int))) && (x17.2 == (0 : Int))) && x19) && (x20 == (8 : Int))) = true) (.ow [39] [] 64 (x21 : List Act64)))], [.fact 91 (.under (((((((((true && x18) && (x5.2 == (2 : Int))) && (x8.2 == (2 : Int))) && (x10.2 == (2 : Int))) && (x13.2 == (0 : Int))) && (x17.2 == (0 : Int))) && x19) && (x20 == (8 : Int))) = true) (.rep [40] (x22 : List Disk)))], [.fact 92 (.under (((((((((true && x18) && (x5.2 == (2 : Int))) && (x8.2 == (2 : Int))) && (x10.2 == (2 : Int))) && (x13.2 == (0 : Int))) && (x17.2 == (0 : Int))) && x19) && (x20 == (8 : Int))) = true) (.rep [] (x23 : Int)))], [.fact 93 (.under (((((((((true && x18) && (x5.2 == (2 : Int))) && (x8.2 == (2 : Int))) && (x10.2 == (2 : Int))) && (x13.2 == (0 : Int))) && (x17.2 == (0 : Int))) && x19) && (x20 == (8 : Int))) = true) (.rep [] ((x23 == (4 : Int)) : Bool)))], [.fact 94 (.rep [] ((((((((((true && x18) && (x5.2 == (2 : Int))) && (x8.2 == (2 : Int))) && (x10.2 == (2 : Int))) && (x13.2 == (0 : Int))) && (x17.2 == (0 : Int))) && x19) && (x20 == (8 : Int))) && (x23 == (4 : Int))) : Bool))], [.fact 0 (.rep [] ((((((((((true && x18) && (x5.2 == (2 : Int))) && (x8.2 == (2 : Int))) && (x10.2 == (2 : Int))) && (x13.2 == (0 : Int))) && (x17.2 == (0 : Int))) && x19) && (x20 == (8 : Int))) && (x23 == (4 : Int))) : Bool))]] mixed (by kernel_rfl) (ao (so (Spec.move Has.bool)) (ao (StepG.opg rfl rfl rfl (fun hb => Spec.callE [] 36 rfl en26 (law05_alive_c  (gO_t hx18 hb)) HasAll.nil)) (ao (so (Spec.and (Has.s rfl) (fun h => Has.u rfl h))) (ao (so (Spec.move (Has.s rfl))) (ao (StepG.opg rfl rfl rfl (fun hb => Spec.move (Has.s rfl))) (ao (StepG.opg rfl rfl rfl (fun hb => Spec.eqlI (Has.u rfl hb) Has.int)) (ao (so (Spec.and (Has.s rfl) (fun h => Has.u rfl h))) (ao (so (Spec.move (Has.s rfl))) (ao (StepG.opg rfl rfl rfl (fun hb => Spec.move (Has.s rfl))) (ao (StepG.opg rfl rfl rfl (fun hb => Spec.eqlI (Has.u rfl hb) Has.int)) (ao (so (Spec.and (Has.s rfl) (fun h => Has.u rfl h))) (ao (so (Spec.move (Has.s rfl))) (ao (StepG.opg rfl rfl rfl (fun hb => Spec.move (Has.s rfl))) (ao (StepG.opg rfl rfl rfl (fun hb => Spec.eqlI (Has.u rfl hb) Has.int)) (ao (so (Spec.and (Has.s rfl) (fun h => Has.u rfl h))) (ao (so (Spec.move (Has.s rfl))) (ao (StepG.opg rfl rfl rfl (fun hb => Spec.move (Has.s rfl))) (ao (StepG.opg rfl rfl rfl (fun hb => Spec.eqlI (Has.u rfl hb) Has.int)) (ao (so (Spec.and (Has.s rfl) (fun h => Has.u rfl h))) (ao (so (Spec.move (Has.s rfl))) (ao (StepG.opg rfl rfl rfl (fun hb => Spec.move (Has.s rfl))) (ao (StepG.opg rfl rfl rfl (fun hb => Spec.eqlI (Has.u rfl hb) Has.int)) (ao (so (Spec.and (Has.s rfl) (fun h => Has.u rfl h))) (ao (so (Spec.move (Has.s rfl))) (ao (StepG.opg rfl rfl rfl (fun hb => Spec.move (Has.s rfl))) (ao (StepG.opg rfl rfl rfl (fun hb => Spec.move (Has.s rfl))) (ao (StepG.opg rfl rfl rfl (fun hb => Spec.callE [26, 31, 32, 34, 35] 37 rfl en15 (ref05_SameDisks_c x17.1 ([x13.1, x15]) (gO_t hx19 hb)) (HasAll.cons (Has.m (Has.cv (Has.u rfl hb) (Cv.trans Cv.owSl (Cv.slRep (T' := [34, 35]) rfl rfl))) rfl) (HasAll.cons (Has.m (Has.u rfl hb) rfl) HasAll.nil)))) (ao (so (Spec.and (Has.s rfl) (fun h => Has.u rfl h))) (ao (so (Spec.move (Has.s rfl))) (ao (StepG.opg rfl rfl rfl (fun hb => Spec.callE [] 38 rfl en22 (acts_Check_c ([] : List Act64) ([] : List Disk) (gO_t hx20 hb)) (HasAll.cons (Has.m (Has.nil Act64) rfl) (HasAll.cons (Has.m (Has.nil Disk) rfl) HasAll.nil)))) (ao (StepG.opg rfl rfl rfl (fun hb => Spec.eqlI (Has.u rfl hb) Has.int)) (ao (so (Spec.and (Has.s rfl) (fun h => Has.u rfl h))) (ao (so (Spec.move (Has.s rfl))) (ao (StepG.opg rfl rfl rfl (fun hb => Spec.makeOw 39 (gO_t hx21 hb) rfl ow43 zt64 Has.int)) (ao (StepG.opg rfl rfl rfl (fun hb => Spec.callE [] 40 rfl en29 (law05_two_c  (gO_t hx22 hb)) HasAll.nil)) (ao (StepG.opg rfl rfl rfl (fun hb => Spec.callE [39, 40] 41 rfl en22 (acts_Check_c x21 x22 (gO_t hx23 hb)) (HasAll.cons (Has.m (Has.cv (Has.u rfl hb) (Cv.trans Cv.owSl (Cv.slRep (T' := [39]) rfl rfl))) rfl) (HasAll.cons (Has.m (Has.u rfl hb) rfl) HasAll.nil)))) (ao (StepG.opg rfl rfl rfl (fun hb => Spec.eqlI (Has.u rfl hb) Has.int)) (ao (so (Spec.and (Has.s rfl) (fun h => Has.u rfl h))) (ao (so (Spec.assign (Has.s rfl))) AllM.nil))))))))))))))))))))))))))))))))))))))) ?_
 refine Leaf.thenN ?_
 refine CWalk.ret ?_
 obtain rfl := Option.some.inj hm
 exact Leaf.retC1 rfl (HasR.cv (HasR.tmp (Has.s rfl)) Cv.fl)

end Go.Proofs.Ytgkhjpfnmbdchaa
