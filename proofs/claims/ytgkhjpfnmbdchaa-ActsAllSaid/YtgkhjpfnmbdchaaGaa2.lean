/- Printed by a program of ours: models of functions, and that calls do what they say. -/
import Derived.Test.YtgkhjpfnmbdchaaGaa1
namespace Go.Proofs.Ytgkhjpfnmbdchaa
open Go GL
set_option linter.unusedVariables false

def ref05_Great_L2 (a0 : List Disk) (s2 : Int) (s6 : Int) (s7 : Int) : Option (Ctl (Int × Int) (Int)) :=
  Option.bind (idx a0 s2) (fun x9 => (bif (decide (s7 < ((x9.Blocks).length : Int))) then Option.bind (idx a0 s2) (fun x10 => Option.bind (idx x10.Blocks s7) (fun x11 => some (Ctl.next ((wI (s6 + (wI ((8 : Int) + ((x11).length : Int))))), (wI (s7 + (1 : Int))))))) else some (Ctl.brk s6)))
def ref05_Great_L3 (a0 : List Disk) (s2 : Int) (s13 : Int) (s14 : Int) : Option (Ctl (Int × Int) (Int)) :=
  Option.bind (idx a0 s2) (fun x16 => (bif (decide (s14 < ((x16.Wait).length : Int))) then Option.bind (idx a0 s2) (fun x17 => Option.bind (idx x17.Wait s14) (fun x18 => some (Ctl.next ((wI (s13 + (wI ((8 : Int) + ((x18.Data).length : Int))))), (wI (s14 + (1 : Int))))))) else some (Ctl.brk s13)))
def ref05_Great_L1 (a0 : List Disk) (s1 : Int) (s2 : Int) : Option (Ctl (Int × Int) ((Unit) ⊕ (Unit))) :=
  (bif ((decide (s2 < ((a0).length : Int))) && (decide (s2 < (30 : Int)))) then Option.bind (idx a0 s2) (fun x4 => Option.bind (ref04_Great x4) (fun x5 => (bif x5 then some (Ctl.brk (Sum.inr ())) else Option.bind (loopM (fun s : Int × Int => ref05_Great_L2 a0 s2 s.1 s.2) FUEL (s1, (0 : Int))) (fun b12 => Option.bind (loopM (fun s : Int × Int => ref05_Great_L3 a0 s2 s.1 s.2) FUEL (b12, (0 : Int))) (fun b19 => (bif (decide (b19 > (60000 : Int))) then some (Ctl.brk (Sum.inr ())) else some (Ctl.next (b19, (wI (s2 + (1 : Int))))))))))) else some (Ctl.brk (Sum.inl ())))
/-- freeboard/freeboardref05.Great -/
def ref05_Great (a0 : List Disk) : Option (Bool) :=
  Option.bind (loopM (fun s : Int × Int => ref05_Great_L1 a0 s.1 s.2) FUEL ((0 : Int), (0 : Int))) (fun b20 => Sum.elim (fun b21 => some (decide (((a0).length : Int) > (30 : Int)))) (fun b22 => some true) b20)
set_option maxRecDepth 100000 in
set_option maxHeartbeats 2000000 in
theorem ref05_Great_c (a0 : List Disk) {r : Bool} (hm : ref05_Great a0 = some r) : Ctr Try.prog 9 [.rep 0 a0] (.fl r) [] := by
 refine ctr_of_walk [[]] 72 Try.func9 rfl rfl rfl rfl (fun w0 om => ?_)
 unfold ref05_Great at hm
 refine CWalk.sub (G' := [.fact 0 (.rep [0] (a0 : List Disk))]) (sn Sub.nil) ?_
 refine CWalk.seq ?_
 refine CWalk.region ?_
 refine wo (Spec.assign Has.bool) ?_
 refine Walk.nil ?_
 refine Leaf.thenN ?_
 refine CWalk.seq ?_
 refine CWalk.region ?_
 refine wo (Spec.assign Has.int) ?_
 refine Walk.nil ?_
 refine Leaf.thenN ?_
 refine CWalk.seq ?_
 refine CWalk.seq ?_
 refine CWalk.region ?_
 refine wo (Spec.assign Has.int) ?_
 refine Walk.nil ?_
 refine Leaf.thenN ?_
 refine CWalk.block ?_
 obtain ⟨b20, hb20, hm⟩ := bind_some hm
 refine CWalk.loop (fun s : Int × Int => [.fact 0 (.rep [0] (a0 : List Disk)), .fact 3 (.rep [] s.1), .fact 4 (.rep [] s.2)]) (fun b : (Unit) ⊕ (Unit) => Sum.elim (fun b => (Exit.exit 0, [.fact 0 (.rep [0] (a0 : List Disk))])) (fun b => (Exit.ret, [.fact 2 (.rep [] (true : Bool))])) b) hb20 (su (st (st Sub.nil))) ?_ ?_
 ·rintro ⟨s1, s2⟩ c3 hm
  replace hm : ref05_Great_L1 a0 s1 s2 = some c3 := hm
  unfold ref05_Great_L1 at hm
  show CWalk _ [.fact 0 (.rep [0] (a0 : List Disk)), .fact 3 (.rep [] (s1 : Int)), .fact 4 (.rep [] (s2 : Int))] _ _
  refine CWalk.seq ?_
  refine CWalk.seq ?_
  refine CWalk.region ?_
  refine mv ?_
  refine mv ?_
  refine wo (Spec.len (Has.s rfl) Try.underlying22) ?_
  refine wo (Spec.lssI (Has.s rfl) (Has.s rfl)) ?_
  refine mv ?_
  refine wg rfl rfl (fun hb => Spec.move (Has.s rfl)) ?_
  refine wg rfl rfl (fun hb => Spec.lssI (Has.u rfl hb) Has.int) ?_
  refine wo (Spec.and (Has.s rfl) (fun h => Has.u rfl h)) ?_
  refine Walk.nil ?_
  refine Leaf.thenN ?_
  refine CWalk.cond rfl (fun hb => ?_) (fun hb => ?_)
  ·have hm := cond_t hb hm
   refine CWalk.skip ?_
   refine Leaf.thenN ?_
   refine CWalk.seq ?_
   refine CWalk.block ?_
   refine CWalk.seq ?_
   refine CWalk.seq ?_
   refine CWalk.region ?_
   refine mv ?_
   refine mv ?_
   obtain ⟨x4, hx4, hm⟩ := bind_some hm
   refine wo (Spec.indexAddr hx4 sl22 (Has.s rfl) (Has.s rfl)) ?_
   refine wo (Spec.load ty41 (Has.s rfl)) ?_
   obtain ⟨x5, hx5, hm⟩ := bind_some hm
   refine wo (f := Fact.rep [] (x5 : Bool)) (Spec.callE [0] 10 rfl en33 (ref04_Great_c x4 hx5) (HasAll.cons (Has.m (Has.s rfl) rfl) HasAll.nil)) ?_
   refine Walk.nil ?_
   refine Leaf.thenN ?_
   refine CWalk.cond rfl (fun hb => ?_) (fun hb => ?_)
   ·have hm := cond_t hb hm
    refine CWalk.seq ?_
    refine CWalk.region ?_
    refine wo (Spec.assign Has.bool) ?_
    refine Walk.nil ?_
    refine Leaf.thenN ?_
    refine CWalk.ret ?_
    refine Leaf.thenR ?_
    refine Leaf.blockR ?_
    refine Leaf.thenR ?_
    exact Leaf.brk hm (fun h => nomatch h) rfl (st Sub.nil)
   ·have hm := cond_f hb hm
    refine CWalk.skip ?_
    refine Leaf.thenN ?_
    refine CWalk.seq ?_
    refine CWalk.seq ?_
    refine CWalk.region ?_
    refine wo (Spec.assign Has.int) ?_
    refine Walk.nil ?_
    refine Leaf.thenN ?_
    refine CWalk.block ?_
    obtain ⟨b12, hb12, hm⟩ := bind_some hm
    refine CWalk.loop (fun s : Int × Int => [.fact 0 (.rep [0] (a0 : List Disk)), .fact 3 (.rep [] s.1), .fact 4 (.rep [] (s2 : Int)), .fact 5 (.rep [] s.2)]) (fun b : Int => (Exit.exit 2, [.fact 0 (.rep [0] (a0 : List Disk)), .fact 3 (.rep [] (b : Int)), .fact 4 (.rep [] (s2 : Int))])) hb12 (su (st (st (st Sub.nil)))) ?_ ?_
    ·rintro ⟨s6, s7⟩ c8 hm
     replace hm : ref05_Great_L2 a0 s2 s6 s7 = some c8 := hm
     unfold ref05_Great_L2 at hm
     show CWalk _ [.fact 0 (.rep [0] (a0 : List Disk)), .fact 3 (.rep [] (s6 : Int)), .fact 4 (.rep [] (s2 : Int)), .fact 5 (.rep [] (s7 : Int))] _ _
     refine CWalk.seq ?_
     refine CWalk.seq ?_
     refine CWalk.region ?_
     refine mv ?_
     refine mv ?_
     refine mv ?_
     obtain ⟨x9, hx9, hm⟩ := bind_some hm
     refine wo (Spec.indexAddr hx9 sl22 (Has.s rfl) (Has.s rfl)) ?_
     refine wo (Spec.fieldAddrP fd41_0 (chDisk x9) rfl (Has.s rfl)) ?_
     refine wo (Spec.load ty38 (Has.s rfl)) ?_
     refine wo (Spec.len (Has.s rfl) Try.underlying38) ?_
     refine wo (Spec.lssI (Has.s rfl) (Has.s rfl)) ?_
     refine Walk.nil ?_
     refine Leaf.thenN ?_
     refine CWalk.cond rfl (fun hb => ?_) (fun hb => ?_)
     ·have hm := cond_t hb hm
      refine CWalk.skip ?_
      refine Leaf.thenN ?_
      refine CWalk.seq ?_
      refine CWalk.block ?_
      refine CWalk.region ?_
      refine mv ?_
      refine mv ?_
      refine mv ?_
      obtain ⟨x10, hx10, hm⟩ := bind_some hm
      refine wo (Spec.indexAddr hx10 sl22 (Has.s rfl) (Has.s rfl)) ?_
      refine wo (Spec.fieldAddrP fd41_0 (chDisk x10) rfl (Has.s rfl)) ?_
      refine wo (Spec.load ty38 (Has.s rfl)) ?_
      refine mv ?_
      obtain ⟨x11, hx11, hm⟩ := bind_some hm
      refine wo (Spec.indexAddr hx11 sl38 (Has.s rfl) (Has.s rfl)) ?_
      refine wo (Spec.load ty54 (Has.s rfl)) ?_
      refine wo (Spec.len (Has.s rfl) Try.underlying54) ?_
      refine wo (Spec.addI Has.int (Has.s rfl)) ?_
      refine wo (Spec.addI (Has.s rfl) (Has.s rfl)) ?_
      refine wo (Spec.assign (Has.s rfl)) ?_
      refine Walk.nil ?_
      refine Leaf.blockN ?_
      refine Leaf.thenN ?_
      refine CWalk.region ?_
      refine mv ?_
      refine wo (Spec.addI (Has.s rfl) Has.int) ?_
      refine wo (Spec.assign (Has.s rfl)) ?_
      refine Walk.nil ?_
      exact Leaf.next hm (su (st (st (st Sub.nil))))
     ·have hm := cond_f hb hm
      refine CWalk.exit ?_
      refine Leaf.thenE ?_
      exact Leaf.brk hm (fun h => nomatch h) rfl (su (st (st Sub.nil)))
    ·intro _
     refine Leaf.blockE ?_
     refine Leaf.thenN ?_
     refine CWalk.seq ?_
     refine CWalk.seq ?_
     refine CWalk.region ?_
     refine wo (Spec.assign Has.int) ?_
     refine Walk.nil ?_
     refine Leaf.thenN ?_
     refine CWalk.block ?_
     obtain ⟨b19, hb19, hm⟩ := bind_some hm
     refine CWalk.loop (fun s : Int × Int => [.fact 0 (.rep [0] (a0 : List Disk)), .fact 3 (.rep [] s.1), .fact 4 (.rep [] (s2 : Int)), .fact 6 (.rep [] s.2)]) (fun b : Int => (Exit.exit 4, [.fact 0 (.rep [0] (a0 : List Disk)), .fact 3 (.rep [] (b : Int)), .fact 4 (.rep [] (s2 : Int))])) hb19 (su (st (st (st Sub.nil)))) ?_ ?_
     ·rintro ⟨s13, s14⟩ c15 hm
      replace hm : ref05_Great_L3 a0 s2 s13 s14 = some c15 := hm
      unfold ref05_Great_L3 at hm
      show CWalk _ [.fact 0 (.rep [0] (a0 : List Disk)), .fact 3 (.rep [] (s13 : Int)), .fact 4 (.rep [] (s2 : Int)), .fact 6 (.rep [] (s14 : Int))] _ _
      refine CWalk.seq ?_
      refine CWalk.seq ?_
      refine CWalk.region ?_
      refine mv ?_
      refine mv ?_
      refine mv ?_
      obtain ⟨x16, hx16, hm⟩ := bind_some hm
      refine wo (Spec.indexAddr hx16 sl22 (Has.s rfl) (Has.s rfl)) ?_
      refine wo (Spec.fieldAddrP fd41_1 (chDisk x16) rfl (Has.s rfl)) ?_
      refine wo (Spec.load ty39 (Has.s rfl)) ?_
      refine wo (Spec.len (Has.s rfl) Try.underlying39) ?_
      refine wo (Spec.lssI (Has.s rfl) (Has.s rfl)) ?_
      refine Walk.nil ?_
      refine Leaf.thenN ?_
      refine CWalk.cond rfl (fun hb => ?_) (fun hb => ?_)
      ·have hm := cond_t hb hm
       refine CWalk.skip ?_
       refine Leaf.thenN ?_
       refine CWalk.seq ?_
       refine CWalk.block ?_
       refine CWalk.region ?_
       refine mv ?_
       refine mv ?_
       refine mv ?_
       obtain ⟨x17, hx17, hm⟩ := bind_some hm
       refine wo (Spec.indexAddr hx17 sl22 (Has.s rfl) (Has.s rfl)) ?_
       refine wo (Spec.fieldAddrP fd41_1 (chDisk x17) rfl (Has.s rfl)) ?_
       refine wo (Spec.load ty39 (Has.s rfl)) ?_
       refine mv ?_
       obtain ⟨x18, hx18, hm⟩ := bind_some hm
       refine wo (Spec.indexAddr hx18 sl39 (Has.s rfl) (Has.s rfl)) ?_
       refine wo (Spec.fieldAddrP fd58_1 (chWrite x18) rfl (Has.s rfl)) ?_
       refine wo (Spec.load ty54 (Has.s rfl)) ?_
       refine wo (Spec.len (Has.s rfl) Try.underlying54) ?_
       refine wo (Spec.addI Has.int (Has.s rfl)) ?_
       refine wo (Spec.addI (Has.s rfl) (Has.s rfl)) ?_
       refine wo (Spec.assign (Has.s rfl)) ?_
       refine Walk.nil ?_
       refine Leaf.blockN ?_
       refine Leaf.thenN ?_
       refine CWalk.region ?_
       refine mv ?_
       refine wo (Spec.addI (Has.s rfl) Has.int) ?_
       refine wo (Spec.assign (Has.s rfl)) ?_
       refine Walk.nil ?_
       exact Leaf.next hm (su (st (st (st Sub.nil))))
      ·have hm := cond_f hb hm
       refine CWalk.exit ?_
       refine Leaf.thenE ?_
       exact Leaf.brk hm (fun h => nomatch h) rfl (su (st (st Sub.nil)))
     ·intro _
      refine Leaf.blockE ?_
      refine Leaf.thenN ?_
      refine CWalk.seq ?_
      refine CWalk.region ?_
      refine mv ?_
      refine wo (Spec.gtrI (Has.s rfl) Has.int) ?_
      refine Walk.nil ?_
      refine Leaf.thenN ?_
      refine CWalk.cond rfl (fun hb => ?_) (fun hb => ?_)
      ·have hm := cond_t hb hm
       refine CWalk.seq ?_
       refine CWalk.region ?_
       refine wo (Spec.assign Has.bool) ?_
       refine Walk.nil ?_
       refine Leaf.thenN ?_
       refine CWalk.ret ?_
       refine Leaf.blockR ?_
       refine Leaf.thenR ?_
       exact Leaf.brk hm (fun h => nomatch h) rfl (st Sub.nil)
      ·have hm := cond_f hb hm
       refine CWalk.skip ?_
       refine Leaf.blockN ?_
       refine Leaf.thenN ?_
       refine CWalk.region ?_
       refine mv ?_
       refine wo (Spec.addI (Has.s rfl) Has.int) ?_
       refine wo (Spec.assign (Has.s rfl)) ?_
       refine Walk.nil ?_
       exact Leaf.next hm (su (st (st Sub.nil)))
  ·have hm := cond_f hb hm
   refine CWalk.exit ?_
   refine Leaf.thenE ?_
   exact Leaf.brk hm (fun h => nomatch h) rfl (su Sub.nil)
 ·intro _
  rcases b20 with b21 | b22
  ·have hm := selim_l hm
   refine Leaf.blockE ?_
   refine Leaf.thenN ?_
   refine CWalk.seq ?_
   refine CWalk.region ?_
   refine mv ?_
   refine wo (Spec.len (Has.s rfl) Try.underlying22) ?_
   refine wo (Spec.gtrI (Has.s rfl) Has.int) ?_
   refine wo (Spec.assign (Has.s rfl)) ?_
   refine Walk.nil ?_
   refine Leaf.thenN ?_
   refine CWalk.ret ?_
   obtain rfl := Option.some.inj hm
   exact Leaf.retC1 rfl (HasR.cv (HasR.tmp (Has.s rfl)) Cv.fl)
  ·have hm := selim_r hm
   refine Leaf.blockR ?_
   refine Leaf.thenR ?_
   obtain rfl := Option.some.inj hm
   exact Leaf.retC1 rfl (HasR.cv (HasR.tmp (Has.s rfl)) Cv.fl)

def disk_Read_L2 (a0 : Disk) (a1 : Int) (s2 : Int) : Option (Ctl (Int) ((Unit) ⊕ ((List UInt8)))) :=
  (bif (decide (s2 ≥ (0 : Int))) then Option.bind (idx a0.Wait s2) (fun x4 => (bif (x4.At == a1) then Option.bind (disk_block x4.Data) (fun x5 => some (Ctl.brk (Sum.inr x5))) else some (Ctl.next (wI (s2 - (1 : Int)))))) else some (Ctl.brk (Sum.inl ())))
def disk_Read_J1 (a0 : Disk) (a1 : Int) (x1 : (List UInt8) × Int) : Option ((List UInt8) × Int) :=
  Option.bind (loopM (fun s : Int => disk_Read_L2 a0 a1 s) FUEL (wI (((a0.Wait).length : Int) - (1 : Int)))) (fun b6 => Sum.elim (fun b7 => some (x1.1, (0 : Int))) (fun b8 => some (b8, (0 : Int))) b6)
/-- freeboard/disk.Read -/
def disk_Read (a0 : Disk) (a1 : Int) : Option ((List UInt8) × Int) :=
  Option.bind (disk_Lasting a0 a1) (fun x1 => (bif (x1.2 != (0 : Int)) then some (([] : List UInt8), x1.2) else (disk_Read_J1 a0 a1 x1)))
set_option maxRecDepth 100000 in
set_option maxHeartbeats 2000000 in
theorem disk_Read_c (a0 : Disk) (a1 : Int) {r : (List UInt8) × Int} (hm : disk_Read a0 a1 = some r) : Ctr Try.prog 32 [.rep 0 a0, .rep 0 a1] (.tup2 (.own 0 none 5 r.1) (.fl r.2)) [] := by
 refine ctr_of_walkM [[20, 28]] 32 Try.func32 rfl rfl rfl rfl (fun w0 om => ?_)
 unfold disk_Read at hm
 refine CWalk.sub (G' := [.fact 0 (.rep [0] (a0 : Disk)), .fact 1 (.rep [] (a1 : Int))]) (sn (Sub.cons (Has.fl (Has.s rfl)) Sub.nil)) ?_
 refine CWalk.seq ?_
 refine CWalk.region ?_
 refine ws (Step.boxObj (ls := [(false, 1, Fact.rep [0] a0.Blocks), (false, 1, Fact.rep [0] a0.Wait), (false, 1, Fact.rep [] a0.Dead)]) 10 rfl rfl rfl rfl (HasL.flds (Has.cv (Has.s rfl) (Cv.trans (Cv.opens (chDisk a0)) (Cv.flds (CvL.cons Cv.refl (CvL.cons Cv.refl (CvL.cons Cv.fl CvL.nil)))))))) ?_
 refine ws (Step.boxObj (ls := [(false, 1, Fact.rep [] (a1 : Int))]) 14 rfl rfl rfl rfl (HasL.one (Has.s rfl) rfl (Has.s rfl))) ?_
 refine ws (Step.allocObj (ls := [(false, 1, Fact.nilv)]) 16 rfl rfl rfl rfl zl54) ?_
 refine ws (Step.allocObj (ls := [(false, 1, Fact.rep [] ((0 : Int) : Int))]) 18 rfl rfl rfl rfl zl26) ?_
 refine Walk.nil ?_
 refine Leaf.thenN ?_
 refine CWalk.seq ?_
 refine CWalk.region ?_
 refine wo (Spec.loadObj (ls := [(false, 1, Fact.rep [0] a0.Blocks), (false, 1, Fact.rep [0] a0.Wait), (false, 1, Fact.rep [] a0.Dead)]) ty41 rfl rfl (Has.s rfl) rfl (HasGs.cons (HasG.s rfl) (HasGs.cons (HasG.s rfl) (HasGs.cons (HasG.s rfl) HasGs.nil)))) ?_
 refine wo (Spec.loadF (i := 0) ty3 rfl (Has.cv (Has.s rfl) (Cv.isvP rfl)) rfl (HasG.s rfl)) ?_
 obtain ⟨x1, hx1, hm⟩ := bind_some hm
 refine wo (f := Fact.tup2 (Fact.ow [20] [] 5 (x1.1 : List UInt8)) (Fact.rep [] x1.2)) (Spec.callE [0] 20 rfl en27 (disk_Lasting_c a0 a1 hx1) (HasAll.cons (Has.m (Has.cv (Has.s rfl) (Cv.trans (Cv.flds (CvL.cons (Cv.m rfl) (CvL.cons (Cv.m rfl) (CvL.cons Cv.fl CvL.nil)))) (Cv.close (T := [0]) (chDisk a0)))) rfl) (HasAll.cons (Has.fl (Has.s rfl)) HasAll.nil))) ?_
 refine mv ?_
 refine wo (Spec.ext0 (Has.s rfl)) ?_
 refine wo (Spec.ext1 (Has.s rfl)) ?_
 refine wo (Spec.assign (Has.s rfl)) ?_
 refine wo (Spec.assign (Has.s rfl)) ?_
 refine Walk.nil ?_
 refine Leaf.thenN ?_
 refine CWalk.seq ?_
 refine CWalk.seq ?_
 refine CWalk.region ?_
 refine mv ?_
 refine wo (Spec.neqI (Has.s rfl) Has.int) ?_
 refine Walk.nil ?_
 refine Leaf.thenN ?_
 refine CWalk.cond rfl (fun hb => ?_) (fun hb => ?_)
 ·have hm := cond_t hb hm
  refine CWalk.seq ?_
  refine CWalk.region ?_
  refine mv ?_
  refine ws (Step.storeF (i := 0) (f := Fact.nilv) rfl ty54 rfl (Has.cv (Has.s rfl) (Cv.isvP rfl)) rfl (Has.cv Has.nilv (Cv.nil (T := []))) Has.nilv rfl) ?_
  refine ws (Step.storeF (i := 0) (f := Fact.rep [] x1.2) rfl ty26 rfl (Has.cv (Has.s rfl) (Cv.isvP rfl)) rfl (Has.s rfl) (Has.s rfl) rfl) ?_
  refine Walk.nil ?_
  refine Leaf.thenN ?_
  refine CWalk.ret ?_
  refine Leaf.thenR ?_
  obtain rfl := Option.some.inj hm
  exact Leaf.retM (Leaf.retC2 rfl (HasR.cv (HasR.cell1 ty54 rfl (Has.s rfl) rfl (HasG.s rfl)) (Cv.trans Cv.nilOw (Cv.owF (T := []) (te := []) rfl))) (HasR.cv (HasR.cell1 ty26 rfl (Has.s rfl) rfl (HasG.s rfl)) Cv.fl))
 ·have hm := cond_f hb hm
  refine CWalk.skip ?_
  refine Leaf.thenN ?_
  refine CWalk.seq ?_
  refine CWalk.seq ?_
  refine CWalk.region ?_
  refine wo (Spec.fieldAddrO fd41_1 (Has.cv (Has.s rfl) (Cv.isvP rfl))) ?_
  refine wo (Spec.loadF (i := 1) ty39 rfl (Has.s rfl) rfl (HasG.s rfl)) ?_
  refine Walk.inline (S := Unit) (fun p : Unit => [.fact 3 (.isv 14), .fact 4 (.isv 16), .fact 5 (.isv 18), .fact 6 (.ow [20] [] 5 (x1.1 : List UInt8)), .fact 21 (.fnv 69 [] [Fact.isv 21]), .fact 100015 (.at 15 (.rep [] (a1 : Int))), .fact 100017 (.at 17 (.nilv)), .fact 100019 (.at 19 (.rep [] ((0 : Int) : Int))), .fact 100022 (.at 22 (.rep [0] a0.Wait)), .fact 100014 (.obj 14 [(false, 1)]), .fact 100016 (.obj 16 [(false, 1)]), .fact 100018 (.obj 18 [(false, 1)]), .fact 100021 (.obj 21 [(false, 1)])]) (fun p : Unit => disk_Read_J1 a0 a1 x1 = some r) (fun u1 => [.fact 100015 (.at 15 (.rep [] (a1 : Int))), .fact 100017 (.at 17 (.nilv)), .fact 100019 (.at 19 (.rep [] ((0 : Int) : Int))), .fact 902003 (.cst (u1 3) (Fact.isv 14)), .fact 902004 (.cst (u1 4) (Fact.isv 16)), .fact 902005 (.cst (u1 5) (Fact.isv 18)), .fact 902006 (.cst (u1 6) (Fact.ow [20] [] 5 (x1.1 : List UInt8))), .fact 100014 (.obj 14 [(false, 1)]), .fact 100016 (.obj 16 [(false, 1)]), .fact 100018 (.obj 18 [(false, 1)])]) (FA := [Fact.rep [0] a0.Wait]) rfl Try.func54 rfl rfl rfl (CallOk.fn en54 (HasF.cons (Has.s rfl) HasF.nil)) (fun u1 => (ck (ck (ck (cs 902000 3 (cs 902000 4 (cs 902000 5 (cs 902000 6 (ck (ck (ck Carry.nil))))))))))) (fun u1 => ?_) ?_
  ·refine CWalk.seq ?_
   refine CWalk.region ?_
   refine ws (Step.boxObj (ls := [(false, 1, Fact.rep [0] a0.Wait)]) 21 rfl rfl rfl rfl (HasL.one (Has.s rfl) rfl (Has.s rfl))) ?_
   refine wo (Spec.assign Has.top) ?_
   refine Walk.nil ?_
   refine Leaf.thenN ?_
   refine CWalk.seq ?_
   refine CWalk.region ?_
   refine wo (Spec.makeFunc (xs := []) (ys := [.tmp 1]) rfl rfl HasF.nil (HasF.cons (Has.s rfl) HasF.nil) (fun _ _ _ => rfl)) ?_
   refine wo (Spec.assign (Has.s rfl)) ?_
   refine Walk.nil ?_
   refine Leaf.thenN ?_
   refine CWalk.ret ?_
   exact Leaf.in1 () hm rfl rfl (HasR.tmp (Has.s rfl)) (ls 902003 (ls 902004 (ls 902005 (Low.slot rfl (HasC.cv (HasC.s (s := 902006) rfl) (Cv.owF (T := [20]) (te := []) rfl)) (Low.res (lf (lg (lf (lm (lo (lo (lo (lo Low.nil)))))))))))))
  ·rintro _ hm
   replace hm : disk_Read_J1 a0 a1 x1 = some r := hm
   unfold disk_Read_J1 at hm
   show Walk _ _ _ [.fact 3 (.isv 14), .fact 4 (.isv 16), .fact 5 (.isv 18), .fact 6 (.ow [20] [] 5 (x1.1 : List UInt8)), .fact 21 (.fnv 69 [] [Fact.isv 21]), .fact 100015 (.at 15 (.rep [] (a1 : Int))), .fact 100017 (.at 17 (.nilv)), .fact 100019 (.at 19 (.rep [] ((0 : Int) : Int))), .fact 100022 (.at 22 (.rep [0] a0.Wait)), .fact 100014 (.obj 14 [(false, 1)]), .fact 100016 (.obj 16 [(false, 1)]), .fact 100018 (.obj 18 [(false, 1)]), .fact 100021 (.obj 21 [(false, 1)])] _
   refine Walk.nil ?_
   refine Leaf.thenN ?_
   refine CWalk.block ?_
   refine CWalk.rangeFunc (cs := [Fact.isv 21]) 23 (fun u1 => [.fact 902003 (.cst (u1 3) (Fact.isv 14)), .fact 902004 (.cst (u1 4) (Fact.isv 16)), .fact 902005 (.cst (u1 5) (Fact.isv 18)), .fact 902006 (.cst (u1 6) (Fact.ow [20] [] 5 (x1.1 : List UInt8))), .fact 902021 (.cst (u1 21) (Fact.fnv 69 [] [Fact.isv 21])), .fact 100015 (.at 15 (.rep [] (a1 : Int))), .fact 100017 (.at 17 (.nilv)), .fact 100019 (.at 19 (.rep [] ((0 : Int) : Int))), .fact 100022 (.at 22 (.rep [0] a0.Wait)), .fact 100014 (.obj 14 [(false, 1)]), .fact 100016 (.obj 16 [(false, 1)]), .fact 100018 (.obj 18 [(false, 1)]), .fact 100021 (.obj 21 [(false, 1)])]) rfl rfl rfl rfl Try.func69 rfl rfl en69 rfl (fun u1 => (cs 902000 3 (cs 902000 4 (cs 902000 5 (cs 902000 6 (cs 902000 21 (ck (ck (ck (ck (ck (ck (ck (ck Carry.nil)))))))))))))) (fun u1 rr1 hrr1 => ?_)
   refine CWalk.seq ?_
   refine CWalk.region ?_
   refine wo (Spec.loadF (i := 0) ty39 rfl (Has.cv (Has.s rfl) (Cv.isvP rfl)) rfl (HasG.s rfl)) ?_
   refine wo (Spec.len (Has.s rfl) Try.underlying39) ?_
   refine wo (Spec.subI (Has.s rfl) Has.int) ?_
   refine wo (Spec.assign (Has.s rfl)) ?_
   refine Walk.nil ?_
   refine Leaf.thenN ?_
   refine CWalk.block ?_
   obtain ⟨b6, hb6, hm⟩ := bind_some hm
   refine CWalk.loop (fun s : Int => [.fact 0 (.yv rr1.l), .fact 1 (.isv 21), .fact 3 (.rep [] (s : Int)), .fact 902003 (.cst (u1 3) (Fact.isv 14)), .fact 902004 (.cst (u1 4) (Fact.isv 16)), .fact 902005 (.cst (u1 5) (Fact.isv 18)), .fact 902006 (.cst (u1 6) (Fact.ow [20] [] 5 (x1.1 : List UInt8))), .fact 902021 (.cst (u1 21) (Fact.fnv 69 [] [Fact.isv 21])), .fact 100022 (.at 22 (.rep [0] a0.Wait)), .fact 100015 (.at 15 (.rep [] (a1 : Int))), .fact 100017 (.at 17 (.nilv)), .fact 100019 (.at 19 (.rep [] ((0 : Int) : Int))), .fact 100021 (.obj 21 [(false, 1)]), .fact 100014 (.obj 14 [(false, 1)]), .fact 100016 (.obj 16 [(false, 1)]), .fact 100018 (.obj 18 [(false, 1)]), .fact 100023 (.rc 23 rr1 .ready none), .fact 100024 (.dm 24 rr1.D)]) (fun b : (Unit) ⊕ ((List UInt8)) => Sum.elim (fun b => (Exit.exit 0, [.fact 902003 (.cst (u1 3) (Fact.isv 14)), .fact 902004 (.cst (u1 4) (Fact.isv 16)), .fact 902005 (.cst (u1 5) (Fact.isv 18)), .fact 902006 (.cst (u1 6) (Fact.ow [20] [] 5 (x1.1 : List UInt8))), .fact 902021 (.cst (u1 21) (Fact.fnv 69 [] [Fact.isv 21])), .fact 100015 (.at 15 (.rep [] (a1 : Int))), .fact 100017 (.at 17 (.nilv)), .fact 100019 (.at 19 (.rep [] ((0 : Int) : Int))), .fact 100022 (.at 22 (.rep [0] a0.Wait)), .fact 100014 (.obj 14 [(false, 1)]), .fact 100016 (.obj 16 [(false, 1)]), .fact 100018 (.obj 18 [(false, 1)]), .fact 100021 (.obj 21 [(false, 1)]), .fact 100023 (.rc 23 rr1 .ready none), .fact 100024 (.dm 24 rr1.D)])) (fun b => (Exit.ret, [.fact 902003 (.cst (u1 3) (Fact.isv 14)), .fact 902004 (.cst (u1 4) (Fact.isv 16)), .fact 902005 (.cst (u1 5) (Fact.isv 18)), .fact 902006 (.cst (u1 6) (Fact.ow [20] [] 5 (x1.1 : List UInt8))), .fact 902021 (.cst (u1 21) (Fact.fnv 69 [] [Fact.isv 21])), .fact 100015 (.at 15 (.rep [] (a1 : Int))), .fact 100017 (.at 17 (.ow [28] [] 5 (b : List UInt8))), .fact 100019 (.at 19 (.rep [] ((0 : Int) : Int))), .fact 100022 (.at 22 (.rep [0] a0.Wait)), .fact 100014 (.obj 14 [(false, 1)]), .fact 100016 (.obj 16 [(false, 1)]), .fact 100018 (.obj 18 [(false, 1)]), .fact 100021 (.obj 21 [(false, 1)]), .fact 100023 (.rc 23 rr1 (.done) (some .ret)), .fact 100024 (.dm 24 rr1.D)])) b) hb6 (sn (sn (st (sc (sc (sc (Sub.cons (Has.cst (HasC.cv (HasC.s (s := 902006) rfl) (Cv.owF (T := [20]) (te := []) rfl))) (sc (sm (sf (sg (sf (sn (sn (sn (sn (sn (sn Sub.nil)))))))))))))))))) ?_ ?_
   ·rintro s2 c3 hm
    replace hm : disk_Read_L2 a0 a1 s2 = some c3 := hm
    unfold disk_Read_L2 at hm
    show CWalk _ [.fact 0 (.yv rr1.l), .fact 1 (.isv 21), .fact 3 (.rep [] (s2 : Int)), .fact 902003 (.cst (u1 3) (Fact.isv 14)), .fact 902004 (.cst (u1 4) (Fact.isv 16)), .fact 902005 (.cst (u1 5) (Fact.isv 18)), .fact 902006 (.cst (u1 6) (Fact.ow [20] [] 5 (x1.1 : List UInt8))), .fact 902021 (.cst (u1 21) (Fact.fnv 69 [] [Fact.isv 21])), .fact 100022 (.at 22 (.rep [0] a0.Wait)), .fact 100015 (.at 15 (.rep [] (a1 : Int))), .fact 100017 (.at 17 (.nilv)), .fact 100019 (.at 19 (.rep [] ((0 : Int) : Int))), .fact 100021 (.obj 21 [(false, 1)]), .fact 100014 (.obj 14 [(false, 1)]), .fact 100016 (.obj 16 [(false, 1)]), .fact 100018 (.obj 18 [(false, 1)]), .fact 100023 (.rc 23 rr1 .ready none), .fact 100024 (.dm 24 rr1.D)] _ _
    refine CWalk.seq ?_
    refine CWalk.seq ?_
    refine CWalk.region ?_
    refine mv ?_
    refine wo (Spec.geqI (Has.s rfl) Has.int) ?_
    refine Walk.nil ?_
    refine Leaf.thenN ?_
    refine CWalk.cond rfl (fun hb => ?_) (fun hb => ?_)
    ·have hm := cond_t hb hm
     refine CWalk.skip ?_
     refine Leaf.thenN ?_
     refine CWalk.seq ?_
     refine CWalk.block ?_
     refine CWalk.seq ?_
     refine CWalk.region ?_
     refine mv ?_
     refine mv ?_
     refine wo (Spec.loadF (i := 0) ty39 rfl (Has.cv (Has.s rfl) (Cv.isvP rfl)) rfl (HasG.s rfl)) ?_
     refine mv ?_
     obtain ⟨x4, hx4, hm⟩ := bind_some hm
     refine wo (Spec.indexAddr hx4 sl39 (Has.s rfl) (Has.s rfl)) ?_
     refine wo (Spec.load ty58 (Has.s rfl)) ?_
     refine Walk.yieldH (t := 23) (fs := [Fact.rep [] (s2 : Int), Fact.rep [0] (x4 : Write)]) (fun u2 => [.fact 904000 (.cst (u2 0) (Fact.yv rr1.l)), .fact 904001 (.cst (u2 1) (Fact.isv 21)), .fact 904003 (.cst (u2 3) (Fact.rep [] (s2 : Int))), .fact 100015 (.at 15 (.rep [] (a1 : Int))), .fact 100017 (.at 17 (.nilv)), .fact 100019 (.at 19 (.rep [] ((0 : Int) : Int))), .fact 100022 (.at 22 (.rep [0] a0.Wait)), .fact 902003 (.cst (u1 3) (Fact.isv 14)), .fact 902004 (.cst (u1 4) (Fact.isv 16)), .fact 902005 (.cst (u1 5) (Fact.isv 18)), .fact 902006 (.cst (u1 6) (Fact.ow [20] [] 5 (x1.1 : List UInt8))), .fact 902021 (.cst (u1 21) (Fact.fnv 69 [] [Fact.isv 21])), .fact 3 (.isv 14), .fact 4 (.isv 16), .fact 5 (.isv 18), .fact 6 (.ow [20] [] 5 (x1.1 : List UInt8)), .fact 21 (.fnv 69 [] [Fact.isv 21]), .fact 100014 (.obj 14 [(false, 1)]), .fact 100016 (.obj 16 [(false, 1)]), .fact 100018 (.obj 18 [(false, 1)]), .fact 100021 (.obj 21 [(false, 1)]), .fact 100023 (.rc 23 rr1 .ready none), .fact 100024 (.dm 24 rr1.D)]) hrr1 rfl rfl (Has.s rfl) rfl rfl (HasF.cons (Has.s rfl) (HasF.cons (Has.s rfl) HasF.nil)) rfl rfl (fun u2 => (Carry2.slot 904000 0 (Carry2.slot 904000 1 (Carry2.slot 904000 3 (Carry2.keep (Carry2.keep (Carry2.keep (Carry2.keep (Carry2.keep (Carry2.keep (Carry2.keep (Carry2.keep (Carry2.keep (Carry2.low 902003 3 (Carry2.low 902004 4 (Carry2.low 902005 5 (Carry2.low 902006 6 (Carry2.low 902021 21 (Carry2.keep (Carry2.keep (Carry2.keep (Carry2.keep (Carry2.keep (Carry2.keep Carry2.nil)))))))))))))))))))))))) (fun u2 => ?_)
     refine CWalk.region ?_
     refine ws (Step.allocObj (ls := [(false, 1, Fact.rep [] ((0 : Int) : Int)), (false, 1, Fact.nilv)]) 25 rfl rfl rfl rfl zl58) ?_
     refine ws (Step.storeObj (ls := [(false, 1, Fact.rep [] x4.At), (false, 1, Fact.rep [0] x4.Data)]) rfl ty58 rfl rfl (Has.s rfl) rfl (HasL.flds (Has.cv (Has.s rfl) (Cv.trans (Cv.opens (chWrite x4)) (Cv.flds (CvL.cons Cv.fl (CvL.cons Cv.refl CvL.nil)))))) rfl) ?_
     refine Walk.nil ?_
     refine Leaf.begin (t := 23) rfl rfl ?_
     refine CWalk.block ?_
     refine CWalk.seq ?_
     refine CWalk.region ?_
     refine wo (Spec.fieldAddrO fd58_0 (Has.cv (Has.s rfl) (Cv.isvP rfl))) ?_
     refine wo (Spec.loadF (i := 0) ty3 rfl (Has.s rfl) rfl (HasG.s rfl)) ?_
     refine wo (Spec.loadF (i := 0) ty3 rfl (Has.cv (Has.s rfl) (Cv.isvP rfl)) rfl (HasG.s rfl)) ?_
     refine wo (Spec.eqlI (Has.s rfl) (Has.s rfl)) ?_
     refine Walk.nil ?_
     refine Leaf.thenN ?_
     refine CWalk.cond rfl (fun hb => ?_) (fun hb => ?_)
     ·have hm := cond_t hb hm
      refine CWalk.seq ?_
      refine CWalk.region ?_
      refine wo (Spec.fieldAddrO fd58_1 (Has.cv (Has.s rfl) (Cv.isvP rfl))) ?_
      refine wo (Spec.loadF (i := 1) ty54 rfl (Has.s rfl) rfl (HasG.s rfl)) ?_
      obtain ⟨x5, hx5, hm⟩ := bind_some hm
      refine wo (f := Fact.ow [28] [] 5 (x5 : List UInt8)) (Spec.callE [0] 28 rfl en51 (disk_block_c x4.Data hx5) (HasAll.cons (Has.m (Has.s rfl) rfl) HasAll.nil)) ?_
      refine ws (Step.storeF (i := 0) (f := Fact.ow [28] [] 5 (x5 : List UInt8)) rfl ty54 rfl (Has.cv (Has.s rfl) (Cv.isvP rfl)) rfl (Has.cv (Has.s rfl) (Cv.trans Cv.owSl (Cv.slRep (T' := [28]) rfl rfl))) (Has.s rfl) rfl) ?_
      refine ws (Step.storeF (i := 0) (f := Fact.rep [] ((0 : Int) : Int)) rfl ty26 rfl (Has.cv (Has.s rfl) (Cv.isvP rfl)) rfl Has.int Has.int rfl) ?_
      refine Walk.nil ?_
      refine Leaf.thenN ?_
      refine CWalk.ret ?_
      refine Leaf.blockR ?_
      refine Leaf.rdR (t := 23) (J := [.fact 17 (.rep [] (false : Bool)), .fact 100015 (.at 15 (.rep [] (a1 : Int))), .fact 100017 (.at 17 (.ow [28] [] 5 (x5 : List UInt8))), .fact 100019 (.at 19 (.rep [] ((0 : Int) : Int))), .fact 100022 (.at 22 (.rep [0] a0.Wait)), .fact 100026 (.at 26 (.rep [] x4.At)), .fact 100027 (.at 27 (.rep [0] x4.Data)), .fact 902003 (.cst (u1 3) (Fact.isv 14)), .fact 902004 (.cst (u1 4) (Fact.isv 16)), .fact 902005 (.cst (u1 5) (Fact.isv 18)), .fact 902006 (.cst (u1 6) (Fact.ow [20] [] 5 (x1.1 : List UInt8))), .fact 902021 (.cst (u1 21) (Fact.fnv 69 [] [Fact.isv 21])), .fact 0 (.yv rr1.l), .fact 1 (.isv 21), .fact 3 (.rep [] (s2 : Int)), .fact 100014 (.obj 14 [(false, 1)]), .fact 100016 (.obj 16 [(false, 1)]), .fact 100018 (.obj 18 [(false, 1)]), .fact 100021 (.obj 21 [(false, 1)]), .fact 100024 (.dm 24 rr1.D), .fact 100025 (.obj 25 [(false, 1), (false, 1)])]) rfl rfl rfl (Low.res (lg (lg (lg (lg (lg (lg (lc (lc (lc (lc (lc (ls 904000 (ls 904001 (ls 904003 (lo (lo (lo (lo (lk (lo Low.nil))))))))))))))))))))) ?_
      refine wo (Spec.not (Has.s rfl)) ?_
      refine Walk.nil ?_
      refine Leaf.thenN ?_
      refine CWalk.cond rfl (fun hb => ?_) (fun hb => ?_)
      ·skip
       refine CWalk.ret ?_
       refine Leaf.blockR ?_
       refine Leaf.thenR ?_
       exact Leaf.brk hm (fun h => nomatch h) rfl (sc (sc (sc (Sub.cons (Has.cst (HasC.cv (HasC.s (s := 902006) rfl) (Cv.owF (T := [20]) (te := []) rfl))) (sc (sf (Sub.cons (Has.at (HasG.cv (HasG.s rfl) (Cv.owF (T := [28]) (te := []) rfl))) (sf (sm (sn (sn (sn (sn (sn (sn Sub.nil)))))))))))))))
      ·exact absurd hb (by decide)
     ·have hm := cond_f hb hm
      refine CWalk.skip ?_
      refine Leaf.blockN ?_
      refine Leaf.rdN (t := 23) (J := [.fact 17 (.rep [] (true : Bool)), .fact 100015 (.at 15 (.rep [] (a1 : Int))), .fact 100017 (.at 17 (.nilv)), .fact 100019 (.at 19 (.rep [] ((0 : Int) : Int))), .fact 100022 (.at 22 (.rep [0] a0.Wait)), .fact 100026 (.at 26 (.rep [] x4.At)), .fact 100027 (.at 27 (.rep [0] x4.Data)), .fact 902003 (.cst (u1 3) (Fact.isv 14)), .fact 902004 (.cst (u1 4) (Fact.isv 16)), .fact 902005 (.cst (u1 5) (Fact.isv 18)), .fact 902006 (.cst (u1 6) (Fact.ow [20] [] 5 (x1.1 : List UInt8))), .fact 902021 (.cst (u1 21) (Fact.fnv 69 [] [Fact.isv 21])), .fact 0 (.yv rr1.l), .fact 1 (.isv 21), .fact 3 (.rep [] (s2 : Int)), .fact 100014 (.obj 14 [(false, 1)]), .fact 100016 (.obj 16 [(false, 1)]), .fact 100018 (.obj 18 [(false, 1)]), .fact 100021 (.obj 21 [(false, 1)]), .fact 100024 (.dm 24 rr1.D), .fact 100025 (.obj 25 [(false, 1), (false, 1)])]) rfl rfl rfl (Low.res (lg (lg (lg (lg (lg (lg (lc (lc (lc (lc (lc (ls 904000 (ls 904001 (ls 904003 (lo (lo (lo (lo (lk (lo Low.nil))))))))))))))))))))) ?_
      refine wo (Spec.not (Has.s rfl)) ?_
      refine Walk.nil ?_
      refine Leaf.thenN ?_
      refine CWalk.cond rfl (fun hb => ?_) (fun hb => ?_)
      ·exact absurd hb (by decide)
      ·skip
       refine CWalk.skip ?_
       refine Leaf.blockN ?_
       refine Leaf.thenN ?_
       refine CWalk.region ?_
       refine mv ?_
       refine wo (Spec.subI (Has.s rfl) Has.int) ?_
       refine wo (Spec.assign (Has.s rfl)) ?_
       refine Walk.nil ?_
       exact Leaf.next hm (sn (sn (st (sc (sc (sc (Sub.cons (Has.cst (HasC.cv (HasC.s (s := 902006) rfl) (Cv.owF (T := [20]) (te := []) rfl))) (sc (sm (sf (sg (sf (sn (sn (sn (sn (sn (sn Sub.nil))))))))))))))))))
    ·have hm := cond_f hb hm
     refine CWalk.exit ?_
     refine Leaf.thenE ?_
     exact Leaf.brk hm (fun h => nomatch h) rfl (sc (sc (sc (Sub.cons (Has.cst (HasC.cv (HasC.s (s := 902006) rfl) (Cv.owF (T := [20]) (te := []) rfl))) (sc (sf (sg (sf (sm (sn (sn (sn (sn (sn (sn Sub.nil)))))))))))))))
   ·intro _
    rcases b6 with b7 | b8
    ·have hm := selim_l hm
     refine Leaf.blockE ?_
     refine Leaf.rfe ?_
     refine Leaf.rfN (t := 23) (st := .ready) (J := [.fact 100015 (.at 15 (.rep [] (a1 : Int))), .fact 100017 (.at 17 (.nilv)), .fact 100019 (.at 19 (.rep [] ((0 : Int) : Int))), .fact 100022 (.at 22 (.rep [0] a0.Wait)), .fact 3 (.isv 14), .fact 4 (.isv 16), .fact 5 (.isv 18), .fact 6 (.ow [20] [] 5 (x1.1 : List UInt8)), .fact 21 (.fnv 69 [] [Fact.isv 21]), .fact 100014 (.obj 14 [(false, 1)]), .fact 100016 (.obj 16 [(false, 1)]), .fact 100018 (.obj 18 [(false, 1)]), .fact 100021 (.obj 21 [(false, 1)]), .fact 100024 (.dm 24 rr1.D)]) rfl rfl rfl (fun h => nomatch h) (lg (lg (lg (lg (ls 902003 (ls 902004 (ls 902005 (ls 902006 (ls 902021 (lo (lo (lo (lo (lk Low.nil)))))))))))))) ?_
     refine Leaf.blockN ?_
     refine Leaf.thenN ?_
     refine CWalk.seq ?_
     refine CWalk.region ?_
     refine mv ?_
     refine ws (Step.storeF (i := 0) (f := Fact.ow [20] [] 5 (x1.1 : List UInt8)) rfl ty54 rfl (Has.cv (Has.s rfl) (Cv.isvP rfl)) rfl (Has.cv (Has.s rfl) (Cv.trans Cv.owSl (Cv.slRep (T' := [20]) rfl rfl))) (Has.s rfl) rfl) ?_
     refine ws (Step.storeF (i := 0) (f := Fact.rep [] ((0 : Int) : Int)) rfl ty26 rfl (Has.cv (Has.s rfl) (Cv.isvP rfl)) rfl Has.int Has.int rfl) ?_
     refine Walk.nil ?_
     refine Leaf.thenN ?_
     refine CWalk.ret ?_
     obtain rfl := Option.some.inj hm
     exact Leaf.unmark (t := 24) rfl rfl (Leaf.retC2 rfl (HasR.cv (HasR.cell1 ty54 rfl (Has.s rfl) rfl (HasG.s rfl)) (Cv.owF (T := [20]) (te := []) rfl)) (HasR.cv (HasR.cell1 ty26 rfl (Has.s rfl) rfl (HasG.s rfl)) Cv.fl))
    ·have hm := selim_r hm
     refine Leaf.blockR ?_
     refine Leaf.rfJ (t := 23) (st := (.done)) (J := [.fact 100015 (.at 15 (.rep [] (a1 : Int))), .fact 100017 (.at 17 (.ow [28] [] 5 (b8 : List UInt8))), .fact 100019 (.at 19 (.rep [] ((0 : Int) : Int))), .fact 100022 (.at 22 (.rep [0] a0.Wait)), .fact 3 (.isv 14), .fact 4 (.isv 16), .fact 5 (.isv 18), .fact 6 (.ow [20] [] 5 (x1.1 : List UInt8)), .fact 21 (.fnv 69 [] [Fact.isv 21]), .fact 100014 (.obj 14 [(false, 1)]), .fact 100016 (.obj 16 [(false, 1)]), .fact 100018 (.obj 18 [(false, 1)]), .fact 100021 (.obj 21 [(false, 1)]), .fact 100024 (.dm 24 rr1.D)]) rfl rfl rfl (fun h => nomatch h) (lg (lg (lg (lg (ls 902003 (ls 902004 (ls 902005 (ls 902006 (ls 902021 (lo (lo (lo (lo (lk Low.nil)))))))))))))) ?_
     refine CWalk.ret ?_
     refine Leaf.blockR ?_
     refine Leaf.thenR ?_
     obtain rfl := Option.some.inj hm
     exact Leaf.unmark (t := 24) rfl rfl (Leaf.retC2 rfl (HasR.cv (HasR.cell1 ty54 rfl (Has.s rfl) rfl (HasG.s rfl)) (Cv.owF (T := [28]) (te := []) rfl)) (HasR.cv (HasR.cell1 ty26 rfl (Has.s rfl) rfl (HasG.s rfl)) Cv.fl))

def law05_ActsAll_L1 (x2 : Int × Int) (s5 : Int) (s6 : List Bool) : Option (Ctl (Int × (List Bool)) ((List Bool))) :=
  (bif (decide (s5 < x2.1)) then Option.bind (bnd (s6).length s5) (fun x8 => some (Ctl.next ((wI (s5 + (1 : Int))), (s6).set x8 true))) else some (Ctl.brk s6))
/-- freeboard/freeboardlaw05.ActsAll -/
def law05_ActsAll (a0 : List Disk) (a1 : Int) (a2 : Int) : Option (Bool) :=
  Option.bind (law05_alive) (fun x1 => Option.bind (acts_Waits a0) (fun x2 => Option.bind (ref05_Great a0) (fun x3 => (bif ((((x3 || (x2.2 != (0 : Int))) || (decide (a1 < (0 : Int)))) || (decide (a1 ≥ ((a0).length : Int)))) || (!x1)) then some x1 else Option.bind (makeL false x2.1) (fun x4 => Option.bind (loopM (fun s : Int × (List Bool) => law05_ActsAll_L1 x2 s.1 s.2) FUEL ((0 : Int), x4)) (fun b9 => Option.bind (acts_Crash a0 b9) (fun x10 => Option.bind (acts_Crash a0 ([] : List Bool)) (fun x11 => (bif ((((x10.2 != (0 : Int)) || (x11.2 != (0 : Int))) || (((x10.1).length : Int) != ((a0).length : Int))) || (((x11.1).length : Int) != ((a0).length : Int))) then some false else Option.bind (idx a0 a1) (fun x12 => Option.bind (disk_Read x12 a2) (fun x13 => Option.bind (idx x10.1 a1) (fun x14 => Option.bind (disk_Lasting x14 a2) (fun x15 => Option.bind (idx a0 a1) (fun x16 => Option.bind (disk_Lasting x16 a2) (fun x17 => Option.bind (idx x11.1 a1) (fun x18 => Option.bind (disk_Lasting x18 a2) (fun x19 => some ((((x13.2 == x15.2) && (x17.2 == x19.2)) && ((Str.mk x13.1).s == (Str.mk x15.1).s)) && ((Str.mk x17.1).s == (Str.mk x19.1).s)))))))))))))))))))
set_option maxRecDepth 100000 in
set_option maxHeartbeats 2000000 in
theorem law05_ActsAll_c (a0 : List Disk) (a1 : Int) (a2 : Int) {r : Bool} (hm : law05_ActsAll a0 a1 a2 = some r) : Ctr Try.prog 8 [.rep 0 a0, .rep 0 a1, .rep 0 a2] (.fl r) [] := by
 refine ctr_of_walk [[]] 150 Try.func8 rfl rfl rfl rfl (fun w0 om => ?_)
 unfold law05_ActsAll at hm
 refine CWalk.sub (G' := [.fact 0 (.rep [0] (a0 : List Disk)), .fact 1 (.rep [] (a1 : Int)), .fact 2 (.rep [] (a2 : Int))]) (sn (Sub.cons (Has.fl (Has.s rfl)) (Sub.cons (Has.fl (Has.s rfl)) Sub.nil))) ?_
 refine CWalk.seq ?_
 refine CWalk.region ?_
 refine wo (Spec.assign Has.bool) ?_
 refine Walk.nil ?_
 refine Leaf.thenN ?_
 refine CWalk.seq ?_
 refine CWalk.region ?_
 obtain ⟨x1, hx1, hm⟩ := bind_some hm
 refine wo (f := Fact.rep [] (x1 : Bool)) (Spec.callE [] 10 rfl en26 (law05_alive_c  hx1) HasAll.nil) ?_
 refine wo (Spec.assign (Has.s rfl)) ?_
 refine Walk.nil ?_
 refine Leaf.thenN ?_
 refine CWalk.seq ?_
 refine CWalk.region ?_
 refine mv ?_
 obtain ⟨x2, hx2, hm⟩ := bind_some hm
 refine wo (f := Fact.tup2 (Fact.rep [] x2.1) (Fact.rep [] x2.2)) (Spec.callE [0] 11 rfl en13 (acts_Waits_c a0 hx2) (HasAll.cons (Has.m (Has.s rfl) rfl) HasAll.nil)) ?_
 refine mv ?_
 refine wo (Spec.ext0 (Has.s rfl)) ?_
 refine wo (Spec.ext1 (Has.s rfl)) ?_
 refine wo (Spec.assign (Has.s rfl)) ?_
 refine wo (Spec.assign (Has.s rfl)) ?_
 refine Walk.nil ?_
 refine Leaf.thenN ?_
 refine CWalk.seq ?_
 refine CWalk.seq ?_
 refine CWalk.region ?_
 refine mv ?_
 obtain ⟨x3, hx3, hm⟩ := bind_some hm
 refine wo (f := Fact.rep [] (x3 : Bool)) (Spec.callE [0] 12 rfl en9 (ref05_Great_c a0 hx3) (HasAll.cons (Has.m (Has.s rfl) rfl) HasAll.nil)) ?_
 refine mv ?_
 refine wg rfl rfl (fun hb => Spec.move (Has.s rfl)) ?_
 refine wg rfl rfl (fun hb => Spec.neqI (Has.u rfl hb) Has.int) ?_
 refine wo (Spec.or (Has.s rfl) (fun h => Has.u rfl h)) ?_
 refine mv ?_
 refine wg rfl rfl (fun hb => Spec.move (Has.s rfl)) ?_
 refine wg rfl rfl (fun hb => Spec.lssI (Has.u rfl hb) Has.int) ?_
 refine wo (Spec.or (Has.s rfl) (fun h => Has.u rfl h)) ?_
 refine mv ?_
 refine wg rfl rfl (fun hb => Spec.move (Has.s rfl)) ?_
 refine wg rfl rfl (fun hb => Spec.move (Has.s rfl)) ?_
 refine wg rfl rfl (fun hb => Spec.len (Has.u rfl hb) Try.underlying22) ?_
 refine wg rfl rfl (fun hb => Spec.geqI (Has.u rfl hb) (Has.u rfl hb)) ?_
 refine wo (Spec.or (Has.s rfl) (fun h => Has.u rfl h)) ?_
 refine mv ?_
 refine wg rfl rfl (fun hb => Spec.move (Has.s rfl)) ?_
 refine wg rfl rfl (fun hb => Spec.not (Has.u rfl hb)) ?_
 refine wo (Spec.or (Has.s rfl) (fun h => Has.u rfl h)) ?_
 refine Walk.nil ?_
 refine Leaf.thenN ?_
 refine CWalk.cond rfl (fun hb => ?_) (fun hb => ?_)
 ·have hm := cond_t hb hm
  refine CWalk.seq ?_
  refine CWalk.region ?_
  refine mv ?_
  refine wo (Spec.assign (Has.s rfl)) ?_
  refine Walk.nil ?_
  refine Leaf.thenN ?_
  refine CWalk.ret ?_
  refine Leaf.thenR ?_
  obtain rfl := Option.some.inj hm
  exact Leaf.retC1 rfl (HasR.cv (HasR.tmp (Has.s rfl)) Cv.fl)
 ·have hm := cond_f hb hm
  refine CWalk.skip ?_
  refine Leaf.thenN ?_
  refine CWalk.seq ?_
  refine CWalk.region ?_
  refine mv ?_
  obtain ⟨x4, hx4, hm⟩ := bind_some hm
  refine ws (Step.makeOwn 13 hx4 rfl rfl ow23 zt4 (Has.s rfl)) ?_
  refine wo (Spec.assign (Has.s rfl)) ?_
  refine Walk.nil ?_
  refine Leaf.thenN ?_
  refine CWalk.seq ?_
  refine CWalk.seq ?_
  refine CWalk.region ?_
  refine wo (Spec.assign Has.int) ?_
  refine Walk.nil ?_
  refine Leaf.thenN ?_
  refine CWalk.block ?_
  obtain ⟨b9, hb9, hm⟩ := bind_some hm
  refine CWalk.loop (fun s : Int × (List Bool) => [.fact 0 (.rep [0] (a0 : List Disk)), .fact 1 (.rep [] (a1 : Int)), .fact 2 (.rep [] (a2 : Int)), .fact 8 (.rep [] x2.1), .fact 10 (.isv 13), .fact 11 (.rep [] s.1), .fact 100013 (.own 13 [] 4 (s.2 : List Bool))]) (fun b : (List Bool) => (Exit.exit 0, [.fact 0 (.rep [0] (a0 : List Disk)), .fact 1 (.rep [] (a1 : Int)), .fact 2 (.rep [] (a2 : Int)), .fact 10 (.isv 13), .fact 100013 (.own 13 [] 4 (b : List Bool))])) hb9 (su (st (st (st (sn (st (Sub.cons (Has.ownM (Has.s rfl) rfl) Sub.nil))))))) ?_ ?_
  ·rintro ⟨s5, s6⟩ c7 hm
   replace hm : law05_ActsAll_L1 x2 s5 s6 = some c7 := hm
   unfold law05_ActsAll_L1 at hm
   show CWalk _ [.fact 0 (.rep [0] (a0 : List Disk)), .fact 1 (.rep [] (a1 : Int)), .fact 2 (.rep [] (a2 : Int)), .fact 8 (.rep [] x2.1), .fact 10 (.isv 13), .fact 11 (.rep [] (s5 : Int)), .fact 100013 (.own 13 [] 4 (s6 : List Bool))] _ _
   refine CWalk.seq ?_
   refine CWalk.seq ?_
   refine CWalk.region ?_
   refine mv ?_
   refine mv ?_
   refine wo (Spec.lssI (Has.s rfl) (Has.s rfl)) ?_
   refine Walk.nil ?_
   refine Leaf.thenN ?_
   refine CWalk.cond rfl (fun hb => ?_) (fun hb => ?_)
   ·have hm := cond_t hb hm
    refine CWalk.skip ?_
    refine Leaf.thenN ?_
    refine CWalk.seq ?_
    refine CWalk.block ?_
    refine CWalk.region ?_
    refine mv ?_
    refine mv ?_
    obtain ⟨x8, hx8, hm⟩ := bind_some hm
    refine wo (Spec.idxOwn hx8 ow23 (Has.s rfl) rfl (Has.s rfl)) ?_
    refine ws (Step.storeOwn (te' := []) rfl (bnd_lt hx8 rfl) ty4 (Has.s rfl) rfl Has.bool ElKeep.flat ElKeep.flat) ?_
    refine Walk.nil ?_
    refine Leaf.blockN ?_
    refine Leaf.thenN ?_
    refine CWalk.region ?_
    refine mv ?_
    refine wo (Spec.addI (Has.s rfl) Has.int) ?_
    refine wo (Spec.assign (Has.s rfl)) ?_
    refine Walk.nil ?_
    exact Leaf.next hm (su (st (st (st (sn (st (Sub.cons (Has.ownM (Has.s rfl) rfl) Sub.nil)))))))
   ·have hm := cond_f hb hm
    refine CWalk.exit ?_
    refine Leaf.thenE ?_
    exact Leaf.brk hm (fun h => nomatch h) rfl (su (st (st (sn (Sub.cons (Has.ownM (Has.s rfl) rfl) Sub.nil)))))
  ·intro _
   refine Leaf.blockE ?_
   refine Leaf.thenN ?_
   refine CWalk.seq ?_
   refine CWalk.region ?_
   refine mv ?_
   refine mv ?_
   obtain ⟨x10, hx10, hm⟩ := bind_some hm
   refine wo (f := Fact.tup2 (Fact.ow [14] [15] 41 (x10.1 : List Disk)) (Fact.rep [] x10.2)) (Spec.callE [0, 13] 14 rfl en11 (acts_Crash_c a0 b9 hx10) (HasAll.cons (Has.m (Has.s rfl) rfl) (HasAll.cons (Has.m (Has.cv (Has.s rfl) (Cv.own rfl)) rfl) HasAll.nil))) ?_
   refine mv ?_
   refine wo (Spec.ext0 (Has.s rfl)) ?_
   refine wo (Spec.ext1 (Has.s rfl)) ?_
   refine wo (Spec.assign (Has.s rfl)) ?_
   refine wo (Spec.assign (Has.s rfl)) ?_
   refine Walk.nil ?_
   refine Leaf.thenN ?_
   refine CWalk.seq ?_
   refine CWalk.region ?_
   refine mv ?_
   obtain ⟨x11, hx11, hm⟩ := bind_some hm
   refine wo (f := Fact.tup2 (Fact.ow [16] [17] 41 (x11.1 : List Disk)) (Fact.rep [] x11.2)) (Spec.callE [0] 16 rfl en11 (acts_Crash_c a0 ([] : List Bool) hx11) (HasAll.cons (Has.m (Has.s rfl) rfl) (HasAll.cons (Has.m (Has.nil Bool) rfl) HasAll.nil))) ?_
   refine mv ?_
   refine wo (Spec.ext0 (Has.s rfl)) ?_
   refine wo (Spec.ext1 (Has.s rfl)) ?_
   refine wo (Spec.assign (Has.s rfl)) ?_
   refine wo (Spec.assign (Has.s rfl)) ?_
   refine Walk.nil ?_
   refine Leaf.thenN ?_
   refine CWalk.seq ?_
   refine CWalk.seq ?_
   refine CWalk.region ?_
   refine mv ?_
   refine wo (Spec.neqI (Has.s rfl) Has.int) ?_
   refine mv ?_
   refine wg rfl rfl (fun hb => Spec.move (Has.s rfl)) ?_
   refine wg rfl rfl (fun hb => Spec.neqI (Has.u rfl hb) Has.int) ?_
   refine wo (Spec.or (Has.s rfl) (fun h => Has.u rfl h)) ?_
   refine mv ?_
   refine wg rfl rfl (fun hb => Spec.move (Has.s rfl)) ?_
   refine wg rfl rfl (fun hb => Spec.len (Has.cv (Has.u rfl hb) (Cv.trans Cv.owSl (Cv.slRep (T' := [14, 15]) rfl rfl))) Try.underlying22) ?_
   refine wg rfl rfl (fun hb => Spec.move (Has.s rfl)) ?_
   refine wg rfl rfl (fun hb => Spec.len (Has.u rfl hb) Try.underlying22) ?_
   refine wg rfl rfl (fun hb => Spec.neqI (Has.u rfl hb) (Has.u rfl hb)) ?_
   refine wo (Spec.or (Has.s rfl) (fun h => Has.u rfl h)) ?_
   refine mv ?_
   refine wg rfl rfl (fun hb => Spec.move (Has.s rfl)) ?_
   refine wg rfl rfl (fun hb => Spec.len (Has.cv (Has.u rfl hb) (Cv.trans Cv.owSl (Cv.slRep (T' := [16, 17]) rfl rfl))) Try.underlying22) ?_
   refine wg rfl rfl (fun hb => Spec.move (Has.s rfl)) ?_
   refine wg rfl rfl (fun hb => Spec.len (Has.u rfl hb) Try.underlying22) ?_
   refine wg rfl rfl (fun hb => Spec.neqI (Has.u rfl hb) (Has.u rfl hb)) ?_
   refine wo (Spec.or (Has.s rfl) (fun h => Has.u rfl h)) ?_
   refine Walk.nil ?_
   refine Leaf.thenN ?_
   refine CWalk.cond rfl (fun hb => ?_) (fun hb => ?_)
   ·have hm := cond_t hb hm
    refine CWalk.seq ?_
    refine CWalk.region ?_
    refine wo (Spec.assign Has.bool) ?_
    refine Walk.nil ?_
    refine Leaf.thenN ?_
    refine CWalk.ret ?_
    refine Leaf.thenR ?_
    obtain rfl := Option.some.inj hm
    exact Leaf.retC1 rfl (HasR.cv (HasR.tmp (Has.s rfl)) Cv.fl)
   ·have hm := cond_f hb hm
    refine CWalk.skip ?_
    refine Leaf.thenN ?_
    refine CWalk.seq ?_
    refine CWalk.region ?_
    refine mv ?_
    refine mv ?_
    obtain ⟨x12, hx12, hm⟩ := bind_some hm
    refine wo (Spec.indexAddr hx12 sl22 (Has.s rfl) (Has.s rfl)) ?_
    refine wo (Spec.load ty41 (Has.s rfl)) ?_
    refine mv ?_
    obtain ⟨x13, hx13, hm⟩ := bind_some hm
    refine wo (f := Fact.tup2 (Fact.ow [18] [] 5 (x13.1 : List UInt8)) (Fact.rep [] x13.2)) (Spec.callE [0] 18 rfl en32 (disk_Read_c x12 a2 hx13) (HasAll.cons (Has.m (Has.s rfl) rfl) (HasAll.cons (Has.fl (Has.s rfl)) HasAll.nil))) ?_
    refine mv ?_
    refine wo (Spec.ext0 (Has.s rfl)) ?_
    refine wo (Spec.ext1 (Has.s rfl)) ?_
    refine wo (Spec.assign (Has.s rfl)) ?_
    refine wo (Spec.assign (Has.s rfl)) ?_
    refine Walk.nil ?_
    refine Leaf.thenN ?_
    refine CWalk.seq ?_
    refine CWalk.region ?_
    refine mv ?_
    refine mv ?_
    obtain ⟨x14, hx14, hm⟩ := bind_some hm
    refine wo (Spec.indexSl hx14 sl22 (Has.cv (Has.s rfl) Cv.owSl) (Has.s rfl)) ?_
    refine wo (Spec.loadS ty41 (Has.s rfl)) ?_
    refine mv ?_
    obtain ⟨x15, hx15, hm⟩ := bind_some hm
    refine wo (f := Fact.tup2 (Fact.ow [19] [] 5 (x15.1 : List UInt8)) (Fact.rep [] x15.2)) (Spec.callE [15] 19 rfl en27 (disk_Lasting_c x14 a2 hx15) (HasAll.cons (Has.m (Has.s rfl) rfl) (HasAll.cons (Has.fl (Has.s rfl)) HasAll.nil))) ?_
    refine mv ?_
    refine wo (Spec.ext0 (Has.s rfl)) ?_
    refine wo (Spec.ext1 (Has.s rfl)) ?_
    refine wo (Spec.assign (Has.s rfl)) ?_
    refine wo (Spec.assign (Has.s rfl)) ?_
    refine Walk.nil ?_
    refine Leaf.thenN ?_
    refine CWalk.seq ?_
    refine CWalk.region ?_
    refine mv ?_
    refine mv ?_
    obtain ⟨x16, hx16, hm⟩ := bind_some hm
    refine wo (Spec.indexAddr hx16 sl22 (Has.s rfl) (Has.s rfl)) ?_
    refine wo (Spec.load ty41 (Has.s rfl)) ?_
    refine mv ?_
    obtain ⟨x17, hx17, hm⟩ := bind_some hm
    refine wo (f := Fact.tup2 (Fact.ow [20] [] 5 (x17.1 : List UInt8)) (Fact.rep [] x17.2)) (Spec.callE [0] 20 rfl en27 (disk_Lasting_c x16 a2 hx17) (HasAll.cons (Has.m (Has.s rfl) rfl) (HasAll.cons (Has.fl (Has.s rfl)) HasAll.nil))) ?_
    refine mv ?_
    refine wo (Spec.ext0 (Has.s rfl)) ?_
    refine wo (Spec.ext1 (Has.s rfl)) ?_
    refine wo (Spec.assign (Has.s rfl)) ?_
    refine wo (Spec.assign (Has.s rfl)) ?_
    refine Walk.nil ?_
    refine Leaf.thenN ?_
    refine CWalk.seq ?_
    refine CWalk.region ?_
    refine mv ?_
    refine mv ?_
    obtain ⟨x18, hx18, hm⟩ := bind_some hm
    refine wo (Spec.indexSl hx18 sl22 (Has.cv (Has.s rfl) Cv.owSl) (Has.s rfl)) ?_
    refine wo (Spec.loadS ty41 (Has.s rfl)) ?_
    refine mv ?_
    obtain ⟨x19, hx19, hm⟩ := bind_some hm
    refine wo (f := Fact.tup2 (Fact.ow [21] [] 5 (x19.1 : List UInt8)) (Fact.rep [] x19.2)) (Spec.callE [17] 21 rfl en27 (disk_Lasting_c x18 a2 hx19) (HasAll.cons (Has.m (Has.s rfl) rfl) (HasAll.cons (Has.fl (Has.s rfl)) HasAll.nil))) ?_
    refine mv ?_
    refine wo (Spec.ext0 (Has.s rfl)) ?_
    refine wo (Spec.ext1 (Has.s rfl)) ?_
    refine wo (Spec.assign (Has.s rfl)) ?_
    refine wo (Spec.assign (Has.s rfl)) ?_
    refine Walk.nil ?_
    refine Leaf.thenN ?_
    refine CWalk.seq ?_
    refine CWalk.region ?_
    refine mv ?_
    refine mv ?_
    refine wo (Spec.eqlI (Has.s rfl) (Has.s rfl)) ?_
    refine mv ?_
    refine wg rfl rfl (fun hb => Spec.move (Has.s rfl)) ?_
    refine wg rfl rfl (fun hb => Spec.move (Has.s rfl)) ?_
    refine wg rfl rfl (fun hb => Spec.eqlI (Has.u rfl hb) (Has.u rfl hb)) ?_
    refine wo (Spec.and (Has.s rfl) (fun h => Has.u rfl h)) ?_
    refine mv ?_
    refine wg rfl rfl (fun hb => Spec.move (Has.s rfl)) ?_
    refine wg rfl rfl (fun hb => Spec.toStr Try.underlying54 Try.underlying5 Try.underlying9 (Has.cv (Has.u rfl hb) (Cv.trans Cv.owSl (Cv.slRep (T' := [18]) rfl rfl)))) ?_
    refine wg rfl rfl (fun hb => Spec.move (Has.s rfl)) ?_
    refine wg rfl rfl (fun hb => Spec.toStr Try.underlying54 Try.underlying5 Try.underlying9 (Has.cv (Has.u rfl hb) (Cv.trans Cv.owSl (Cv.slRep (T' := [19]) rfl rfl)))) ?_
    refine wg rfl rfl (fun hb => Spec.eqlS (Has.u rfl hb) (Has.u rfl hb)) ?_
    refine wo (Spec.and (Has.s rfl) (fun h => Has.u rfl h)) ?_
    refine mv ?_
    refine wg rfl rfl (fun hb => Spec.move (Has.s rfl)) ?_
    refine wg rfl rfl (fun hb => Spec.toStr Try.underlying54 Try.underlying5 Try.underlying9 (Has.cv (Has.u rfl hb) (Cv.trans Cv.owSl (Cv.slRep (T' := [20]) rfl rfl)))) ?_
    refine wg rfl rfl (fun hb => Spec.move (Has.s rfl)) ?_
    refine wg rfl rfl (fun hb => Spec.toStr Try.underlying54 Try.underlying5 Try.underlying9 (Has.cv (Has.u rfl hb) (Cv.trans Cv.owSl (Cv.slRep (T' := [21]) rfl rfl)))) ?_
    refine wg rfl rfl (fun hb => Spec.eqlS (Has.u rfl hb) (Has.u rfl hb)) ?_
    refine wo (Spec.and (Has.s rfl) (fun h => Has.u rfl h)) ?_
    refine wo (Spec.assign (Has.s rfl)) ?_
    refine Walk.nil ?_
    refine Leaf.thenN ?_
    refine CWalk.ret ?_
    obtain rfl := Option.some.inj hm
    exact Leaf.retC1 rfl (HasR.cv (HasR.tmp (Has.s rfl)) Cv.fl)

end Go.Proofs.Ytgkhjpfnmbdchaa
