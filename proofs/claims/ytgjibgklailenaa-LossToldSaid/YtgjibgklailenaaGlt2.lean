/- Printed by a program of ours: models of functions, and that calls do what they say. -/
import Derived.Test.YtgjibgklailenaaGlt1
set_option linter.unusedVariables false
set_option linter.unusedSimpArgs false
set_option linter.unnecessarySimpa false
namespace Go.Proofs.Ytgjibgklailenaa
open Go GL
set_option linter.unusedVariables false

def ref05_Great_L2 (a0 : List Disk) (s2 : Int) (s6 : Int) (s7 : Int) : Option (Ctl (Int × Int) (Int)) :=
  Option.bind (idx a0 s2) (fun x9 => (bif (decide (s7 < ((x9.Blocks).length : Int))) then Option.bind (idx a0 s2) (fun x10 => Option.bind (idx x10.Blocks s7) (fun x11 => some (Ctl.next ((wI (s6 + (wI ((8 : Int) + ((x11).length : Int))))), (wI (s7 + (1 : Int))))))) else some (Ctl.brk s6)))
def ref05_Great_L3 (a0 : List Disk) (s2 : Int) (s13 : Int) (s14 : Int) : Option (Ctl (Int × Int) (Int)) :=
  Option.bind (idx a0 s2) (fun x16 => (bif (decide (s14 < ((x16.Wait).length : Int))) then Option.bind (idx a0 s2) (fun x17 => Option.bind (idx x17.Wait s14) (fun x18 => some (Ctl.next ((wI (s13 + (wI ((8 : Int) + ((x18.Data).length : Int))))), (wI (s14 + (1 : Int))))))) else some (Ctl.brk s13)))
def ref05_Great_L1 (a0 : List Disk) (s1 : Int) (s2 : Int) : Option (Ctl (Int × Int) ((Unit) ⊕ (Unit))) :=
  (bif ((decide (s2 < ((a0).length : Int))) && (decide (s2 < (30 : Int)))) then Option.bind (idx a0 s2) (fun x4 => Option.bind (ref04_Great x4) (fun x5 => (bif x5 then some (Ctl.brk (Sum.inr ())) else Option.bind (loopM (fun s : Int × Int => ref05_Great_L2 a0 s2 s.1 s.2) FUEL (s1, (0 : Int))) (fun b12 => Option.bind (loopM (fun s : Int × Int => ref05_Great_L3 a0 s2 s.1 s.2) FUEL (b12, (0 : Int))) (fun b19 => (bif (decide (b19 > (60000 : Int))) then some (Ctl.brk (Sum.inr ())) else some (Ctl.next (b19, (wI (s2 + (1 : Int))))))))))) else some (Ctl.brk (Sum.inl ())))
/-- freeboard/freeboardref05.Great -/
def ref05_Great (a0 : List Disk) : Option (Bool) :=
  Option.bind (loopM (fun s : Int × Int => ref05_Great_L1 a0 s.1 s.2) FUEL ((0 : Int), (0 : Int))) (fun b20 => Sum.elim (fun b21 => some (decide (((a0).length : Int) > (30 : Int)))) (fun b22 => some true) b20)
set_option maxRecDepth 100000 in
set_option maxHeartbeats 2000000 in
theorem ref05_Great_c (a0 : List Disk) {r : Bool} (hm : ref05_Great a0 = some r) : Ctr Try.prog 28 [.rep 0 a0] (.fl r) [] := by
 refine ctr_of_walk [[]] 72 Try.func28 rfl rfl rfl rfl (fun w0 om => ?_)
 unfold ref05_Great at hm
 refine CWalk.sub (G' := [.fact 0 (.rep [0] (a0 : List Disk))]) (sn Sub.nil) ?_
 refine CWalk.seq ?_
 refine CWalk.region ?_
 refine wo (Spec.assign Has.bool) ?_
 refine Walk.nil ?_
 refine Leaf.thenN ?_
 refine CWalk.seq ?_
 refine CWalk.region ?_
 refine wo (Spec.assign Has.int) ?_
 refine Walk.nil ?_
 refine Leaf.thenN ?_
 refine CWalk.seq ?_
 refine CWalk.seq ?_
 refine CWalk.region ?_
 refine wo (Spec.assign Has.int) ?_
 refine Walk.nil ?_
 refine Leaf.thenN ?_
 refine CWalk.block ?_
 obtain ⟨b20, hb20, hm⟩ := bind_some hm
 refine CWalk.loop (fun s : Int × Int => [.fact 0 (.rep [0] (a0 : List Disk)), .fact 3 (.rep [] s.1), .fact 4 (.rep [] s.2)]) (fun b : (Unit) ⊕ (Unit) => Sum.elim (fun b => (Exit.exit 0, [.fact 0 (.rep [0] (a0 : List Disk))])) (fun b => (Exit.ret, [.fact 2 (.rep [] (true : Bool))])) b) hb20 (su (st (st Sub.nil))) ?_ ?_
 ·rintro ⟨s1, s2⟩ c3 hm
  replace hm : ref05_Great_L1 a0 s1 s2 = some c3 := hm
  unfold ref05_Great_L1 at hm
  show CWalk _ [.fact 0 (.rep [0] (a0 : List Disk)), .fact 3 (.rep [] (s1 : Int)), .fact 4 (.rep [] (s2 : Int))] _ _
  refine CWalk.seq ?_
  refine CWalk.seq ?_
  refine CWalk.region ?_
  refine mv ?_
  refine mv ?_
  refine wo (Spec.len (Has.s rfl) Try.underlying60) ?_
  refine wo (Spec.lssI (Has.s rfl) (Has.s rfl)) ?_
  refine mv ?_
  refine wg rfl rfl (fun hb => Spec.move (Has.s rfl)) ?_
  refine wg rfl rfl (fun hb => Spec.lssI (Has.u rfl hb) Has.int) ?_
  refine wo (Spec.and (Has.s rfl) (fun h => Has.u rfl h)) ?_
  refine Walk.nil ?_
  refine Leaf.thenN ?_
  refine CWalk.cond rfl (fun hb => ?_) (fun hb => ?_)
  ·have hm := cond_t hb hm
   refine CWalk.skip ?_
   refine Leaf.thenN ?_
   refine CWalk.seq ?_
   refine CWalk.block ?_
   refine CWalk.seq ?_
   refine CWalk.seq ?_
   refine CWalk.region ?_
   refine mv ?_
   refine mv ?_
   obtain ⟨x4, hx4, hm⟩ := bind_some hm
   refine wo (Spec.indexAddr hx4 sl60 (Has.s rfl) (Has.s rfl)) ?_
   refine wo (Spec.load ty67 (Has.s rfl)) ?_
   obtain ⟨x5, hx5, hm⟩ := bind_some hm
   refine wo (f := Fact.rep [] (x5 : Bool)) (Spec.callE [0] 10 rfl en43 (ref04_Great_c x4 hx5) (HasAll.cons (Has.m (Has.s rfl) rfl) HasAll.nil)) ?_
   refine Walk.nil ?_
   refine Leaf.thenN ?_
   refine CWalk.cond rfl (fun hb => ?_) (fun hb => ?_)
   ·have hm := cond_t hb hm
    refine CWalk.seq ?_
    refine CWalk.region ?_
    refine wo (Spec.assign Has.bool) ?_
    refine Walk.nil ?_
    refine Leaf.thenN ?_
    refine CWalk.ret ?_
    refine Leaf.thenR ?_
    refine Leaf.blockR ?_
    refine Leaf.thenR ?_
    exact Leaf.brk hm (fun h => nomatch h) rfl (st Sub.nil)
   ·have hm := cond_f hb hm
    refine CWalk.skip ?_
    refine Leaf.thenN ?_
    refine CWalk.seq ?_
    refine CWalk.seq ?_
    refine CWalk.region ?_
    refine wo (Spec.assign Has.int) ?_
    refine Walk.nil ?_
    refine Leaf.thenN ?_
    refine CWalk.block ?_
    obtain ⟨b12, hb12, hm⟩ := bind_some hm
    refine CWalk.loop (fun s : Int × Int => [.fact 0 (.rep [0] (a0 : List Disk)), .fact 3 (.rep [] s.1), .fact 4 (.rep [] (s2 : Int)), .fact 5 (.rep [] s.2)]) (fun b : Int => (Exit.exit 2, [.fact 0 (.rep [0] (a0 : List Disk)), .fact 3 (.rep [] (b : Int)), .fact 4 (.rep [] (s2 : Int))])) hb12 (su (st (st (st Sub.nil)))) ?_ ?_
    ·rintro ⟨s6, s7⟩ c8 hm
     replace hm : ref05_Great_L2 a0 s2 s6 s7 = some c8 := hm
     unfold ref05_Great_L2 at hm
     show CWalk _ [.fact 0 (.rep [0] (a0 : List Disk)), .fact 3 (.rep [] (s6 : Int)), .fact 4 (.rep [] (s2 : Int)), .fact 5 (.rep [] (s7 : Int))] _ _
     refine CWalk.seq ?_
     refine CWalk.seq ?_
     refine CWalk.region ?_
     refine mv ?_
     refine mv ?_
     refine mv ?_
     obtain ⟨x9, hx9, hm⟩ := bind_some hm
     refine wo (Spec.indexAddr hx9 sl60 (Has.s rfl) (Has.s rfl)) ?_
     refine wo (Spec.fieldAddrP fd67_0 (chDisk x9) rfl (Has.s rfl)) ?_
     refine wo (Spec.load ty64 (Has.s rfl)) ?_
     refine wo (Spec.len (Has.s rfl) Try.underlying64) ?_
     refine wo (Spec.lssI (Has.s rfl) (Has.s rfl)) ?_
     refine Walk.nil ?_
     refine Leaf.thenN ?_
     refine CWalk.cond rfl (fun hb => ?_) (fun hb => ?_)
     ·have hm := cond_t hb hm
      refine CWalk.skip ?_
      refine Leaf.thenN ?_
      refine CWalk.seq ?_
      refine CWalk.block ?_
      refine CWalk.region ?_
      refine mv ?_
      refine mv ?_
      refine mv ?_
      obtain ⟨x10, hx10, hm⟩ := bind_some hm
      refine wo (Spec.indexAddr hx10 sl60 (Has.s rfl) (Has.s rfl)) ?_
      refine wo (Spec.fieldAddrP fd67_0 (chDisk x10) rfl (Has.s rfl)) ?_
      refine wo (Spec.load ty64 (Has.s rfl)) ?_
      refine mv ?_
      obtain ⟨x11, hx11, hm⟩ := bind_some hm
      refine wo (Spec.indexAddr hx11 sl64 (Has.s rfl) (Has.s rfl)) ?_
      refine wo (Spec.load ty56 (Has.s rfl)) ?_
      refine wo (Spec.len (Has.s rfl) Try.underlying56) ?_
      refine wo (Spec.addI Has.int (Has.s rfl)) ?_
      refine wo (Spec.addI (Has.s rfl) (Has.s rfl)) ?_
      refine wo (Spec.assign (Has.s rfl)) ?_
      refine Walk.nil ?_
      refine Leaf.blockN ?_
      refine Leaf.thenN ?_
      refine CWalk.region ?_
      refine mv ?_
      refine wo (Spec.addI (Has.s rfl) Has.int) ?_
      refine wo (Spec.assign (Has.s rfl)) ?_
      refine Walk.nil ?_
      exact Leaf.next hm (su (st (st (st Sub.nil))))
     ·have hm := cond_f hb hm
      refine CWalk.exit ?_
      refine Leaf.thenE ?_
      exact Leaf.brk hm (fun h => nomatch h) rfl (su (st (st Sub.nil)))
    ·intro _
     refine Leaf.blockE ?_
     refine Leaf.thenN ?_
     refine CWalk.seq ?_
     refine CWalk.seq ?_
     refine CWalk.region ?_
     refine wo (Spec.assign Has.int) ?_
     refine Walk.nil ?_
     refine Leaf.thenN ?_
     refine CWalk.block ?_
     obtain ⟨b19, hb19, hm⟩ := bind_some hm
     refine CWalk.loop (fun s : Int × Int => [.fact 0 (.rep [0] (a0 : List Disk)), .fact 3 (.rep [] s.1), .fact 4 (.rep [] (s2 : Int)), .fact 6 (.rep [] s.2)]) (fun b : Int => (Exit.exit 4, [.fact 0 (.rep [0] (a0 : List Disk)), .fact 3 (.rep [] (b : Int)), .fact 4 (.rep [] (s2 : Int))])) hb19 (su (st (st (st Sub.nil)))) ?_ ?_
     ·rintro ⟨s13, s14⟩ c15 hm
      replace hm : ref05_Great_L3 a0 s2 s13 s14 = some c15 := hm
      unfold ref05_Great_L3 at hm
      show CWalk _ [.fact 0 (.rep [0] (a0 : List Disk)), .fact 3 (.rep [] (s13 : Int)), .fact 4 (.rep [] (s2 : Int)), .fact 6 (.rep [] (s14 : Int))] _ _
      refine CWalk.seq ?_
      refine CWalk.seq ?_
      refine CWalk.region ?_
      refine mv ?_
      refine mv ?_
      refine mv ?_
      obtain ⟨x16, hx16, hm⟩ := bind_some hm
      refine wo (Spec.indexAddr hx16 sl60 (Has.s rfl) (Has.s rfl)) ?_
      refine wo (Spec.fieldAddrP fd67_1 (chDisk x16) rfl (Has.s rfl)) ?_
      refine wo (Spec.load ty65 (Has.s rfl)) ?_
      refine wo (Spec.len (Has.s rfl) Try.underlying65) ?_
      refine wo (Spec.lssI (Has.s rfl) (Has.s rfl)) ?_
      refine Walk.nil ?_
      refine Leaf.thenN ?_
      refine CWalk.cond rfl (fun hb => ?_) (fun hb => ?_)
      ·have hm := cond_t hb hm
       refine CWalk.skip ?_
       refine Leaf.thenN ?_
       refine CWalk.seq ?_
       refine CWalk.block ?_
       refine CWalk.region ?_
       refine mv ?_
       refine mv ?_
       refine mv ?_
       obtain ⟨x17, hx17, hm⟩ := bind_some hm
       refine wo (Spec.indexAddr hx17 sl60 (Has.s rfl) (Has.s rfl)) ?_
       refine wo (Spec.fieldAddrP fd67_1 (chDisk x17) rfl (Has.s rfl)) ?_
       refine wo (Spec.load ty65 (Has.s rfl)) ?_
       refine mv ?_
       obtain ⟨x18, hx18, hm⟩ := bind_some hm
       refine wo (Spec.indexAddr hx18 sl65 (Has.s rfl) (Has.s rfl)) ?_
       refine wo (Spec.fieldAddrP fd91_1 (chWrite x18) rfl (Has.s rfl)) ?_
       refine wo (Spec.load ty56 (Has.s rfl)) ?_
       refine wo (Spec.len (Has.s rfl) Try.underlying56) ?_
       refine wo (Spec.addI Has.int (Has.s rfl)) ?_
       refine wo (Spec.addI (Has.s rfl) (Has.s rfl)) ?_
       refine wo (Spec.assign (Has.s rfl)) ?_
       refine Walk.nil ?_
       refine Leaf.blockN ?_
       refine Leaf.thenN ?_
       refine CWalk.region ?_
       refine mv ?_
       refine wo (Spec.addI (Has.s rfl) Has.int) ?_
       refine wo (Spec.assign (Has.s rfl)) ?_
       refine Walk.nil ?_
       exact Leaf.next hm (su (st (st (st Sub.nil))))
      ·have hm := cond_f hb hm
       refine CWalk.exit ?_
       refine Leaf.thenE ?_
       exact Leaf.brk hm (fun h => nomatch h) rfl (su (st (st Sub.nil)))
     ·intro _
      refine Leaf.blockE ?_
      refine Leaf.thenN ?_
      refine CWalk.seq ?_
      refine CWalk.region ?_
      refine mv ?_
      refine wo (Spec.gtrI (Has.s rfl) Has.int) ?_
      refine Walk.nil ?_
      refine Leaf.thenN ?_
      refine CWalk.cond rfl (fun hb => ?_) (fun hb => ?_)
      ·have hm := cond_t hb hm
       refine CWalk.seq ?_
       refine CWalk.region ?_
       refine wo (Spec.assign Has.bool) ?_
       refine Walk.nil ?_
       refine Leaf.thenN ?_
       refine CWalk.ret ?_
       refine Leaf.blockR ?_
       refine Leaf.thenR ?_
       exact Leaf.brk hm (fun h => nomatch h) rfl (st Sub.nil)
      ·have hm := cond_f hb hm
       refine CWalk.skip ?_
       refine Leaf.blockN ?_
       refine Leaf.thenN ?_
       refine CWalk.region ?_
       refine mv ?_
       refine wo (Spec.addI (Has.s rfl) Has.int) ?_
       refine wo (Spec.assign (Has.s rfl)) ?_
       refine Walk.nil ?_
       exact Leaf.next hm (su (st (st Sub.nil)))
  ·have hm := cond_f hb hm
   refine CWalk.exit ?_
   refine Leaf.thenE ?_
   exact Leaf.brk hm (fun h => nomatch h) rfl (su Sub.nil)
 ·intro _
  rcases b20 with b21 | b22
  ·have hm := selim_l hm
   refine Leaf.blockE ?_
   refine Leaf.thenN ?_
   refine CWalk.seq ?_
   refine CWalk.region ?_
   refine mv ?_
   refine wo (Spec.len (Has.s rfl) Try.underlying60) ?_
   refine wo (Spec.gtrI (Has.s rfl) Has.int) ?_
   refine wo (Spec.assign (Has.s rfl)) ?_
   refine Walk.nil ?_
   refine Leaf.thenN ?_
   refine CWalk.ret ?_
   obtain rfl := Option.some.inj hm
   exact Leaf.retC1 rfl (HasR.cv (HasR.tmp (Has.s rfl)) Cv.fl)
  ·have hm := selim_r hm
   refine Leaf.blockR ?_
   refine Leaf.thenR ?_
   obtain rfl := Option.some.inj hm
   exact Leaf.retC1 rfl (HasR.cv (HasR.tmp (Has.s rfl)) Cv.fl)

def slices_IndexFunc_api_Disk_api_Disk_L1 (a0 : List Disk) (a1 : Disk → Option Bool) (s1 : Int) : Option (Ctl (Int) ((Unit) ⊕ (Int))) :=
  (bif (decide (s1 < ((a0).length : Int))) then Option.bind (idx a0 s1) (fun x3 => Option.bind (a1 x3) (fun x4 => (bif x4 then some (Ctl.brk (Sum.inr s1)) else some (Ctl.next (wI (s1 + (1 : Int))))))) else some (Ctl.brk (Sum.inl ())))
/-- slices.IndexFunc[[]freeboard/api.Disk,freeboard/api.Disk] -/
def slices_IndexFunc_api_Disk_api_Disk (a0 : List Disk) (a1 : Disk → Option Bool) : Option (Int) :=
  Option.bind (loopM (fun s : Int => slices_IndexFunc_api_Disk_api_Disk_L1 a0 a1 s) FUEL (0 : Int)) (fun b5 => Sum.elim (fun b6 => some (-1 : Int)) (fun b7 => some b7) b5)
set_option maxRecDepth 100000 in
set_option maxHeartbeats 2000000 in
theorem slices_IndexFunc_api_Disk_api_Disk_c (a0 : List Disk) (a1 : Disk → Option Bool) {r : Int} (hm : slices_IndexFunc_api_Disk_api_Disk a0 a1 = some r) : Ctr Try.prog 92 [.rep 0 a0, .fn Try.prog pre1 0 a1] (.fl r) [] := by
 refine ctr_of_walk [[]] 19 Try.func92 rfl rfl rfl rfl (fun w0 om => ?_)
 unfold slices_IndexFunc_api_Disk_api_Disk at hm
 refine CWalk.sub (G' := [.fact 0 (.rep [0] (a0 : List Disk)), .fact 1 (.fn Try.prog pre1 [0] (a1))]) (sn (sn Sub.nil)) ?_
 refine CWalk.seq ?_
 refine CWalk.region ?_
 refine wo (Spec.assign Has.int) ?_
 refine Walk.nil ?_
 refine Leaf.thenN ?_
 refine CWalk.seq ?_
 refine CWalk.seq ?_
 refine CWalk.region ?_
 refine mv ?_
 refine wo (Spec.len (Has.s rfl) Try.underlying60) ?_
 refine wo (Spec.move Has.int) ?_
 refine Walk.nil ?_
 refine Leaf.thenN ?_
 refine CWalk.block ?_
 obtain ⟨b5, hb5, hm⟩ := bind_some hm
 refine CWalk.loop (fun s : Int => [.fact 0 (.rep [0] (a0 : List Disk)), .fact 1 (.fn Try.prog pre1 [0] (a1)), .fact 7 (.rep [] (((a0).length : Int) : Int)), .fact 8 (.rep [] (s : Int))]) (fun b : (Unit) ⊕ (Int) => Sum.elim (fun b => (Exit.exit 0, [])) (fun b => (Exit.ret, [.fact 4 (.rep [] (b : Int))])) b) hb5 (su (sn (st (st Sub.nil)))) ?_ ?_
 ·rintro s1 c2 hm
  replace hm : slices_IndexFunc_api_Disk_api_Disk_L1 a0 a1 s1 = some c2 := hm
  unfold slices_IndexFunc_api_Disk_api_Disk_L1 at hm
  show CWalk _ [.fact 0 (.rep [0] (a0 : List Disk)), .fact 1 (.fn Try.prog pre1 [0] (a1)), .fact 7 (.rep [] (((a0).length : Int) : Int)), .fact 8 (.rep [] (s1 : Int))] _ _
  refine CWalk.seq ?_
  refine CWalk.region ?_
  refine wo (Spec.lssI (Has.s rfl) (Has.s rfl)) ?_
  refine Walk.nil ?_
  refine Leaf.thenN ?_
  refine CWalk.seq ?_
  refine CWalk.cond rfl (fun hb => ?_) (fun hb => ?_)
  ·have hm := cond_t hb hm
   refine CWalk.skip ?_
   refine Leaf.thenN ?_
   refine CWalk.seq ?_
   refine CWalk.block ?_
   refine CWalk.seq ?_
   refine CWalk.region ?_
   refine mv ?_
   refine wo (Spec.assign (Has.s rfl)) ?_
   refine Walk.nil ?_
   refine Leaf.thenN ?_
   refine CWalk.seq ?_
   refine CWalk.region ?_
   refine mv ?_
   refine mv ?_
   refine mv ?_
   obtain ⟨x3, hx3, hm⟩ := bind_some hm
   refine wo (Spec.indexAddr hx3 sl60 (Has.s rfl) (Has.s rfl)) ?_
   refine wo (Spec.load ty67 (Has.s rfl)) ?_
   obtain ⟨x4, hx4, hm⟩ := bind_some hm
   refine wo (Spec.callFn (xs := [.tmp 15]) (x := x3) [0] 10 rfl hx4 (Has.s rfl) (HasAll.cons (Has.m (Has.s rfl) rfl) HasAll.nil)) ?_
   refine Walk.nil ?_
   refine Leaf.thenN ?_
   refine CWalk.cond rfl (fun hb => ?_) (fun hb => ?_)
   ·have hm := cond_t hb hm
    refine CWalk.seq ?_
    refine CWalk.region ?_
    refine mv ?_
    refine wo (Spec.assign (Has.s rfl)) ?_
    refine Walk.nil ?_
    refine Leaf.thenN ?_
    refine CWalk.ret ?_
    refine Leaf.blockR ?_
    refine Leaf.thenR ?_
    exact Leaf.brk hm (fun h => nomatch h) rfl (st Sub.nil)
   ·have hm := cond_f hb hm
    refine CWalk.skip ?_
    refine Leaf.blockN ?_
    refine Leaf.thenN ?_
    refine CWalk.region ?_
    refine wo (Spec.addI (Has.s rfl) Has.int) ?_
    refine mv ?_
    refine Walk.nil ?_
    exact Leaf.next hm (su (sn (st (st Sub.nil))))
  ·have hm := cond_f hb hm
   refine CWalk.exit ?_
   refine Leaf.thenE ?_
   exact Leaf.brk hm (fun h => nomatch h) rfl (Sub.nil)
 ·intro _
  rcases b5 with b6 | b7
  ·have hm := selim_l hm
   refine Leaf.blockE ?_
   refine Leaf.thenN ?_
   refine CWalk.seq ?_
   refine CWalk.region ?_
   refine wo (Spec.assign Has.int) ?_
   refine Walk.nil ?_
   refine Leaf.thenN ?_
   refine CWalk.ret ?_
   obtain rfl := Option.some.inj hm
   exact Leaf.retC1 rfl (HasR.cv (HasR.tmp (Has.s rfl)) Cv.fl)
  ·have hm := selim_r hm
   refine Leaf.blockR ?_
   refine Leaf.thenR ?_
   obtain rfl := Option.some.inj hm
   exact Leaf.retC1 rfl (HasR.cv (HasR.tmp (Has.s rfl)) Cv.fl)

/-- slices.ContainsFunc[[]freeboard/api.Disk,freeboard/api.Disk] -/
def slices_ContainsFunc_api_Disk_api_Disk (a0 : List Disk) (a1 : Disk → Option Bool) : Option (Bool) :=
  Option.bind (slices_IndexFunc_api_Disk_api_Disk a0 a1) (fun x1 => some (decide (x1 ≥ (0 : Int))))
set_option maxRecDepth 100000 in
set_option maxHeartbeats 2000000 in
theorem slices_ContainsFunc_api_Disk_api_Disk_c (a0 : List Disk) (a1 : Disk → Option Bool) {r : Bool} (hm : slices_ContainsFunc_api_Disk_api_Disk a0 a1 = some r) : Ctr Try.prog 78 [.rep 0 a0, .fn Try.prog pre1 0 a1] (.fl r) [] := by
 refine ctr_of_walk [[]] 9 Try.func78 rfl rfl rfl rfl (fun w0 om => ?_)
 unfold slices_ContainsFunc_api_Disk_api_Disk at hm
 refine CWalk.sub (G' := [.fact 0 (.rep [0] (a0 : List Disk)), .fact 1 (.fn Try.prog pre1 [0] (a1))]) (sn (sn Sub.nil)) ?_
 refine CWalk.seq ?_
 refine CWalk.region ?_
 refine wo (Spec.assign Has.bool) ?_
 refine Walk.nil ?_
 refine Leaf.thenN ?_
 refine CWalk.seq ?_
 refine CWalk.region ?_
 refine mv ?_
 refine mv ?_
 obtain ⟨x1, hx1, hm⟩ := bind_some hm
 refine wo (f := Fact.rep [] (x1 : Int)) (Spec.callE [0] 10 rfl en92 (slices_IndexFunc_api_Disk_api_Disk_c a0 a1 hx1) (HasAll.cons (Has.m (Has.s rfl) rfl) (HasAll.cons (Has.cv (Has.s rfl) (Cv.fnM rfl)) HasAll.nil))) ?_
 refine wo (Spec.geqI (Has.s rfl) Has.int) ?_
 refine wo (Spec.assign (Has.s rfl)) ?_
 refine Walk.nil ?_
 refine Leaf.thenN ?_
 refine CWalk.ret ?_
 obtain rfl := Option.some.inj hm
 exact Leaf.retC1 rfl (HasR.cv (HasR.tmp (Has.s rfl)) Cv.fl)

def slices_IndexFunc_byte_byte_L1 (a0 : List (List UInt8)) (a1 : (List UInt8) → Option Bool) (s1 : Int) : Option (Ctl (Int) ((Unit) ⊕ (Int))) :=
  (bif (decide (s1 < ((a0).length : Int))) then Option.bind (idx a0 s1) (fun x3 => Option.bind (a1 x3) (fun x4 => (bif x4 then some (Ctl.brk (Sum.inr s1)) else some (Ctl.next (wI (s1 + (1 : Int))))))) else some (Ctl.brk (Sum.inl ())))
/-- slices.IndexFunc[[][]byte,[]byte] -/
def slices_IndexFunc_byte_byte (a0 : List (List UInt8)) (a1 : (List UInt8) → Option Bool) : Option (Int) :=
  Option.bind (loopM (fun s : Int => slices_IndexFunc_byte_byte_L1 a0 a1 s) FUEL (0 : Int)) (fun b5 => Sum.elim (fun b6 => some (-1 : Int)) (fun b7 => some b7) b5)
set_option maxRecDepth 100000 in
set_option maxHeartbeats 2000000 in
theorem slices_IndexFunc_byte_byte_c (a0 : List (List UInt8)) (a1 : (List UInt8) → Option Bool) {r : Int} (hm : slices_IndexFunc_byte_byte a0 a1 = some r) : Ctr Try.prog 97 [.rep 0 a0, .fn Try.prog pre1 0 a1] (.fl r) [] := by
 refine ctr_of_walk [[]] 19 Try.func97 rfl rfl rfl rfl (fun w0 om => ?_)
 unfold slices_IndexFunc_byte_byte at hm
 refine CWalk.sub (G' := [.fact 0 (.rep [0] (a0 : List (List UInt8))), .fact 1 (.fn Try.prog pre1 [0] (a1))]) (sn (sn Sub.nil)) ?_
 refine CWalk.seq ?_
 refine CWalk.region ?_
 refine wo (Spec.assign Has.int) ?_
 refine Walk.nil ?_
 refine Leaf.thenN ?_
 refine CWalk.seq ?_
 refine CWalk.seq ?_
 refine CWalk.region ?_
 refine mv ?_
 refine wo (Spec.len (Has.s rfl) Try.underlying64) ?_
 refine wo (Spec.move Has.int) ?_
 refine Walk.nil ?_
 refine Leaf.thenN ?_
 refine CWalk.block ?_
 obtain ⟨b5, hb5, hm⟩ := bind_some hm
 refine CWalk.loop (fun s : Int => [.fact 0 (.rep [0] (a0 : List (List UInt8))), .fact 1 (.fn Try.prog pre1 [0] (a1)), .fact 7 (.rep [] (((a0).length : Int) : Int)), .fact 8 (.rep [] (s : Int))]) (fun b : (Unit) ⊕ (Int) => Sum.elim (fun b => (Exit.exit 0, [])) (fun b => (Exit.ret, [.fact 4 (.rep [] (b : Int))])) b) hb5 (su (sn (st (st Sub.nil)))) ?_ ?_
 ·rintro s1 c2 hm
  replace hm : slices_IndexFunc_byte_byte_L1 a0 a1 s1 = some c2 := hm
  unfold slices_IndexFunc_byte_byte_L1 at hm
  show CWalk _ [.fact 0 (.rep [0] (a0 : List (List UInt8))), .fact 1 (.fn Try.prog pre1 [0] (a1)), .fact 7 (.rep [] (((a0).length : Int) : Int)), .fact 8 (.rep [] (s1 : Int))] _ _
  refine CWalk.seq ?_
  refine CWalk.region ?_
  refine wo (Spec.lssI (Has.s rfl) (Has.s rfl)) ?_
  refine Walk.nil ?_
  refine Leaf.thenN ?_
  refine CWalk.seq ?_
  refine CWalk.cond rfl (fun hb => ?_) (fun hb => ?_)
  ·have hm := cond_t hb hm
   refine CWalk.skip ?_
   refine Leaf.thenN ?_
   refine CWalk.seq ?_
   refine CWalk.block ?_
   refine CWalk.seq ?_
   refine CWalk.region ?_
   refine mv ?_
   refine wo (Spec.assign (Has.s rfl)) ?_
   refine Walk.nil ?_
   refine Leaf.thenN ?_
   refine CWalk.seq ?_
   refine CWalk.region ?_
   refine mv ?_
   refine mv ?_
   refine mv ?_
   obtain ⟨x3, hx3, hm⟩ := bind_some hm
   refine wo (Spec.indexAddr hx3 sl64 (Has.s rfl) (Has.s rfl)) ?_
   refine wo (Spec.load ty56 (Has.s rfl)) ?_
   obtain ⟨x4, hx4, hm⟩ := bind_some hm
   refine wo (Spec.callFn (xs := [.tmp 15]) (x := x3) [0] 10 rfl hx4 (Has.s rfl) (HasAll.cons (Has.m (Has.s rfl) rfl) HasAll.nil)) ?_
   refine Walk.nil ?_
   refine Leaf.thenN ?_
   refine CWalk.cond rfl (fun hb => ?_) (fun hb => ?_)
   ·have hm := cond_t hb hm
    refine CWalk.seq ?_
    refine CWalk.region ?_
    refine mv ?_
    refine wo (Spec.assign (Has.s rfl)) ?_
    refine Walk.nil ?_
    refine Leaf.thenN ?_
    refine CWalk.ret ?_
    refine Leaf.blockR ?_
    refine Leaf.thenR ?_
    exact Leaf.brk hm (fun h => nomatch h) rfl (st Sub.nil)
   ·have hm := cond_f hb hm
    refine CWalk.skip ?_
    refine Leaf.blockN ?_
    refine Leaf.thenN ?_
    refine CWalk.region ?_
    refine wo (Spec.addI (Has.s rfl) Has.int) ?_
    refine mv ?_
    refine Walk.nil ?_
    exact Leaf.next hm (su (sn (st (st Sub.nil))))
  ·have hm := cond_f hb hm
   refine CWalk.exit ?_
   refine Leaf.thenE ?_
   exact Leaf.brk hm (fun h => nomatch h) rfl (Sub.nil)
 ·intro _
  rcases b5 with b6 | b7
  ·have hm := selim_l hm
   refine Leaf.blockE ?_
   refine Leaf.thenN ?_
   refine CWalk.seq ?_
   refine CWalk.region ?_
   refine wo (Spec.assign Has.int) ?_
   refine Walk.nil ?_
   refine Leaf.thenN ?_
   refine CWalk.ret ?_
   obtain rfl := Option.some.inj hm
   exact Leaf.retC1 rfl (HasR.cv (HasR.tmp (Has.s rfl)) Cv.fl)
  ·have hm := selim_r hm
   refine Leaf.blockR ?_
   refine Leaf.thenR ?_
   obtain rfl := Option.some.inj hm
   exact Leaf.retC1 rfl (HasR.cv (HasR.tmp (Has.s rfl)) Cv.fl)

/-- slices.ContainsFunc[[][]byte,[]byte] -/
def slices_ContainsFunc_byte_byte (a0 : List (List UInt8)) (a1 : (List UInt8) → Option Bool) : Option (Bool) :=
  Option.bind (slices_IndexFunc_byte_byte a0 a1) (fun x1 => some (decide (x1 ≥ (0 : Int))))
set_option maxRecDepth 100000 in
set_option maxHeartbeats 2000000 in
theorem slices_ContainsFunc_byte_byte_c (a0 : List (List UInt8)) (a1 : (List UInt8) → Option Bool) {r : Bool} (hm : slices_ContainsFunc_byte_byte a0 a1 = some r) : Ctr Try.prog 87 [.rep 0 a0, .fn Try.prog pre1 0 a1] (.fl r) [] := by
 refine ctr_of_walk [[]] 9 Try.func87 rfl rfl rfl rfl (fun w0 om => ?_)
 unfold slices_ContainsFunc_byte_byte at hm
 refine CWalk.sub (G' := [.fact 0 (.rep [0] (a0 : List (List UInt8))), .fact 1 (.fn Try.prog pre1 [0] (a1))]) (sn (sn Sub.nil)) ?_
 refine CWalk.seq ?_
 refine CWalk.region ?_
 refine wo (Spec.assign Has.bool) ?_
 refine Walk.nil ?_
 refine Leaf.thenN ?_
 refine CWalk.seq ?_
 refine CWalk.region ?_
 refine mv ?_
 refine mv ?_
 obtain ⟨x1, hx1, hm⟩ := bind_some hm
 refine wo (f := Fact.rep [] (x1 : Int)) (Spec.callE [0] 10 rfl en97 (slices_IndexFunc_byte_byte_c a0 a1 hx1) (HasAll.cons (Has.m (Has.s rfl) rfl) (HasAll.cons (Has.cv (Has.s rfl) (Cv.fnM rfl)) HasAll.nil))) ?_
 refine wo (Spec.geqI (Has.s rfl) Has.int) ?_
 refine wo (Spec.assign (Has.s rfl)) ?_
 refine Walk.nil ?_
 refine Leaf.thenN ?_
 refine CWalk.ret ?_
 obtain rfl := Option.some.inj hm
 exact Leaf.retC1 rfl (HasR.cv (HasR.tmp (Has.s rfl)) Cv.fl)

/-- freeboard/disk.odd -/
def disk_odd (a0 : List UInt8) : Option (Bool) :=
  some ((((a0).length : Int) != (0 : Int)) && (((a0).length : Int) != (128 : Int)))
set_option maxRecDepth 100000 in
set_option maxHeartbeats 2000000 in
theorem disk_odd_c (a0 : List UInt8) {r : Bool} (hm : disk_odd a0 = some r) : Ctr Try.prog 88 [.rep 0 a0] (.fl r) [] := by
 refine ctr_of_walk [[]] 11 Try.func88 rfl rfl rfl rfl (fun w0 om => ?_)
 unfold disk_odd at hm
 refine CWalk.sub (G' := [.fact 0 (.rep [0] (a0 : List UInt8))]) (sn Sub.nil) ?_
 refine CWalk.seq ?_
 refine CWalk.region ?_
 refine wo (Spec.assign Has.bool) ?_
 refine Walk.nil ?_
 refine Leaf.thenN ?_
 refine CWalk.seq ?_
 refine CWalk.region ?_
 refine mv ?_
 refine wo (Spec.len (Has.s rfl) Try.underlying56) ?_
 refine wo (Spec.neqI (Has.s rfl) Has.int) ?_
 refine mv ?_
 refine wg rfl rfl (fun hb => Spec.move (Has.s rfl)) ?_
 refine wg rfl rfl (fun hb => Spec.len (Has.u rfl hb) Try.underlying56) ?_
 refine wg rfl rfl (fun hb => Spec.neqI (Has.u rfl hb) Has.int) ?_
 refine wo (Spec.and (Has.s rfl) (fun h => Has.u rfl h)) ?_
 refine wo (Spec.assign (Has.s rfl)) ?_
 refine Walk.nil ?_
 refine Leaf.thenN ?_
 refine CWalk.ret ?_
 obtain rfl := Option.some.inj hm
 exact Leaf.retC1 rfl (HasR.cv (HasR.tmp (Has.s rfl)) Cv.fl)

def slices_IndexFunc_api_Write_api_Write_L1 (a0 : List Write) (a1 : Write → Option Bool) (s1 : Int) : Option (Ctl (Int) ((Unit) ⊕ (Int))) :=
  (bif (decide (s1 < ((a0).length : Int))) then Option.bind (idx a0 s1) (fun x3 => Option.bind (a1 x3) (fun x4 => (bif x4 then some (Ctl.brk (Sum.inr s1)) else some (Ctl.next (wI (s1 + (1 : Int))))))) else some (Ctl.brk (Sum.inl ())))
/-- slices.IndexFunc[[]freeboard/api.Write,freeboard/api.Write] -/
def slices_IndexFunc_api_Write_api_Write (a0 : List Write) (a1 : Write → Option Bool) : Option (Int) :=
  Option.bind (loopM (fun s : Int => slices_IndexFunc_api_Write_api_Write_L1 a0 a1 s) FUEL (0 : Int)) (fun b5 => Sum.elim (fun b6 => some (-1 : Int)) (fun b7 => some b7) b5)
set_option maxRecDepth 100000 in
set_option maxHeartbeats 2000000 in
theorem slices_IndexFunc_api_Write_api_Write_c (a0 : List Write) (a1 : Write → Option Bool) {r : Int} (hm : slices_IndexFunc_api_Write_api_Write a0 a1 = some r) : Ctr Try.prog 98 [.rep 0 a0, .fn Try.prog pre1 0 a1] (.fl r) [] := by
 refine ctr_of_walk [[]] 19 Try.func98 rfl rfl rfl rfl (fun w0 om => ?_)
 unfold slices_IndexFunc_api_Write_api_Write at hm
 refine CWalk.sub (G' := [.fact 0 (.rep [0] (a0 : List Write)), .fact 1 (.fn Try.prog pre1 [0] (a1))]) (sn (sn Sub.nil)) ?_
 refine CWalk.seq ?_
 refine CWalk.region ?_
 refine wo (Spec.assign Has.int) ?_
 refine Walk.nil ?_
 refine Leaf.thenN ?_
 refine CWalk.seq ?_
 refine CWalk.seq ?_
 refine CWalk.region ?_
 refine mv ?_
 refine wo (Spec.len (Has.s rfl) Try.underlying65) ?_
 refine wo (Spec.move Has.int) ?_
 refine Walk.nil ?_
 refine Leaf.thenN ?_
 refine CWalk.block ?_
 obtain ⟨b5, hb5, hm⟩ := bind_some hm
 refine CWalk.loop (fun s : Int => [.fact 0 (.rep [0] (a0 : List Write)), .fact 1 (.fn Try.prog pre1 [0] (a1)), .fact 7 (.rep [] (((a0).length : Int) : Int)), .fact 8 (.rep [] (s : Int))]) (fun b : (Unit) ⊕ (Int) => Sum.elim (fun b => (Exit.exit 0, [])) (fun b => (Exit.ret, [.fact 4 (.rep [] (b : Int))])) b) hb5 (su (sn (st (st Sub.nil)))) ?_ ?_
 ·rintro s1 c2 hm
  replace hm : slices_IndexFunc_api_Write_api_Write_L1 a0 a1 s1 = some c2 := hm
  unfold slices_IndexFunc_api_Write_api_Write_L1 at hm
  show CWalk _ [.fact 0 (.rep [0] (a0 : List Write)), .fact 1 (.fn Try.prog pre1 [0] (a1)), .fact 7 (.rep [] (((a0).length : Int) : Int)), .fact 8 (.rep [] (s1 : Int))] _ _
  refine CWalk.seq ?_
  refine CWalk.region ?_
  refine wo (Spec.lssI (Has.s rfl) (Has.s rfl)) ?_
  refine Walk.nil ?_
  refine Leaf.thenN ?_
  refine CWalk.seq ?_
  refine CWalk.cond rfl (fun hb => ?_) (fun hb => ?_)
  ·have hm := cond_t hb hm
   refine CWalk.skip ?_
   refine Leaf.thenN ?_
   refine CWalk.seq ?_
   refine CWalk.block ?_
   refine CWalk.seq ?_
   refine CWalk.region ?_
   refine mv ?_
   refine wo (Spec.assign (Has.s rfl)) ?_
   refine Walk.nil ?_
   refine Leaf.thenN ?_
   refine CWalk.seq ?_
   refine CWalk.region ?_
   refine mv ?_
   refine mv ?_
   refine mv ?_
   obtain ⟨x3, hx3, hm⟩ := bind_some hm
   refine wo (Spec.indexAddr hx3 sl65 (Has.s rfl) (Has.s rfl)) ?_
   refine wo (Spec.load ty91 (Has.s rfl)) ?_
   obtain ⟨x4, hx4, hm⟩ := bind_some hm
   refine wo (Spec.callFn (xs := [.tmp 15]) (x := x3) [0] 10 rfl hx4 (Has.s rfl) (HasAll.cons (Has.m (Has.s rfl) rfl) HasAll.nil)) ?_
   refine Walk.nil ?_
   refine Leaf.thenN ?_
   refine CWalk.cond rfl (fun hb => ?_) (fun hb => ?_)
   ·have hm := cond_t hb hm
    refine CWalk.seq ?_
    refine CWalk.region ?_
    refine mv ?_
    refine wo (Spec.assign (Has.s rfl)) ?_
    refine Walk.nil ?_
    refine Leaf.thenN ?_
    refine CWalk.ret ?_
    refine Leaf.blockR ?_
    refine Leaf.thenR ?_
    exact Leaf.brk hm (fun h => nomatch h) rfl (st Sub.nil)
   ·have hm := cond_f hb hm
    refine CWalk.skip ?_
    refine Leaf.blockN ?_
    refine Leaf.thenN ?_
    refine CWalk.region ?_
    refine wo (Spec.addI (Has.s rfl) Has.int) ?_
    refine mv ?_
    refine Walk.nil ?_
    exact Leaf.next hm (su (sn (st (st Sub.nil))))
  ·have hm := cond_f hb hm
   refine CWalk.exit ?_
   refine Leaf.thenE ?_
   exact Leaf.brk hm (fun h => nomatch h) rfl (Sub.nil)
 ·intro _
  rcases b5 with b6 | b7
  ·have hm := selim_l hm
   refine Leaf.blockE ?_
   refine Leaf.thenN ?_
   refine CWalk.seq ?_
   refine CWalk.region ?_
   refine wo (Spec.assign Has.int) ?_
   refine Walk.nil ?_
   refine Leaf.thenN ?_
   refine CWalk.ret ?_
   obtain rfl := Option.some.inj hm
   exact Leaf.retC1 rfl (HasR.cv (HasR.tmp (Has.s rfl)) Cv.fl)
  ·have hm := selim_r hm
   refine Leaf.blockR ?_
   refine Leaf.thenR ?_
   obtain rfl := Option.some.inj hm
   exact Leaf.retC1 rfl (HasR.cv (HasR.tmp (Has.s rfl)) Cv.fl)

/-- slices.ContainsFunc[[]freeboard/api.Write,freeboard/api.Write] -/
def slices_ContainsFunc_api_Write_api_Write (a0 : List Write) (a1 : Write → Option Bool) : Option (Bool) :=
  Option.bind (slices_IndexFunc_api_Write_api_Write a0 a1) (fun x1 => some (decide (x1 ≥ (0 : Int))))
set_option maxRecDepth 100000 in
set_option maxHeartbeats 2000000 in
theorem slices_ContainsFunc_api_Write_api_Write_c (a0 : List Write) (a1 : Write → Option Bool) {r : Bool} (hm : slices_ContainsFunc_api_Write_api_Write a0 a1 = some r) : Ctr Try.prog 89 [.rep 0 a0, .fn Try.prog pre1 0 a1] (.fl r) [] := by
 refine ctr_of_walk [[]] 9 Try.func89 rfl rfl rfl rfl (fun w0 om => ?_)
 unfold slices_ContainsFunc_api_Write_api_Write at hm
 refine CWalk.sub (G' := [.fact 0 (.rep [0] (a0 : List Write)), .fact 1 (.fn Try.prog pre1 [0] (a1))]) (sn (sn Sub.nil)) ?_
 refine CWalk.seq ?_
 refine CWalk.region ?_
 refine wo (Spec.assign Has.bool) ?_
 refine Walk.nil ?_
 refine Leaf.thenN ?_
 refine CWalk.seq ?_
 refine CWalk.region ?_
 refine mv ?_
 refine mv ?_
 obtain ⟨x1, hx1, hm⟩ := bind_some hm
 refine wo (f := Fact.rep [] (x1 : Int)) (Spec.callE [0] 10 rfl en98 (slices_IndexFunc_api_Write_api_Write_c a0 a1 hx1) (HasAll.cons (Has.m (Has.s rfl) rfl) (HasAll.cons (Has.cv (Has.s rfl) (Cv.fnM rfl)) HasAll.nil))) ?_
 refine wo (Spec.geqI (Has.s rfl) Has.int) ?_
 refine wo (Spec.assign (Has.s rfl)) ?_
 refine Walk.nil ?_
 refine Leaf.thenN ?_
 refine CWalk.ret ?_
 obtain rfl := Option.some.inj hm
 exact Leaf.retC1 rfl (HasR.cv (HasR.tmp (Has.s rfl)) Cv.fl)

/-- freeboard/disk.Check$1 -/
def disk_Check_1 (a0 : Write) (a1 : Int) : Option (Bool) :=
  Option.bind (gO (!((decide (a0.At < (0 : Int))) || (decide (a0.At ≥ a1)))) (disk_odd a0.Data)) (fun x1 => some (((decide (a0.At < (0 : Int))) || (decide (a0.At ≥ a1))) || x1))
set_option maxRecDepth 100000 in
set_option maxHeartbeats 2000000 in
theorem disk_Check_1_c (a0 : Write) (a1 : Int) {r : Bool} (hm : disk_Check_1 a0 a1 = some r) : Ctr Try.prog 90 [.rep 0 a0, .ptr 0 a1] (.fl r) [] := by
 refine ctr_of_walk [[]] 18 Try.func90 rfl rfl rfl rfl (fun w0 om => ?_)
 unfold disk_Check_1 at hm
 refine CWalk.sub (G' := [.fact 0 (.rep [0] (a0 : Write)), .fact 1 (.ptr [0] (a1 : Int))]) (sn (sn Sub.nil)) ?_
 refine CWalk.seq ?_
 refine CWalk.region ?_
 refine ws (Step.boxObj (ls := [(false, 1, Fact.rep [] a0.At), (false, 1, Fact.rep [0] a0.Data)]) 10 rfl rfl rfl rfl (HasL.flds (Has.cv (Has.s rfl) (Cv.trans (Cv.opens (chWrite a0)) (Cv.flds (CvL.cons Cv.fl (CvL.cons Cv.refl CvL.nil))))))) ?_
 refine wo (Spec.assign Has.bool) ?_
 refine Walk.nil ?_
 refine Leaf.thenN ?_
 refine CWalk.seq ?_
 refine CWalk.region ?_
 refine wo (Spec.fieldAddrO fd91_0 (Has.cv (Has.s rfl) (Cv.isvP rfl))) ?_
 refine wo (Spec.loadF (i := 0) ty3 rfl (Has.s rfl) rfl (HasG.s rfl)) ?_
 refine wo (Spec.lssI (Has.s rfl) Has.int) ?_
 refine mv ?_
 refine wg rfl rfl (fun hb => Spec.fieldAddrO fd91_0 (Has.cv (Has.s rfl) (Cv.isvP rfl))) ?_
 refine wg rfl rfl (fun hb => Spec.loadF (i := 0) ty3 rfl (Has.u rfl hb) rfl (HasG.s rfl)) ?_
 refine wg rfl rfl (fun hb => (Spec.load ty3 (Has.s rfl)).flat (T' := [])) ?_
 refine wg rfl rfl (fun hb => Spec.geqI (Has.u rfl hb) (Has.u rfl hb)) ?_
 refine wo (Spec.or (Has.s rfl) (fun h => Has.u rfl h)) ?_
 refine mv ?_
 refine wg rfl rfl (fun hb => Spec.fieldAddrO fd91_1 (Has.cv (Has.s rfl) (Cv.isvP rfl))) ?_
 refine wg rfl rfl (fun hb => Spec.loadF (i := 1) ty56 rfl (Has.u rfl hb) rfl (HasG.s rfl)) ?_
 obtain ⟨x1, hx1, hm⟩ := bind_some hm
 refine wg (f := Fact.rep [] (x1 : Bool)) rfl rfl (fun hb => Spec.callE [0] 13 rfl en88 (disk_odd_c a0.Data (gO_t hx1 (not_t hb))) (HasAll.cons (Has.m (Has.u rfl hb) rfl) HasAll.nil)) ?_
 refine wo (Spec.or (Has.s rfl) (fun h => Has.u rfl h)) ?_
 refine wo (Spec.assign (Has.s rfl)) ?_
 refine Walk.nil ?_
 refine Leaf.thenN ?_
 refine CWalk.ret ?_
 obtain rfl := Option.some.inj hm
 exact Leaf.retC1 rfl (HasR.cv (HasR.tmp (Has.s rfl)) Cv.fl)

/-- freeboard/disk.Check$2 -/
def disk_Check_2 (a0 : List UInt8) : Option (Bool) :=
  some (decide (((a0).length : Int) > (0 : Int)))
set_option maxRecDepth 100000 in
set_option maxHeartbeats 2000000 in
theorem disk_Check_2_c (a0 : List UInt8) {r : Bool} (hm : disk_Check_2 a0 = some r) : Ctr Try.prog 91 [.rep 0 a0] (.fl r) [] := by
 refine ctr_of_walk [[]] 6 Try.func91 rfl rfl rfl rfl (fun w0 om => ?_)
 unfold disk_Check_2 at hm
 refine CWalk.sub (G' := [.fact 0 (.rep [0] (a0 : List UInt8))]) (sn Sub.nil) ?_
 refine CWalk.seq ?_
 refine CWalk.region ?_
 refine wo (Spec.assign Has.bool) ?_
 refine Walk.nil ?_
 refine Leaf.thenN ?_
 refine CWalk.seq ?_
 refine CWalk.region ?_
 refine mv ?_
 refine wo (Spec.len (Has.s rfl) Try.underlying56) ?_
 refine wo (Spec.gtrI (Has.s rfl) Has.int) ?_
 refine wo (Spec.assign (Has.s rfl)) ?_
 refine Walk.nil ?_
 refine Leaf.thenN ?_
 refine CWalk.ret ?_
 obtain rfl := Option.some.inj hm
 exact Leaf.retC1 rfl (HasR.cv (HasR.tmp (Has.s rfl)) Cv.fl)

/-- freeboard/disk.Check -/
def disk_Check (a0 : Disk) : Option (Int) :=
  Option.bind (gO (!(((decide (((a0.Blocks).length : Int) < (1 : Int))) || (decide (((a0.Blocks).length : Int) > (256 : Int)))) || (decide (((a0.Wait).length : Int) > (1024 : Int))))) (slices_ContainsFunc_byte_byte a0.Blocks (fun y => disk_odd y))) (fun x1 => (bif ((((decide (((a0.Blocks).length : Int) < (1 : Int))) || (decide (((a0.Blocks).length : Int) > (256 : Int)))) || (decide (((a0.Wait).length : Int) > (1024 : Int)))) || x1) then some (8 : Int) else Option.bind (slices_ContainsFunc_api_Write_api_Write a0.Wait (fun y => disk_Check_1 y ((a0.Blocks).length : Int))) (fun x2 => (bif x2 then some (8 : Int) else Option.bind (gO ((a0.Dead) && (!(decide (((a0.Wait).length : Int) > (0 : Int))))) (slices_ContainsFunc_byte_byte a0.Blocks (fun y => disk_Check_2 y))) (fun x3 => (bif (a0.Dead && ((decide (((a0.Wait).length : Int) > (0 : Int))) || x3)) then some (8 : Int) else some (0 : Int)))))))
set_option maxRecDepth 100000 in
set_option maxHeartbeats 2000000 in
theorem disk_Check_c (a0 : Disk) {r : Int} (hm : disk_Check a0 = some r) : Ctr Try.prog 77 [.rep 0 a0] (.fl r) [] := by
 refine ctr_of_walk [[]] 41 Try.func77 rfl rfl rfl rfl (fun w0 om => ?_)
 unfold disk_Check at hm
 refine CWalk.sub (G' := [.fact 0 (.rep [0] (a0 : Disk))]) (sn Sub.nil) ?_
 refine CWalk.seq ?_
 refine CWalk.region ?_
 refine ws (Step.boxObj (ls := [(false, 1, Fact.rep [0] a0.Blocks), (false, 1, Fact.rep [0] a0.Wait), (false, 1, Fact.rep [] a0.Dead)]) 10 rfl rfl rfl rfl (HasL.flds (Has.cv (Has.s rfl) (Cv.trans (Cv.opens (chDisk a0)) (Cv.flds (CvL.cons Cv.refl (CvL.cons Cv.refl (CvL.cons Cv.fl CvL.nil)))))))) ?_
 refine wo (Spec.assign Has.int) ?_
 refine Walk.nil ?_
 refine Leaf.thenN ?_
 refine CWalk.seq ?_
 refine CWalk.region ?_
 refine wo (Spec.fieldAddrO fd67_0 (Has.cv (Has.s rfl) (Cv.isvP rfl))) ?_
 refine wo (Spec.loadF (i := 0) ty64 rfl (Has.s rfl) rfl (HasG.s rfl)) ?_
 refine wo (Spec.len (Has.s rfl) Try.underlying64) ?_
 refine ws (Step.allocObj (ls := [(false, 1, Fact.rep [] ((0 : Int) : Int))]) 14 rfl rfl rfl rfl zl3) ?_
 refine ws (Step.storeF (i := 0) (f := Fact.rep [] (((a0.Blocks).length : Int) : Int)) rfl ty3 rfl (Has.cv (Has.s rfl) (Cv.isvP rfl)) rfl (Has.s rfl) (Has.s rfl) rfl) ?_
 refine Walk.nil ?_
 refine Leaf.thenN ?_
 refine CWalk.seq ?_
 refine CWalk.seq ?_
 refine CWalk.region ?_
 refine wo (Spec.loadF (i := 0) ty3 rfl (Has.cv (Has.s rfl) (Cv.isvP rfl)) rfl (HasG.s rfl)) ?_
 refine wo (Spec.lssI (Has.s rfl) Has.int) ?_
 refine mv ?_
 refine wg rfl rfl (fun hb => Spec.loadF (i := 0) ty3 rfl (Has.cv (Has.s rfl) (Cv.isvP rfl)) rfl (HasG.s rfl)) ?_
 refine wg rfl rfl (fun hb => Spec.gtrI (Has.u rfl hb) Has.int) ?_
 refine wo (Spec.or (Has.s rfl) (fun h => Has.u rfl h)) ?_
 refine mv ?_
 refine wg rfl rfl (fun hb => Spec.fieldAddrO fd67_1 (Has.cv (Has.s rfl) (Cv.isvP rfl))) ?_
 refine wg rfl rfl (fun hb => Spec.loadF (i := 1) ty65 rfl (Has.u rfl hb) rfl (HasG.s rfl)) ?_
 refine wg rfl rfl (fun hb => Spec.len (Has.u rfl hb) Try.underlying65) ?_
 refine wg rfl rfl (fun hb => Spec.gtrI (Has.u rfl hb) Has.int) ?_
 refine wo (Spec.or (Has.s rfl) (fun h => Has.u rfl h)) ?_
 refine mv ?_
 refine wg rfl rfl (fun hb => Spec.fieldAddrO fd67_0 (Has.cv (Has.s rfl) (Cv.isvP rfl))) ?_
 refine wg rfl rfl (fun hb => Spec.loadF (i := 0) ty64 rfl (Has.u rfl hb) rfl (HasG.s rfl)) ?_
 obtain ⟨x1, hx1, hm⟩ := bind_some hm
 refine wg (f := Fact.rep [] (x1 : Bool)) rfl rfl (fun hb => Spec.callE [0] 16 rfl en87 (slices_ContainsFunc_byte_byte_c a0.Blocks (fun y => disk_odd y) (gO_t hx1 (not_t hb))) (HasAll.cons (Has.m (Has.u rfl hb) rfl) (HasAll.cons (Has.cv Has.func (Cv.fn (pu := []) (pc := []) (shc := []) en88 CvF.nil CvF.nil (fun y r h => disk_odd_c y h))) HasAll.nil))) ?_
 refine wo (Spec.or (Has.s rfl) (fun h => Has.u rfl h)) ?_
 refine Walk.nil ?_
 refine Leaf.thenN ?_
 refine CWalk.cond rfl (fun hb => ?_) (fun hb => ?_)
 ·have hm := cond_t hb hm
  refine CWalk.seq ?_
  refine CWalk.region ?_
  refine wo (Spec.assign Has.int) ?_
  refine Walk.nil ?_
  refine Leaf.thenN ?_
  refine CWalk.ret ?_
  refine Leaf.thenR ?_
  obtain rfl := Option.some.inj hm
  exact Leaf.retC1 rfl (HasR.cv (HasR.tmp (Has.s rfl)) Cv.fl)
 ·have hm := cond_f hb hm
  refine CWalk.skip ?_
  refine Leaf.thenN ?_
  refine CWalk.seq ?_
  refine CWalk.seq ?_
  refine CWalk.region ?_
  refine wo (Spec.fieldAddrO fd67_1 (Has.cv (Has.s rfl) (Cv.isvP rfl))) ?_
  refine wo (Spec.loadF (i := 1) ty65 rfl (Has.s rfl) rfl (HasG.s rfl)) ?_
  refine wo (Spec.makeFunc (xs := []) (ys := [.tmp 3]) rfl rfl HasF.nil (HasF.cons (Has.s rfl) HasF.nil) (fun _ _ _ => rfl)) ?_
  obtain ⟨x2, hx2, hm⟩ := bind_some hm
  refine wo (f := Fact.rep [] (x2 : Bool)) (Spec.callE [0, 14] 17 rfl en89 (slices_ContainsFunc_api_Write_api_Write_c a0.Wait (fun y => disk_Check_1 y ((a0.Blocks).length : Int)) hx2) (HasAll.cons (Has.m (Has.s rfl) rfl) (HasAll.cons (Has.cv (Has.s rfl) (Cv.fn (pu := []) (pc := [.ptr 0 ((a0.Blocks).length : Int)]) (shc := []) en90 CvF.nil (CvF.cons (Cv.trans (Cv.objPtr1 (f := Fact.rep [] (((a0.Blocks).length : Int) : Int)) rfl rfl (HasG.s rfl) (Cv.fl (T' := []))) (Cv.ptrM rfl)) CvF.nil) (fun y r h => disk_Check_1_c y ((a0.Blocks).length : Int) h))) HasAll.nil))) ?_
  refine Walk.nil ?_
  refine Leaf.thenN ?_
  refine CWalk.cond rfl (fun hb => ?_) (fun hb => ?_)
  ·have hm := cond_t hb hm
   refine CWalk.seq ?_
   refine CWalk.region ?_
   refine wo (Spec.assign Has.int) ?_
   refine Walk.nil ?_
   refine Leaf.thenN ?_
   refine CWalk.ret ?_
   refine Leaf.thenR ?_
   obtain rfl := Option.some.inj hm
   exact Leaf.retC1 rfl (HasR.cv (HasR.tmp (Has.s rfl)) Cv.fl)
  ·have hm := cond_f hb hm
   refine CWalk.skip ?_
   refine Leaf.thenN ?_
   refine CWalk.seq ?_
   refine CWalk.seq ?_
   refine CWalk.region ?_
   refine wo (Spec.fieldAddrO fd67_2 (Has.cv (Has.s rfl) (Cv.isvP rfl))) ?_
   refine wo (Spec.loadF (i := 2) ty4 rfl (Has.s rfl) rfl (HasG.s rfl)) ?_
   refine mv ?_
   refine wg rfl rfl (fun hb => Spec.fieldAddrO fd67_1 (Has.cv (Has.s rfl) (Cv.isvP rfl))) ?_
   refine wg rfl rfl (fun hb => Spec.loadF (i := 1) ty65 rfl (Has.u rfl hb) rfl (HasG.s rfl)) ?_
   refine wg rfl rfl (fun hb => Spec.len (Has.u rfl hb) Try.underlying65) ?_
   refine wg rfl rfl (fun hb => Spec.gtrI (Has.u rfl hb) Has.int) ?_
   refine wg rfl rfl (fun hb => Spec.move (Has.u rfl hb)) ?_
   refine Walk.opgu rfl rfl rfl (fun hb => Spec.fieldAddrO fd67_0 (Has.cv (Has.s rfl) (Cv.isvP rfl))) ?_
   refine Walk.opgu rfl rfl rfl (fun hb => Spec.loadF (i := 0) ty64 rfl (Has.u rfl hb) rfl (HasG.s rfl)) ?_
   obtain ⟨x3, hx3, hm⟩ := bind_some hm
   refine Walk.opgu (f := Fact.rep [] (x3 : Bool)) rfl rfl rfl (fun hb => Spec.callE [0] 18 rfl en87 (slices_ContainsFunc_byte_byte_c a0.Blocks (fun y => disk_Check_2 y) (gO_t hx3 (and_t hb.1 (not_t hb.2)))) (HasAll.cons (Has.m (Has.u rfl hb) rfl) (HasAll.cons (Has.cv Has.func (Cv.fn (pu := []) (pc := []) (shc := []) en91 CvF.nil CvF.nil (fun y r h => disk_Check_2_c y h))) HasAll.nil))) ?_
   refine wg rfl rfl (fun hb => Spec.or (Has.u rfl hb) (fun h => Has.u rfl ⟨hb, h⟩)) ?_
   refine wo (Spec.and (Has.s rfl) (fun h => Has.u rfl h)) ?_
   refine Walk.nil ?_
   refine Leaf.thenN ?_
   refine CWalk.cond rfl (fun hb => ?_) (fun hb => ?_)
   ·have hm := cond_t hb hm
    refine CWalk.seq ?_
    refine CWalk.region ?_
    refine wo (Spec.assign Has.int) ?_
    refine Walk.nil ?_
    refine Leaf.thenN ?_
    refine CWalk.ret ?_
    refine Leaf.thenR ?_
    obtain rfl := Option.some.inj hm
    exact Leaf.retC1 rfl (HasR.cv (HasR.tmp (Has.s rfl)) Cv.fl)
   ·have hm := cond_f hb hm
    refine CWalk.skip ?_
    refine Leaf.thenN ?_
    refine CWalk.seq ?_
    refine CWalk.region ?_
    refine wo (Spec.assign Has.int) ?_
    refine Walk.nil ?_
    refine Leaf.thenN ?_
    refine CWalk.ret ?_
    obtain rfl := Option.some.inj hm
    exact Leaf.retC1 rfl (HasR.cv (HasR.tmp (Has.s rfl)) Cv.fl)

/-- freeboard/acts.devices$1 -/
def acts_devices_1 (a0 : Disk) : Option (Bool) :=
  Option.bind (disk_Check a0) (fun x1 => some (x1 != (0 : Int)))
set_option maxRecDepth 100000 in
set_option maxHeartbeats 2000000 in
theorem acts_devices_1_c (a0 : Disk) {r : Bool} (hm : acts_devices_1 a0 = some r) : Ctr Try.prog 76 [.rep 0 a0] (.fl r) [] := by
 refine ctr_of_walk [[]] 6 Try.func76 rfl rfl rfl rfl (fun w0 om => ?_)
 unfold acts_devices_1 at hm
 refine CWalk.sub (G' := [.fact 0 (.rep [0] (a0 : Disk))]) (sn Sub.nil) ?_
 refine CWalk.seq ?_
 refine CWalk.region ?_
 refine ws (Step.boxObj (ls := [(false, 1, Fact.rep [0] a0.Blocks), (false, 1, Fact.rep [0] a0.Wait), (false, 1, Fact.rep [] a0.Dead)]) 10 rfl rfl rfl rfl (HasL.flds (Has.cv (Has.s rfl) (Cv.trans (Cv.opens (chDisk a0)) (Cv.flds (CvL.cons Cv.refl (CvL.cons Cv.refl (CvL.cons Cv.fl CvL.nil)))))))) ?_
 refine wo (Spec.assign Has.bool) ?_
 refine Walk.nil ?_
 refine Leaf.thenN ?_
 refine CWalk.seq ?_
 refine CWalk.region ?_
 refine wo (Spec.loadObj (ls := [(false, 1, Fact.rep [0] a0.Blocks), (false, 1, Fact.rep [0] a0.Wait), (false, 1, Fact.rep [] a0.Dead)]) ty67 rfl rfl (Has.s rfl) rfl (HasGs.cons (HasG.s rfl) (HasGs.cons (HasG.s rfl) (HasGs.cons (HasG.s rfl) HasGs.nil)))) ?_
 obtain ⟨x1, hx1, hm⟩ := bind_some hm
 refine wo (f := Fact.rep [] (x1 : Int)) (Spec.callE [0] 14 rfl en77 (disk_Check_c a0 hx1) (HasAll.cons (Has.m (Has.cv (Has.s rfl) (Cv.trans (Cv.flds (CvL.cons (Cv.m rfl) (CvL.cons (Cv.m rfl) (CvL.cons Cv.fl CvL.nil)))) (Cv.close (T := [0]) (chDisk a0)))) rfl) HasAll.nil)) ?_
 refine wo (Spec.neqI (Has.s rfl) Has.int) ?_
 refine wo (Spec.assign (Has.s rfl)) ?_
 refine Walk.nil ?_
 refine Leaf.thenN ?_
 refine CWalk.ret ?_
 obtain rfl := Option.some.inj hm
 exact Leaf.retC1 rfl (HasR.cv (HasR.tmp (Has.s rfl)) Cv.fl)

/-- freeboard/acts.devices -/
def acts_devices (a0 : List Disk) : Option (Int) :=
  Option.bind (gO (!((decide (((a0).length : Int) < (1 : Int))) || (decide (((a0).length : Int) > (17 : Int))))) (slices_ContainsFunc_api_Disk_api_Disk a0 (fun y => acts_devices_1 y))) (fun x1 => (bif (((decide (((a0).length : Int) < (1 : Int))) || (decide (((a0).length : Int) > (17 : Int)))) || x1) then some (8 : Int) else some (0 : Int)))
set_option maxRecDepth 100000 in
set_option maxHeartbeats 2000000 in
theorem acts_devices_c (a0 : List Disk) {r : Int} (hm : acts_devices a0 = some r) : Ctr Try.prog 60 [.rep 0 a0] (.fl r) [] := by
 refine ctr_of_walk [[]] 17 Try.func60 rfl rfl rfl rfl (fun w0 om => ?_)
 unfold acts_devices at hm
 refine CWalk.sub (G' := [.fact 0 (.rep [0] (a0 : List Disk))]) (sn Sub.nil) ?_
 refine CWalk.seq ?_
 refine CWalk.region ?_
 refine wo (Spec.assign Has.int) ?_
 refine Walk.nil ?_
 refine Leaf.thenN ?_
 refine CWalk.seq ?_
 refine CWalk.region ?_
 refine wo (Spec.assign Has.func) ?_
 refine Walk.nil ?_
 refine Leaf.thenN ?_
 refine CWalk.seq ?_
 refine CWalk.seq ?_
 refine CWalk.region ?_
 refine mv ?_
 refine wo (Spec.len (Has.s rfl) Try.underlying60) ?_
 refine wo (Spec.lssI (Has.s rfl) Has.int) ?_
 refine mv ?_
 refine wg rfl rfl (fun hb => Spec.move (Has.s rfl)) ?_
 refine wg rfl rfl (fun hb => Spec.len (Has.u rfl hb) Try.underlying60) ?_
 refine wg rfl rfl (fun hb => Spec.gtrI (Has.u rfl hb) Has.int) ?_
 refine wo (Spec.or (Has.s rfl) (fun h => Has.u rfl h)) ?_
 refine mv ?_
 refine wg rfl rfl (fun hb => Spec.move (Has.s rfl)) ?_
 refine wg rfl rfl (fun hb => Spec.move (Has.s rfl)) ?_
 obtain ⟨x1, hx1, hm⟩ := bind_some hm
 refine wg (f := Fact.rep [] (x1 : Bool)) rfl rfl (fun hb => Spec.callE [0] 10 rfl en78 (slices_ContainsFunc_api_Disk_api_Disk_c a0 (fun y => acts_devices_1 y) (gO_t hx1 (not_t hb))) (HasAll.cons (Has.m (Has.u rfl hb) rfl) (HasAll.cons (Has.cv (Has.u rfl hb) (Cv.fn (pu := []) (pc := []) (shc := []) en76 CvF.nil CvF.nil (fun y r h => acts_devices_1_c y h))) HasAll.nil))) ?_
 refine wo (Spec.or (Has.s rfl) (fun h => Has.u rfl h)) ?_
 refine Walk.nil ?_
 refine Leaf.thenN ?_
 refine CWalk.cond rfl (fun hb => ?_) (fun hb => ?_)
 ·have hm := cond_t hb hm
  refine CWalk.seq ?_
  refine CWalk.region ?_
  refine wo (Spec.assign Has.int) ?_
  refine Walk.nil ?_
  refine Leaf.thenN ?_
  refine CWalk.ret ?_
  refine Leaf.thenR ?_
  obtain rfl := Option.some.inj hm
  exact Leaf.retC1 rfl (HasR.cv (HasR.tmp (Has.s rfl)) Cv.fl)
 ·have hm := cond_f hb hm
  refine CWalk.skip ?_
  refine Leaf.thenN ?_
  refine CWalk.seq ?_
  refine CWalk.region ?_
  refine wo (Spec.assign Has.int) ?_
  refine Walk.nil ?_
  refine Leaf.thenN ?_
  refine CWalk.ret ?_
  obtain rfl := Option.some.inj hm
  exact Leaf.retC1 rfl (HasR.cv (HasR.tmp (Has.s rfl)) Cv.fl)

/-- freeboard/acts.does -/
def acts_does (a0 : UInt8) : Option ((FnI [63, 64, 65])) :=
  (bif (decide ((wI (a0.toNat : Int)) ≥ (4 : Int))) then some (⟨0⟩ : FnI [63, 64, 65]) else Option.bind (bnd 4 (a0.toNat : Int)) (fun x1 => Option.bind ((([(⟨0⟩ : FnI [63, 64, 65]), (⟨1⟩ : FnI [63, 64, 65]), (⟨2⟩ : FnI [63, 64, 65]), (⟨3⟩ : FnI [63, 64, 65])] : List (FnI [63, 64, 65])))[x1]?) (fun x2 => some x2)))
set_option maxRecDepth 100000 in
set_option maxHeartbeats 2000000 in
theorem acts_does_c (a0 : UInt8) {r : (FnI [63, 64, 65])} (hm : acts_does a0 = some r) : Ctr Try.prog 46 [.rep 0 a0] (.fl r) [] := by
 refine ctr_of_walk [[]] 11 Try.func46 rfl rfl rfl rfl (fun w0 om => ?_)
 unfold acts_does at hm
 refine CWalk.sub (G' := [.fact 0 (.rep [] (a0 : UInt8))]) (Sub.cons (Has.fl (Has.s rfl)) Sub.nil) ?_
 refine CWalk.seq ?_
 refine CWalk.region ?_
 refine wo (Spec.assign (Has.fniNil (ks := [63, 64, 65]))) ?_
 refine Walk.nil ?_
 refine Leaf.thenN ?_
 refine CWalk.seq ?_
 refine CWalk.region ?_
 refine wo (Spec.buildA (us := [(1, .func 63), (2, .func 64), (3, .func 65)]) (ls' := [(false, 1, Fact.rep [] ((⟨0⟩ : FnI [63, 64, 65]) : FnI [63, 64, 65])), (false, 1, Fact.rep [] ((⟨1⟩ : FnI [63, 64, 65]) : FnI [63, 64, 65])), (false, 1, Fact.rep [] ((⟨2⟩ : FnI [63, 64, 65]) : FnI [63, 64, 65])), (false, 1, Fact.rep [] ((⟨3⟩ : FnI [63, 64, 65]) : FnI [63, 64, 65]))]) bd118 rfl (BP.cons rfl rfl (Has.cv Has.func (Cv.fni (ks := [63, 64, 65]) (n := 1) rfl)) (Has.cv Has.func (Cv.fni (ks := [63, 64, 65]) (n := 1) rfl)) (BP.cons rfl rfl (Has.cv Has.func (Cv.fni (ks := [63, 64, 65]) (n := 2) rfl)) (Has.cv Has.func (Cv.fni (ks := [63, 64, 65]) (n := 2) rfl)) (BP.cons rfl rfl (Has.cv Has.func (Cv.fni (ks := [63, 64, 65]) (n := 3) rfl)) (Has.cv Has.func (Cv.fni (ks := [63, 64, 65]) (n := 3) rfl)) BP.nil)))) ?_
 refine ws (Step.allocObj (ls := [(false, 1, Fact.rep [] ((⟨0⟩ : FnI [63, 64, 65]) : FnI [63, 64, 65])), (false, 1, Fact.rep [] ((⟨0⟩ : FnI [63, 64, 65]) : FnI [63, 64, 65])), (false, 1, Fact.rep [] ((⟨0⟩ : FnI [63, 64, 65]) : FnI [63, 64, 65])), (false, 1, Fact.rep [] ((⟨0⟩ : FnI [63, 64, 65]) : FnI [63, 64, 65]))]) 10 rfl rfl rfl rfl zl118) ?_
 refine ws (Step.storeObj (ls := [(false, 1, Fact.rep [] ((⟨0⟩ : FnI [63, 64, 65]) : FnI [63, 64, 65])), (false, 1, Fact.rep [] ((⟨1⟩ : FnI [63, 64, 65]) : FnI [63, 64, 65])), (false, 1, Fact.rep [] ((⟨2⟩ : FnI [63, 64, 65]) : FnI [63, 64, 65])), (false, 1, Fact.rep [] ((⟨3⟩ : FnI [63, 64, 65]) : FnI [63, 64, 65]))]) rfl ty118 rfl rfl (Has.s rfl) rfl (HasL.flds (Has.s rfl)) rfl) ?_
 refine Walk.nil ?_
 refine Leaf.thenN ?_
 refine CWalk.seq ?_
 refine CWalk.seq ?_
 refine CWalk.region ?_
 refine mv ?_
 refine wo (Spec.conv (α := UInt8) (β := Int) Try.underlying5 Try.underlying3 (Has.s rfl)) ?_
 refine wo (Spec.geqI (Has.s rfl) Has.int) ?_
 refine Walk.nil ?_
 refine Leaf.thenN ?_
 refine CWalk.cond rfl (fun hb => ?_) (fun hb => ?_)
 ·have hm := cond_t hb hm
  refine CWalk.seq ?_
  refine CWalk.region ?_
  refine wo (Spec.assign (Has.fniNil (ks := [63, 64, 65]))) ?_
  refine Walk.nil ?_
  refine Leaf.thenN ?_
  refine CWalk.ret ?_
  refine Leaf.thenR ?_
  obtain rfl := Option.some.inj hm
  exact Leaf.retC1 rfl (HasR.cv (HasR.tmp (Has.s rfl)) Cv.fl)
 ·have hm := cond_f hb hm
  refine CWalk.skip ?_
  refine Leaf.thenN ?_
  refine CWalk.seq ?_
  refine CWalk.region ?_
  refine mv ?_
  obtain ⟨x1, hx1, hm⟩ := bind_some hm
  refine wo (Spec.idxVar8 hx1 sm118 (Has.cv (Has.s rfl) (Cv.isvP rfl)) (Has.s rfl)) ?_
  obtain ⟨x2, hx2, hm⟩ := bind_some hm
  refine wo (Spec.loadV (T := []) (l := ([(⟨0⟩ : FnI [63, 64, 65]), (⟨1⟩ : FnI [63, 64, 65]), (⟨2⟩ : FnI [63, 64, 65]), (⟨3⟩ : FnI [63, 64, 65])] : List (FnI [63, 64, 65]))) hx2 ty95 rfl rfl (Has.s rfl) rfl (HasVs.cons (HasG.s rfl) (HasVs.cons (HasG.s rfl) (HasVs.cons (HasG.s rfl) (HasVs.cons (HasG.s rfl) HasVs.nil))))) ?_
  refine wo (Spec.assign (Has.s rfl)) ?_
  refine Walk.nil ?_
  refine Leaf.thenN ?_
  refine CWalk.ret ?_
  obtain rfl := Option.some.inj hm
  exact Leaf.retC1 rfl (HasR.cv (HasR.tmp (Has.s rfl)) Cv.fl)

/-- (freeboard/acts.act).may -/
def acts_act_may (a0 : Act58) (a1 : List Disk) : Option (Bool) :=
  Option.bind (gO (!((decide (a0.Disk < (0 : Int))) || (decide (a0.Disk ≥ ((a1).length : Int))))) (acts_does a0.Kind)) (fun x1 => (bif (((decide (a0.Disk < (0 : Int))) || (decide (a0.Disk ≥ ((a1).length : Int)))) || (fnAt [63, 64, 65] x1.i).isNone) then some false else (bif (a0.Kind == (3 : UInt8)) then some ((a0.At == (0 : Int)) && (((a0.Data).length : Int) == (0 : Int))) else Option.bind (gO ((decide (a0.At ≥ (0 : Int)))) (idx a1 a0.Disk)) (fun x2 => some (((decide (a0.At ≥ (0 : Int))) && (decide (a0.At < ((x2.Blocks).length : Int)))) && ((((a0.Data).length : Int) == (0 : Int)) || (((a0.Data).length : Int) == (128 : Int))))))))
set_option maxRecDepth 100000 in
set_option maxHeartbeats 2000000 in
theorem acts_act_may_c (a0 : Act58) (a1 : List Disk) {r : Bool} (hm : acts_act_may a0 a1 = some r) : Ctr Try.prog 61 [.rep 0 a0, .rep 0 a1] (.fl r) [] := by
 refine ctr_of_walk [[]] 60 Try.func61 rfl rfl rfl rfl (fun w0 om => ?_)
 unfold acts_act_may at hm
 refine CWalk.sub (G' := [.fact 0 (.rep [0] (a0 : Act58)), .fact 1 (.rep [0] (a1 : List Disk))]) (sn (sn Sub.nil)) ?_
 refine CWalk.seq ?_
 refine CWalk.region ?_
 refine ws (Step.boxObj (ls := [(false, 1, Fact.rep [] a0.Disk), (false, 1, Fact.rep [] a0.Kind), (false, 1, Fact.rep [] a0.At), (false, 1, Fact.rep [0] a0.Data)]) 10 rfl rfl rfl rfl (HasL.flds (Has.cv (Has.s rfl) (Cv.trans (Cv.opens (chAct58 a0)) (Cv.flds (CvL.cons Cv.fl (CvL.cons Cv.fl (CvL.cons Cv.fl (CvL.cons Cv.refl CvL.nil))))))))) ?_
 refine wo (Spec.assign Has.bool) ?_
 refine Walk.nil ?_
 refine Leaf.thenN ?_
 refine CWalk.seq ?_
 refine CWalk.seq ?_
 refine CWalk.region ?_
 refine wo (Spec.fieldAddrO fd97_0 (Has.cv (Has.s rfl) (Cv.isvP rfl))) ?_
 refine wo (Spec.loadF (i := 0) ty3 rfl (Has.s rfl) rfl (HasG.s rfl)) ?_
 refine wo (Spec.lssI (Has.s rfl) Has.int) ?_
 refine mv ?_
 refine wg rfl rfl (fun hb => Spec.fieldAddrO fd97_0 (Has.cv (Has.s rfl) (Cv.isvP rfl))) ?_
 refine wg rfl rfl (fun hb => Spec.loadF (i := 0) ty3 rfl (Has.u rfl hb) rfl (HasG.s rfl)) ?_
 refine wg rfl rfl (fun hb => Spec.move (Has.s rfl)) ?_
 refine wg rfl rfl (fun hb => Spec.len (Has.u rfl hb) Try.underlying60) ?_
 refine wg rfl rfl (fun hb => Spec.geqI (Has.u rfl hb) (Has.u rfl hb)) ?_
 refine wo (Spec.or (Has.s rfl) (fun h => Has.u rfl h)) ?_
 refine mv ?_
 refine wg rfl rfl (fun hb => Spec.fieldAddrO fd97_1 (Has.cv (Has.s rfl) (Cv.isvP rfl))) ?_
 refine wg rfl rfl (fun hb => Spec.loadF (i := 1) ty5 rfl (Has.u rfl hb) rfl (HasG.s rfl)) ?_
 obtain ⟨x1, hx1, hm⟩ := bind_some hm
 refine wg (f := Fact.rep [] (x1 : FnI [63, 64, 65])) rfl rfl (fun hb => Spec.callE [] 15 rfl en46 (acts_does_c a0.Kind (gO_t hx1 (not_t hb))) (HasAll.cons (Has.fl (Has.u rfl hb)) HasAll.nil)) ?_
 refine wg rfl rfl (fun hb => Spec.eqlFni Try.underlying95 (Has.u rfl hb)) ?_
 refine wo (Spec.or (Has.s rfl) (fun h => Has.u rfl h)) ?_
 refine Walk.nil ?_
 refine Leaf.thenN ?_
 refine CWalk.cond rfl (fun hb => ?_) (fun hb => ?_)
 ·have hm := cond_t hb hm
  refine CWalk.seq ?_
  refine CWalk.region ?_
  refine wo (Spec.assign Has.bool) ?_
  refine Walk.nil ?_
  refine Leaf.thenN ?_
  refine CWalk.ret ?_
  refine Leaf.thenR ?_
  obtain rfl := Option.some.inj hm
  exact Leaf.retC1 rfl (HasR.cv (HasR.tmp (Has.s rfl)) Cv.fl)
 ·have hm := cond_f hb hm
  refine CWalk.skip ?_
  refine Leaf.thenN ?_
  refine CWalk.seq ?_
  refine CWalk.seq ?_
  refine CWalk.region ?_
  refine wo (Spec.fieldAddrO fd97_1 (Has.cv (Has.s rfl) (Cv.isvP rfl))) ?_
  refine wo (Spec.loadF (i := 1) ty5 rfl (Has.s rfl) rfl (HasG.s rfl)) ?_
  refine wo (Spec.eqlB (Has.s rfl) (Has.u8 3 rfl)) ?_
  refine Walk.nil ?_
  refine Leaf.thenN ?_
  refine CWalk.cond rfl (fun hb => ?_) (fun hb => ?_)
  ·have hm := cond_t hb hm
   refine CWalk.seq ?_
   refine CWalk.region ?_
   refine wo (Spec.fieldAddrO fd97_2 (Has.cv (Has.s rfl) (Cv.isvP rfl))) ?_
   refine wo (Spec.loadF (i := 2) ty3 rfl (Has.s rfl) rfl (HasG.s rfl)) ?_
   refine wo (Spec.eqlI (Has.s rfl) Has.int) ?_
   refine mv ?_
   refine wg rfl rfl (fun hb => Spec.fieldAddrO fd97_3 (Has.cv (Has.s rfl) (Cv.isvP rfl))) ?_
   refine wg rfl rfl (fun hb => Spec.loadF (i := 3) ty56 rfl (Has.u rfl hb) rfl (HasG.s rfl)) ?_
   refine wg rfl rfl (fun hb => Spec.len (Has.u rfl hb) Try.underlying56) ?_
   refine wg rfl rfl (fun hb => Spec.eqlI (Has.u rfl hb) Has.int) ?_
   refine wo (Spec.and (Has.s rfl) (fun h => Has.u rfl h)) ?_
   refine wo (Spec.assign (Has.s rfl)) ?_
   refine Walk.nil ?_
   refine Leaf.thenN ?_
   refine CWalk.ret ?_
   refine Leaf.thenR ?_
   obtain rfl := Option.some.inj hm
   exact Leaf.retC1 rfl (HasR.cv (HasR.tmp (Has.s rfl)) Cv.fl)
  ·have hm := cond_f hb hm
   refine CWalk.skip ?_
   refine Leaf.thenN ?_
   refine CWalk.seq ?_
   obtain ⟨x2, hx2, hm⟩ := bind_some hm
   refine CWalk.drawM [[], [0], [0, 1], [0, 1, 2], [0, 1, 2, 3], [0, 1, 2, 3, 4], [0, 1, 2, 3], [0, 1, 2, 3], [0, 1, 2, 3, 7], [0, 1, 2, 3, 6, 7, 8], [0, 1, 2, 3, 6, 7, 8, 9], [0, 1, 2, 3, 6, 7, 8, 9, 10], [0, 1, 2, 3, 6, 7, 8, 9, 10, 11], [0, 1, 2, 3, 4, 5, 6, 7, 8, 9, 10, 11, 12], [0, 1, 2, 3, 4, 5, 6, 7, 8, 9, 10, 11, 12, 13], [0, 1, 2, 3, 4, 5, 6, 7, 8, 9, 10, 11, 12, 13, 14], [0, 1, 2, 3, 4, 5, 6, 7, 8, 9, 10, 11, 12, 13, 14, 15], [0, 1, 2, 3, 4, 5, 6, 7, 8, 9, 10, 11, 12, 13, 14, 15, 16], [0, 1, 2, 3, 4, 5, 6, 7, 8, 9, 10, 11, 12, 13, 14, 15, 16, 17], [0, 1, 2, 3, 4, 5, 6, 7, 8, 9, 10, 11, 12, 13, 14, 15, 16, 17, 18], [0, 1, 2, 3, 4, 5, 6, 7, 8, 9, 10, 11, 12, 13, 14, 15, 16, 17, 18, 19], [0, 1, 2, 3, 4, 5, 6, 7, 8, 9, 10, 11, 12, 13, 14, 15, 16, 17, 18, 19, 20], [0, 1, 2, 3, 4, 5, 6, 7, 8, 9, 10, 11, 12, 13, 14, 15, 16, 17, 18, 19, 20, 21], [0, 1, 2, 3, 4, 5, 6, 7, 8, 9, 10, 11, 12, 13, 14, 15, 16, 17, 18, 19, 20, 21, 22], [0, 1, 2, 3, 4, 5, 6, 7, 8, 9, 10, 11, 12, 13, 14, 15, 16, 17, 18, 19, 20, 21, 22, 23], [0, 1, 2, 3, 4, 5, 6, 7, 8, 9, 10, 11, 12, 13, 14, 15, 16, 17, 18, 19, 20, 21, 22, 23, 24], [0, 1, 2, 3, 4, 5, 6, 7, 8, 9, 10, 11, 12, 13, 14, 15, 16, 17, 18, 19, 20, 21, 22, 23, 24, 25], [0, 1, 2, 3, 4, 5, 6, 7, 8, 9, 10, 11, 12, 13, 14, 15, 16, 17, 18, 19, 20, 21, 22, 23, 24, 25, 26]] [[.fact 33 (.pto 10 2)], [.fact 34 (.rep [] a0.At)], [.fact 35 (.rep [] ((decide (a0.At ≥ (0 : Int))) : Bool))], [.fact 36 (.rep [] ((decide (a0.At ≥ (0 : Int))) : Bool))], [.fact 37 (.under ((decide (a0.At ≥ (0 : Int))) = true) (.pto 10 2))], [.fact 38 (.under ((decide (a0.At ≥ (0 : Int))) = true) (.rep [] a0.At))], [.fact 39 (.under ((decide (a0.At ≥ (0 : Int))) = true) (.rep [0] (a1 : List Disk)))], [.fact 40 (.under ((decide (a0.At ≥ (0 : Int))) = true) (.pto 10 0))], [.fact 41 (.under ((decide (a0.At ≥ (0 : Int))) = true) (.rep [] a0.Disk))], [.fact 42 (.under ((decide (a0.At ≥ (0 : Int))) = true) (.ptr [0] (x2 : Disk)))], [.fact 43 (.under ((decide (a0.At ≥ (0 : Int))) = true) (.ptr [0] (x2.Blocks : List (List UInt8))))], [.fact 44 (.under ((decide (a0.At ≥ (0 : Int))) = true) (.rep [0] x2.Blocks))], [.fact 45 (.under ((decide (a0.At ≥ (0 : Int))) = true) (.rep [] (((x2.Blocks).length : Int) : Int)))], [.fact 46 (.under ((decide (a0.At ≥ (0 : Int))) = true) (.rep [] ((decide (a0.At < ((x2.Blocks).length : Int))) : Bool)))], [.fact 47 (.rep [] (((decide (a0.At ≥ (0 : Int))) && (decide (a0.At < ((x2.Blocks).length : Int)))) : Bool))], [.fact 48 (.rep [] (((decide (a0.At ≥ (0 : Int))) && (decide (a0.At < ((x2.Blocks).length : Int)))) : Bool))], [.fact 49 (.under (((decide (a0.At ≥ (0 : Int))) && (decide (a0.At < ((x2.Blocks).length : Int)))) = true) (.pto 10 3))], [.fact 50 (.under (((decide (a0.At ≥ (0 : Int))) && (decide (a0.At < ((x2.Blocks).length : Int)))) = true) (.rep [0] a0.Data))], [.fact 51 (.under (((decide (a0.At ≥ (0 : Int))) && (decide (a0.At < ((x2.Blocks).length : Int)))) = true) (.rep [] (((a0.Data).length : Int) : Int)))], [.fact 52 (.under (((decide (a0.At ≥ (0 : Int))) && (decide (a0.At < ((x2.Blocks).length : Int)))) = true) (.rep [] ((((a0.Data).length : Int) == (0 : Int)) : Bool)))], [.fact 53 (.under (((decide (a0.At ≥ (0 : Int))) && (decide (a0.At < ((x2.Blocks).length : Int)))) = true) (.rep [] ((((a0.Data).length : Int) == (0 : Int)) : Bool)))], [.fact 54 (.under ((((decide (a0.At ≥ (0 : Int))) && (decide (a0.At < ((x2.Blocks).length : Int)))) = true) ∧ ((((a0.Data).length : Int) == (0 : Int)) = false)) (.pto 10 3))], [.fact 55 (.under ((((decide (a0.At ≥ (0 : Int))) && (decide (a0.At < ((x2.Blocks).length : Int)))) = true) ∧ ((((a0.Data).length : Int) == (0 : Int)) = false)) (.rep [0] a0.Data))], [.fact 56 (.under ((((decide (a0.At ≥ (0 : Int))) && (decide (a0.At < ((x2.Blocks).length : Int)))) = true) ∧ ((((a0.Data).length : Int) == (0 : Int)) = false)) (.rep [] (((a0.Data).length : Int) : Int)))], [.fact 57 (.under ((((decide (a0.At ≥ (0 : Int))) && (decide (a0.At < ((x2.Blocks).length : Int)))) = true) ∧ ((((a0.Data).length : Int) == (0 : Int)) = false)) (.rep [] ((((a0.Data).length : Int) == (128 : Int)) : Bool)))], [.fact 58 (.under (((decide (a0.At ≥ (0 : Int))) && (decide (a0.At < ((x2.Blocks).length : Int)))) = true) (.rep [] (((((a0.Data).length : Int) == (0 : Int)) || (((a0.Data).length : Int) == (128 : Int))) : Bool)))], [.fact 59 (.rep [] ((((decide (a0.At ≥ (0 : Int))) && (decide (a0.At < ((x2.Blocks).length : Int)))) && ((((a0.Data).length : Int) == (0 : Int)) || (((a0.Data).length : Int) == (128 : Int)))) : Bool))], [.fact 4 (.rep [] ((((decide (a0.At ≥ (0 : Int))) && (decide (a0.At < ((x2.Blocks).length : Int)))) && ((((a0.Data).length : Int) == (0 : Int)) || (((a0.Data).length : Int) == (128 : Int)))) : Bool))]] mixed (by kernel_rfl) (ao (so (Spec.fieldAddrO fd97_2 (Has.cv (Has.s rfl) (Cv.isvP rfl)))) (ao (so (Spec.loadF (i := 2) ty3 rfl (Has.s rfl) rfl (HasG.s rfl))) (ao (so (Spec.geqI (Has.s rfl) Has.int)) (ao (so (Spec.move (Has.s rfl))) (ao (StepG.opg rfl rfl rfl (fun hb => Spec.fieldAddrO fd97_2 (Has.cv (Has.s rfl) (Cv.isvP rfl)))) (ao (StepG.opg rfl rfl rfl (fun hb => Spec.loadF (i := 2) ty3 rfl (Has.u rfl hb) rfl (HasG.s rfl))) (ao (StepG.opg rfl rfl rfl (fun hb => Spec.move (Has.s rfl))) (ao (StepG.opg rfl rfl rfl (fun hb => Spec.fieldAddrO fd97_0 (Has.cv (Has.s rfl) (Cv.isvP rfl)))) (ao (StepG.opg rfl rfl rfl (fun hb => Spec.loadF (i := 0) ty3 rfl (Has.u rfl hb) rfl (HasG.s rfl))) (ao (StepG.opg rfl rfl rfl (fun hb => Spec.indexAddr (gO_t hx2 hb) sl60 (Has.u rfl hb) (Has.u rfl hb))) (ao (StepG.opg rfl rfl rfl (fun hb => Spec.fieldAddrP fd67_0 (chDisk x2) rfl (Has.u rfl hb))) (ao (StepG.opg rfl rfl rfl (fun hb => Spec.load ty64 (Has.u rfl hb))) (ao (StepG.opg rfl rfl rfl (fun hb => Spec.len (Has.u rfl hb) Try.underlying64)) (ao (StepG.opg rfl rfl rfl (fun hb => Spec.lssI (Has.u rfl hb) (Has.u rfl hb))) (ao (so (Spec.and (Has.s rfl) (fun h => Has.u rfl h))) (ao (so (Spec.move (Has.s rfl))) (ao (StepG.opg rfl rfl rfl (fun hb => Spec.fieldAddrO fd97_3 (Has.cv (Has.s rfl) (Cv.isvP rfl)))) (ao (StepG.opg rfl rfl rfl (fun hb => Spec.loadF (i := 3) ty56 rfl (Has.u rfl hb) rfl (HasG.s rfl))) (ao (StepG.opg rfl rfl rfl (fun hb => Spec.len (Has.u rfl hb) Try.underlying56)) (ao (StepG.opg rfl rfl rfl (fun hb => Spec.eqlI (Has.u rfl hb) Has.int)) (ao (StepG.opg rfl rfl rfl (fun hb => Spec.move (Has.u rfl hb))) (ao (StepG.opgu rfl rfl rfl (fun hb => Spec.fieldAddrO fd97_3 (Has.cv (Has.s rfl) (Cv.isvP rfl)))) (ao (StepG.opgu rfl rfl rfl (fun hb => Spec.loadF (i := 3) ty56 rfl (Has.u rfl hb) rfl (HasG.s rfl))) (ao (StepG.opgu rfl rfl rfl (fun hb => Spec.len (Has.u rfl hb) Try.underlying56)) (ao (StepG.opgu rfl rfl rfl (fun hb => Spec.eqlI (Has.u rfl hb) Has.int)) (ao (StepG.opg rfl rfl rfl (fun hb => Spec.or (Has.u rfl hb) (fun h => Has.u rfl ⟨hb, h⟩))) (ao (so (Spec.and (Has.s rfl) (fun h => Has.u rfl h))) (ao (so (Spec.assign (Has.s rfl))) AllM.nil)))))))))))))))))))))))))))) ?_
   refine Leaf.thenN ?_
   refine CWalk.ret ?_
   obtain rfl := Option.some.inj hm
   exact Leaf.retC1 rfl (HasR.cv (HasR.tmp (Has.s rfl)) Cv.fl)

def acts_Check_L1 (a0 : List Act58) (a1 : List Disk) (s2 : Int) : Option (Ctl (Int) ((Unit) ⊕ (Unit))) :=
  (bif (decide (s2 < ((a0).length : Int))) then Option.bind (idx a0 s2) (fun x4 => Option.bind (acts_act_may x4 a1) (fun x5 => (bif (!x5) then some (Ctl.brk (Sum.inr ())) else some (Ctl.next (wI (s2 + (1 : Int))))))) else some (Ctl.brk (Sum.inl ())))
/-- freeboard/acts.Check -/
def acts_Check (a0 : List Act58) (a1 : List Disk) : Option (Int) :=
  Option.bind (acts_devices a1) (fun x1 => (bif (x1 != (0 : Int)) then some x1 else (bif (decide (((a0).length : Int) > (1024 : Int))) then some (4 : Int) else Option.bind (loopM (fun s : Int => acts_Check_L1 a0 a1 s) FUEL (0 : Int)) (fun b6 => Sum.elim (fun b7 => some (0 : Int)) (fun b8 => some (2 : Int)) b6))))
set_option maxRecDepth 100000 in
set_option maxHeartbeats 2000000 in
theorem acts_Check_c (a0 : List Act58) (a1 : List Disk) {r : Int} (hm : acts_Check a0 a1 = some r) : Ctr Try.prog 44 [.rep 0 a0, .rep 0 a1] (.fl r) [] := by
 refine ctr_of_walk [[]] 27 Try.func44 rfl rfl rfl rfl (fun w0 om => ?_)
 unfold acts_Check at hm
 refine CWalk.sub (G' := [.fact 0 (.rep [0] (a0 : List Act58)), .fact 1 (.rep [0] (a1 : List Disk))]) (sn (sn Sub.nil)) ?_
 refine CWalk.seq ?_
 refine CWalk.region ?_
 refine wo (Spec.assign Has.int) ?_
 refine Walk.nil ?_
 refine Leaf.thenN ?_
 refine CWalk.seq ?_
 refine CWalk.seq ?_
 refine CWalk.region ?_
 refine mv ?_
 obtain ⟨x1, hx1, hm⟩ := bind_some hm
 refine wo (f := Fact.rep [] (x1 : Int)) (Spec.callE [0] 10 rfl en60 (acts_devices_c a1 hx1) (HasAll.cons (Has.m (Has.s rfl) rfl) HasAll.nil)) ?_
 refine wo (Spec.assign (Has.s rfl)) ?_
 refine Walk.nil ?_
 refine Leaf.thenN ?_
 refine CWalk.seq ?_
 refine CWalk.region ?_
 refine mv ?_
 refine wo (Spec.neqI (Has.s rfl) Has.int) ?_
 refine Walk.nil ?_
 refine Leaf.thenN ?_
 refine CWalk.cond rfl (fun hb => ?_) (fun hb => ?_)
 ·have hm := cond_t hb hm
  refine CWalk.seq ?_
  refine CWalk.region ?_
  refine mv ?_
  refine wo (Spec.assign (Has.s rfl)) ?_
  refine Walk.nil ?_
  refine Leaf.thenN ?_
  refine CWalk.ret ?_
  refine Leaf.thenR ?_
  obtain rfl := Option.some.inj hm
  exact Leaf.retC1 rfl (HasR.cv (HasR.tmp (Has.s rfl)) Cv.fl)
 ·have hm := cond_f hb hm
  refine CWalk.skip ?_
  refine Leaf.thenN ?_
  refine CWalk.seq ?_
  refine CWalk.seq ?_
  refine CWalk.region ?_
  refine mv ?_
  refine wo (Spec.len (Has.s rfl) Try.underlying50) ?_
  refine wo (Spec.gtrI (Has.s rfl) Has.int) ?_
  refine Walk.nil ?_
  refine Leaf.thenN ?_
  refine CWalk.cond rfl (fun hb => ?_) (fun hb => ?_)
  ·have hm := cond_t hb hm
   refine CWalk.seq ?_
   refine CWalk.region ?_
   refine wo (Spec.assign Has.int) ?_
   refine Walk.nil ?_
   refine Leaf.thenN ?_
   refine CWalk.ret ?_
   refine Leaf.thenR ?_
   obtain rfl := Option.some.inj hm
   exact Leaf.retC1 rfl (HasR.cv (HasR.tmp (Has.s rfl)) Cv.fl)
  ·have hm := cond_f hb hm
   refine CWalk.skip ?_
   refine Leaf.thenN ?_
   refine CWalk.seq ?_
   refine CWalk.seq ?_
   refine CWalk.region ?_
   refine mv ?_
   refine wo (Spec.len (Has.s rfl) Try.underlying50) ?_
   refine wo (Spec.move Has.int) ?_
   refine Walk.nil ?_
   refine Leaf.thenN ?_
   refine CWalk.block ?_
   obtain ⟨b6, hb6, hm⟩ := bind_some hm
   refine CWalk.loop (fun s : Int => [.fact 1 (.rep [0] (a1 : List Disk)), .fact 16 (.rep [0] (a0 : List Act58)), .fact 17 (.rep [] (((a0).length : Int) : Int)), .fact 18 (.rep [] (s : Int))]) (fun b : (Unit) ⊕ (Unit) => Sum.elim (fun b => (Exit.exit 0, [])) (fun b => (Exit.ret, [.fact 4 (.rep [] ((2 : Int) : Int))])) b) hb6 (su (su (st (st Sub.nil)))) ?_ ?_
   ·rintro s2 c3 hm
    replace hm : acts_Check_L1 a0 a1 s2 = some c3 := hm
    unfold acts_Check_L1 at hm
    show CWalk _ [.fact 1 (.rep [0] (a1 : List Disk)), .fact 16 (.rep [0] (a0 : List Act58)), .fact 17 (.rep [] (((a0).length : Int) : Int)), .fact 18 (.rep [] (s2 : Int))] _ _
    refine CWalk.seq ?_
    refine CWalk.region ?_
    refine wo (Spec.lssI (Has.s rfl) (Has.s rfl)) ?_
    refine Walk.nil ?_
    refine Leaf.thenN ?_
    refine CWalk.seq ?_
    refine CWalk.cond rfl (fun hb => ?_) (fun hb => ?_)
    ·have hm := cond_t hb hm
     refine CWalk.skip ?_
     refine Leaf.thenN ?_
     refine CWalk.seq ?_
     refine CWalk.block ?_
     refine CWalk.seq ?_
     refine CWalk.region ?_
     obtain ⟨x4, hx4, hm⟩ := bind_some hm
     refine wo (Spec.indexAddr hx4 sl50 (Has.s rfl) (Has.s rfl)) ?_
     refine wo (Spec.load ty58 (Has.s rfl)) ?_
     refine ws (Step.allocObj (ls := [(false, 1, Fact.rep [] ((0 : Int) : Int)), (false, 1, Fact.rep [] ((0 : UInt8) : UInt8)), (false, 1, Fact.rep [] ((0 : Int) : Int)), (false, 1, Fact.nilv)]) 11 rfl rfl rfl rfl zl58) ?_
     refine ws (Step.storeObj (ls := [(false, 1, Fact.rep [] x4.Disk), (false, 1, Fact.rep [] x4.Kind), (false, 1, Fact.rep [] x4.At), (false, 1, Fact.rep [0] x4.Data)]) rfl ty58 rfl rfl (Has.s rfl) rfl (HasL.flds (Has.cv (Has.s rfl) (Cv.trans (Cv.opens (chAct58 x4)) (Cv.flds (CvL.cons Cv.fl (CvL.cons Cv.fl (CvL.cons Cv.fl (CvL.cons Cv.refl CvL.nil)))))))) rfl) ?_
     refine Walk.nil ?_
     refine Leaf.thenN ?_
     refine CWalk.seq ?_
     refine CWalk.region ?_
     refine wo (Spec.loadObj (ls := [(false, 1, Fact.rep [] x4.Disk), (false, 1, Fact.rep [] x4.Kind), (false, 1, Fact.rep [] x4.At), (false, 1, Fact.rep [0] x4.Data)]) ty58 rfl rfl (Has.s rfl) rfl (HasGs.cons (HasG.s rfl) (HasGs.cons (HasG.s rfl) (HasGs.cons (HasG.s rfl) (HasGs.cons (HasG.s rfl) HasGs.nil))))) ?_
     refine mv ?_
     obtain ⟨x5, hx5, hm⟩ := bind_some hm
     refine wo (f := Fact.rep [] (x5 : Bool)) (Spec.callE [0] 16 rfl en61 (acts_act_may_c x4 a1 hx5) (HasAll.cons (Has.m (Has.cv (Has.s rfl) (Cv.trans (Cv.flds (CvL.cons Cv.fl (CvL.cons Cv.fl (CvL.cons Cv.fl (CvL.cons (Cv.m rfl) CvL.nil))))) (Cv.close (T := [0]) (chAct58 x4)))) rfl) (HasAll.cons (Has.m (Has.s rfl) rfl) HasAll.nil))) ?_
     refine wo (Spec.not (Has.s rfl)) ?_
     refine Walk.nil ?_
     refine Leaf.thenN ?_
     refine CWalk.cond rfl (fun hb => ?_) (fun hb => ?_)
     ·have hm := cond_t hb hm
      refine CWalk.seq ?_
      refine CWalk.region ?_
      refine wo (Spec.assign Has.int) ?_
      refine Walk.nil ?_
      refine Leaf.thenN ?_
      refine CWalk.ret ?_
      refine Leaf.blockR ?_
      refine Leaf.thenR ?_
      exact Leaf.brk hm (fun h => nomatch h) rfl (st Sub.nil)
     ·have hm := cond_f hb hm
      refine CWalk.skip ?_
      refine Leaf.blockN ?_
      refine Leaf.thenN ?_
      refine CWalk.region ?_
      refine wo (Spec.addI (Has.s rfl) Has.int) ?_
      refine mv ?_
      refine Walk.nil ?_
      exact Leaf.next hm (su (su (st (st Sub.nil))))
    ·have hm := cond_f hb hm
     refine CWalk.exit ?_
     refine Leaf.thenE ?_
     exact Leaf.brk hm (fun h => nomatch h) rfl (Sub.nil)
   ·intro _
    rcases b6 with b7 | b8
    ·have hm := selim_l hm
     refine Leaf.blockE ?_
     refine Leaf.thenN ?_
     refine CWalk.seq ?_
     refine CWalk.region ?_
     refine wo (Spec.assign Has.int) ?_
     refine Walk.nil ?_
     refine Leaf.thenN ?_
     refine CWalk.ret ?_
     obtain rfl := Option.some.inj hm
     exact Leaf.retC1 rfl (HasR.cv (HasR.tmp (Has.s rfl)) Cv.fl)
    ·have hm := selim_r hm
     refine Leaf.blockR ?_
     refine Leaf.thenR ?_
     obtain rfl := Option.some.inj hm
     exact Leaf.retC1 rfl (HasR.cv (HasR.tmp (Has.s rfl)) Cv.fl)

/-- slices.Clone[[]byte,byte] -/
def slices_Clone_byte_byte (a0 : List UInt8) : Option ((List UInt8)) :=
  Option.bind (app ([] : List UInt8) a0) (fun x1 => some x1)
set_option maxRecDepth 100000 in
set_option maxHeartbeats 2000000 in
theorem slices_Clone_byte_byte_c (a0 : List UInt8) {r : (List UInt8)} (hm : slices_Clone_byte_byte a0 = some r) : Ctr Try.prog 68 [.rep 0 a0] (.own 0 none 5 r) [] := by
 refine ctr_of_walk [[10]] 8 Try.func68 rfl rfl rfl rfl (fun w0 om => ?_)
 unfold slices_Clone_byte_byte at hm
 refine CWalk.sub (G' := [.fact 0 (.rep [0] (a0 : List UInt8))]) (sn Sub.nil) ?_
 refine CWalk.seq ?_
 refine CWalk.region ?_
 refine wo (Spec.assign Has.nilv) ?_
 refine Walk.nil ?_
 refine Leaf.thenN ?_
 refine CWalk.seq ?_
 refine CWalk.seq ?_
 refine CWalk.region ?_
 refine mv ?_
 refine wo (Spec.eqlNil Try.underlying56 (Has.s rfl)) ?_
 refine Walk.nil ?_
 refine Leaf.thenN ?_
 refine CWalk.condNil rfl (fun hb => ?_) ?_
 ·have hm : some ([] : List UInt8) = some r := by first | simpa [app, hb] using hm | simpa [hb] using hm
  refine CWalk.seq ?_
  refine CWalk.region ?_
  refine wo (Spec.assign Has.nilv) ?_
  refine Walk.nil ?_
  refine Leaf.thenN ?_
  refine CWalk.ret ?_
  refine Leaf.thenR ?_
  obtain rfl := Option.some.inj hm
  exact Leaf.retC1 rfl (HasR.cv (HasR.tmp (Has.s rfl)) (Cv.trans Cv.nilOw (Cv.owF (T := []) (te := []) rfl)))
 ·skip
  refine CWalk.skip ?_
  refine Leaf.thenN ?_
  refine CWalk.seq ?_
  refine CWalk.region ?_
  refine ws (Step.lit0 (α := UInt8) 10 rfl rfl ow56) ?_
  refine mv ?_
  obtain ⟨x1, hx1, hm⟩ := bind_some hm
  refine ws (Step.append (te' := []) 10 hx1 rfl rfl ow56 (Has.s rfl) rfl (Has.s rfl) ElKeep.flat ElKeep.flat) ?_
  refine wo (Spec.assign (Has.s rfl)) ?_
  refine Walk.nil ?_
  refine Leaf.thenN ?_
  refine CWalk.ret ?_
  obtain rfl := Option.some.inj hm
  exact Leaf.retC1 rfl (HasR.cv (HasR.tmp (Has.s rfl)) (Cv.trans (Cv.isvOw rfl) (Cv.owF (T := [10]) (te := []) rfl)))

def disk_Twin_L1 (a0 : Disk) (s1 : Int) (s2 : List (List UInt8)) : Option (Ctl (Int × (List (List UInt8))) ((List (List UInt8)))) :=
  (bif (decide (s1 < ((a0.Blocks).length : Int))) then Option.bind (idx a0.Blocks s1) (fun x4 => Option.bind (slices_Clone_byte_byte x4) (fun x5 => Option.bind (app s2 ([x5])) (fun x6 => some (Ctl.next ((wI (s1 + (1 : Int))), x6))))) else some (Ctl.brk s2))
def disk_Twin_L2 (a0 : Disk) (s8 : Int) (s9 : List Write) : Option (Ctl (Int × (List Write)) ((List Write))) :=
  (bif (decide (s8 < ((a0.Wait).length : Int))) then Option.bind (idx a0.Wait s8) (fun x11 => Option.bind (slices_Clone_byte_byte x11.Data) (fun x12 => Option.bind (app s9 ([(Write.mk x11.At x12)])) (fun x13 => some (Ctl.next ((wI (s8 + (1 : Int))), x13))))) else some (Ctl.brk s9))
/-- freeboard/disk.Twin -/
def disk_Twin (a0 : Disk) : Option (Disk) :=
  Option.bind (loopM (fun s : Int × (List (List UInt8)) => disk_Twin_L1 a0 s.1 s.2) FUEL ((0 : Int), ([] : List (List UInt8)))) (fun b7 => Option.bind (loopM (fun s : Int × (List Write) => disk_Twin_L2 a0 s.1 s.2) FUEL ((0 : Int), ([] : List Write))) (fun b14 => some (Disk.mk b7 b14 a0.Dead)))
set_option maxRecDepth 100000 in
set_option maxHeartbeats 2000000 in
theorem disk_Twin_c (a0 : Disk) {r : Disk} (hm : disk_Twin a0 = some r) : Ctr Try.prog 62 [.rep 0 a0] (.flds [(false, 1, (.own 0 (some 1) 56 r.Blocks)), (false, 1, (.own 2 (some 3) 91 r.Wait)), (false, 1, (.fl r.Dead))]) [] := by
 refine ctr_of_walk [[24], [22, 23], [30], [28, 29]] 46 Try.func62 rfl rfl rfl rfl (fun w0 om => ?_)
 unfold disk_Twin at hm
 refine CWalk.sub (G' := [.fact 0 (.rep [0] (a0 : Disk))]) (sn Sub.nil) ?_
 refine CWalk.seq ?_
 refine CWalk.region ?_
 refine ws (Step.boxObj (ls := [(false, 1, Fact.rep [0] a0.Blocks), (false, 1, Fact.rep [0] a0.Wait), (false, 1, Fact.rep [] a0.Dead)]) 10 rfl rfl rfl rfl (HasL.flds (Has.cv (Has.s rfl) (Cv.trans (Cv.opens (chDisk a0)) (Cv.flds (CvL.cons Cv.refl (CvL.cons Cv.refl (CvL.cons Cv.fl CvL.nil)))))))) ?_
 refine ws (Step.allocObj (ls := [(false, 1, Fact.nilv), (false, 1, Fact.nilv), (false, 1, Fact.rep [] (false : Bool))]) 14 rfl rfl rfl rfl zl67) ?_
 refine Walk.nil ?_
 refine Leaf.thenN ?_
 refine CWalk.seq ?_
 refine CWalk.region ?_
 refine wo (Spec.fieldAddrO fd67_2 (Has.cv (Has.s rfl) (Cv.isvP rfl))) ?_
 refine wo (Spec.loadF (i := 2) ty4 rfl (Has.s rfl) rfl (HasG.s rfl)) ?_
 refine wo (Spec.build (us := [(2, .tmp 9)]) (ls' := [(false, 1, Fact.nilv), (false, 1, Fact.nilv), (false, 1, Fact.rep [] a0.Dead)]) bd67 rfl (BP.cons rfl rfl (Has.s rfl) (Has.s rfl) BP.nil)) ?_
 refine ws (Step.allocObj (ls := [(false, 1, Fact.nilv), (false, 1, Fact.nilv), (false, 1, Fact.rep [] (false : Bool))]) 18 rfl rfl rfl rfl zl67) ?_
 refine ws (Step.storeObj (ls := [(false, 1, Fact.nilv), (false, 1, Fact.nilv), (false, 1, Fact.rep [] a0.Dead)]) rfl ty67 rfl rfl (Has.s rfl) rfl (HasL.flds (Has.s rfl)) rfl) ?_
 refine Walk.nil ?_
 refine Leaf.thenN ?_
 refine CWalk.seq ?_
 refine CWalk.seq ?_
 refine CWalk.region ?_
 refine wo (Spec.fieldAddrO fd67_0 (Has.cv (Has.s rfl) (Cv.isvP rfl))) ?_
 refine wo (Spec.loadF (i := 0) ty64 rfl (Has.s rfl) rfl (HasG.s rfl)) ?_
 refine wo (Spec.len (Has.s rfl) Try.underlying64) ?_
 refine wo (Spec.move Has.int) ?_
 refine Walk.nil ?_
 refine Leaf.thenN ?_
 refine CWalk.block ?_
 obtain ⟨b7, hb7, hm⟩ := bind_some hm
 refine CWalk.loop (fun s : Int × (List (List UInt8)) => [.fact 1 (.isv 10), .fact 2 (.isv 14), .fact 3 (.isv 18), .fact 12 (.rep [0] a0.Blocks), .fact 13 (.rep [] (((a0.Blocks).length : Int) : Int)), .fact 14 (.rep [] s.1), .fact 100011 (.at 11 (.rep [0] a0.Blocks)), .fact 100012 (.at 12 (.rep [0] a0.Wait)), .fact 100013 (.at 13 (.rep [] a0.Dead)), .fact 100015 (.at 15 (.nilv)), .fact 100016 (.at 16 (.nilv)), .fact 100017 (.at 17 (.rep [] (false : Bool))), .fact 100019 (.at 19 (.ow [24] [22, 23] 56 (s.2 : List (List UInt8)))), .fact 100020 (.at 20 (.nilv)), .fact 100021 (.at 21 (.rep [] a0.Dead)), .fact 100010 (.obj 10 [(false, 1), (false, 1), (false, 1)]), .fact 100014 (.obj 14 [(false, 1), (false, 1), (false, 1)]), .fact 100018 (.obj 18 [(false, 1), (false, 1), (false, 1)])]) (fun b : (List (List UInt8)) => (Exit.exit 0, [.fact 1 (.isv 10), .fact 2 (.isv 14), .fact 3 (.isv 18), .fact 100011 (.at 11 (.rep [0] a0.Blocks)), .fact 100012 (.at 12 (.rep [0] a0.Wait)), .fact 100013 (.at 13 (.rep [] a0.Dead)), .fact 100015 (.at 15 (.nilv)), .fact 100016 (.at 16 (.nilv)), .fact 100017 (.at 17 (.rep [] (false : Bool))), .fact 100019 (.at 19 (.ow [24] [22, 23] 56 (b : List (List UInt8)))), .fact 100020 (.at 20 (.nilv)), .fact 100021 (.at 21 (.rep [] a0.Dead)), .fact 100010 (.obj 10 [(false, 1), (false, 1), (false, 1)]), .fact 100014 (.obj 14 [(false, 1), (false, 1), (false, 1)]), .fact 100018 (.obj 18 [(false, 1), (false, 1), (false, 1)])])) hb7 (sn (sn (sn (su (st (st (sm (sm (sf (sg (sg (sf (Sub.cons (Has.at (HasG.cv (HasG.s rfl) (Cv.trans Cv.nilOw (Cv.owM (T := []) (te := []) rfl rfl)))) (sg (sf (sn (sn (sn Sub.nil)))))))))))))))))) ?_ ?_
 ·rintro ⟨s1, s2⟩ c3 hm
  replace hm : disk_Twin_L1 a0 s1 s2 = some c3 := hm
  unfold disk_Twin_L1 at hm
  show CWalk _ [.fact 1 (.isv 10), .fact 2 (.isv 14), .fact 3 (.isv 18), .fact 12 (.rep [0] a0.Blocks), .fact 13 (.rep [] (((a0.Blocks).length : Int) : Int)), .fact 14 (.rep [] (s1 : Int)), .fact 100011 (.at 11 (.rep [0] a0.Blocks)), .fact 100012 (.at 12 (.rep [0] a0.Wait)), .fact 100013 (.at 13 (.rep [] a0.Dead)), .fact 100015 (.at 15 (.nilv)), .fact 100016 (.at 16 (.nilv)), .fact 100017 (.at 17 (.rep [] (false : Bool))), .fact 100019 (.at 19 (.ow [24] [22, 23] 56 (s2 : List (List UInt8)))), .fact 100020 (.at 20 (.nilv)), .fact 100021 (.at 21 (.rep [] a0.Dead)), .fact 100010 (.obj 10 [(false, 1), (false, 1), (false, 1)]), .fact 100014 (.obj 14 [(false, 1), (false, 1), (false, 1)]), .fact 100018 (.obj 18 [(false, 1), (false, 1), (false, 1)])] _ _
  refine CWalk.seq ?_
  refine CWalk.region ?_
  refine wo (Spec.lssI (Has.s rfl) (Has.s rfl)) ?_
  refine Walk.nil ?_
  refine Leaf.thenN ?_
  refine CWalk.seq ?_
  refine CWalk.cond rfl (fun hb => ?_) (fun hb => ?_)
  ·have hm := cond_t hb hm
   refine CWalk.skip ?_
   refine Leaf.thenN ?_
   refine CWalk.seq ?_
   refine CWalk.block ?_
   refine CWalk.seq ?_
   refine CWalk.region ?_
   obtain ⟨x4, hx4, hm⟩ := bind_some hm
   refine wo (Spec.indexAddr hx4 sl64 (Has.s rfl) (Has.s rfl)) ?_
   refine wo (Spec.load ty56 (Has.s rfl)) ?_
   refine wo (Spec.assign (Has.s rfl)) ?_
   refine Walk.nil ?_
   refine Leaf.thenN ?_
   obtain ⟨x5, hx5, hm⟩ := bind_some hm
   obtain ⟨x6, hx6, hm⟩ := bind_some hm
   refine CWalk.drawM [[], [0], [], [2], [2, 3], [0, 1, 2, 3, 4], [0, 1, 2, 3, 4, 5], [0, 1, 2, 3, 4, 5, 6]] [[.fact 18 (.pto 18 0)], [.fact 19 (.ow [24] [22, 23] 56 (s2 : List (List UInt8)))], [.fact 20 (.rep [0] (x4 : List UInt8))], [.fact 21 (.ow [22] [] 5 (x5 : List UInt8))], [.fact 22 (.rep [23, 22] ([x5] : List (List UInt8)))], [.fact 23 (.ow [24] [22, 23] 56 (x6 : List (List UInt8))), .kill 24], [.fact 24 (.pto 18 0)], [.fact 100019 (.at 19 (.ow [24] [22, 23] 56 (x6 : List (List UInt8)))), .fact 100018 (.obj 18 [(false, 1), (false, 1), (false, 1)]), .kill 18, .killId 19]] mixed (by kernel_rfl) (ao (so (Spec.fieldAddrO fd67_0 (Has.cv (Has.s rfl) (Cv.isvP rfl)))) (ao (so (Spec.loadF (i := 0) ty64 rfl (Has.s rfl) rfl (HasG.s rfl))) (ao (so (Spec.move (Has.s rfl))) (ao (so (Spec.callE [0] 22 rfl en68 (slices_Clone_byte_byte_c x4 hx5) (HasAll.cons (Has.m (Has.s rfl) rfl) HasAll.nil))) (ao (so (Spec.lit (xs := [.tmp 21]) (T := [22]) 23 rfl ow64 rfl rfl rfl rfl (HasEach.cons (Has.m (Has.cv (Has.s rfl) (Cv.trans Cv.owSl (Cv.slRep (T' := [22]) rfl rfl))) rfl) HasEach.nil))) (ao (StepG.stE (Step.appendOw (T := [24]) (te' := [22, 23]) hx6 rfl rfl rfl ow64 (Has.s rfl) (Has.s rfl) (ElKeeps.tags rfl rfl) (ElKeeps.tags rfl rfl))) (ao (so (Spec.fieldAddrO fd67_0 (Has.cv (Has.s rfl) (Cv.isvP rfl)))) (ao (StepG.stE (Step.storeF (i := 0) (f := Fact.ow [24] [22, 23] 56 (x6 : List (List UInt8))) rfl ty64 rfl (Has.s rfl) rfl (Has.cv (Has.s rfl) (Cv.trans Cv.owSl (Cv.slRep (T' := [22, 23, 24]) rfl rfl))) (Has.s rfl) rfl)) AllM.nil)))))))) ?_
   refine Leaf.blockN ?_
   refine Leaf.thenN ?_
   refine CWalk.region ?_
   refine wo (Spec.addI (Has.s rfl) Has.int) ?_
   refine mv ?_
   refine Walk.nil ?_
   exact Leaf.next hm (sn (sn (sn (su (st (st (sm (sm (sf (sg (sg (sf (Sub.cons (Has.at (HasG.cv (HasG.s rfl) (Cv.owM (T := [24]) (te := [22, 23]) rfl rfl))) (sg (sf (sn (sn (sn Sub.nil))))))))))))))))))
  ·have hm := cond_f hb hm
   refine CWalk.exit ?_
   refine Leaf.thenE ?_
   exact Leaf.brk hm (fun h => nomatch h) rfl (sn (sn (sn (sm (sm (sf (sg (sg (sf (Sub.cons (Has.at (HasG.cv (HasG.s rfl) (Cv.owM (T := [24]) (te := [22, 23]) rfl rfl))) (sg (sf (sn (sn (sn Sub.nil)))))))))))))))
 ·intro _
  refine Leaf.blockE ?_
  refine Leaf.thenN ?_
  refine CWalk.seq ?_
  refine CWalk.seq ?_
  refine CWalk.region ?_
  refine wo (Spec.fieldAddrO fd67_1 (Has.cv (Has.s rfl) (Cv.isvP rfl))) ?_
  refine wo (Spec.loadF (i := 1) ty65 rfl (Has.s rfl) rfl (HasG.s rfl)) ?_
  refine wo (Spec.len (Has.s rfl) Try.underlying65) ?_
  refine wo (Spec.move Has.int) ?_
  refine Walk.nil ?_
  refine Leaf.thenN ?_
  refine CWalk.block ?_
  obtain ⟨b14, hb14, hm⟩ := bind_some hm
  refine CWalk.loop (fun s : Int × (List Write) => [.fact 2 (.isv 14), .fact 3 (.isv 18), .fact 27 (.rep [0] a0.Wait), .fact 28 (.rep [] (((a0.Wait).length : Int) : Int)), .fact 29 (.rep [] s.1), .fact 100015 (.at 15 (.nilv)), .fact 100016 (.at 16 (.nilv)), .fact 100017 (.at 17 (.rep [] (false : Bool))), .fact 100019 (.at 19 (.ow [24] [22, 23] 56 (b7 : List (List UInt8)))), .fact 100020 (.at 20 (.ow [30] [28, 29] 91 (s.2 : List Write))), .fact 100021 (.at 21 (.rep [] a0.Dead)), .fact 100014 (.obj 14 [(false, 1), (false, 1), (false, 1)]), .fact 100018 (.obj 18 [(false, 1), (false, 1), (false, 1)])]) (fun b : (List Write) => (Exit.exit 2, [.fact 2 (.isv 14), .fact 3 (.isv 18), .fact 100015 (.at 15 (.nilv)), .fact 100016 (.at 16 (.nilv)), .fact 100017 (.at 17 (.rep [] (false : Bool))), .fact 100019 (.at 19 (.ow [24] [22, 23] 56 (b7 : List (List UInt8)))), .fact 100020 (.at 20 (.ow [30] [28, 29] 91 (b : List Write))), .fact 100021 (.at 21 (.rep [] a0.Dead)), .fact 100014 (.obj 14 [(false, 1), (false, 1), (false, 1)]), .fact 100018 (.obj 18 [(false, 1), (false, 1), (false, 1)])])) hb14 (sn (sn (su (st (st (sg (sg (sf (Sub.cons (Has.at (HasG.cv (HasG.s rfl) (Cv.owM (T := [24]) (te := [22, 23]) rfl rfl))) (Sub.cons (Has.at (HasG.cv (HasG.s rfl) (Cv.trans Cv.nilOw (Cv.owM (T := []) (te := []) rfl rfl)))) (sf (sn (sn Sub.nil))))))))))))) ?_ ?_
  ·rintro ⟨s8, s9⟩ c10 hm
   replace hm : disk_Twin_L2 a0 s8 s9 = some c10 := hm
   unfold disk_Twin_L2 at hm
   show CWalk _ [.fact 2 (.isv 14), .fact 3 (.isv 18), .fact 27 (.rep [0] a0.Wait), .fact 28 (.rep [] (((a0.Wait).length : Int) : Int)), .fact 29 (.rep [] (s8 : Int)), .fact 100015 (.at 15 (.nilv)), .fact 100016 (.at 16 (.nilv)), .fact 100017 (.at 17 (.rep [] (false : Bool))), .fact 100019 (.at 19 (.ow [24] [22, 23] 56 (b7 : List (List UInt8)))), .fact 100020 (.at 20 (.ow [30] [28, 29] 91 (s9 : List Write))), .fact 100021 (.at 21 (.rep [] a0.Dead)), .fact 100014 (.obj 14 [(false, 1), (false, 1), (false, 1)]), .fact 100018 (.obj 18 [(false, 1), (false, 1), (false, 1)])] _ _
   refine CWalk.seq ?_
   refine CWalk.region ?_
   refine wo (Spec.lssI (Has.s rfl) (Has.s rfl)) ?_
   refine Walk.nil ?_
   refine Leaf.thenN ?_
   refine CWalk.seq ?_
   refine CWalk.cond rfl (fun hb => ?_) (fun hb => ?_)
   ·have hm := cond_t hb hm
    refine CWalk.skip ?_
    refine Leaf.thenN ?_
    refine CWalk.seq ?_
    refine CWalk.block ?_
    refine CWalk.seq ?_
    refine CWalk.region ?_
    obtain ⟨x11, hx11, hm⟩ := bind_some hm
    refine wo (Spec.indexAddr hx11 sl65 (Has.s rfl) (Has.s rfl)) ?_
    refine wo (Spec.load ty91 (Has.s rfl)) ?_
    refine ws (Step.allocObj (ls := [(false, 1, Fact.rep [] ((0 : Int) : Int)), (false, 1, Fact.nilv)]) 25 rfl rfl rfl rfl zl91) ?_
    refine ws (Step.storeObj (ls := [(false, 1, Fact.rep [] x11.At), (false, 1, Fact.rep [0] x11.Data)]) rfl ty91 rfl rfl (Has.s rfl) rfl (HasL.flds (Has.cv (Has.s rfl) (Cv.trans (Cv.opens (chWrite x11)) (Cv.flds (CvL.cons Cv.fl (CvL.cons Cv.refl CvL.nil)))))) rfl) ?_
    refine Walk.nil ?_
    refine Leaf.thenN ?_
    obtain ⟨x12, hx12, hm⟩ := bind_some hm
    obtain ⟨x13, hx13, hm⟩ := bind_some hm
    refine CWalk.drawM [[], [0], [], [2], [], [4], [4, 5], [2, 3, 4, 5, 6], [2, 3, 4, 5, 6, 7], [0, 1, 2, 3, 4, 5, 6, 7, 8], [0, 1, 2, 3, 4, 5, 6, 7, 8, 9], [0, 1, 2, 3, 4, 5, 6, 7, 8, 9, 10]] [[.fact 33 (.pto 18 1)], [.fact 34 (.ow [30] [28, 29] 91 (s9 : List Write))], [.fact 35 (.pto 25 0)], [.fact 36 (.rep [] x11.At)], [.fact 37 (.pto 25 1)], [.fact 38 (.rep [0] x11.Data)], [.fact 39 (.ow [28] [] 5 (x12 : List UInt8))], [.fact 40 (.flds [(false, 1, Fact.rep [] x11.At), (false, 1, Fact.ow [28] [] 5 (x12 : List UInt8))])], [.fact 41 (.rep [29, 28] ([(Write.mk x11.At x12)] : List Write))], [.fact 42 (.ow [30] [28, 29] 91 (x13 : List Write)), .kill 30], [.fact 43 (.pto 18 1)], [.fact 100020 (.at 20 (.ow [30] [28, 29] 91 (x13 : List Write))), .fact 100018 (.obj 18 [(false, 1), (false, 1), (false, 1)]), .kill 18, .killId 20]] mixed (by kernel_rfl) (ao (so (Spec.fieldAddrO fd67_1 (Has.cv (Has.s rfl) (Cv.isvP rfl)))) (ao (so (Spec.loadF (i := 1) ty65 rfl (Has.s rfl) rfl (HasG.s rfl))) (ao (so (Spec.fieldAddrO fd91_0 (Has.cv (Has.s rfl) (Cv.isvP rfl)))) (ao (so (Spec.loadF (i := 0) ty3 rfl (Has.s rfl) rfl (HasG.s rfl))) (ao (so (Spec.fieldAddrO fd91_1 (Has.cv (Has.s rfl) (Cv.isvP rfl)))) (ao (so (Spec.loadF (i := 1) ty56 rfl (Has.s rfl) rfl (HasG.s rfl))) (ao (so (Spec.callE [0] 28 rfl en68 (slices_Clone_byte_byte_c x11.Data hx12) (HasAll.cons (Has.m (Has.s rfl) rfl) HasAll.nil))) (ao (so (Spec.build (us := [(0, .tmp 36), (1, .tmp 39)]) (ls' := [(false, 1, Fact.rep [] x11.At), (false, 1, Fact.ow [28] [] 5 (x12 : List UInt8))]) bd91 rfl (BP.cons rfl rfl (Has.s rfl) (Has.s rfl) (BP.cons rfl rfl (Has.cv (Has.s rfl) (Cv.trans Cv.owSl (Cv.slRep (T' := [28]) rfl rfl))) (Has.s rfl) BP.nil)))) (ao (so (Spec.lit (xs := [.tmp 40]) (T := [28]) 29 rfl ow65 rfl rfl rfl rfl (HasEach.cons (Has.m (Has.cv (Has.s rfl) (Cv.trans (Cv.flds (CvL.cons Cv.fl (CvL.cons (Cv.trans (Cv.trans Cv.owSl (Cv.slRep (T' := [28]) rfl rfl)) (Cv.m rfl)) CvL.nil))) (Cv.close (T := [28]) (chWrite (Write.mk x11.At x12))))) rfl) HasEach.nil))) (ao (StepG.stE (Step.appendOw (T := [30]) (te' := [28, 29]) hx13 rfl rfl rfl ow65 (Has.s rfl) (Has.s rfl) (ElKeeps.tags rfl rfl) (ElKeeps.tags rfl rfl))) (ao (so (Spec.fieldAddrO fd67_1 (Has.cv (Has.s rfl) (Cv.isvP rfl)))) (ao (StepG.stE (Step.storeF (i := 1) (f := Fact.ow [30] [28, 29] 91 (x13 : List Write)) rfl ty65 rfl (Has.s rfl) rfl (Has.cv (Has.s rfl) (Cv.trans Cv.owSl (Cv.slRep (T' := [28, 29, 30]) rfl rfl))) (Has.s rfl) rfl)) AllM.nil)))))))))))) ?_
    refine Leaf.blockN ?_
    refine Leaf.thenN ?_
    refine CWalk.region ?_
    refine wo (Spec.addI (Has.s rfl) Has.int) ?_
    refine mv ?_
    refine Walk.nil ?_
    exact Leaf.next hm (sn (sn (su (st (st (sg (sg (sf (Sub.cons (Has.at (HasG.cv (HasG.s rfl) (Cv.owM (T := [24]) (te := [22, 23]) rfl rfl))) (Sub.cons (Has.at (HasG.cv (HasG.s rfl) (Cv.owM (T := [30]) (te := [28, 29]) rfl rfl))) (sf (sn (sn Sub.nil)))))))))))))
   ·have hm := cond_f hb hm
    refine CWalk.exit ?_
    refine Leaf.thenE ?_
    exact Leaf.brk hm (fun h => nomatch h) rfl (sn (sn (sg (sg (sf (Sub.cons (Has.at (HasG.cv (HasG.s rfl) (Cv.owM (T := [24]) (te := [22, 23]) rfl rfl))) (Sub.cons (Has.at (HasG.cv (HasG.s rfl) (Cv.owM (T := [30]) (te := [28, 29]) rfl rfl))) (sf (sn (sn Sub.nil))))))))))
  ·intro _
   refine Leaf.blockE ?_
   refine Leaf.thenN ?_
   refine CWalk.seq ?_
   refine CWalk.region ?_
   refine wo (Spec.loadObj (ls := [(false, 1, Fact.ow [24] [22, 23] 56 (b7 : List (List UInt8))), (false, 1, Fact.ow [30] [28, 29] 91 (b14 : List Write)), (false, 1, Fact.rep [] a0.Dead)]) ty67 rfl rfl (Has.s rfl) rfl (HasGs.cons (HasG.s rfl) (HasGs.cons (HasG.s rfl) (HasGs.cons (HasG.s rfl) HasGs.nil)))) ?_
   refine ws (Step.storeObj (ls := [(false, 1, Fact.ow [24] [22, 23] 56 (b7 : List (List UInt8))), (false, 1, Fact.ow [30] [28, 29] 91 (b14 : List Write)), (false, 1, Fact.rep [] a0.Dead)]) rfl ty67 rfl rfl (Has.s rfl) rfl (HasL.flds (Has.s rfl)) rfl) ?_
   refine Walk.nil ?_
   refine Leaf.thenN ?_
   refine CWalk.ret ?_
   obtain rfl := Option.some.inj hm
   exact Leaf.retC1 rfl (HasR.cv (HasR.obj (ls := [(false, 1, Fact.ow [24] [22, 23] 56 (b7 : List (List UInt8))), (false, 1, Fact.ow [30] [28, 29] 91 (b14 : List Write)), (false, 1, Fact.rep [] a0.Dead)]) ty67 rfl rfl (Has.s rfl) rfl (HasGs.cons (HasG.s rfl) (HasGs.cons (HasG.s rfl) (HasGs.cons (HasG.s rfl) HasGs.nil)))) (Cv.flds (CvL.cons (Cv.owM (T := [24]) (te := [22, 23]) rfl rfl) (CvL.cons (Cv.owM (T := [30]) (te := [28, 29]) rfl rfl) (CvL.cons Cv.fl CvL.nil)))))

def acts_twins_L1 (a0 : List Disk) (s1 : List Disk) (s2 : Int) : Option (Ctl ((List Disk) × Int) ((List Disk))) :=
  (bif (decide (s2 < ((a0).length : Int))) then Option.bind (idx a0 s2) (fun x4 => Option.bind (disk_Twin x4) (fun x5 => Option.bind (app s1 ([x5])) (fun x6 => some (Ctl.next (x6, (wI (s2 + (1 : Int)))))))) else some (Ctl.brk s1))
/-- freeboard/acts.twins -/
def acts_twins (a0 : List Disk) : Option ((List Disk)) :=
  Option.bind (loopM (fun s : (List Disk) × Int => acts_twins_L1 a0 s.1 s.2) FUEL (([] : List Disk), (0 : Int))) (fun b7 => some b7)
set_option maxRecDepth 100000 in
set_option maxHeartbeats 2000000 in
theorem acts_twins_c (a0 : List Disk) {r : (List Disk)} (hm : acts_twins a0 = some r) : Ctr Try.prog 45 [.rep 0 a0] (.own 0 (some 1) 67 r) [] := by
 refine ctr_of_walk [[19], [14, 15, 16, 17, 18]] 19 Try.func45 rfl rfl rfl rfl (fun w0 om => ?_)
 unfold acts_twins at hm
 refine CWalk.sub (G' := [.fact 0 (.rep [0] (a0 : List Disk))]) (sn Sub.nil) ?_
 refine CWalk.seq ?_
 refine CWalk.region ?_
 refine wo (Spec.assign Has.nilv) ?_
 refine Walk.nil ?_
 refine Leaf.thenN ?_
 refine CWalk.seq ?_
 refine CWalk.region ?_
 refine wo (Spec.assign Has.nilv) ?_
 refine Walk.nil ?_
 refine Leaf.thenN ?_
 refine CWalk.seq ?_
 refine CWalk.seq ?_
 refine CWalk.region ?_
 refine mv ?_
 refine wo (Spec.len (Has.s rfl) Try.underlying60) ?_
 refine wo (Spec.move Has.int) ?_
 refine Walk.nil ?_
 refine Leaf.thenN ?_
 refine CWalk.block ?_
 obtain ⟨b7, hb7, hm⟩ := bind_some hm
 refine CWalk.loop (fun s : (List Disk) × Int => [.fact 3 (.ow [19] [14, 15, 16, 17, 18] 67 (s.1 : List Disk)), .fact 6 (.rep [0] (a0 : List Disk)), .fact 7 (.rep [] (((a0).length : Int) : Int)), .fact 8 (.rep [] s.2)]) (fun b : (List Disk) => (Exit.exit 0, [.fact 3 (.ow [19] [14, 15, 16, 17, 18] 67 (b : List Disk))])) hb7 (Sub.cons (Has.cv (Has.s rfl) (Cv.trans Cv.nilOw (Cv.owM (T := []) (te := []) rfl rfl))) (su (st (st Sub.nil)))) ?_ ?_
 ·rintro ⟨s1, s2⟩ c3 hm
  replace hm : acts_twins_L1 a0 s1 s2 = some c3 := hm
  unfold acts_twins_L1 at hm
  show CWalk _ [.fact 3 (.ow [19] [14, 15, 16, 17, 18] 67 (s1 : List Disk)), .fact 6 (.rep [0] (a0 : List Disk)), .fact 7 (.rep [] (((a0).length : Int) : Int)), .fact 8 (.rep [] (s2 : Int))] _ _
  refine CWalk.seq ?_
  refine CWalk.region ?_
  refine wo (Spec.lssI (Has.s rfl) (Has.s rfl)) ?_
  refine Walk.nil ?_
  refine Leaf.thenN ?_
  refine CWalk.seq ?_
  refine CWalk.cond rfl (fun hb => ?_) (fun hb => ?_)
  ·have hm := cond_t hb hm
   refine CWalk.skip ?_
   refine Leaf.thenN ?_
   refine CWalk.seq ?_
   refine CWalk.block ?_
   refine CWalk.seq ?_
   refine CWalk.region ?_
   obtain ⟨x4, hx4, hm⟩ := bind_some hm
   refine wo (Spec.indexAddr hx4 sl60 (Has.s rfl) (Has.s rfl)) ?_
   refine wo (Spec.load ty67 (Has.s rfl)) ?_
   refine ws (Step.allocObj (ls := [(false, 1, Fact.nilv), (false, 1, Fact.nilv), (false, 1, Fact.rep [] (false : Bool))]) 10 rfl rfl rfl rfl zl67) ?_
   refine ws (Step.storeObj (ls := [(false, 1, Fact.rep [0] x4.Blocks), (false, 1, Fact.rep [0] x4.Wait), (false, 1, Fact.rep [] x4.Dead)]) rfl ty67 rfl rfl (Has.s rfl) rfl (HasL.flds (Has.cv (Has.s rfl) (Cv.trans (Cv.opens (chDisk x4)) (Cv.flds (CvL.cons Cv.refl (CvL.cons Cv.refl (CvL.cons Cv.fl CvL.nil))))))) rfl) ?_
   refine Walk.nil ?_
   refine Leaf.thenN ?_
   refine CWalk.region ?_
   refine mv ?_
   refine wo (Spec.loadObj (ls := [(false, 1, Fact.rep [0] x4.Blocks), (false, 1, Fact.rep [0] x4.Wait), (false, 1, Fact.rep [] x4.Dead)]) ty67 rfl rfl (Has.s rfl) rfl (HasGs.cons (HasG.s rfl) (HasGs.cons (HasG.s rfl) (HasGs.cons (HasG.s rfl) HasGs.nil)))) ?_
   obtain ⟨x5, hx5, hm⟩ := bind_some hm
   refine wo (f := Fact.flds [(false, 1, Fact.ow [14] [15] 56 (x5.Blocks : List (List UInt8))), (false, 1, Fact.ow [16] [17] 91 (x5.Wait : List Write)), (false, 1, Fact.rep [] x5.Dead)]) (Spec.callE [0] 14 rfl en62 (disk_Twin_c x4 hx5) (HasAll.cons (Has.m (Has.cv (Has.s rfl) (Cv.trans (Cv.flds (CvL.cons (Cv.m rfl) (CvL.cons (Cv.m rfl) (CvL.cons Cv.fl CvL.nil)))) (Cv.close (T := [0]) (chDisk x4)))) rfl) HasAll.nil)) ?_
   refine wo (Spec.lit (xs := [.tmp 14]) (T := [14, 15, 16, 17]) 18 rfl ow60 rfl rfl rfl rfl (HasEach.cons (Has.m (Has.cv (Has.s rfl) (Cv.trans (Cv.flds (CvL.cons (Cv.trans (Cv.trans Cv.owSl (Cv.slRep (T' := [14, 15]) rfl rfl)) (Cv.m rfl)) (CvL.cons (Cv.trans (Cv.trans Cv.owSl (Cv.slRep (T' := [16, 17]) rfl rfl)) (Cv.m rfl)) (CvL.cons Cv.fl CvL.nil)))) (Cv.close (T := [14, 15, 16, 17]) (chDisk x5)))) rfl) HasEach.nil)) ?_
   obtain ⟨x6, hx6, hm⟩ := bind_some hm
   refine ws (Step.appendOw (T := [19]) (te' := [14, 15, 16, 17, 18]) hx6 rfl rfl rfl ow60 (Has.s rfl) (Has.s rfl) (ElKeeps.tags rfl rfl) (ElKeeps.tags rfl rfl)) ?_
   refine wo (Spec.assign (Has.s rfl)) ?_
   refine Walk.nil ?_
   refine Leaf.blockN ?_
   refine Leaf.thenN ?_
   refine CWalk.region ?_
   refine wo (Spec.addI (Has.s rfl) Has.int) ?_
   refine mv ?_
   refine Walk.nil ?_
   exact Leaf.next hm (Sub.cons (Has.cv (Has.s rfl) (Cv.owM (T := [19]) (te := [14, 15, 16, 17, 18]) rfl rfl)) (su (st (st Sub.nil))))
  ·have hm := cond_f hb hm
   refine CWalk.exit ?_
   refine Leaf.thenE ?_
   exact Leaf.brk hm (fun h => nomatch h) rfl (Sub.cons (Has.cv (Has.s rfl) (Cv.owM (T := [19]) (te := [14, 15, 16, 17, 18]) rfl rfl)) Sub.nil)
 ·intro _
  refine Leaf.blockE ?_
  refine Leaf.thenN ?_
  refine CWalk.seq ?_
  refine CWalk.region ?_
  refine mv ?_
  refine wo (Spec.assign (Has.s rfl)) ?_
  refine Walk.nil ?_
  refine Leaf.thenN ?_
  refine CWalk.ret ?_
  obtain rfl := Option.some.inj hm
  exact Leaf.retC1 rfl (HasR.cv (HasR.tmp (Has.s rfl)) (Cv.owM (T := [19]) (te := [14, 15, 16, 17, 18]) rfl rfl))

/-- freeboard/disk.place -/
def disk_place (a0 : Disk) (a1 : Int) : Option (Int) :=
  Option.bind (disk_Check a0) (fun x1 => (bif (x1 != (0 : Int)) then some x1 else (bif ((decide (a1 < (0 : Int))) || (decide (a1 ≥ ((a0.Blocks).length : Int)))) then some (2 : Int) else some (0 : Int))))
set_option maxRecDepth 100000 in
set_option maxHeartbeats 2000000 in
theorem disk_place_c (a0 : Disk) (a1 : Int) {r : Int} (hm : disk_place a0 a1 = some r) : Ctr Try.prog 66 [.rep 0 a0, .rep 0 a1] (.fl r) [] := by
 refine ctr_of_walk [[]] 20 Try.func66 rfl rfl rfl rfl (fun w0 om => ?_)
 unfold disk_place at hm
 refine CWalk.sub (G' := [.fact 0 (.rep [0] (a0 : Disk)), .fact 1 (.rep [] (a1 : Int))]) (sn (Sub.cons (Has.fl (Has.s rfl)) Sub.nil)) ?_
 refine CWalk.seq ?_
 refine CWalk.region ?_
 refine ws (Step.boxObj (ls := [(false, 1, Fact.rep [0] a0.Blocks), (false, 1, Fact.rep [0] a0.Wait), (false, 1, Fact.rep [] a0.Dead)]) 10 rfl rfl rfl rfl (HasL.flds (Has.cv (Has.s rfl) (Cv.trans (Cv.opens (chDisk a0)) (Cv.flds (CvL.cons Cv.refl (CvL.cons Cv.refl (CvL.cons Cv.fl CvL.nil)))))))) ?_
 refine wo (Spec.assign Has.int) ?_
 refine Walk.nil ?_
 refine Leaf.thenN ?_
 refine CWalk.seq ?_
 refine CWalk.seq ?_
 refine CWalk.region ?_
 refine wo (Spec.loadObj (ls := [(false, 1, Fact.rep [0] a0.Blocks), (false, 1, Fact.rep [0] a0.Wait), (false, 1, Fact.rep [] a0.Dead)]) ty67 rfl rfl (Has.s rfl) rfl (HasGs.cons (HasG.s rfl) (HasGs.cons (HasG.s rfl) (HasGs.cons (HasG.s rfl) HasGs.nil)))) ?_
 obtain ⟨x1, hx1, hm⟩ := bind_some hm
 refine wo (f := Fact.rep [] (x1 : Int)) (Spec.callE [0] 14 rfl en77 (disk_Check_c a0 hx1) (HasAll.cons (Has.m (Has.cv (Has.s rfl) (Cv.trans (Cv.flds (CvL.cons (Cv.m rfl) (CvL.cons (Cv.m rfl) (CvL.cons Cv.fl CvL.nil)))) (Cv.close (T := [0]) (chDisk a0)))) rfl) HasAll.nil)) ?_
 refine wo (Spec.assign (Has.s rfl)) ?_
 refine Walk.nil ?_
 refine Leaf.thenN ?_
 refine CWalk.seq ?_
 refine CWalk.region ?_
 refine mv ?_
 refine wo (Spec.neqI (Has.s rfl) Has.int) ?_
 refine Walk.nil ?_
 refine Leaf.thenN ?_
 refine CWalk.cond rfl (fun hb => ?_) (fun hb => ?_)
 ·have hm := cond_t hb hm
  refine CWalk.seq ?_
  refine CWalk.region ?_
  refine mv ?_
  refine wo (Spec.assign (Has.s rfl)) ?_
  refine Walk.nil ?_
  refine Leaf.thenN ?_
  refine CWalk.ret ?_
  refine Leaf.thenR ?_
  obtain rfl := Option.some.inj hm
  exact Leaf.retC1 rfl (HasR.cv (HasR.tmp (Has.s rfl)) Cv.fl)
 ·have hm := cond_f hb hm
  refine CWalk.skip ?_
  refine Leaf.thenN ?_
  refine CWalk.seq ?_
  refine CWalk.seq ?_
  refine CWalk.region ?_
  refine mv ?_
  refine wo (Spec.lssI (Has.s rfl) Has.int) ?_
  refine mv ?_
  refine wg rfl rfl (fun hb => Spec.move (Has.s rfl)) ?_
  refine wg rfl rfl (fun hb => Spec.fieldAddrO fd67_0 (Has.cv (Has.s rfl) (Cv.isvP rfl))) ?_
  refine wg rfl rfl (fun hb => Spec.loadF (i := 0) ty64 rfl (Has.u rfl hb) rfl (HasG.s rfl)) ?_
  refine wg rfl rfl (fun hb => Spec.len (Has.u rfl hb) Try.underlying64) ?_
  refine wg rfl rfl (fun hb => Spec.geqI (Has.u rfl hb) (Has.u rfl hb)) ?_
  refine wo (Spec.or (Has.s rfl) (fun h => Has.u rfl h)) ?_
  refine Walk.nil ?_
  refine Leaf.thenN ?_
  refine CWalk.cond rfl (fun hb => ?_) (fun hb => ?_)
  ·have hm := cond_t hb hm
   refine CWalk.seq ?_
   refine CWalk.region ?_
   refine wo (Spec.assign Has.int) ?_
   refine Walk.nil ?_
   refine Leaf.thenN ?_
   refine CWalk.ret ?_
   refine Leaf.thenR ?_
   obtain rfl := Option.some.inj hm
   exact Leaf.retC1 rfl (HasR.cv (HasR.tmp (Has.s rfl)) Cv.fl)
  ·have hm := cond_f hb hm
   refine CWalk.skip ?_
   refine Leaf.thenN ?_
   refine CWalk.seq ?_
   refine CWalk.region ?_
   refine wo (Spec.assign Has.int) ?_
   refine Walk.nil ?_
   refine Leaf.thenN ?_
   refine CWalk.ret ?_
   obtain rfl := Option.some.inj hm
   exact Leaf.retC1 rfl (HasR.cv (HasR.tmp (Has.s rfl)) Cv.fl)

/-- freeboard/disk.write -/
def disk_write (a0 : Disk) (a1 : Int) (a2 : List UInt8) : Option (Int) :=
  Option.bind (disk_place a0 a1) (fun x1 => (bif (x1 != (0 : Int)) then some x1 else Option.bind (disk_odd a2) (fun x2 => (bif x2 then some (3 : Int) else (bif a0.Dead then some (40 : Int) else some (0 : Int))))))
set_option maxRecDepth 100000 in
set_option maxHeartbeats 2000000 in
theorem disk_write_c (a0 : Disk) (a1 : Int) (a2 : List UInt8) {r : Int} (hm : disk_write a0 a1 a2 = some r) : Ctr Try.prog 93 [.rep 0 a0, .rep 0 a1, .rep 0 a2] (.fl r) [] := by
 refine ctr_of_walk [[]] 21 Try.func93 rfl rfl rfl rfl (fun w0 om => ?_)
 unfold disk_write at hm
 refine CWalk.sub (G' := [.fact 0 (.rep [0] (a0 : Disk)), .fact 1 (.rep [] (a1 : Int)), .fact 2 (.rep [0] (a2 : List UInt8))]) (sn (Sub.cons (Has.fl (Has.s rfl)) (sn Sub.nil))) ?_
 refine CWalk.seq ?_
 refine CWalk.region ?_
 refine ws (Step.boxObj (ls := [(false, 1, Fact.rep [0] a0.Blocks), (false, 1, Fact.rep [0] a0.Wait), (false, 1, Fact.rep [] a0.Dead)]) 10 rfl rfl rfl rfl (HasL.flds (Has.cv (Has.s rfl) (Cv.trans (Cv.opens (chDisk a0)) (Cv.flds (CvL.cons Cv.refl (CvL.cons Cv.refl (CvL.cons Cv.fl CvL.nil)))))))) ?_
 refine wo (Spec.assign Has.int) ?_
 refine Walk.nil ?_
 refine Leaf.thenN ?_
 refine CWalk.seq ?_
 refine CWalk.region ?_
 refine wo (Spec.loadObj (ls := [(false, 1, Fact.rep [0] a0.Blocks), (false, 1, Fact.rep [0] a0.Wait), (false, 1, Fact.rep [] a0.Dead)]) ty67 rfl rfl (Has.s rfl) rfl (HasGs.cons (HasG.s rfl) (HasGs.cons (HasG.s rfl) (HasGs.cons (HasG.s rfl) HasGs.nil)))) ?_
 refine mv ?_
 obtain ⟨x1, hx1, hm⟩ := bind_some hm
 refine wo (f := Fact.rep [] (x1 : Int)) (Spec.callE [0] 14 rfl en66 (disk_place_c a0 a1 hx1) (HasAll.cons (Has.m (Has.cv (Has.s rfl) (Cv.trans (Cv.flds (CvL.cons (Cv.m rfl) (CvL.cons (Cv.m rfl) (CvL.cons Cv.fl CvL.nil)))) (Cv.close (T := [0]) (chDisk a0)))) rfl) (HasAll.cons (Has.fl (Has.s rfl)) HasAll.nil))) ?_
 refine wo (Spec.assign (Has.s rfl)) ?_
 refine Walk.nil ?_
 refine Leaf.thenN ?_
 refine CWalk.seq ?_
 refine CWalk.block ?_
 refine CWalk.seq ?_
 refine CWalk.region ?_
 refine mv ?_
 refine wo (Spec.neqI (Has.s rfl) Has.int) ?_
 refine wo (Spec.assign (Has.s rfl)) ?_
 refine Walk.nil ?_
 refine Leaf.thenN ?_
 refine CWalk.cond rfl (fun hb => ?_) (fun hb => ?_)
 ·have hm := cond_t hb hm
  refine CWalk.seq ?_
  refine CWalk.region ?_
  refine mv ?_
  refine wo (Spec.assign (Has.s rfl)) ?_
  refine Walk.nil ?_
  refine Leaf.thenN ?_
  refine CWalk.ret ?_
  refine Leaf.blockR ?_
  refine Leaf.thenR ?_
  obtain rfl := Option.some.inj hm
  exact Leaf.retC1 rfl (HasR.cv (HasR.tmp (Has.s rfl)) Cv.fl)
 ·have hm := cond_f hb hm
  refine CWalk.seq ?_
  refine CWalk.region ?_
  refine mv ?_
  obtain ⟨x2, hx2, hm⟩ := bind_some hm
  refine wo (f := Fact.rep [] (x2 : Bool)) (Spec.callE [0] 15 rfl en88 (disk_odd_c a2 hx2) (HasAll.cons (Has.m (Has.s rfl) rfl) HasAll.nil)) ?_
  refine wo (Spec.assign (Has.s rfl)) ?_
  refine Walk.nil ?_
  refine Leaf.thenN ?_
  refine CWalk.cond rfl (fun hb => ?_) (fun hb => ?_)
  ·have hm := cond_t hb hm
   refine CWalk.seq ?_
   refine CWalk.region ?_
   refine wo (Spec.assign Has.int) ?_
   refine Walk.nil ?_
   refine Leaf.thenN ?_
   refine CWalk.ret ?_
   refine Leaf.blockR ?_
   refine Leaf.thenR ?_
   obtain rfl := Option.some.inj hm
   exact Leaf.retC1 rfl (HasR.cv (HasR.tmp (Has.s rfl)) Cv.fl)
  ·have hm := cond_f hb hm
   refine CWalk.seq ?_
   refine CWalk.region ?_
   refine wo (Spec.fieldAddrO fd67_2 (Has.cv (Has.s rfl) (Cv.isvP rfl))) ?_
   refine wo (Spec.loadF (i := 2) ty4 rfl (Has.s rfl) rfl (HasG.s rfl)) ?_
   refine wo (Spec.assign (Has.s rfl)) ?_
   refine Walk.nil ?_
   refine Leaf.thenN ?_
   refine CWalk.cond rfl (fun hb => ?_) (fun hb => ?_)
   ·have hm := cond_t hb hm
    refine CWalk.seq ?_
    refine CWalk.region ?_
    refine wo (Spec.assign Has.int) ?_
    refine Walk.nil ?_
    refine Leaf.thenN ?_
    refine CWalk.ret ?_
    refine Leaf.blockR ?_
    refine Leaf.thenR ?_
    obtain rfl := Option.some.inj hm
    exact Leaf.retC1 rfl (HasR.cv (HasR.tmp (Has.s rfl)) Cv.fl)
   ·have hm := cond_f hb hm
    refine CWalk.skip ?_
    refine Leaf.blockN ?_
    refine Leaf.thenN ?_
    refine CWalk.seq ?_
    refine CWalk.region ?_
    refine wo (Spec.assign Has.int) ?_
    refine Walk.nil ?_
    refine Leaf.thenN ?_
    refine CWalk.ret ?_
    obtain rfl := Option.some.inj hm
    exact Leaf.retC1 rfl (HasR.cv (HasR.tmp (Has.s rfl)) Cv.fl)

/-- freeboard/disk.block -/
def disk_block (a0 : List UInt8) : Option ((List UInt8)) :=
  (bif (((a0).length : Int) == (0 : Int)) then Option.bind (makeL (0 : UInt8) (128 : Int)) (fun x1 => some x1) else Option.bind (slices_Clone_byte_byte a0) (fun x2 => some x2))
set_option maxRecDepth 100000 in
set_option maxHeartbeats 2000000 in
theorem disk_block_c (a0 : List UInt8) {r : (List UInt8)} (hm : disk_block a0 = some r) : Ctr Try.prog 49 [.rep 0 a0] (.own 0 none 5 r) [] := by
 refine ctr_of_walk [[10, 11]] 9 Try.func49 rfl rfl rfl rfl (fun w0 om => ?_)
 unfold disk_block at hm
 refine CWalk.sub (G' := [.fact 0 (.rep [0] (a0 : List UInt8))]) (sn Sub.nil) ?_
 refine CWalk.seq ?_
 refine CWalk.region ?_
 refine wo (Spec.assign Has.nilv) ?_
 refine Walk.nil ?_
 refine Leaf.thenN ?_
 refine CWalk.seq ?_
 refine CWalk.seq ?_
 refine CWalk.region ?_
 refine mv ?_
 refine wo (Spec.len (Has.s rfl) Try.underlying56) ?_
 refine wo (Spec.eqlI (Has.s rfl) Has.int) ?_
 refine Walk.nil ?_
 refine Leaf.thenN ?_
 refine CWalk.cond rfl (fun hb => ?_) (fun hb => ?_)
 ·have hm := cond_t hb hm
  refine CWalk.seq ?_
  refine CWalk.region ?_
  obtain ⟨x1, hx1, hm⟩ := bind_some hm
  refine ws (Step.makeOwn 10 hx1 rfl rfl ow56 zt5 Has.int) ?_
  refine wo (Spec.assign (Has.s rfl)) ?_
  refine Walk.nil ?_
  refine Leaf.thenN ?_
  refine CWalk.ret ?_
  refine Leaf.thenR ?_
  obtain rfl := Option.some.inj hm
  exact Leaf.retC1 rfl (HasR.cv (HasR.tmp (Has.s rfl)) (Cv.trans (Cv.isvOw rfl) (Cv.owF (T := [10]) (te := []) rfl)))
 ·have hm := cond_f hb hm
  refine CWalk.skip ?_
  refine Leaf.thenN ?_
  refine CWalk.seq ?_
  refine CWalk.region ?_
  refine mv ?_
  obtain ⟨x2, hx2, hm⟩ := bind_some hm
  refine wo (f := Fact.ow [11] [] 5 (x2 : List UInt8)) (Spec.callE [0] 11 rfl en68 (slices_Clone_byte_byte_c a0 hx2) (HasAll.cons (Has.m (Has.s rfl) rfl) HasAll.nil)) ?_
  refine wo (Spec.assign (Has.s rfl)) ?_
  refine Walk.nil ?_
  refine Leaf.thenN ?_
  refine CWalk.ret ?_
  obtain rfl := Option.some.inj hm
  exact Leaf.retC1 rfl (HasR.cv (HasR.tmp (Has.s rfl)) (Cv.owF (T := [11]) (te := []) rfl))

/-- freeboard/disk.Write -/
def disk_Write (a0 : Disk) (a1 : Int) (a2 : List UInt8) : Option (Disk × Int) :=
  Option.bind (disk_write a0 a1 a2) (fun x1 => (bif (x1 != (0 : Int)) then some ((Disk.mk ([] : List (List UInt8)) ([] : List Write) false), x1) else (bif (((a0.Wait).length : Int) == (1024 : Int)) then some ((Disk.mk ([] : List (List UInt8)) ([] : List Write) false), (9 : Int)) else Option.bind (disk_Twin a0) (fun x2 => Option.bind (disk_block a2) (fun x3 => Option.bind (app x2.Wait ([(Write.mk a1 x3)])) (fun x4 => some ((Disk.mk x2.Blocks x4 x2.Dead), (0 : Int))))))))
set_option maxRecDepth 100000 in
set_option maxHeartbeats 2000000 in
theorem disk_Write_c (a0 : Disk) (a1 : Int) (a2 : List UInt8) {r : Disk × Int} (hm : disk_Write a0 a1 a2 = some r) : Ctr Try.prog 79 [.rep 0 a0, .rep 0 a1, .rep 0 a2] (.tup2 (.flds [(false, 1, (.own 0 (some 1) 56 r.1.Blocks)), (false, 1, (.own 2 (some 3) 91 r.1.Wait)), (false, 1, (.fl r.1.Dead))]) (.fl r.2)) [] := by
 refine ctr_of_walk [[19], [20], [21], [22, 23, 24]] 34 Try.func79 rfl rfl rfl rfl (fun w0 om => ?_)
 unfold disk_Write at hm
 refine CWalk.sub (G' := [.fact 0 (.rep [0] (a0 : Disk)), .fact 1 (.rep [] (a1 : Int)), .fact 2 (.rep [0] (a2 : List UInt8))]) (sn (Sub.cons (Has.fl (Has.s rfl)) (sn Sub.nil))) ?_
 refine CWalk.seq ?_
 refine CWalk.region ?_
 refine ws (Step.boxObj (ls := [(false, 1, Fact.rep [0] a0.Blocks), (false, 1, Fact.rep [0] a0.Wait), (false, 1, Fact.rep [] a0.Dead)]) 10 rfl rfl rfl rfl (HasL.flds (Has.cv (Has.s rfl) (Cv.trans (Cv.opens (chDisk a0)) (Cv.flds (CvL.cons Cv.refl (CvL.cons Cv.refl (CvL.cons Cv.fl CvL.nil)))))))) ?_
 refine ws (Step.allocObj (ls := [(false, 1, Fact.nilv), (false, 1, Fact.nilv), (false, 1, Fact.rep [] (false : Bool))]) 14 rfl rfl rfl rfl zl67) ?_
 refine wo (Spec.assign Has.int) ?_
 refine Walk.nil ?_
 refine Leaf.thenN ?_
 refine CWalk.seq ?_
 refine CWalk.seq ?_
 refine CWalk.region ?_
 refine wo (Spec.loadObj (ls := [(false, 1, Fact.rep [0] a0.Blocks), (false, 1, Fact.rep [0] a0.Wait), (false, 1, Fact.rep [] a0.Dead)]) ty67 rfl rfl (Has.s rfl) rfl (HasGs.cons (HasG.s rfl) (HasGs.cons (HasG.s rfl) (HasGs.cons (HasG.s rfl) HasGs.nil)))) ?_
 refine mv ?_
 refine mv ?_
 obtain ⟨x1, hx1, hm⟩ := bind_some hm
 refine wo (f := Fact.rep [] (x1 : Int)) (Spec.callE [0] 18 rfl en93 (disk_write_c a0 a1 a2 hx1) (HasAll.cons (Has.m (Has.cv (Has.s rfl) (Cv.trans (Cv.flds (CvL.cons (Cv.m rfl) (CvL.cons (Cv.m rfl) (CvL.cons Cv.fl CvL.nil)))) (Cv.close (T := [0]) (chDisk a0)))) rfl) (HasAll.cons (Has.fl (Has.s rfl)) (HasAll.cons (Has.m (Has.s rfl) rfl) HasAll.nil)))) ?_
 refine wo (Spec.assign (Has.s rfl)) ?_
 refine Walk.nil ?_
 refine Leaf.thenN ?_
 refine CWalk.seq ?_
 refine CWalk.region ?_
 refine mv ?_
 refine wo (Spec.neqI (Has.s rfl) Has.int) ?_
 refine Walk.nil ?_
 refine Leaf.thenN ?_
 refine CWalk.cond rfl (fun hb => ?_) (fun hb => ?_)
 ·have hm := cond_t hb hm
  refine CWalk.seq ?_
  refine CWalk.region ?_
  refine wo (Spec.build (us := []) (ls' := [(false, 1, Fact.nilv), (false, 1, Fact.nilv), (false, 1, Fact.rep [] (false : Bool))]) bd67 rfl BP.nil) ?_
  refine mv ?_
  refine ws (Step.storeObj (ls := [(false, 1, Fact.nilv), (false, 1, Fact.nilv), (false, 1, Fact.rep [] (false : Bool))]) rfl ty67 rfl rfl (Has.s rfl) rfl (HasL.flds (Has.s rfl)) rfl) ?_
  refine wo (Spec.assign (Has.s rfl)) ?_
  refine Walk.nil ?_
  refine Leaf.thenN ?_
  refine CWalk.ret ?_
  refine Leaf.thenR ?_
  obtain rfl := Option.some.inj hm
  exact Leaf.retC2 rfl (HasR.cv (HasR.obj (ls := [(false, 1, Fact.nilv), (false, 1, Fact.nilv), (false, 1, Fact.rep [] (false : Bool))]) ty67 rfl rfl (Has.s rfl) rfl (HasGs.cons (HasG.s rfl) (HasGs.cons (HasG.s rfl) (HasGs.cons (HasG.s rfl) HasGs.nil)))) (Cv.flds (CvL.cons (Cv.trans Cv.nilOw (Cv.owM (T := []) (te := []) rfl rfl)) (CvL.cons (Cv.trans Cv.nilOw (Cv.owM (T := []) (te := []) rfl rfl)) (CvL.cons Cv.fl CvL.nil))))) (HasR.cv (HasR.tmp (Has.s rfl)) Cv.fl)
 ·have hm := cond_f hb hm
  refine CWalk.skip ?_
  refine Leaf.thenN ?_
  refine CWalk.seq ?_
  refine CWalk.seq ?_
  refine CWalk.region ?_
  refine wo (Spec.fieldAddrO fd67_1 (Has.cv (Has.s rfl) (Cv.isvP rfl))) ?_
  refine wo (Spec.loadF (i := 1) ty65 rfl (Has.s rfl) rfl (HasG.s rfl)) ?_
  refine wo (Spec.len (Has.s rfl) Try.underlying65) ?_
  refine wo (Spec.eqlI (Has.s rfl) Has.int) ?_
  refine Walk.nil ?_
  refine Leaf.thenN ?_
  refine CWalk.cond rfl (fun hb => ?_) (fun hb => ?_)
  ·have hm := cond_t hb hm
   refine CWalk.seq ?_
   refine CWalk.region ?_
   refine wo (Spec.build (us := []) (ls' := [(false, 1, Fact.nilv), (false, 1, Fact.nilv), (false, 1, Fact.rep [] (false : Bool))]) bd67 rfl BP.nil) ?_
   refine ws (Step.storeObj (ls := [(false, 1, Fact.nilv), (false, 1, Fact.nilv), (false, 1, Fact.rep [] (false : Bool))]) rfl ty67 rfl rfl (Has.s rfl) rfl (HasL.flds (Has.s rfl)) rfl) ?_
   refine wo (Spec.assign Has.int) ?_
   refine Walk.nil ?_
   refine Leaf.thenN ?_
   refine CWalk.ret ?_
   refine Leaf.thenR ?_
   obtain rfl := Option.some.inj hm
   exact Leaf.retC2 rfl (HasR.cv (HasR.obj (ls := [(false, 1, Fact.nilv), (false, 1, Fact.nilv), (false, 1, Fact.rep [] (false : Bool))]) ty67 rfl rfl (Has.s rfl) rfl (HasGs.cons (HasG.s rfl) (HasGs.cons (HasG.s rfl) (HasGs.cons (HasG.s rfl) HasGs.nil)))) (Cv.flds (CvL.cons (Cv.trans Cv.nilOw (Cv.owM (T := []) (te := []) rfl rfl)) (CvL.cons (Cv.trans Cv.nilOw (Cv.owM (T := []) (te := []) rfl rfl)) (CvL.cons Cv.fl CvL.nil))))) (HasR.cv (HasR.tmp (Has.s rfl)) Cv.fl)
  ·have hm := cond_f hb hm
   refine CWalk.skip ?_
   refine Leaf.thenN ?_
   refine CWalk.seq ?_
   refine CWalk.region ?_
   refine wo (Spec.loadObj (ls := [(false, 1, Fact.rep [0] a0.Blocks), (false, 1, Fact.rep [0] a0.Wait), (false, 1, Fact.rep [] a0.Dead)]) ty67 rfl rfl (Has.s rfl) rfl (HasGs.cons (HasG.s rfl) (HasGs.cons (HasG.s rfl) (HasGs.cons (HasG.s rfl) HasGs.nil)))) ?_
   obtain ⟨x2, hx2, hm⟩ := bind_some hm
   refine wo (f := Fact.flds [(false, 1, Fact.ow [19] [20] 56 (x2.Blocks : List (List UInt8))), (false, 1, Fact.ow [21] [22] 91 (x2.Wait : List Write)), (false, 1, Fact.rep [] x2.Dead)]) (Spec.callE [0] 19 rfl en62 (disk_Twin_c a0 hx2) (HasAll.cons (Has.m (Has.cv (Has.s rfl) (Cv.trans (Cv.flds (CvL.cons (Cv.m rfl) (CvL.cons (Cv.m rfl) (CvL.cons Cv.fl CvL.nil)))) (Cv.close (T := [0]) (chDisk a0)))) rfl) HasAll.nil)) ?_
   refine ws (Step.storeObj (ls := [(false, 1, Fact.ow [19] [20] 56 (x2.Blocks : List (List UInt8))), (false, 1, Fact.ow [21] [22] 91 (x2.Wait : List Write)), (false, 1, Fact.rep [] x2.Dead)]) rfl ty67 rfl rfl (Has.s rfl) rfl (HasL.flds (Has.s rfl)) rfl) ?_
   refine Walk.nil ?_
   refine Leaf.thenN ?_
   refine CWalk.seq ?_
   obtain ⟨x3, hx3, hm⟩ := bind_some hm
   obtain ⟨x4, hx4, hm⟩ := bind_some hm
   refine CWalk.drawM [[], [0], [], [], [3], [2, 3, 4], [2, 3, 4, 5], [0, 1, 2, 3, 4, 5, 6], [0, 1, 2, 3, 4, 5, 6, 7], [0, 1, 2, 3, 4, 5, 6, 7, 8]] [[.fact 24 (.pto 10 1)], [.fact 25 (.ow [21] [22] 91 (x2.Wait : List Write))], [.fact 26 (.rep [] (a1 : Int))], [.fact 27 (.rep [0] (a2 : List UInt8))], [.fact 28 (.ow [23] [] 5 (x3 : List UInt8))], [.fact 29 (.flds [(false, 1, Fact.rep [] (a1 : Int)), (false, 1, Fact.ow [23] [] 5 (x3 : List UInt8))])], [.fact 30 (.rep [24, 23] ([(Write.mk a1 x3)] : List Write))], [.fact 31 (.ow [21] [22, 23, 24] 91 (x4 : List Write)), .kill 21], [.fact 32 (.pto 10 1)], [.fact 100012 (.at 12 (.ow [21] [22, 23, 24] 91 (x4 : List Write))), .fact 100010 (.obj 10 [(false, 1), (false, 1), (false, 1)]), .kill 10, .killId 12]] mixed (by kernel_rfl) (ao (so (Spec.fieldAddrO fd67_1 (Has.cv (Has.s rfl) (Cv.isvP rfl)))) (ao (so (Spec.loadF (i := 1) ty65 rfl (Has.s rfl) rfl (HasG.s rfl))) (ao (so (Spec.move (Has.s rfl))) (ao (so (Spec.move (Has.s rfl))) (ao (so (Spec.callE [0] 23 rfl en49 (disk_block_c a2 hx3) (HasAll.cons (Has.m (Has.s rfl) rfl) HasAll.nil))) (ao (so (Spec.build (us := [(0, .tmp 26), (1, .tmp 28)]) (ls' := [(false, 1, Fact.rep [] (a1 : Int)), (false, 1, Fact.ow [23] [] 5 (x3 : List UInt8))]) bd91 rfl (BP.cons rfl rfl (Has.s rfl) (Has.s rfl) (BP.cons rfl rfl (Has.cv (Has.s rfl) (Cv.trans Cv.owSl (Cv.slRep (T' := [23]) rfl rfl))) (Has.s rfl) BP.nil)))) (ao (so (Spec.lit (xs := [.tmp 29]) (T := [23]) 24 rfl ow65 rfl rfl rfl rfl (HasEach.cons (Has.m (Has.cv (Has.s rfl) (Cv.trans (Cv.flds (CvL.cons Cv.fl (CvL.cons (Cv.trans (Cv.trans Cv.owSl (Cv.slRep (T' := [23]) rfl rfl)) (Cv.m rfl)) CvL.nil))) (Cv.close (T := [23]) (chWrite (Write.mk a1 x3))))) rfl) HasEach.nil))) (ao (StepG.stE (Step.appendOw (T := [21]) (te' := [22, 23, 24]) hx4 rfl rfl rfl ow65 (Has.s rfl) (Has.s rfl) (ElKeeps.tags rfl rfl) (ElKeeps.tags rfl rfl))) (ao (so (Spec.fieldAddrO fd67_1 (Has.cv (Has.s rfl) (Cv.isvP rfl)))) (ao (StepG.stE (Step.storeF (i := 1) (f := Fact.ow [21] [22, 23, 24] 91 (x4 : List Write)) rfl ty65 rfl (Has.s rfl) rfl (Has.cv (Has.s rfl) (Cv.trans Cv.owSl (Cv.slRep (T' := [21, 22, 23, 24]) rfl rfl))) (Has.s rfl) rfl)) AllM.nil)))))))))) ?_
   refine Leaf.thenN ?_
   refine CWalk.seq ?_
   refine CWalk.region ?_
   refine wo (Spec.loadObj (ls := [(false, 1, Fact.ow [19] [20] 56 (x2.Blocks : List (List UInt8))), (false, 1, Fact.ow [21] [22, 23, 24] 91 (x4 : List Write)), (false, 1, Fact.rep [] x2.Dead)]) ty67 rfl rfl (Has.s rfl) rfl (HasGs.cons (HasG.s rfl) (HasGs.cons (HasG.s rfl) (HasGs.cons (HasG.s rfl) HasGs.nil)))) ?_
   refine ws (Step.storeObj (ls := [(false, 1, Fact.ow [19] [20] 56 (x2.Blocks : List (List UInt8))), (false, 1, Fact.ow [21] [22, 23, 24] 91 (x4 : List Write)), (false, 1, Fact.rep [] x2.Dead)]) rfl ty67 rfl rfl (Has.s rfl) rfl (HasL.flds (Has.s rfl)) rfl) ?_
   refine wo (Spec.assign Has.int) ?_
   refine Walk.nil ?_
   refine Leaf.thenN ?_
   refine CWalk.ret ?_
   obtain rfl := Option.some.inj hm
   exact Leaf.retC2 rfl (HasR.cv (HasR.obj (ls := [(false, 1, Fact.ow [19] [20] 56 (x2.Blocks : List (List UInt8))), (false, 1, Fact.ow [21] [22, 23, 24] 91 (x4 : List Write)), (false, 1, Fact.rep [] x2.Dead)]) ty67 rfl rfl (Has.s rfl) rfl (HasGs.cons (HasG.s rfl) (HasGs.cons (HasG.s rfl) (HasGs.cons (HasG.s rfl) HasGs.nil)))) (Cv.flds (CvL.cons (Cv.owM (T := [19]) (te := [20]) rfl rfl) (CvL.cons (Cv.owM (T := [21]) (te := [22, 23, 24]) rfl rfl) (CvL.cons Cv.fl CvL.nil))))) (HasR.cv (HasR.tmp (Has.s rfl)) Cv.fl)

/-- (freeboard/acts.act).write -/
def acts_act_write (a0 : Act58) (a1 : Disk) : Option (Disk × Int) :=
  Option.bind (disk_Write a1 a0.At a0.Data) (fun x1 => some (x1.1, x1.2))
set_option maxRecDepth 100000 in
set_option maxHeartbeats 2000000 in
theorem acts_act_write_c (a0 : Act58) (a1 : Disk) {r : Disk × Int} (hm : acts_act_write a0 a1 = some r) : Ctr Try.prog 63 [.rep 0 a0, .rep 0 a1] (.tup2 (.flds [(false, 1, (.own 0 (some 1) 56 r.1.Blocks)), (false, 1, (.own 2 (some 3) 91 r.1.Wait)), (false, 1, (.fl r.1.Dead))]) (.fl r.2)) [] := by
 refine ctr_of_walk [[23], [24], [25], [26]] 14 Try.func63 rfl rfl rfl rfl (fun w0 om => ?_)
 unfold acts_act_write at hm
 refine CWalk.sub (G' := [.fact 0 (.rep [0] (a0 : Act58)), .fact 1 (.rep [0] (a1 : Disk))]) (sn (sn Sub.nil)) ?_
 refine CWalk.seq ?_
 refine CWalk.region ?_
 refine ws (Step.boxObj (ls := [(false, 1, Fact.rep [] a0.Disk), (false, 1, Fact.rep [] a0.Kind), (false, 1, Fact.rep [] a0.At), (false, 1, Fact.rep [0] a0.Data)]) 10 rfl rfl rfl rfl (HasL.flds (Has.cv (Has.s rfl) (Cv.trans (Cv.opens (chAct58 a0)) (Cv.flds (CvL.cons Cv.fl (CvL.cons Cv.fl (CvL.cons Cv.fl (CvL.cons Cv.refl CvL.nil))))))))) ?_
 refine ws (Step.boxObj (ls := [(false, 1, Fact.rep [0] a1.Blocks), (false, 1, Fact.rep [0] a1.Wait), (false, 1, Fact.rep [] a1.Dead)]) 15 rfl rfl rfl rfl (HasL.flds (Has.cv (Has.s rfl) (Cv.trans (Cv.opens (chDisk a1)) (Cv.flds (CvL.cons Cv.refl (CvL.cons Cv.refl (CvL.cons Cv.fl CvL.nil)))))))) ?_
 refine ws (Step.allocObj (ls := [(false, 1, Fact.nilv), (false, 1, Fact.nilv), (false, 1, Fact.rep [] (false : Bool))]) 19 rfl rfl rfl rfl zl67) ?_
 refine wo (Spec.assign Has.int) ?_
 refine Walk.nil ?_
 refine Leaf.thenN ?_
 refine CWalk.seq ?_
 refine CWalk.region ?_
 refine wo (Spec.loadObj (ls := [(false, 1, Fact.rep [0] a1.Blocks), (false, 1, Fact.rep [0] a1.Wait), (false, 1, Fact.rep [] a1.Dead)]) ty67 rfl rfl (Has.s rfl) rfl (HasGs.cons (HasG.s rfl) (HasGs.cons (HasG.s rfl) (HasGs.cons (HasG.s rfl) HasGs.nil)))) ?_
 refine wo (Spec.fieldAddrO fd97_2 (Has.cv (Has.s rfl) (Cv.isvP rfl))) ?_
 refine wo (Spec.loadF (i := 2) ty3 rfl (Has.s rfl) rfl (HasG.s rfl)) ?_
 refine wo (Spec.fieldAddrO fd97_3 (Has.cv (Has.s rfl) (Cv.isvP rfl))) ?_
 refine wo (Spec.loadF (i := 3) ty56 rfl (Has.s rfl) rfl (HasG.s rfl)) ?_
 obtain ⟨x1, hx1, hm⟩ := bind_some hm
 refine wo (f := Fact.tup2 (Fact.flds [(false, 1, Fact.ow [23] [24] 56 (x1.1.Blocks : List (List UInt8))), (false, 1, Fact.ow [25] [26] 91 (x1.1.Wait : List Write)), (false, 1, Fact.rep [] x1.1.Dead)]) (Fact.rep [] x1.2)) (Spec.callE [0] 23 rfl en79 (disk_Write_c a1 a0.At a0.Data hx1) (HasAll.cons (Has.m (Has.cv (Has.s rfl) (Cv.trans (Cv.flds (CvL.cons (Cv.m rfl) (CvL.cons (Cv.m rfl) (CvL.cons Cv.fl CvL.nil)))) (Cv.close (T := [0]) (chDisk a1)))) rfl) (HasAll.cons (Has.fl (Has.s rfl)) (HasAll.cons (Has.m (Has.s rfl) rfl) HasAll.nil)))) ?_
 refine wo (Spec.ext0 (Has.s rfl)) ?_
 refine wo (Spec.ext1 (Has.s rfl)) ?_
 refine ws (Step.storeObj (ls := [(false, 1, Fact.ow [23] [24] 56 (x1.1.Blocks : List (List UInt8))), (false, 1, Fact.ow [25] [26] 91 (x1.1.Wait : List Write)), (false, 1, Fact.rep [] x1.1.Dead)]) rfl ty67 rfl rfl (Has.s rfl) rfl (HasL.flds (Has.s rfl)) rfl) ?_
 refine wo (Spec.assign (Has.s rfl)) ?_
 refine Walk.nil ?_
 refine Leaf.thenN ?_
 refine CWalk.ret ?_
 obtain rfl := Option.some.inj hm
 exact Leaf.retC2 rfl (HasR.cv (HasR.obj (ls := [(false, 1, Fact.ow [23] [24] 56 (x1.1.Blocks : List (List UInt8))), (false, 1, Fact.ow [25] [26] 91 (x1.1.Wait : List Write)), (false, 1, Fact.rep [] x1.1.Dead)]) ty67 rfl rfl (Has.s rfl) rfl (HasGs.cons (HasG.s rfl) (HasGs.cons (HasG.s rfl) (HasGs.cons (HasG.s rfl) HasGs.nil)))) (Cv.flds (CvL.cons (Cv.owM (T := [23]) (te := [24]) rfl rfl) (CvL.cons (Cv.owM (T := [25]) (te := [26]) rfl rfl) (CvL.cons Cv.fl CvL.nil))))) (HasR.cv (HasR.tmp (Has.s rfl)) Cv.fl)

/-- freeboard/disk.Fua$1 -/
def disk_Fua_1 (a0 : Write) (a1 : Int) : Option (Bool) :=
  some (a0.At == a1)
set_option maxRecDepth 100000 in
set_option maxHeartbeats 2000000 in
theorem disk_Fua_1_c (a0 : Write) (a1 : Int) {r : Bool} (hm : disk_Fua_1 a0 a1 = some r) : Ctr Try.prog 95 [.rep 0 a0, .ptr 0 a1] (.fl r) [] := by
 refine ctr_of_walk [[]] 8 Try.func95 rfl rfl rfl rfl (fun w0 om => ?_)
 unfold disk_Fua_1 at hm
 refine CWalk.sub (G' := [.fact 0 (.rep [0] (a0 : Write)), .fact 1 (.ptr [0] (a1 : Int))]) (sn (sn Sub.nil)) ?_
 refine CWalk.seq ?_
 refine CWalk.region ?_
 refine ws (Step.boxObj (ls := [(false, 1, Fact.rep [] a0.At), (false, 1, Fact.rep [0] a0.Data)]) 10 rfl rfl rfl rfl (HasL.flds (Has.cv (Has.s rfl) (Cv.trans (Cv.opens (chWrite a0)) (Cv.flds (CvL.cons Cv.fl (CvL.cons Cv.refl CvL.nil))))))) ?_
 refine wo (Spec.assign Has.bool) ?_
 refine Walk.nil ?_
 refine Leaf.thenN ?_
 refine CWalk.seq ?_
 refine CWalk.region ?_
 refine wo (Spec.fieldAddrO fd91_0 (Has.cv (Has.s rfl) (Cv.isvP rfl))) ?_
 refine wo (Spec.loadF (i := 0) ty3 rfl (Has.s rfl) rfl (HasG.s rfl)) ?_
 refine wo ((Spec.load ty3 (Has.s rfl)).flat (T' := [])) ?_
 refine wo (Spec.eqlI (Has.s rfl) (Has.s rfl)) ?_
 refine wo (Spec.assign (Has.s rfl)) ?_
 refine Walk.nil ?_
 refine Leaf.thenN ?_
 refine CWalk.ret ?_
 obtain rfl := Option.some.inj hm
 exact Leaf.retC1 rfl (HasR.cv (HasR.tmp (Has.s rfl)) Cv.fl)

def disk_Fua_J1 (x2 : Disk) (x3 : (List UInt8)) (x4 : Nat) (j5 : List Write) : Option (Disk × Int) :=
  some ((Disk.mk ((x2.Blocks).set x4 x3) j5 x2.Dead), (0 : Int))
def disk_Fua_J3 (s9 : Int) (j11 : List Write) (j12 : Int) : Option (Ctl ((List Write) × Int × Int) ((List Write) × Int)) :=
  some (Ctl.next (j11, j12, (wI (s9 + (1 : Int)))))
def disk_Fua_J4 (a1 : Int) (s7 : List Write) (s8 : Int) (s9 : Int) (x13 : Write) : Option (Ctl ((List Write) × Int × Int) ((List Write) × Int)) :=
  (bif (!(x13.At == a1)) then Option.bind (bnd (s7).length s8) (fun x14 => (disk_Fua_J3 s9 ((s7).set x14 x13) (wI (s8 + (1 : Int))))) else (disk_Fua_J3 s9 s7 s8))
def disk_Fua_L2 (a1 : Int) (s7 : List Write) (s8 : Int) (s9 : Int) : Option (Ctl ((List Write) × Int × Int) ((List Write) × Int)) :=
  (bif (decide (s9 < ((s7).length : Int))) then Option.bind (idx s7 s9) (fun x13 => (disk_Fua_J4 a1 s7 s8 s9 x13)) else some (Ctl.brk (s7, s8)))
/-- freeboard/disk.Fua -/
def disk_Fua (a0 : Disk) (a1 : Int) (a2 : List UInt8) : Option (Disk × Int) :=
  Option.bind (disk_write a0 a1 a2) (fun x1 => (bif (x1 != (0 : Int)) then some ((Disk.mk ([] : List (List UInt8)) ([] : List Write) false), x1) else Option.bind (disk_Twin a0) (fun x2 => Option.bind (disk_block a2) (fun x3 => Option.bind (bnd (x2.Blocks).length a1) (fun x4 => Option.bind (slices_IndexFunc_api_Write_api_Write x2.Wait (fun y => disk_Fua_1 y a1)) (fun x6 => (bif (x6 == (-1 : Int)) then (disk_Fua_J1 x2 x3 x4 x2.Wait) else Option.bind (loopM (fun s : (List Write) × Int × Int => disk_Fua_L2 a1 s.1 s.2.1 s.2.2) FUEL (x2.Wait, x6, (wI (x6 + (1 : Int))))) (fun b15 => Option.bind (slc b15.1 b15.2 (b15.1).length) (fun x16 => Option.bind (slc ((b15.1).take (Int.toNat b15.2) ++ List.replicate ((b15.1).length - (Int.toNat b15.2)) (Write.mk (0 : Int) ([] : List UInt8))) 0 b15.2) (fun x17 => (disk_Fua_J1 x2 x3 x4 x17)))))))))))
set_option maxRecDepth 100000 in
set_option maxHeartbeats 2000000 in
theorem disk_Fua_c (a0 : Disk) (a1 : Int) (a2 : List UInt8) {r : Disk × Int} (hm : disk_Fua a0 a1 a2 = some r) : Ctr Try.prog 80 [.rep 0 a0, .rep 0 a1, .rep 0 a2] (.tup2 (.flds [(false, 1, (.own 0 (some 1) 56 r.1.Blocks)), (false, 1, (.own 2 (some 3) 91 r.1.Wait)), (false, 1, (.fl r.1.Dead))]) (.fl r.2)) [] := by
 refine ctr_of_walk [[25], [22, 26], [23, 35], [24]] 31 Try.func80 rfl rfl rfl rfl (fun w0 om => ?_)
 unfold disk_Fua at hm
 refine CWalk.sub (G' := [.fact 0 (.rep [0] (a0 : Disk)), .fact 1 (.rep [] (a1 : Int)), .fact 2 (.rep [0] (a2 : List UInt8))]) (sn (Sub.cons (Has.fl (Has.s rfl)) (sn Sub.nil))) ?_
 refine CWalk.seq ?_
 refine CWalk.region ?_
 refine ws (Step.boxObj (ls := [(false, 1, Fact.rep [0] a0.Blocks), (false, 1, Fact.rep [0] a0.Wait), (false, 1, Fact.rep [] a0.Dead)]) 10 rfl rfl rfl rfl (HasL.flds (Has.cv (Has.s rfl) (Cv.trans (Cv.opens (chDisk a0)) (Cv.flds (CvL.cons Cv.refl (CvL.cons Cv.refl (CvL.cons Cv.fl CvL.nil)))))))) ?_
 refine ws (Step.boxObj (ls := [(false, 1, Fact.rep [] (a1 : Int))]) 14 rfl rfl rfl rfl (HasL.one (Has.s rfl) rfl (Has.s rfl))) ?_
 refine ws (Step.allocObj (ls := [(false, 1, Fact.nilv), (false, 1, Fact.nilv), (false, 1, Fact.rep [] (false : Bool))]) 16 rfl rfl rfl rfl zl67) ?_
 refine wo (Spec.assign Has.int) ?_
 refine Walk.nil ?_
 refine Leaf.thenN ?_
 refine CWalk.seq ?_
 refine CWalk.seq ?_
 refine CWalk.region ?_
 refine wo (Spec.loadObj (ls := [(false, 1, Fact.rep [0] a0.Blocks), (false, 1, Fact.rep [0] a0.Wait), (false, 1, Fact.rep [] a0.Dead)]) ty67 rfl rfl (Has.s rfl) rfl (HasGs.cons (HasG.s rfl) (HasGs.cons (HasG.s rfl) (HasGs.cons (HasG.s rfl) HasGs.nil)))) ?_
 refine wo (Spec.loadF (i := 0) ty3 rfl (Has.cv (Has.s rfl) (Cv.isvP rfl)) rfl (HasG.s rfl)) ?_
 refine mv ?_
 obtain ⟨x1, hx1, hm⟩ := bind_some hm
 refine wo (f := Fact.rep [] (x1 : Int)) (Spec.callE [0] 20 rfl en93 (disk_write_c a0 a1 a2 hx1) (HasAll.cons (Has.m (Has.cv (Has.s rfl) (Cv.trans (Cv.flds (CvL.cons (Cv.m rfl) (CvL.cons (Cv.m rfl) (CvL.cons Cv.fl CvL.nil)))) (Cv.close (T := [0]) (chDisk a0)))) rfl) (HasAll.cons (Has.fl (Has.s rfl)) (HasAll.cons (Has.m (Has.s rfl) rfl) HasAll.nil)))) ?_
 refine wo (Spec.assign (Has.s rfl)) ?_
 refine Walk.nil ?_
 refine Leaf.thenN ?_
 refine CWalk.seq ?_
 refine CWalk.region ?_
 refine mv ?_
 refine wo (Spec.neqI (Has.s rfl) Has.int) ?_
 refine Walk.nil ?_
 refine Leaf.thenN ?_
 refine CWalk.cond rfl (fun hb => ?_) (fun hb => ?_)
 ·have hm := cond_t hb hm
  refine CWalk.seq ?_
  refine CWalk.region ?_
  refine wo (Spec.build (us := []) (ls' := [(false, 1, Fact.nilv), (false, 1, Fact.nilv), (false, 1, Fact.rep [] (false : Bool))]) bd67 rfl BP.nil) ?_
  refine mv ?_
  refine ws (Step.storeObj (ls := [(false, 1, Fact.nilv), (false, 1, Fact.nilv), (false, 1, Fact.rep [] (false : Bool))]) rfl ty67 rfl rfl (Has.s rfl) rfl (HasL.flds (Has.s rfl)) rfl) ?_
  refine wo (Spec.assign (Has.s rfl)) ?_
  refine Walk.nil ?_
  refine Leaf.thenN ?_
  refine CWalk.ret ?_
  refine Leaf.thenR ?_
  obtain rfl := Option.some.inj hm
  exact Leaf.retC2 rfl (HasR.cv (HasR.obj (ls := [(false, 1, Fact.nilv), (false, 1, Fact.nilv), (false, 1, Fact.rep [] (false : Bool))]) ty67 rfl rfl (Has.s rfl) rfl (HasGs.cons (HasG.s rfl) (HasGs.cons (HasG.s rfl) (HasGs.cons (HasG.s rfl) HasGs.nil)))) (Cv.flds (CvL.cons (Cv.trans Cv.nilOw (Cv.owM (T := []) (te := []) rfl rfl)) (CvL.cons (Cv.trans Cv.nilOw (Cv.owM (T := []) (te := []) rfl rfl)) (CvL.cons Cv.fl CvL.nil))))) (HasR.cv (HasR.tmp (Has.s rfl)) Cv.fl)
 ·have hm := cond_f hb hm
  refine CWalk.skip ?_
  refine Leaf.thenN ?_
  refine CWalk.seq ?_
  refine CWalk.region ?_
  refine wo (Spec.loadObj (ls := [(false, 1, Fact.rep [0] a0.Blocks), (false, 1, Fact.rep [0] a0.Wait), (false, 1, Fact.rep [] a0.Dead)]) ty67 rfl rfl (Has.s rfl) rfl (HasGs.cons (HasG.s rfl) (HasGs.cons (HasG.s rfl) (HasGs.cons (HasG.s rfl) HasGs.nil)))) ?_
  obtain ⟨x2, hx2, hm⟩ := bind_some hm
  refine wo (f := Fact.flds [(false, 1, Fact.ow [21] [22] 56 (x2.Blocks : List (List UInt8))), (false, 1, Fact.ow [23] [24] 91 (x2.Wait : List Write)), (false, 1, Fact.rep [] x2.Dead)]) (Spec.callE [0] 21 rfl en62 (disk_Twin_c a0 hx2) (HasAll.cons (Has.m (Has.cv (Has.s rfl) (Cv.trans (Cv.flds (CvL.cons (Cv.m rfl) (CvL.cons (Cv.m rfl) (CvL.cons Cv.fl CvL.nil)))) (Cv.close (T := [0]) (chDisk a0)))) rfl) HasAll.nil)) ?_
  refine ws (Step.storeObj (ls := [(false, 1, Fact.ow [21] [22] 56 (x2.Blocks : List (List UInt8))), (false, 1, Fact.ow [23] [24] 91 (x2.Wait : List Write)), (false, 1, Fact.rep [] x2.Dead)]) rfl ty67 rfl rfl (Has.s rfl) rfl (HasL.flds (Has.s rfl)) rfl) ?_
  refine Walk.nil ?_
  refine Leaf.thenN ?_
  refine CWalk.seq ?_
  refine CWalk.ad (Ad.owF (i := 11) 25 rfl rfl rfl (ElT.tags rfl) rfl (Cv.owM (T := [21]) (te := [22]) (T' := [21]) (te' := [22]) rfl rfl)) ?_
  obtain ⟨x3, hx3, hm⟩ := bind_some hm
  obtain ⟨x4, hx4, hm⟩ := bind_some hm
  refine CWalk.drawM [[], [0], [], [], [3], [0, 1, 2, 3, 4], [0, 1, 2, 3, 4, 5]] [[.fact 19 (.pto 10 0)], [.fact 20 (.isv 25)], [.fact 21 (.rep [] (a1 : Int))], [.fact 22 (.rep [0] (a2 : List UInt8))], [.fact 23 (.ow [26] [] 5 (x3 : List UInt8))], [.fact 24 (.pto 25 (x4 * Rp.n (List UInt8)))], [.fact 100025 (.own 25 [22, 26] 56 ((x2.Blocks).set x4 x3 : List (List UInt8))), .kill 25]] mixed (by kernel_rfl) (ao (so (Spec.fieldAddrO fd67_0 (Has.cv (Has.s rfl) (Cv.isvP rfl)))) (ao (so (Spec.loadF (i := 0) ty64 rfl (Has.s rfl) rfl (HasG.s rfl))) (ao (so (Spec.loadF (i := 0) ty3 rfl (Has.cv (Has.s rfl) (Cv.isvP rfl)) rfl (HasG.s rfl))) (ao (so (Spec.move (Has.s rfl))) (ao (so (Spec.callE [0] 26 rfl en49 (disk_block_c a2 hx3) (HasAll.cons (Has.m (Has.s rfl) rfl) HasAll.nil))) (ao (so (Spec.idxOwn hx4 ow64 (Has.s rfl) rfl (Has.s rfl))) (ao (StepG.stE (Step.storeOwn (te' := [22, 26]) rfl (bnd_lt hx4 rfl) ty56 (Has.s rfl) rfl (Has.cv (Has.s rfl) (Cv.trans Cv.owSl (Cv.slRep (T' := [26]) rfl rfl))) (ElKeep.tags rfl rfl) (ElKeep.tags rfl rfl))) AllM.nil))))))) ?_
  refine Leaf.thenN ?_
  refine CWalk.seq ?_
  refine CWalk.region ?_
  refine wo (Spec.fieldAddrO fd67_1 (Has.cv (Has.s rfl) (Cv.isvP rfl))) ?_
  refine wo (Spec.loadF (i := 1) ty65 rfl (Has.s rfl) rfl (HasG.s rfl)) ?_
  refine wo (Spec.makeFunc (xs := []) (ys := [.tmp 4]) rfl rfl HasF.nil (HasF.cons (Has.s rfl) HasF.nil) (fun _ _ _ => rfl)) ?_
  refine Walk.inline (S := (List Write)) (fun p : (List Write) => [.fact 3 (.isv 10), .fact 6 (.isv 16), .fact 28 (.ow [23, 35] [24] 91 (p : List Write)), .fact 100011 (.at 11 (.isv 25)), .fact 100013 (.at 13 (.rep [] x2.Dead)), .fact 100017 (.at 17 (.nilv)), .fact 100018 (.at 18 (.nilv)), .fact 100019 (.at 19 (.rep [] (false : Bool))), .fact 100010 (.obj 10 [(false, 1), (false, 1), (false, 1)]), .fact 100016 (.obj 16 [(false, 1), (false, 1), (false, 1)]), .fact 100025 (.own 25 [22, 26] 56 ((x2.Blocks).set x4 x3 : List (List UInt8)))]) (fun p : (List Write) => disk_Fua_J1 x2 x3 x4 p = some r) (fun u1 => [.fact 100011 (.at 11 (.isv 25)), .fact 100012 (.at 12 (.ow [23] [24] 91 (x2.Wait : List Write))), .fact 100013 (.at 13 (.rep [] x2.Dead)), .fact 100015 (.at 15 (.rep [] (a1 : Int))), .fact 100017 (.at 17 (.nilv)), .fact 100018 (.at 18 (.nilv)), .fact 100019 (.at 19 (.rep [] (false : Bool))), .fact 902003 (.cst (u1 3) (Fact.isv 10)), .fact 902006 (.cst (u1 6) (Fact.isv 16)), .fact 100014 (.obj 14 [(false, 1)]), .fact 100016 (.obj 16 [(false, 1), (false, 1), (false, 1)]), .fact 100010 (.obj 10 [(false, 1), (false, 1), (false, 1)]), .fact 100025 (.own 25 [22, 26] 56 ((x2.Blocks).set x4 x3 : List (List UInt8)))]) (FA := [Fact.ow [23] [24] 91 (x2.Wait : List Write), Fact.fnv 95 [] [Fact.isv 14]]) rfl Try.func94 rfl rfl rfl (CallOk.fn en94 (HasF.cons (Has.s rfl) (HasF.cons (Has.s rfl) HasF.nil))) (fun u1 => (ck (ck (ck (ck (ck (ck (ck (cs 902000 3 (cs 902000 6 (ck (ck (ck (ck Carry.nil)))))))))))))) (fun u1 => ?_) ?_
  ·refine CWalk.seq ?_
   refine CWalk.region ?_
   refine wo (Spec.assign Has.nilv) ?_
   refine Walk.nil ?_
   refine Leaf.thenN ?_
   refine CWalk.seq ?_
   refine CWalk.region ?_
   refine mv ?_
   refine mv ?_
   obtain ⟨x6, hx6, hm⟩ := bind_some hm
   refine wo (f := Fact.rep [] (x6 : Int)) (Spec.callE [14, 23, 24] 27 rfl en98 (slices_IndexFunc_api_Write_api_Write_c x2.Wait (fun y => disk_Fua_1 y a1) hx6) (HasAll.cons (Has.m (Has.cv (Has.s rfl) (Cv.trans Cv.owSl (Cv.slRep (T' := [23, 24]) rfl rfl))) rfl) (HasAll.cons (Has.cv (Has.s rfl) (Cv.fn (pu := []) (pc := [.ptr 0 a1]) (shc := []) en95 CvF.nil (CvF.cons (Cv.trans (Cv.objPtr1 (f := Fact.rep [] (a1 : Int)) rfl rfl (HasG.s rfl) (Cv.fl (T' := []))) (Cv.ptrM rfl)) CvF.nil) (fun y r h => disk_Fua_1_c y a1 h))) HasAll.nil))) ?_
   refine wo (Spec.assign (Has.s rfl)) ?_
   refine Walk.nil ?_
   refine Leaf.thenN ?_
   refine CWalk.seq ?_
   refine CWalk.seq ?_
   refine CWalk.region ?_
   refine mv ?_
   refine wo (Spec.eqlI (Has.s rfl) Has.int) ?_
   refine Walk.nil ?_
   refine Leaf.thenN ?_
   refine CWalk.cond rfl (fun hb => ?_) (fun hb => ?_)
   ·have hm := cond_t hb hm
    refine CWalk.seq ?_
    refine CWalk.region ?_
    refine mv ?_
    refine wo (Spec.assign (Has.s rfl)) ?_
    refine Walk.nil ?_
    refine Leaf.thenN ?_
    refine CWalk.ret ?_
    refine Leaf.thenR ?_
    exact Leaf.in1 x2.Wait hm rfl rfl (HasR.cv (HasR.tmp (Has.s rfl)) (Cv.owM (T := [23]) (te := [24]) rfl rfl)) (ls 902003 (ls 902006 (Low.res (lg (lf (lg (lg (lf (lo (lo (Low.keepR (fun _ _ _ _ h => h) (Has.ownM (Has.s rfl) rfl) Low.nil)))))))))))
   ·have hm := cond_f hb hm
    refine CWalk.skip ?_
    refine Leaf.thenN ?_
    refine CWalk.seq ?_
    refine CWalk.seq ?_
    refine CWalk.region ?_
    refine mv ?_
    refine wo (Spec.addI (Has.s rfl) Has.int) ?_
    refine wo (Spec.assign (Has.s rfl)) ?_
    refine Walk.nil ?_
    refine Leaf.thenN ?_
    refine CWalk.block ?_
    obtain ⟨b15, hb15, hm⟩ := bind_some hm
    refine CWalk.loop (fun s : (List Write) × Int × Int => [.fact 0 (.ow [23, 34] [24] 91 (s.1 : List Write)), .fact 1 (.fnv 95 [] [Fact.isv 14]), .fact 5 (.rep [] s.2.1), .fact 6 (.rep [] s.2.2), .fact 902003 (.cst (u1 3) (Fact.isv 10)), .fact 902006 (.cst (u1 6) (Fact.isv 16)), .fact 100015 (.at 15 (.rep [] (a1 : Int))), .fact 100011 (.at 11 (.isv 25)), .fact 100013 (.at 13 (.rep [] x2.Dead)), .fact 100017 (.at 17 (.nilv)), .fact 100018 (.at 18 (.nilv)), .fact 100019 (.at 19 (.rep [] (false : Bool))), .fact 100014 (.obj 14 [(false, 1)]), .fact 100010 (.obj 10 [(false, 1), (false, 1), (false, 1)]), .fact 100016 (.obj 16 [(false, 1), (false, 1), (false, 1)]), .fact 100025 (.own 25 [22, 26] 56 ((x2.Blocks).set x4 x3 : List (List UInt8)))]) (fun b : (List Write) × Int => (Exit.exit 0, [.fact 0 (.ow [23, 34] [24] 91 (b.1 : List Write)), .fact 5 (.rep [] b.2), .fact 902003 (.cst (u1 3) (Fact.isv 10)), .fact 902006 (.cst (u1 6) (Fact.isv 16)), .fact 100011 (.at 11 (.isv 25)), .fact 100013 (.at 13 (.rep [] x2.Dead)), .fact 100017 (.at 17 (.nilv)), .fact 100018 (.at 18 (.nilv)), .fact 100019 (.at 19 (.rep [] (false : Bool))), .fact 100010 (.obj 10 [(false, 1), (false, 1), (false, 1)]), .fact 100016 (.obj 16 [(false, 1), (false, 1), (false, 1)]), .fact 100025 (.own 25 [22, 26] 56 ((x2.Blocks).set x4 x3 : List (List UInt8)))])) hb15 (Sub.cons (Has.cv (Has.s rfl) (Cv.owM (T := [23]) (te := [24]) rfl rfl)) (sn (st (st (sc (sc (sf (sg (sf (sg (sg (sf (sn (sn (sn (Sub.cons (Has.ownM (Has.s rfl) rfl) Sub.nil)))))))))))))))) ?_ ?_
    ·rintro ⟨s7, s8, s9⟩ c10 hm
     replace hm : disk_Fua_L2 a1 s7 s8 s9 = some c10 := hm
     unfold disk_Fua_L2 at hm
     show CWalk _ [.fact 0 (.ow [23, 34] [24] 91 (s7 : List Write)), .fact 1 (.fnv 95 [] [Fact.isv 14]), .fact 5 (.rep [] (s8 : Int)), .fact 6 (.rep [] (s9 : Int)), .fact 902003 (.cst (u1 3) (Fact.isv 10)), .fact 902006 (.cst (u1 6) (Fact.isv 16)), .fact 100015 (.at 15 (.rep [] (a1 : Int))), .fact 100011 (.at 11 (.isv 25)), .fact 100013 (.at 13 (.rep [] x2.Dead)), .fact 100017 (.at 17 (.nilv)), .fact 100018 (.at 18 (.nilv)), .fact 100019 (.at 19 (.rep [] (false : Bool))), .fact 100014 (.obj 14 [(false, 1)]), .fact 100010 (.obj 10 [(false, 1), (false, 1), (false, 1)]), .fact 100016 (.obj 16 [(false, 1), (false, 1), (false, 1)]), .fact 100025 (.own 25 [22, 26] 56 ((x2.Blocks).set x4 x3 : List (List UInt8)))] _ _
     refine CWalk.seq ?_
     refine CWalk.seq ?_
     refine CWalk.region ?_
     refine mv ?_
     refine mv ?_
     refine wo (Spec.len (Has.cv (Has.s rfl) (Cv.trans Cv.owSl (Cv.slRep (T' := [23, 24, 34]) rfl rfl))) Try.underlying65) ?_
     refine wo (Spec.lssI (Has.s rfl) (Has.s rfl)) ?_
     refine Walk.nil ?_
     refine Leaf.thenN ?_
     refine CWalk.cond rfl (fun hb => ?_) (fun hb => ?_)
     ·have hm := cond_t hb hm
      refine CWalk.skip ?_
      refine Leaf.thenN ?_
      refine CWalk.seqJ (fun p : (List Write) × Int => [.fact 0 (.ow [23, 34] [24] 91 (p.1 : List Write)), .fact 1 (.fnv 95 [] [Fact.isv 14]), .fact 5 (.rep [] p.2), .fact 6 (.rep [] (s9 : Int)), .fact 902003 (.cst (u1 3) (Fact.isv 10)), .fact 902006 (.cst (u1 6) (Fact.isv 16)), .fact 100015 (.at 15 (.rep [] (a1 : Int))), .fact 100011 (.at 11 (.isv 25)), .fact 100013 (.at 13 (.rep [] x2.Dead)), .fact 100017 (.at 17 (.nilv)), .fact 100018 (.at 18 (.nilv)), .fact 100019 (.at 19 (.rep [] (false : Bool))), .fact 100014 (.obj 14 [(false, 1)]), .fact 100010 (.obj 10 [(false, 1), (false, 1), (false, 1)]), .fact 100016 (.obj 16 [(false, 1), (false, 1), (false, 1)]), .fact 100025 (.own 25 [22, 26] 56 ((x2.Blocks).set x4 x3 : List (List UInt8)))]) (fun p : (List Write) × Int => disk_Fua_J3 s9 p.1 p.2 = some c10) ?_ ?_
      ·rintro ⟨j11, j12⟩ hm
       replace hm : disk_Fua_J3 s9 j11 j12 = some c10 := hm
       unfold disk_Fua_J3 at hm
       show CWalk _ [.fact 0 (.ow [23, 34] [24] 91 (j11 : List Write)), .fact 1 (.fnv 95 [] [Fact.isv 14]), .fact 5 (.rep [] (j12 : Int)), .fact 6 (.rep [] (s9 : Int)), .fact 902003 (.cst (u1 3) (Fact.isv 10)), .fact 902006 (.cst (u1 6) (Fact.isv 16)), .fact 100015 (.at 15 (.rep [] (a1 : Int))), .fact 100011 (.at 11 (.isv 25)), .fact 100013 (.at 13 (.rep [] x2.Dead)), .fact 100017 (.at 17 (.nilv)), .fact 100018 (.at 18 (.nilv)), .fact 100019 (.at 19 (.rep [] (false : Bool))), .fact 100014 (.obj 14 [(false, 1)]), .fact 100010 (.obj 10 [(false, 1), (false, 1), (false, 1)]), .fact 100016 (.obj 16 [(false, 1), (false, 1), (false, 1)]), .fact 100025 (.own 25 [22, 26] 56 ((x2.Blocks).set x4 x3 : List (List UInt8)))] _ _
       refine CWalk.region ?_
       refine mv ?_
       refine wo (Spec.addI (Has.s rfl) Has.int) ?_
       refine wo (Spec.assign (Has.s rfl)) ?_
       refine Walk.nil ?_
       exact Leaf.next hm (Sub.cons (Has.cv (Has.s rfl) (Cv.owM (T := [23, 34]) (te := [24]) rfl rfl)) (sn (st (st (sc (sc (sf (sg (sf (sg (sg (sf (sn (sn (sn (Sub.cons (Has.ownM (Has.s rfl) rfl) Sub.nil))))))))))))))))
      ·refine CWalk.block ?_
       refine CWalk.seq ?_
       refine CWalk.region ?_
       refine mv ?_
       refine mv ?_
       obtain ⟨x13, hx13, hm⟩ := bind_some hm
       refine wo (Spec.indexSl hx13 sl65 (Has.cv (Has.s rfl) Cv.owSl) (Has.s rfl)) ?_
       refine wo (Spec.loadS ty91 (Has.s rfl)) ?_
       refine ws (Step.allocObj (ls := [(false, 1, Fact.rep [] ((0 : Int) : Int)), (false, 1, Fact.nilv)]) 28 rfl rfl rfl rfl zl91) ?_
       refine ws (Step.storeObj (ls := [(false, 1, Fact.rep [] x13.At), (false, 1, Fact.rep [24] x13.Data)]) rfl ty91 rfl rfl (Has.s rfl) rfl (HasL.flds (Has.cv (Has.s rfl) (Cv.trans (Cv.opens (chWrite x13)) (Cv.flds (CvL.cons Cv.fl (CvL.cons Cv.refl CvL.nil)))))) rfl) ?_
       refine Walk.nil ?_
       refine Leaf.thenN ?_
       refine CWalk.seq ?_
       refine CWalk.region ?_
       refine mv ?_
       refine wo (Spec.loadObj (ls := [(false, 1, Fact.rep [] x13.At), (false, 1, Fact.rep [24] x13.Data)]) ty91 rfl rfl (Has.s rfl) rfl (HasGs.cons (HasG.s rfl) (HasGs.cons (HasG.s rfl) HasGs.nil))) ?_
       refine Walk.inline (S := Unit) (fun p : Unit => [.fact 0 (.ow [23, 34] [24] 91 (s7 : List Write)), .fact 1 (.fnv 95 [] [Fact.isv 14]), .fact 5 (.rep [] (s8 : Int)), .fact 6 (.rep [] (s9 : Int)), .fact 7 (.isv 28), .fact 28 (.rep [] ((x13.At == a1) : Bool)), .fact 902003 (.cst (u1 3) (Fact.isv 10)), .fact 902006 (.cst (u1 6) (Fact.isv 16)), .fact 100015 (.at 15 (.rep [] (a1 : Int))), .fact 100029 (.at 29 (.rep [] x13.At)), .fact 100030 (.at 30 (.rep [24] x13.Data)), .fact 100011 (.at 11 (.isv 25)), .fact 100013 (.at 13 (.rep [] x2.Dead)), .fact 100017 (.at 17 (.nilv)), .fact 100018 (.at 18 (.nilv)), .fact 100019 (.at 19 (.rep [] (false : Bool))), .fact 100014 (.obj 14 [(false, 1)]), .fact 100028 (.obj 28 [(false, 1), (false, 1)]), .fact 100010 (.obj 10 [(false, 1), (false, 1), (false, 1)]), .fact 100016 (.obj 16 [(false, 1), (false, 1), (false, 1)]), .fact 100025 (.own 25 [22, 26] 56 ((x2.Blocks).set x4 x3 : List (List UInt8)))]) (fun p : Unit => disk_Fua_J4 a1 s7 s8 s9 x13 = some c10) (fun u2 => [.fact 100011 (.at 11 (.isv 25)), .fact 100013 (.at 13 (.rep [] x2.Dead)), .fact 100015 (.at 15 (.rep [] (a1 : Int))), .fact 100017 (.at 17 (.nilv)), .fact 100018 (.at 18 (.nilv)), .fact 100019 (.at 19 (.rep [] (false : Bool))), .fact 100029 (.at 29 (.rep [] x13.At)), .fact 100030 (.at 30 (.rep [24] x13.Data)), .fact 902003 (.cst (u1 3) (Fact.isv 10)), .fact 902006 (.cst (u1 6) (Fact.isv 16)), .fact 904000 (.cst (u2 0) (Fact.ow [23, 34] [24] 91 (s7 : List Write))), .fact 904001 (.cst (u2 1) (Fact.fnv 95 [] [Fact.isv 14])), .fact 904005 (.cst (u2 5) (Fact.rep [] (s8 : Int))), .fact 904006 (.cst (u2 6) (Fact.rep [] (s9 : Int))), .fact 904007 (.cst (u2 7) (Fact.isv 28)), .fact 100014 (.obj 14 [(false, 1)]), .fact 100010 (.obj 10 [(false, 1), (false, 1), (false, 1)]), .fact 100016 (.obj 16 [(false, 1), (false, 1), (false, 1)]), .fact 100025 (.own 25 [22, 26] 56 ((x2.Blocks).set x4 x3 : List (List UInt8))), .fact 100028 (.obj 28 [(false, 1), (false, 1)])]) (FA := [Fact.flds [(false, 1, Fact.rep [] x13.At), (false, 1, Fact.rep [24] x13.Data)], Fact.isv 14]) rfl Try.func95 rfl rfl rfl (CallOk.valE en95 (Has.s rfl) (HasF.cons (Has.s rfl) HasF.nil)) (fun u2 => (ck (ck (ck (ck (ck (ck (ck (ck (ck (ck (cs 904000 0 (cs 904000 1 (cs 904000 5 (cs 904000 6 (cs 904000 7 (ck (ck (ck (ck (ck Carry.nil))))))))))))))))))))) (fun u2 => ?_) ?_
       ·refine CWalk.seq ?_
        refine CWalk.region ?_
        refine ws (Step.boxObj (ls := [(false, 1, Fact.rep [] x13.At), (false, 1, Fact.rep [24] x13.Data)]) 31 rfl rfl rfl rfl (HasL.flds (Has.s rfl))) ?_
        refine wo (Spec.assign Has.bool) ?_
        refine Walk.nil ?_
        refine Leaf.thenN ?_
        refine CWalk.seq ?_
        refine CWalk.region ?_
        refine wo (Spec.fieldAddrO fd91_0 (Has.cv (Has.s rfl) (Cv.isvP rfl))) ?_
        refine wo (Spec.loadF (i := 0) ty3 rfl (Has.s rfl) rfl (HasG.s rfl)) ?_
        refine wo (Spec.loadF (i := 0) ty3 rfl (Has.cv (Has.s rfl) (Cv.isvP rfl)) rfl (HasG.s rfl)) ?_
        refine wo (Spec.eqlI (Has.s rfl) (Has.s rfl)) ?_
        refine wo (Spec.assign (Has.s rfl)) ?_
        refine Walk.nil ?_
        refine Leaf.thenN ?_
        refine CWalk.ret ?_
        exact Leaf.in1 () hm rfl rfl (HasR.cv (HasR.tmp (Has.s rfl)) Cv.fl) (Low.slot rfl (HasC.cv (HasC.s (s := 904000) rfl) (Cv.owM (T := [23, 34]) (te := [24]) rfl rfl)) (ls 904001 (Low.slot rfl (HasC.cv (HasC.s (s := 904005) rfl) Cv.fl) (Low.slot rfl (HasC.cv (HasC.s (s := 904006) rfl) Cv.fl) (ls 904007 (Low.res (lc (lc (lf (lf (lm (lg (lf (lg (lg (lf (lo (lo (lo (lo (Low.keepR (fun _ _ _ _ h => h) (Has.ownM (Has.s rfl) rfl) Low.nil)))))))))))))))))))))
       ·rintro _ hm
        replace hm : disk_Fua_J4 a1 s7 s8 s9 x13 = some c10 := hm
        unfold disk_Fua_J4 at hm
        show Walk _ _ _ [.fact 0 (.ow [23, 34] [24] 91 (s7 : List Write)), .fact 1 (.fnv 95 [] [Fact.isv 14]), .fact 5 (.rep [] (s8 : Int)), .fact 6 (.rep [] (s9 : Int)), .fact 7 (.isv 28), .fact 28 (.rep [] ((x13.At == a1) : Bool)), .fact 902003 (.cst (u1 3) (Fact.isv 10)), .fact 902006 (.cst (u1 6) (Fact.isv 16)), .fact 100015 (.at 15 (.rep [] (a1 : Int))), .fact 100029 (.at 29 (.rep [] x13.At)), .fact 100030 (.at 30 (.rep [24] x13.Data)), .fact 100011 (.at 11 (.isv 25)), .fact 100013 (.at 13 (.rep [] x2.Dead)), .fact 100017 (.at 17 (.nilv)), .fact 100018 (.at 18 (.nilv)), .fact 100019 (.at 19 (.rep [] (false : Bool))), .fact 100014 (.obj 14 [(false, 1)]), .fact 100028 (.obj 28 [(false, 1), (false, 1)]), .fact 100010 (.obj 10 [(false, 1), (false, 1), (false, 1)]), .fact 100016 (.obj 16 [(false, 1), (false, 1), (false, 1)]), .fact 100025 (.own 25 [22, 26] 56 ((x2.Blocks).set x4 x3 : List (List UInt8)))] _
        refine wo (Spec.not (Has.s rfl)) ?_
        refine Walk.nil ?_
        refine Leaf.thenN ?_
        refine CWalk.cond rfl (fun hb => ?_) (fun hb => ?_)
        ·have hm := cond_t hb hm
         refine CWalk.seq ?_
         refine CWalk.ad (Ad.ow (s := 0) 34 rfl rfl (ElT.tags rfl) rfl (Cv.owM (T := [23, 34]) (te := [24]) (T' := [23, 34]) (te' := [24]) rfl rfl)) ?_
         refine CWalk.region ?_
         refine mv ?_
         refine mv ?_
         refine wo (Spec.loadObj (ls := [(false, 1, Fact.rep [] x13.At), (false, 1, Fact.rep [24] x13.Data)]) ty91 rfl rfl (Has.s rfl) rfl (HasGs.cons (HasG.s rfl) (HasGs.cons (HasG.s rfl) HasGs.nil))) ?_
         obtain ⟨x14, hx14, hm⟩ := bind_some hm
         refine wo (Spec.idxOwn hx14 ow65 (Has.s rfl) rfl (Has.s rfl)) ?_
         refine ws (Step.storeOwn (te' := [24]) rfl (bnd_lt hx14 rfl) ty91 (Has.s rfl) rfl (Has.cv (Has.s rfl) (Cv.trans (Cv.flds (CvL.cons Cv.fl (CvL.cons (Cv.m rfl) CvL.nil))) (Cv.close (T := [24]) (chWrite x13)))) (ElKeep.tags rfl rfl) (ElKeep.tags rfl rfl)) ?_
         refine Walk.nil ?_
         refine Leaf.thenN ?_
         refine CWalk.region ?_
         refine mv ?_
         refine wo (Spec.addI (Has.s rfl) Has.int) ?_
         refine wo (Spec.assign (Has.s rfl)) ?_
         refine Walk.nil ?_
         refine Leaf.blockN ?_
         exact Leaf.join ((s7).set x14 x13, (wI (s8 + (1 : Int)))) hm (Sub.cons (Has.cv (Has.s rfl) (Cv.trans (Cv.isvOw rfl) (Cv.owM (T := [34]) (te := [24]) rfl rfl))) (sn (st (st (sc (sc (sf (sg (sf (sg (sg (sf (sn (sn (sn (Sub.cons (Has.ownM (Has.s rfl) rfl) Sub.nil))))))))))))))))
        ·have hm := cond_f hb hm
         refine CWalk.skip ?_
         refine Leaf.blockN ?_
         exact Leaf.join (s7, s8) hm (Sub.cons (Has.cv (Has.s rfl) (Cv.owM (T := [23, 34]) (te := [24]) rfl rfl)) (sn (st (st (sc (sc (sf (sg (sf (sg (sg (sf (sn (sn (sn (Sub.cons (Has.ownM (Has.s rfl) rfl) Sub.nil))))))))))))))))
     ·have hm := cond_f hb hm
      refine CWalk.exit ?_
      refine Leaf.thenE ?_
      exact Leaf.brk hm (fun h => nomatch h) rfl (Sub.cons (Has.cv (Has.s rfl) (Cv.owM (T := [23, 34]) (te := [24]) rfl rfl)) (st (sc (sc (sg (sf (sg (sg (sf (sn (sn (Sub.cons (Has.ownM (Has.s rfl) rfl) Sub.nil))))))))))))
    ·intro _
     refine Leaf.blockE ?_
     refine Leaf.thenN ?_
     refine CWalk.seq ?_
     refine CWalk.ad (Ad.ow (s := 0) 35 rfl rfl (ElT.tags rfl) rfl (Cv.owM (T := [23, 34]) (te := [24]) (T' := [23, 34]) (te' := [24]) rfl rfl)) ?_
     refine CWalk.region ?_
     refine mv ?_
     refine mv ?_
     obtain ⟨x16, hx16, hm⟩ := bind_some hm
     refine wo (Spec.slcWin hx16 ow65 (Has.s rfl) rfl (Has.s rfl)) ?_
     refine ws (Step.clearWin (te' := [24]) ow65 zt91 rfl (Has.s rfl) rfl (ElKeep.tags rfl rfl)) ?_
     refine Walk.nil ?_
     refine Leaf.thenN ?_
     refine CWalk.seq ?_
     refine CWalk.region ?_
     refine mv ?_
     refine mv ?_
     obtain ⟨x17, hx17, hm⟩ := bind_some hm
     refine wo (Spec.slcHiOw hx17 ow65 (Has.cv (Has.s rfl) (Cv.isvOw rfl)) (Has.s rfl)) ?_
     refine wo (Spec.assign (Has.s rfl)) ?_
     refine Walk.nil ?_
     refine Leaf.thenN ?_
     refine CWalk.ret ?_
     exact Leaf.in1 x17 hm rfl rfl (HasR.cv (HasR.tmp (Has.s rfl)) (Cv.owM (T := [35]) (te := [24]) rfl rfl)) (ls 902003 (ls 902006 (Low.res (lg (lf (lg (lg (lf (lo (lo (Low.keepR (fun _ _ _ _ h => h) (Has.ownM (Has.s rfl) rfl) Low.nil)))))))))))
  ·rintro j5 hm
   replace hm : disk_Fua_J1 x2 x3 x4 j5 = some r := hm
   unfold disk_Fua_J1 at hm
   show Walk _ _ _ [.fact 3 (.isv 10), .fact 6 (.isv 16), .fact 28 (.ow [23, 35] [24] 91 (j5 : List Write)), .fact 100011 (.at 11 (.isv 25)), .fact 100013 (.at 13 (.rep [] x2.Dead)), .fact 100017 (.at 17 (.nilv)), .fact 100018 (.at 18 (.nilv)), .fact 100019 (.at 19 (.rep [] (false : Bool))), .fact 100010 (.obj 10 [(false, 1), (false, 1), (false, 1)]), .fact 100016 (.obj 16 [(false, 1), (false, 1), (false, 1)]), .fact 100025 (.own 25 [22, 26] 56 ((x2.Blocks).set x4 x3 : List (List UInt8)))] _
   refine wo (Spec.fieldAddrO fd67_1 (Has.cv (Has.s rfl) (Cv.isvP rfl))) ?_
   refine ws (Step.storeF (i := 1) (f := Fact.ow [23, 35] [24] 91 (j5 : List Write)) rfl ty65 rfl (Has.s rfl) rfl (Has.cv (Has.s rfl) (Cv.trans Cv.owSl (Cv.slRep (T' := [23, 24, 35]) rfl rfl))) (Has.s rfl) rfl) ?_
   refine Walk.nil ?_
   refine Leaf.thenN ?_
   refine CWalk.seq ?_
   refine CWalk.region ?_
   refine wo (Spec.loadObj (ls := [(false, 1, Fact.isv 25), (false, 1, Fact.ow [23, 35] [24] 91 (j5 : List Write)), (false, 1, Fact.rep [] x2.Dead)]) ty67 rfl rfl (Has.s rfl) rfl (HasGs.cons (HasG.s rfl) (HasGs.cons (HasG.s rfl) (HasGs.cons (HasG.s rfl) HasGs.nil)))) ?_
   refine ws (Step.storeObj (ls := [(false, 1, Fact.isv 25), (false, 1, Fact.ow [23, 35] [24] 91 (j5 : List Write)), (false, 1, Fact.rep [] x2.Dead)]) rfl ty67 rfl rfl (Has.s rfl) rfl (HasL.flds (Has.s rfl)) rfl) ?_
   refine wo (Spec.assign Has.int) ?_
   refine Walk.nil ?_
   refine Leaf.thenN ?_
   refine CWalk.ret ?_
   obtain rfl := Option.some.inj hm
   exact Leaf.retC2 rfl (HasR.cv (HasR.obj (ls := [(false, 1, Fact.isv 25), (false, 1, Fact.ow [23, 35] [24] 91 (j5 : List Write)), (false, 1, Fact.rep [] x2.Dead)]) ty67 rfl rfl (Has.s rfl) rfl (HasGs.cons (HasG.s rfl) (HasGs.cons (HasG.s rfl) (HasGs.cons (HasG.s rfl) HasGs.nil)))) (Cv.flds (CvL.cons (Cv.trans (Cv.isvOw rfl) (Cv.owM (T := [25]) (te := [22, 26]) rfl rfl)) (CvL.cons (Cv.owM (T := [23, 35]) (te := [24]) rfl rfl) (CvL.cons Cv.fl CvL.nil))))) (HasR.cv (HasR.tmp (Has.s rfl)) Cv.fl)

/-- (freeboard/acts.act).fua -/
def acts_act_fua (a0 : Act58) (a1 : Disk) : Option (Disk × Int) :=
  Option.bind (disk_Fua a1 a0.At a0.Data) (fun x1 => some (x1.1, x1.2))
set_option maxRecDepth 100000 in
set_option maxHeartbeats 2000000 in
theorem acts_act_fua_c (a0 : Act58) (a1 : Disk) {r : Disk × Int} (hm : acts_act_fua a0 a1 = some r) : Ctr Try.prog 64 [.rep 0 a0, .rep 0 a1] (.tup2 (.flds [(false, 1, (.own 0 (some 1) 56 r.1.Blocks)), (false, 1, (.own 2 (some 3) 91 r.1.Wait)), (false, 1, (.fl r.1.Dead))]) (.fl r.2)) [] := by
 refine ctr_of_walk [[23], [24], [25], [26]] 14 Try.func64 rfl rfl rfl rfl (fun w0 om => ?_)
 unfold acts_act_fua at hm
 refine CWalk.sub (G' := [.fact 0 (.rep [0] (a0 : Act58)), .fact 1 (.rep [0] (a1 : Disk))]) (sn (sn Sub.nil)) ?_
 refine CWalk.seq ?_
 refine CWalk.region ?_
 refine ws (Step.boxObj (ls := [(false, 1, Fact.rep [] a0.Disk), (false, 1, Fact.rep [] a0.Kind), (false, 1, Fact.rep [] a0.At), (false, 1, Fact.rep [0] a0.Data)]) 10 rfl rfl rfl rfl (HasL.flds (Has.cv (Has.s rfl) (Cv.trans (Cv.opens (chAct58 a0)) (Cv.flds (CvL.cons Cv.fl (CvL.cons Cv.fl (CvL.cons Cv.fl (CvL.cons Cv.refl CvL.nil))))))))) ?_
 refine ws (Step.boxObj (ls := [(false, 1, Fact.rep [0] a1.Blocks), (false, 1, Fact.rep [0] a1.Wait), (false, 1, Fact.rep [] a1.Dead)]) 15 rfl rfl rfl rfl (HasL.flds (Has.cv (Has.s rfl) (Cv.trans (Cv.opens (chDisk a1)) (Cv.flds (CvL.cons Cv.refl (CvL.cons Cv.refl (CvL.cons Cv.fl CvL.nil)))))))) ?_
 refine ws (Step.allocObj (ls := [(false, 1, Fact.nilv), (false, 1, Fact.nilv), (false, 1, Fact.rep [] (false : Bool))]) 19 rfl rfl rfl rfl zl67) ?_
 refine wo (Spec.assign Has.int) ?_
 refine Walk.nil ?_
 refine Leaf.thenN ?_
 refine CWalk.seq ?_
 refine CWalk.region ?_
 refine wo (Spec.loadObj (ls := [(false, 1, Fact.rep [0] a1.Blocks), (false, 1, Fact.rep [0] a1.Wait), (false, 1, Fact.rep [] a1.Dead)]) ty67 rfl rfl (Has.s rfl) rfl (HasGs.cons (HasG.s rfl) (HasGs.cons (HasG.s rfl) (HasGs.cons (HasG.s rfl) HasGs.nil)))) ?_
 refine wo (Spec.fieldAddrO fd97_2 (Has.cv (Has.s rfl) (Cv.isvP rfl))) ?_
 refine wo (Spec.loadF (i := 2) ty3 rfl (Has.s rfl) rfl (HasG.s rfl)) ?_
 refine wo (Spec.fieldAddrO fd97_3 (Has.cv (Has.s rfl) (Cv.isvP rfl))) ?_
 refine wo (Spec.loadF (i := 3) ty56 rfl (Has.s rfl) rfl (HasG.s rfl)) ?_
 obtain ⟨x1, hx1, hm⟩ := bind_some hm
 refine wo (f := Fact.tup2 (Fact.flds [(false, 1, Fact.ow [23] [24] 56 (x1.1.Blocks : List (List UInt8))), (false, 1, Fact.ow [25] [26] 91 (x1.1.Wait : List Write)), (false, 1, Fact.rep [] x1.1.Dead)]) (Fact.rep [] x1.2)) (Spec.callE [0] 23 rfl en80 (disk_Fua_c a1 a0.At a0.Data hx1) (HasAll.cons (Has.m (Has.cv (Has.s rfl) (Cv.trans (Cv.flds (CvL.cons (Cv.m rfl) (CvL.cons (Cv.m rfl) (CvL.cons Cv.fl CvL.nil)))) (Cv.close (T := [0]) (chDisk a1)))) rfl) (HasAll.cons (Has.fl (Has.s rfl)) (HasAll.cons (Has.m (Has.s rfl) rfl) HasAll.nil)))) ?_
 refine wo (Spec.ext0 (Has.s rfl)) ?_
 refine wo (Spec.ext1 (Has.s rfl)) ?_
 refine ws (Step.storeObj (ls := [(false, 1, Fact.ow [23] [24] 56 (x1.1.Blocks : List (List UInt8))), (false, 1, Fact.ow [25] [26] 91 (x1.1.Wait : List Write)), (false, 1, Fact.rep [] x1.1.Dead)]) rfl ty67 rfl rfl (Has.s rfl) rfl (HasL.flds (Has.s rfl)) rfl) ?_
 refine wo (Spec.assign (Has.s rfl)) ?_
 refine Walk.nil ?_
 refine Leaf.thenN ?_
 refine CWalk.ret ?_
 obtain rfl := Option.some.inj hm
 exact Leaf.retC2 rfl (HasR.cv (HasR.obj (ls := [(false, 1, Fact.ow [23] [24] 56 (x1.1.Blocks : List (List UInt8))), (false, 1, Fact.ow [25] [26] 91 (x1.1.Wait : List Write)), (false, 1, Fact.rep [] x1.1.Dead)]) ty67 rfl rfl (Has.s rfl) rfl (HasGs.cons (HasG.s rfl) (HasGs.cons (HasG.s rfl) (HasGs.cons (HasG.s rfl) HasGs.nil)))) (Cv.flds (CvL.cons (Cv.owM (T := [23]) (te := [24]) rfl rfl) (CvL.cons (Cv.owM (T := [25]) (te := [26]) rfl rfl) (CvL.cons Cv.fl CvL.nil))))) (HasR.cv (HasR.tmp (Has.s rfl)) Cv.fl)

def disk_Flush_L1 (x2 : Disk) (s3 : Int) (s4 : List (List UInt8)) : Option (Ctl (Int × (List (List UInt8))) ((List (List UInt8)))) :=
  (bif (decide (s3 < ((x2.Wait).length : Int))) then Option.bind (idx x2.Wait s3) (fun x6 => Option.bind (bnd (s4).length x6.At) (fun x7 => some (Ctl.next ((wI (s3 + (1 : Int))), (s4).set x7 x6.Data)))) else some (Ctl.brk s4))
/-- freeboard/disk.Flush -/
def disk_Flush (a0 : Disk) : Option (Disk × Int) :=
  Option.bind (disk_Check a0) (fun x1 => (bif (x1 != (0 : Int)) then some ((Disk.mk ([] : List (List UInt8)) ([] : List Write) false), x1) else (bif a0.Dead then some ((Disk.mk ([] : List (List UInt8)) ([] : List Write) false), (40 : Int)) else Option.bind (disk_Twin a0) (fun x2 => Option.bind (loopM (fun s : Int × (List (List UInt8)) => disk_Flush_L1 x2 s.1 s.2) FUEL ((0 : Int), x2.Blocks)) (fun b8 => Option.bind (disk_Twin (Disk.mk b8 ([] : List Write) x2.Dead)) (fun x9 => some (x9, (0 : Int))))))))
set_option maxRecDepth 100000 in
set_option maxHeartbeats 2000000 in
theorem disk_Flush_c (a0 : Disk) {r : Disk × Int} (hm : disk_Flush a0 = some r) : Ctr Try.prog 81 [.rep 0 a0] (.tup2 (.flds [(false, 1, (.own 0 (some 1) 56 r.1.Blocks)), (false, 1, (.own 2 (some 3) 91 r.1.Wait)), (false, 1, (.fl r.1.Dead))]) (.fl r.2)) [] := by
 refine ctr_of_walk [[27], [28], [29], [30]] 36 Try.func81 rfl rfl rfl rfl (fun w0 om => ?_)
 unfold disk_Flush at hm
 refine CWalk.sub (G' := [.fact 0 (.rep [0] (a0 : Disk))]) (sn Sub.nil) ?_
 refine CWalk.seq ?_
 refine CWalk.region ?_
 refine ws (Step.boxObj (ls := [(false, 1, Fact.rep [0] a0.Blocks), (false, 1, Fact.rep [0] a0.Wait), (false, 1, Fact.rep [] a0.Dead)]) 10 rfl rfl rfl rfl (HasL.flds (Has.cv (Has.s rfl) (Cv.trans (Cv.opens (chDisk a0)) (Cv.flds (CvL.cons Cv.refl (CvL.cons Cv.refl (CvL.cons Cv.fl CvL.nil)))))))) ?_
 refine ws (Step.allocObj (ls := [(false, 1, Fact.nilv), (false, 1, Fact.nilv), (false, 1, Fact.rep [] (false : Bool))]) 14 rfl rfl rfl rfl zl67) ?_
 refine wo (Spec.assign Has.int) ?_
 refine Walk.nil ?_
 refine Leaf.thenN ?_
 refine CWalk.seq ?_
 refine CWalk.seq ?_
 refine CWalk.region ?_
 refine wo (Spec.loadObj (ls := [(false, 1, Fact.rep [0] a0.Blocks), (false, 1, Fact.rep [0] a0.Wait), (false, 1, Fact.rep [] a0.Dead)]) ty67 rfl rfl (Has.s rfl) rfl (HasGs.cons (HasG.s rfl) (HasGs.cons (HasG.s rfl) (HasGs.cons (HasG.s rfl) HasGs.nil)))) ?_
 obtain ⟨x1, hx1, hm⟩ := bind_some hm
 refine wo (f := Fact.rep [] (x1 : Int)) (Spec.callE [0] 18 rfl en77 (disk_Check_c a0 hx1) (HasAll.cons (Has.m (Has.cv (Has.s rfl) (Cv.trans (Cv.flds (CvL.cons (Cv.m rfl) (CvL.cons (Cv.m rfl) (CvL.cons Cv.fl CvL.nil)))) (Cv.close (T := [0]) (chDisk a0)))) rfl) HasAll.nil)) ?_
 refine wo (Spec.assign (Has.s rfl)) ?_
 refine Walk.nil ?_
 refine Leaf.thenN ?_
 refine CWalk.seq ?_
 refine CWalk.region ?_
 refine mv ?_
 refine wo (Spec.neqI (Has.s rfl) Has.int) ?_
 refine Walk.nil ?_
 refine Leaf.thenN ?_
 refine CWalk.cond rfl (fun hb => ?_) (fun hb => ?_)
 ·have hm := cond_t hb hm
  refine CWalk.seq ?_
  refine CWalk.region ?_
  refine wo (Spec.build (us := []) (ls' := [(false, 1, Fact.nilv), (false, 1, Fact.nilv), (false, 1, Fact.rep [] (false : Bool))]) bd67 rfl BP.nil) ?_
  refine mv ?_
  refine ws (Step.storeObj (ls := [(false, 1, Fact.nilv), (false, 1, Fact.nilv), (false, 1, Fact.rep [] (false : Bool))]) rfl ty67 rfl rfl (Has.s rfl) rfl (HasL.flds (Has.s rfl)) rfl) ?_
  refine wo (Spec.assign (Has.s rfl)) ?_
  refine Walk.nil ?_
  refine Leaf.thenN ?_
  refine CWalk.ret ?_
  refine Leaf.thenR ?_
  obtain rfl := Option.some.inj hm
  exact Leaf.retC2 rfl (HasR.cv (HasR.obj (ls := [(false, 1, Fact.nilv), (false, 1, Fact.nilv), (false, 1, Fact.rep [] (false : Bool))]) ty67 rfl rfl (Has.s rfl) rfl (HasGs.cons (HasG.s rfl) (HasGs.cons (HasG.s rfl) (HasGs.cons (HasG.s rfl) HasGs.nil)))) (Cv.flds (CvL.cons (Cv.trans Cv.nilOw (Cv.owM (T := []) (te := []) rfl rfl)) (CvL.cons (Cv.trans Cv.nilOw (Cv.owM (T := []) (te := []) rfl rfl)) (CvL.cons Cv.fl CvL.nil))))) (HasR.cv (HasR.tmp (Has.s rfl)) Cv.fl)
 ·have hm := cond_f hb hm
  refine CWalk.skip ?_
  refine Leaf.thenN ?_
  refine CWalk.seq ?_
  refine CWalk.seq ?_
  refine CWalk.region ?_
  refine wo (Spec.fieldAddrO fd67_2 (Has.cv (Has.s rfl) (Cv.isvP rfl))) ?_
  refine wo (Spec.loadF (i := 2) ty4 rfl (Has.s rfl) rfl (HasG.s rfl)) ?_
  refine Walk.nil ?_
  refine Leaf.thenN ?_
  refine CWalk.cond rfl (fun hb => ?_) (fun hb => ?_)
  ·have hm := cond_t hb hm
   refine CWalk.seq ?_
   refine CWalk.region ?_
   refine wo (Spec.build (us := []) (ls' := [(false, 1, Fact.nilv), (false, 1, Fact.nilv), (false, 1, Fact.rep [] (false : Bool))]) bd67 rfl BP.nil) ?_
   refine ws (Step.storeObj (ls := [(false, 1, Fact.nilv), (false, 1, Fact.nilv), (false, 1, Fact.rep [] (false : Bool))]) rfl ty67 rfl rfl (Has.s rfl) rfl (HasL.flds (Has.s rfl)) rfl) ?_
   refine wo (Spec.assign Has.int) ?_
   refine Walk.nil ?_
   refine Leaf.thenN ?_
   refine CWalk.ret ?_
   refine Leaf.thenR ?_
   obtain rfl := Option.some.inj hm
   exact Leaf.retC2 rfl (HasR.cv (HasR.obj (ls := [(false, 1, Fact.nilv), (false, 1, Fact.nilv), (false, 1, Fact.rep [] (false : Bool))]) ty67 rfl rfl (Has.s rfl) rfl (HasGs.cons (HasG.s rfl) (HasGs.cons (HasG.s rfl) (HasGs.cons (HasG.s rfl) HasGs.nil)))) (Cv.flds (CvL.cons (Cv.trans Cv.nilOw (Cv.owM (T := []) (te := []) rfl rfl)) (CvL.cons (Cv.trans Cv.nilOw (Cv.owM (T := []) (te := []) rfl rfl)) (CvL.cons Cv.fl CvL.nil))))) (HasR.cv (HasR.tmp (Has.s rfl)) Cv.fl)
  ·have hm := cond_f hb hm
   refine CWalk.skip ?_
   refine Leaf.thenN ?_
   refine CWalk.seq ?_
   refine CWalk.region ?_
   refine wo (Spec.loadObj (ls := [(false, 1, Fact.rep [0] a0.Blocks), (false, 1, Fact.rep [0] a0.Wait), (false, 1, Fact.rep [] a0.Dead)]) ty67 rfl rfl (Has.s rfl) rfl (HasGs.cons (HasG.s rfl) (HasGs.cons (HasG.s rfl) (HasGs.cons (HasG.s rfl) HasGs.nil)))) ?_
   obtain ⟨x2, hx2, hm⟩ := bind_some hm
   refine wo (f := Fact.flds [(false, 1, Fact.ow [19] [20] 56 (x2.Blocks : List (List UInt8))), (false, 1, Fact.ow [21] [22] 91 (x2.Wait : List Write)), (false, 1, Fact.rep [] x2.Dead)]) (Spec.callE [0] 19 rfl en62 (disk_Twin_c a0 hx2) (HasAll.cons (Has.m (Has.cv (Has.s rfl) (Cv.trans (Cv.flds (CvL.cons (Cv.m rfl) (CvL.cons (Cv.m rfl) (CvL.cons Cv.fl CvL.nil)))) (Cv.close (T := [0]) (chDisk a0)))) rfl) HasAll.nil)) ?_
   refine ws (Step.storeObj (ls := [(false, 1, Fact.ow [19] [20] 56 (x2.Blocks : List (List UInt8))), (false, 1, Fact.ow [21] [22] 91 (x2.Wait : List Write)), (false, 1, Fact.rep [] x2.Dead)]) rfl ty67 rfl rfl (Has.s rfl) rfl (HasL.flds (Has.s rfl)) rfl) ?_
   refine Walk.nil ?_
   refine Leaf.thenN ?_
   refine CWalk.seq ?_
   refine CWalk.seq ?_
   refine CWalk.region ?_
   refine wo (Spec.fieldAddrO fd67_1 (Has.cv (Has.s rfl) (Cv.isvP rfl))) ?_
   refine wo (Spec.loadF (i := 1) ty65 rfl (Has.s rfl) rfl (HasG.s rfl)) ?_
   refine wo (Spec.len (Has.cv (Has.s rfl) (Cv.trans Cv.owSl (Cv.slRep (T' := [21, 22]) rfl rfl))) Try.underlying65) ?_
   refine wo (Spec.move Has.int) ?_
   refine Walk.nil ?_
   refine Leaf.thenN ?_
   refine CWalk.block ?_
   obtain ⟨b8, hb8, hm⟩ := bind_some hm
   refine CWalk.loop (fun s : Int × (List (List UInt8)) => [.fact 1 (.isv 10), .fact 2 (.isv 14), .fact 19 (.ow [21] [22] 91 (x2.Wait : List Write)), .fact 20 (.rep [] (((x2.Wait).length : Int) : Int)), .fact 21 (.rep [] s.1), .fact 100011 (.at 11 (.ow [19, 26] [20, 22] 56 (s.2 : List (List UInt8)))), .fact 100012 (.at 12 (.ow [21] [22] 91 (x2.Wait : List Write))), .fact 100013 (.at 13 (.rep [] x2.Dead)), .fact 100015 (.at 15 (.nilv)), .fact 100016 (.at 16 (.nilv)), .fact 100017 (.at 17 (.rep [] (false : Bool))), .fact 100010 (.obj 10 [(false, 1), (false, 1), (false, 1)]), .fact 100014 (.obj 14 [(false, 1), (false, 1), (false, 1)])]) (fun b : (List (List UInt8)) => (Exit.exit 0, [.fact 1 (.isv 10), .fact 2 (.isv 14), .fact 100011 (.at 11 (.ow [19, 26] [20, 22] 56 (b : List (List UInt8)))), .fact 100012 (.at 12 (.ow [21] [22] 91 (x2.Wait : List Write))), .fact 100013 (.at 13 (.rep [] x2.Dead)), .fact 100015 (.at 15 (.nilv)), .fact 100016 (.at 16 (.nilv)), .fact 100017 (.at 17 (.rep [] (false : Bool))), .fact 100010 (.obj 10 [(false, 1), (false, 1), (false, 1)]), .fact 100014 (.obj 14 [(false, 1), (false, 1), (false, 1)])])) hb8 (sn (sn (Sub.cons (Has.cv (Has.s rfl) (Cv.owM (T := [21]) (te := [22]) rfl rfl)) (st (st (Sub.cons (Has.at (HasG.cv (HasG.s rfl) (Cv.owM (T := [19]) (te := [20]) rfl rfl))) (Sub.cons (Has.at (HasG.cv (HasG.s rfl) (Cv.owM (T := [21]) (te := [22]) rfl rfl))) (sf (sg (sg (sf (sn (sn Sub.nil))))))))))))) ?_ ?_
   ·rintro ⟨s3, s4⟩ c5 hm
    replace hm : disk_Flush_L1 x2 s3 s4 = some c5 := hm
    unfold disk_Flush_L1 at hm
    show CWalk _ [.fact 1 (.isv 10), .fact 2 (.isv 14), .fact 19 (.ow [21] [22] 91 (x2.Wait : List Write)), .fact 20 (.rep [] (((x2.Wait).length : Int) : Int)), .fact 21 (.rep [] (s3 : Int)), .fact 100011 (.at 11 (.ow [19, 26] [20, 22] 56 (s4 : List (List UInt8)))), .fact 100012 (.at 12 (.ow [21] [22] 91 (x2.Wait : List Write))), .fact 100013 (.at 13 (.rep [] x2.Dead)), .fact 100015 (.at 15 (.nilv)), .fact 100016 (.at 16 (.nilv)), .fact 100017 (.at 17 (.rep [] (false : Bool))), .fact 100010 (.obj 10 [(false, 1), (false, 1), (false, 1)]), .fact 100014 (.obj 14 [(false, 1), (false, 1), (false, 1)])] _ _
    refine CWalk.seq ?_
    refine CWalk.region ?_
    refine wo (Spec.lssI (Has.s rfl) (Has.s rfl)) ?_
    refine Walk.nil ?_
    refine Leaf.thenN ?_
    refine CWalk.seq ?_
    refine CWalk.cond rfl (fun hb => ?_) (fun hb => ?_)
    ·have hm := cond_t hb hm
     refine CWalk.skip ?_
     refine Leaf.thenN ?_
     refine CWalk.seq ?_
     refine CWalk.block ?_
     refine CWalk.seq ?_
     refine CWalk.region ?_
     obtain ⟨x6, hx6, hm⟩ := bind_some hm
     refine wo (Spec.indexSl hx6 sl65 (Has.cv (Has.s rfl) Cv.owSl) (Has.s rfl)) ?_
     refine wo (Spec.loadS ty91 (Has.s rfl)) ?_
     refine ws (Step.allocObj (ls := [(false, 1, Fact.rep [] ((0 : Int) : Int)), (false, 1, Fact.nilv)]) 23 rfl rfl rfl rfl zl91) ?_
     refine ws (Step.storeObj (ls := [(false, 1, Fact.rep [] x6.At), (false, 1, Fact.rep [22] x6.Data)]) rfl ty91 rfl rfl (Has.s rfl) rfl (HasL.flds (Has.cv (Has.s rfl) (Cv.trans (Cv.opens (chWrite x6)) (Cv.flds (CvL.cons Cv.fl (CvL.cons Cv.refl CvL.nil)))))) rfl) ?_
     refine Walk.nil ?_
     refine Leaf.thenN ?_
     refine CWalk.ad (Ad.owF (i := 11) 26 rfl rfl rfl (ElT.tags rfl) rfl (Cv.owM (T := [19, 26]) (te := [20, 22]) (T' := [19, 26]) (te' := [20, 22]) rfl rfl)) ?_
     refine CWalk.region ?_
     refine wo (Spec.fieldAddrO fd67_0 (Has.cv (Has.s rfl) (Cv.isvP rfl))) ?_
     refine wo (Spec.loadF (i := 0) ty64 rfl (Has.s rfl) rfl (HasG.s rfl)) ?_
     refine wo (Spec.fieldAddrO fd91_0 (Has.cv (Has.s rfl) (Cv.isvP rfl))) ?_
     refine wo (Spec.loadF (i := 0) ty3 rfl (Has.s rfl) rfl (HasG.s rfl)) ?_
     refine wo (Spec.fieldAddrO fd91_1 (Has.cv (Has.s rfl) (Cv.isvP rfl))) ?_
     refine wo (Spec.loadF (i := 1) ty56 rfl (Has.s rfl) rfl (HasG.s rfl)) ?_
     obtain ⟨x7, hx7, hm⟩ := bind_some hm
     refine wo (Spec.idxOwn hx7 ow64 (Has.s rfl) rfl (Has.s rfl)) ?_
     refine ws (Step.storeOwn (te' := [20, 22]) rfl (bnd_lt hx7 rfl) ty56 (Has.s rfl) rfl (Has.s rfl) (ElKeep.tags rfl rfl) (ElKeep.tags rfl rfl)) ?_
     refine Walk.nil ?_
     refine Leaf.blockN ?_
     refine Leaf.thenN ?_
     refine CWalk.region ?_
     refine wo (Spec.addI (Has.s rfl) Has.int) ?_
     refine mv ?_
     refine Walk.nil ?_
     exact Leaf.next hm (sn (sn (Sub.cons (Has.cv (Has.s rfl) (Cv.owM (T := [21]) (te := [22]) rfl rfl)) (st (st (Sub.cons (Has.at (HasG.cv (HasG.s rfl) (Cv.trans (Cv.isvOw rfl) (Cv.owM (T := [26]) (te := [20, 22]) rfl rfl)))) (Sub.cons (Has.at (HasG.cv (HasG.s rfl) (Cv.owM (T := [21]) (te := [22]) rfl rfl))) (sf (sg (sg (sf (sn (sn Sub.nil)))))))))))))
    ·have hm := cond_f hb hm
     refine CWalk.exit ?_
     refine Leaf.thenE ?_
     exact Leaf.brk hm (fun h => nomatch h) rfl (sn (sn (Sub.cons (Has.at (HasG.cv (HasG.s rfl) (Cv.owM (T := [19, 26]) (te := [20, 22]) rfl rfl))) (Sub.cons (Has.at (HasG.cv (HasG.s rfl) (Cv.owM (T := [21]) (te := [22]) rfl rfl))) (sf (sg (sg (sf (sn (sn Sub.nil))))))))))
   ·intro _
    refine Leaf.blockE ?_
    refine Leaf.thenN ?_
    refine CWalk.seq ?_
    refine CWalk.region ?_
    refine wo (Spec.fieldAddrO fd67_1 (Has.cv (Has.s rfl) (Cv.isvP rfl))) ?_
    refine ws (Step.storeF (i := 1) (f := Fact.nilv) rfl ty65 rfl (Has.s rfl) rfl (Has.cv Has.nilv (Cv.nil (T := []))) Has.nilv rfl) ?_
    refine Walk.nil ?_
    refine Leaf.thenN ?_
    refine CWalk.seq ?_
    refine CWalk.region ?_
    refine wo (Spec.loadObj (ls := [(false, 1, Fact.ow [19, 26] [20, 22] 56 (b8 : List (List UInt8))), (false, 1, Fact.nilv), (false, 1, Fact.rep [] x2.Dead)]) ty67 rfl rfl (Has.s rfl) rfl (HasGs.cons (HasG.s rfl) (HasGs.cons (HasG.s rfl) (HasGs.cons (HasG.s rfl) HasGs.nil)))) ?_
    obtain ⟨x9, hx9, hm⟩ := bind_some hm
    refine wo (f := Fact.flds [(false, 1, Fact.ow [27] [28] 56 (x9.Blocks : List (List UInt8))), (false, 1, Fact.ow [29] [30] 91 (x9.Wait : List Write)), (false, 1, Fact.rep [] x9.Dead)]) (Spec.callE [19, 20, 22, 26] 27 rfl en62 (disk_Twin_c (Disk.mk b8 ([] : List Write) x2.Dead) hx9) (HasAll.cons (Has.m (Has.cv (Has.s rfl) (Cv.trans (Cv.flds (CvL.cons (Cv.trans (Cv.trans Cv.owSl (Cv.slRep (T' := [19, 20, 22, 26]) rfl rfl)) (Cv.m rfl)) (CvL.cons (Cv.trans (Cv.nil (T := [])) (Cv.m rfl)) (CvL.cons Cv.fl CvL.nil)))) (Cv.close (T := [19, 20, 22, 26]) (chDisk (Disk.mk b8 ([] : List Write) x2.Dead))))) rfl) HasAll.nil)) ?_
    refine ws (Step.storeObj (ls := [(false, 1, Fact.ow [27] [28] 56 (x9.Blocks : List (List UInt8))), (false, 1, Fact.ow [29] [30] 91 (x9.Wait : List Write)), (false, 1, Fact.rep [] x9.Dead)]) rfl ty67 rfl rfl (Has.s rfl) rfl (HasL.flds (Has.s rfl)) rfl) ?_
    refine wo (Spec.assign Has.int) ?_
    refine Walk.nil ?_
    refine Leaf.thenN ?_
    refine CWalk.ret ?_
    obtain rfl := Option.some.inj hm
    exact Leaf.retC2 rfl (HasR.cv (HasR.obj (ls := [(false, 1, Fact.ow [27] [28] 56 (x9.Blocks : List (List UInt8))), (false, 1, Fact.ow [29] [30] 91 (x9.Wait : List Write)), (false, 1, Fact.rep [] x9.Dead)]) ty67 rfl rfl (Has.s rfl) rfl (HasGs.cons (HasG.s rfl) (HasGs.cons (HasG.s rfl) (HasGs.cons (HasG.s rfl) HasGs.nil)))) (Cv.flds (CvL.cons (Cv.owM (T := [27]) (te := [28]) rfl rfl) (CvL.cons (Cv.owM (T := [29]) (te := [30]) rfl rfl) (CvL.cons Cv.fl CvL.nil))))) (HasR.cv (HasR.tmp (Has.s rfl)) Cv.fl)

/-- (freeboard/acts.act).flush -/
def acts_act_flush (a0 : Act58) (a1 : Disk) : Option (Disk × Int) :=
  Option.bind (disk_Flush a1) (fun x1 => some (x1.1, x1.2))
set_option maxRecDepth 100000 in
set_option maxHeartbeats 2000000 in
theorem acts_act_flush_c (a0 : Act58) (a1 : Disk) {r : Disk × Int} (hm : acts_act_flush a0 a1 = some r) : Ctr Try.prog 65 [.rep 0 a0, .rep 0 a1] (.tup2 (.flds [(false, 1, (.own 0 (some 1) 56 r.1.Blocks)), (false, 1, (.own 2 (some 3) 91 r.1.Wait)), (false, 1, (.fl r.1.Dead))]) (.fl r.2)) [] := by
 refine ctr_of_walk [[23], [24], [25], [26]] 10 Try.func65 rfl rfl rfl rfl (fun w0 om => ?_)
 unfold acts_act_flush at hm
 refine CWalk.sub (G' := [.fact 0 (.rep [0] (a0 : Act58)), .fact 1 (.rep [0] (a1 : Disk))]) (sn (sn Sub.nil)) ?_
 refine CWalk.seq ?_
 refine CWalk.region ?_
 refine ws (Step.boxObj (ls := [(false, 1, Fact.rep [] a0.Disk), (false, 1, Fact.rep [] a0.Kind), (false, 1, Fact.rep [] a0.At), (false, 1, Fact.rep [0] a0.Data)]) 10 rfl rfl rfl rfl (HasL.flds (Has.cv (Has.s rfl) (Cv.trans (Cv.opens (chAct58 a0)) (Cv.flds (CvL.cons Cv.fl (CvL.cons Cv.fl (CvL.cons Cv.fl (CvL.cons Cv.refl CvL.nil))))))))) ?_
 refine ws (Step.boxObj (ls := [(false, 1, Fact.rep [0] a1.Blocks), (false, 1, Fact.rep [0] a1.Wait), (false, 1, Fact.rep [] a1.Dead)]) 15 rfl rfl rfl rfl (HasL.flds (Has.cv (Has.s rfl) (Cv.trans (Cv.opens (chDisk a1)) (Cv.flds (CvL.cons Cv.refl (CvL.cons Cv.refl (CvL.cons Cv.fl CvL.nil)))))))) ?_
 refine ws (Step.allocObj (ls := [(false, 1, Fact.nilv), (false, 1, Fact.nilv), (false, 1, Fact.rep [] (false : Bool))]) 19 rfl rfl rfl rfl zl67) ?_
 refine wo (Spec.assign Has.int) ?_
 refine Walk.nil ?_
 refine Leaf.thenN ?_
 refine CWalk.seq ?_
 refine CWalk.region ?_
 refine wo (Spec.loadObj (ls := [(false, 1, Fact.rep [0] a1.Blocks), (false, 1, Fact.rep [0] a1.Wait), (false, 1, Fact.rep [] a1.Dead)]) ty67 rfl rfl (Has.s rfl) rfl (HasGs.cons (HasG.s rfl) (HasGs.cons (HasG.s rfl) (HasGs.cons (HasG.s rfl) HasGs.nil)))) ?_
 obtain ⟨x1, hx1, hm⟩ := bind_some hm
 refine wo (f := Fact.tup2 (Fact.flds [(false, 1, Fact.ow [23] [24] 56 (x1.1.Blocks : List (List UInt8))), (false, 1, Fact.ow [25] [26] 91 (x1.1.Wait : List Write)), (false, 1, Fact.rep [] x1.1.Dead)]) (Fact.rep [] x1.2)) (Spec.callE [0] 23 rfl en81 (disk_Flush_c a1 hx1) (HasAll.cons (Has.m (Has.cv (Has.s rfl) (Cv.trans (Cv.flds (CvL.cons (Cv.m rfl) (CvL.cons (Cv.m rfl) (CvL.cons Cv.fl CvL.nil)))) (Cv.close (T := [0]) (chDisk a1)))) rfl) HasAll.nil)) ?_
 refine wo (Spec.ext0 (Has.s rfl)) ?_
 refine wo (Spec.ext1 (Has.s rfl)) ?_
 refine ws (Step.storeObj (ls := [(false, 1, Fact.ow [23] [24] 56 (x1.1.Blocks : List (List UInt8))), (false, 1, Fact.ow [25] [26] 91 (x1.1.Wait : List Write)), (false, 1, Fact.rep [] x1.1.Dead)]) rfl ty67 rfl rfl (Has.s rfl) rfl (HasL.flds (Has.s rfl)) rfl) ?_
 refine wo (Spec.assign (Has.s rfl)) ?_
 refine Walk.nil ?_
 refine Leaf.thenN ?_
 refine CWalk.ret ?_
 obtain rfl := Option.some.inj hm
 exact Leaf.retC2 rfl (HasR.cv (HasR.obj (ls := [(false, 1, Fact.ow [23] [24] 56 (x1.1.Blocks : List (List UInt8))), (false, 1, Fact.ow [25] [26] 91 (x1.1.Wait : List Write)), (false, 1, Fact.rep [] x1.1.Dead)]) ty67 rfl rfl (Has.s rfl) rfl (HasGs.cons (HasG.s rfl) (HasGs.cons (HasG.s rfl) (HasGs.cons (HasG.s rfl) HasGs.nil)))) (Cv.flds (CvL.cons (Cv.owM (T := [23]) (te := [24]) rfl rfl) (CvL.cons (Cv.owM (T := [25]) (te := [26]) rfl rfl) (CvL.cons Cv.fl CvL.nil))))) (HasR.cv (HasR.tmp (Has.s rfl)) Cv.fl)

/-- a call of one of some functions -/
def fncall95 (m : FnI [63, 64, 65]) (a0 : Act58) (a1 : Disk) : Option (Disk × Int) :=
  match m.i with
  | 1 => acts_act_write a0 a1
  | 2 => acts_act_fua a0 a1
  | 3 => acts_act_flush a0 a1
  | _ => none
theorem fncall95_c (m : FnI [63, 64, 65]) (a0 : Act58) (a1 : Disk) {r : Disk × Int} (hm : fncall95 m a0 a1 = some r) : ∃ k, fnAt [63, 64, 65] m.i = some k ∧ enters Try.prog k = true ∧ Ctr Try.prog k [.rep 0 a0, .rep 0 a1] (.tup2 (.flds [(false, 1, (.own 0 (some 1) 56 r.1.Blocks)), (false, 1, (.own 2 (some 3) 91 r.1.Wait)), (false, 1, (.fl r.1.Dead))]) (.fl r.2)) [] := by
  obtain ⟨i⟩ := m
  match i, hm with
  | 0, hm => cases hm
  | 1, hm => exact ⟨63, rfl, en63, acts_act_write_c a0 a1 hm⟩
  | 2, hm => exact ⟨64, rfl, en64, acts_act_fua_c a0 a1 hm⟩
  | 3, hm => exact ⟨65, rfl, en65, acts_act_flush_c a0 a1 hm⟩
  | _ + 4, hm => cases hm

def acts_Run_J2 (s5 : Int) (j7 : List Disk) : Option (Ctl ((List Disk) × Int) (((List Disk)) ⊕ (Int))) :=
  some (Ctl.next (j7, (wI (s5 + (1 : Int)))))
def acts_Run_L1 (x3 : List Act58) (s4 : List Disk) (s5 : Int) : Option (Ctl ((List Disk) × Int) (((List Disk)) ⊕ (Int))) :=
  (bif (decide (s5 < ((x3).length : Int))) then Option.bind (idx x3 s5) (fun x8 => Option.bind (idx s4 x8.Disk) (fun x9 => (bif x9.Dead then (acts_Run_J2 s5 s4) else Option.bind (acts_does x8.Kind) (fun x10 => Option.bind (fncall95 x10 x8 x9) (fun x11 => (bif (x11.2 != (0 : Int)) then some (Ctl.brk (Sum.inr x11.2)) else Option.bind (bnd (s4).length x8.Disk) (fun x12 => (acts_Run_J2 s5 ((s4).set x12 x11.1))))))))) else some (Ctl.brk (Sum.inl s4)))
/-- freeboard/acts.Run -/
def acts_Run (a0 : List Disk) (a1 : List Act58) (a2 : Int) : Option ((List Disk) × Int) :=
  Option.bind (acts_Check a1 a0) (fun x1 => (bif (x1 != (0 : Int)) then some (([] : List Disk), x1) else (bif ((decide (a2 < (0 : Int))) || (decide (a2 > ((a1).length : Int)))) then some (([] : List Disk), (2 : Int)) else Option.bind (acts_twins a0) (fun x2 => Option.bind (slc a1 0 a2) (fun x3 => Option.bind (loopM (fun s : (List Disk) × Int => acts_Run_L1 x3 s.1 s.2) FUEL (x2, (0 : Int))) (fun b13 => Sum.elim (fun b14 => some (b14, (0 : Int))) (fun b15 => some (([] : List Disk), b15)) b13))))))
set_option maxRecDepth 100000 in
set_option maxHeartbeats 2000000 in
theorem acts_Run_c (a0 : List Disk) (a1 : List Act58) (a2 : Int) {r : (List Disk) × Int} (hm : acts_Run a0 a1 a2 = some r) : Ctr Try.prog 29 [.rep 0 a0, .rep 0 a1, .rep 0 a2] (.tup2 (.own 0 (some 1) 67 r.1) (.fl r.2)) [] := by
 refine ctr_of_walk [[11, 31], [12, 23, 24, 25, 26]] 65 Try.func29 rfl rfl rfl rfl (fun w0 om => ?_)
 unfold acts_Run at hm
 refine CWalk.sub (G' := [.fact 0 (.rep [0] (a0 : List Disk)), .fact 1 (.rep [0] (a1 : List Act58)), .fact 2 (.rep [] (a2 : Int))]) (sn (sn (Sub.cons (Has.fl (Has.s rfl)) Sub.nil))) ?_
 refine CWalk.seq ?_
 refine CWalk.region ?_
 refine wo (Spec.assign Has.nilv) ?_
 refine wo (Spec.assign Has.int) ?_
 refine Walk.nil ?_
 refine Leaf.thenN ?_
 refine CWalk.seq ?_
 refine CWalk.seq ?_
 refine CWalk.region ?_
 refine mv ?_
 refine mv ?_
 obtain ⟨x1, hx1, hm⟩ := bind_some hm
 refine wo (f := Fact.rep [] (x1 : Int)) (Spec.callE [0] 10 rfl en44 (acts_Check_c a1 a0 hx1) (HasAll.cons (Has.m (Has.s rfl) rfl) (HasAll.cons (Has.m (Has.s rfl) rfl) HasAll.nil))) ?_
 refine wo (Spec.assign (Has.s rfl)) ?_
 refine Walk.nil ?_
 refine Leaf.thenN ?_
 refine CWalk.seq ?_
 refine CWalk.region ?_
 refine mv ?_
 refine wo (Spec.neqI (Has.s rfl) Has.int) ?_
 refine Walk.nil ?_
 refine Leaf.thenN ?_
 refine CWalk.cond rfl (fun hb => ?_) (fun hb => ?_)
 ·have hm := cond_t hb hm
  refine CWalk.seq ?_
  refine CWalk.region ?_
  refine mv ?_
  refine wo (Spec.assign Has.nilv) ?_
  refine wo (Spec.assign (Has.s rfl)) ?_
  refine Walk.nil ?_
  refine Leaf.thenN ?_
  refine CWalk.ret ?_
  refine Leaf.thenR ?_
  obtain rfl := Option.some.inj hm
  exact Leaf.retC2 rfl (HasR.cv (HasR.tmp (Has.s rfl)) (Cv.trans Cv.nilOw (Cv.owM (T := []) (te := []) rfl rfl))) (HasR.cv (HasR.tmp (Has.s rfl)) Cv.fl)
 ·have hm := cond_f hb hm
  refine CWalk.skip ?_
  refine Leaf.thenN ?_
  refine CWalk.seq ?_
  refine CWalk.seq ?_
  refine CWalk.region ?_
  refine mv ?_
  refine wo (Spec.lssI (Has.s rfl) Has.int) ?_
  refine mv ?_
  refine wg rfl rfl (fun hb => Spec.move (Has.s rfl)) ?_
  refine wg rfl rfl (fun hb => Spec.move (Has.s rfl)) ?_
  refine wg rfl rfl (fun hb => Spec.len (Has.u rfl hb) Try.underlying50) ?_
  refine wg rfl rfl (fun hb => Spec.gtrI (Has.u rfl hb) (Has.u rfl hb)) ?_
  refine wo (Spec.or (Has.s rfl) (fun h => Has.u rfl h)) ?_
  refine Walk.nil ?_
  refine Leaf.thenN ?_
  refine CWalk.cond rfl (fun hb => ?_) (fun hb => ?_)
  ·have hm := cond_t hb hm
   refine CWalk.seq ?_
   refine CWalk.region ?_
   refine wo (Spec.assign Has.nilv) ?_
   refine wo (Spec.assign Has.int) ?_
   refine Walk.nil ?_
   refine Leaf.thenN ?_
   refine CWalk.ret ?_
   refine Leaf.thenR ?_
   obtain rfl := Option.some.inj hm
   exact Leaf.retC2 rfl (HasR.cv (HasR.tmp (Has.s rfl)) (Cv.trans Cv.nilOw (Cv.owM (T := []) (te := []) rfl rfl))) (HasR.cv (HasR.tmp (Has.s rfl)) Cv.fl)
  ·have hm := cond_f hb hm
   refine CWalk.skip ?_
   refine Leaf.thenN ?_
   refine CWalk.seq ?_
   refine CWalk.region ?_
   refine mv ?_
   obtain ⟨x2, hx2, hm⟩ := bind_some hm
   refine wo (f := Fact.ow [11] [12] 67 (x2 : List Disk)) (Spec.callE [0] 11 rfl en45 (acts_twins_c a0 hx2) (HasAll.cons (Has.m (Has.s rfl) rfl) HasAll.nil)) ?_
   refine wo (Spec.assign (Has.s rfl)) ?_
   refine Walk.nil ?_
   refine Leaf.thenN ?_
   refine CWalk.seq ?_
   refine CWalk.seq ?_
   refine CWalk.region ?_
   refine mv ?_
   refine mv ?_
   obtain ⟨x3, hx3, hm⟩ := bind_some hm
   refine wo (Spec.slcHi hx3 sl50 (Has.s rfl) (Has.s rfl)) ?_
   refine wo (Spec.len (Has.s rfl) Try.underlying50) ?_
   refine wo (Spec.move Has.int) ?_
   refine Walk.nil ?_
   refine Leaf.thenN ?_
   refine CWalk.block ?_
   obtain ⟨b13, hb13, hm⟩ := bind_some hm
   refine CWalk.loop (fun s : (List Disk) × Int => [.fact 9 (.ow [11, 31] [12, 23, 24, 25, 26] 67 (s.1 : List Disk)), .fact 33 (.rep [0] (x3 : List Act58)), .fact 34 (.rep [] (((x3).length : Int) : Int)), .fact 35 (.rep [] s.2)]) (fun b : ((List Disk)) ⊕ (Int) => Sum.elim (fun b => (Exit.exit 0, [.fact 9 (.ow [11, 31] [12, 23, 24, 25, 26] 67 (b : List Disk))])) (fun b => (Exit.ret, [.fact 6 (.nilv), .fact 7 (.rep [] (b : Int))])) b) hb13 (Sub.cons (Has.cv (Has.s rfl) (Cv.owM (T := [11]) (te := [12]) rfl rfl)) (su (st (st Sub.nil)))) ?_ ?_
   ·rintro ⟨s4, s5⟩ c6 hm
    replace hm : acts_Run_L1 x3 s4 s5 = some c6 := hm
    unfold acts_Run_L1 at hm
    show CWalk _ [.fact 9 (.ow [11, 31] [12, 23, 24, 25, 26] 67 (s4 : List Disk)), .fact 33 (.rep [0] (x3 : List Act58)), .fact 34 (.rep [] (((x3).length : Int) : Int)), .fact 35 (.rep [] (s5 : Int))] _ _
    refine CWalk.seq ?_
    refine CWalk.region ?_
    refine wo (Spec.lssI (Has.s rfl) (Has.s rfl)) ?_
    refine Walk.nil ?_
    refine Leaf.thenN ?_
    refine CWalk.seq ?_
    refine CWalk.cond rfl (fun hb => ?_) (fun hb => ?_)
    ·have hm := cond_t hb hm
     refine CWalk.skip ?_
     refine Leaf.thenN ?_
     refine CWalk.seqJ (fun p : (List Disk) => [.fact 9 (.ow [11, 31] [12, 23, 24, 25, 26] 67 (p : List Disk)), .fact 33 (.rep [0] (x3 : List Act58)), .fact 34 (.rep [] (((x3).length : Int) : Int)), .fact 35 (.rep [] (s5 : Int))]) (fun p : (List Disk) => acts_Run_J2 s5 p = some c6) ?_ ?_
     ·rintro j7 hm
      replace hm : acts_Run_J2 s5 j7 = some c6 := hm
      unfold acts_Run_J2 at hm
      show CWalk _ [.fact 9 (.ow [11, 31] [12, 23, 24, 25, 26] 67 (j7 : List Disk)), .fact 33 (.rep [0] (x3 : List Act58)), .fact 34 (.rep [] (((x3).length : Int) : Int)), .fact 35 (.rep [] (s5 : Int))] _ _
      refine CWalk.region ?_
      refine wo (Spec.addI (Has.s rfl) Has.int) ?_
      refine mv ?_
      refine Walk.nil ?_
      exact Leaf.next hm (Sub.cons (Has.cv (Has.s rfl) (Cv.owM (T := [11, 31]) (te := [12, 23, 24, 25, 26]) rfl rfl)) (su (st (st Sub.nil))))
     ·refine CWalk.block ?_
      refine CWalk.seq ?_
      refine CWalk.region ?_
      obtain ⟨x8, hx8, hm⟩ := bind_some hm
      refine wo (Spec.indexAddr hx8 sl50 (Has.s rfl) (Has.s rfl)) ?_
      refine wo (Spec.load ty58 (Has.s rfl)) ?_
      refine ws (Step.allocObj (ls := [(false, 1, Fact.rep [] ((0 : Int) : Int)), (false, 1, Fact.rep [] ((0 : UInt8) : UInt8)), (false, 1, Fact.rep [] ((0 : Int) : Int)), (false, 1, Fact.nilv)]) 13 rfl rfl rfl rfl zl58) ?_
      refine ws (Step.storeObj (ls := [(false, 1, Fact.rep [] x8.Disk), (false, 1, Fact.rep [] x8.Kind), (false, 1, Fact.rep [] x8.At), (false, 1, Fact.rep [0] x8.Data)]) rfl ty58 rfl rfl (Has.s rfl) rfl (HasL.flds (Has.cv (Has.s rfl) (Cv.trans (Cv.opens (chAct58 x8)) (Cv.flds (CvL.cons Cv.fl (CvL.cons Cv.fl (CvL.cons Cv.fl (CvL.cons Cv.refl CvL.nil)))))))) rfl) ?_
      refine Walk.nil ?_
      refine Leaf.thenN ?_
      refine CWalk.seq ?_
      refine CWalk.region ?_
      refine mv ?_
      refine wo (Spec.fieldAddrO fd58_0 (Has.cv (Has.s rfl) (Cv.isvP rfl))) ?_
      refine wo (Spec.loadF (i := 0) ty3 rfl (Has.s rfl) rfl (HasG.s rfl)) ?_
      obtain ⟨x9, hx9, hm⟩ := bind_some hm
      refine wo (Spec.indexSl hx9 sl60 (Has.cv (Has.s rfl) Cv.owSl) (Has.s rfl)) ?_
      refine wo (Spec.loadS ty67 (Has.s rfl)) ?_
      refine ws (Step.allocObj (ls := [(false, 1, Fact.nilv), (false, 1, Fact.nilv), (false, 1, Fact.rep [] (false : Bool))]) 18 rfl rfl rfl rfl zl67) ?_
      refine ws (Step.storeObj (ls := [(false, 1, Fact.rep [12, 23, 24, 25, 26] x9.Blocks), (false, 1, Fact.rep [12, 23, 24, 25, 26] x9.Wait), (false, 1, Fact.rep [] x9.Dead)]) rfl ty67 rfl rfl (Has.s rfl) rfl (HasL.flds (Has.cv (Has.s rfl) (Cv.trans (Cv.opens (chDisk x9)) (Cv.flds (CvL.cons Cv.refl (CvL.cons Cv.refl (CvL.cons Cv.fl CvL.nil))))))) rfl) ?_
      refine Walk.nil ?_
      refine Leaf.thenN ?_
      refine CWalk.seq ?_
      refine CWalk.seq ?_
      refine CWalk.region ?_
      refine wo (Spec.fieldAddrO fd67_2 (Has.cv (Has.s rfl) (Cv.isvP rfl))) ?_
      refine wo (Spec.loadF (i := 2) ty4 rfl (Has.s rfl) rfl (HasG.s rfl)) ?_
      refine Walk.nil ?_
      refine Leaf.thenN ?_
      refine CWalk.cond rfl (fun hb => ?_) (fun hb => ?_)
      ·have hm := cond_t hb hm
       refine CWalk.exit ?_
       refine Leaf.thenE ?_
       refine Leaf.blockE ?_
       exact Leaf.join s4 hm (Sub.cons (Has.cv (Has.s rfl) (Cv.owM (T := [11, 31]) (te := [12, 23, 24, 25, 26]) rfl rfl)) (su (st (st Sub.nil))))
      ·have hm := cond_f hb hm
       refine CWalk.skip ?_
       refine Leaf.thenN ?_
       refine CWalk.seq ?_
       obtain ⟨x10, hx10, hm⟩ := bind_some hm
       obtain ⟨x11, hx11, hm⟩ := bind_some hm
       refine CWalk.drawM [[], [0], [0, 1], [], [], [0, 1, 2, 3, 4], [0, 1, 2, 3, 4, 5], [0, 1, 2, 3, 4, 5, 6], [0, 1, 2, 3, 4, 5, 6], [], [0, 1, 2, 3, 4, 5, 6, 7, 9], [0, 1, 2, 3, 4, 5, 6, 7, 8, 9, 10]] [[.fact 47 (.pto 13 1)], [.fact 48 (.rep [] x8.Kind)], [.fact 49 (.rep [] (x10 : FnI [63, 64, 65]))], [.fact 50 (.flds [(false, 1, Fact.rep [] x8.Disk), (false, 1, Fact.rep [] x8.Kind), (false, 1, Fact.rep [] x8.At), (false, 1, Fact.rep [0] x8.Data)])], [.fact 51 (.flds [(false, 1, Fact.rep [12, 23, 24, 25, 26] x9.Blocks), (false, 1, Fact.rep [12, 23, 24, 25, 26] x9.Wait), (false, 1, Fact.rep [] x9.Dead)])], [.fact 52 (.tup2 (Fact.flds [(false, 1, Fact.ow [23] [24] 56 (x11.1.Blocks : List (List UInt8))), (false, 1, Fact.ow [25] [26] 91 (x11.1.Wait : List Write)), (false, 1, Fact.rep [] x11.1.Dead)]) (Fact.rep [] x11.2))], [.fact 46 (.tup2 (Fact.flds [(false, 1, Fact.ow [23] [24] 56 (x11.1.Blocks : List (List UInt8))), (false, 1, Fact.ow [25] [26] 91 (x11.1.Wait : List Write)), (false, 1, Fact.rep [] x11.1.Dead)]) (Fact.rep [] x11.2))], [.fact 53 (.flds [(false, 1, Fact.ow [23] [24] 56 (x11.1.Blocks : List (List UInt8))), (false, 1, Fact.ow [25] [26] 91 (x11.1.Wait : List Write)), (false, 1, Fact.rep [] x11.1.Dead)])], [.fact 54 (.rep [] x11.2)], [.fact 13 (.isv 27), .fact 100027 (.obj 27 [(false, 1), (false, 1), (false, 1)]), .fact 100028 (.at 28 (.nilv)), .fact 100029 (.at 29 (.nilv)), .fact 100030 (.at 30 (.rep [] (false : Bool))), .killId 27, .killId 28, .killId 29, .killId 30], [.fact 100027 (.obj 27 [(false, 1), (false, 1), (false, 1)]), .fact 100028 (.at 28 (.ow [23] [24] 56 (x11.1.Blocks : List (List UInt8)))), .fact 100029 (.at 29 (.ow [25] [26] 91 (x11.1.Wait : List Write))), .fact 100030 (.at 30 (.rep [] x11.1.Dead)), .kill 27, .killId 28, .killId 29, .killId 30], [.fact 14 (.rep [] x11.2)]] mixed (by kernel_rfl) (ao (so (Spec.fieldAddrO fd58_1 (Has.cv (Has.s rfl) (Cv.isvP rfl)))) (ao (so (Spec.loadF (i := 1) ty5 rfl (Has.s rfl) rfl (HasG.s rfl))) (ao (so (Spec.callE [] 22 rfl en46 (acts_does_c x8.Kind hx10) (HasAll.cons (Has.fl (Has.s rfl)) HasAll.nil))) (ao (so (Spec.loadObj (ls := [(false, 1, Fact.rep [] x8.Disk), (false, 1, Fact.rep [] x8.Kind), (false, 1, Fact.rep [] x8.At), (false, 1, Fact.rep [0] x8.Data)]) ty58 rfl rfl (Has.s rfl) rfl (HasGs.cons (HasG.s rfl) (HasGs.cons (HasG.s rfl) (HasGs.cons (HasG.s rfl) (HasGs.cons (HasG.s rfl) HasGs.nil)))))) (ao (so (Spec.loadObj (ls := [(false, 1, Fact.rep [12, 23, 24, 25, 26] x9.Blocks), (false, 1, Fact.rep [12, 23, 24, 25, 26] x9.Wait), (false, 1, Fact.rep [] x9.Dead)]) ty67 rfl rfl (Has.s rfl) rfl (HasGs.cons (HasG.s rfl) (HasGs.cons (HasG.s rfl) (HasGs.cons (HasG.s rfl) HasGs.nil))))) (ao (so (Spec.callIE (xs := [.tmp 50, .tmp 51]) [0, 12, 23, 24, 25, 26] 23 rfl (Has.s rfl) (fncall95_c x10 x8 x9 hx11) (HasAll.cons (Has.m (Has.cv (Has.s rfl) (Cv.trans (Cv.flds (CvL.cons Cv.fl (CvL.cons Cv.fl (CvL.cons Cv.fl (CvL.cons (Cv.m rfl) CvL.nil))))) (Cv.close (T := [0]) (chAct58 x8)))) rfl) (HasAll.cons (Has.m (Has.cv (Has.s rfl) (Cv.trans (Cv.flds (CvL.cons (Cv.m rfl) (CvL.cons (Cv.m rfl) (CvL.cons Cv.fl CvL.nil)))) (Cv.close (T := [12, 23, 24, 25, 26]) (chDisk x9)))) rfl) HasAll.nil)))) (ao (so (Spec.move (Has.s rfl))) (ao (so (Spec.ext0 (Has.s rfl))) (ao (so (Spec.ext1 (Has.s rfl))) (ao (StepG.stE (Step.allocObj (ls := [(false, 1, Fact.nilv), (false, 1, Fact.nilv), (false, 1, Fact.rep [] (false : Bool))]) 27 rfl rfl rfl rfl zl67)) (ao (StepG.stE (Step.storeObj (ls := [(false, 1, Fact.ow [23] [24] 56 (x11.1.Blocks : List (List UInt8))), (false, 1, Fact.ow [25] [26] 91 (x11.1.Wait : List Write)), (false, 1, Fact.rep [] x11.1.Dead)]) rfl ty67 rfl rfl (Has.s rfl) rfl (HasL.flds (Has.s rfl)) rfl)) (ao (so (Spec.assign (Has.s rfl))) AllM.nil)))))))))))) ?_
       refine Leaf.thenN ?_
       refine CWalk.seq ?_
       refine CWalk.seq ?_
       refine CWalk.region ?_
       refine mv ?_
       refine wo (Spec.neqI (Has.s rfl) Has.int) ?_
       refine Walk.nil ?_
       refine Leaf.thenN ?_
       refine CWalk.cond rfl (fun hb => ?_) (fun hb => ?_)
       ·have hm := cond_t hb hm
        refine CWalk.seq ?_
        refine CWalk.region ?_
        refine mv ?_
        refine wo (Spec.assign Has.nilv) ?_
        refine wo (Spec.assign (Has.s rfl)) ?_
        refine Walk.nil ?_
        refine Leaf.thenN ?_
        refine CWalk.ret ?_
        refine Leaf.thenR ?_
        refine Leaf.blockR ?_
        refine Leaf.thenR ?_
        exact Leaf.brk hm (fun h => nomatch h) rfl (sn (st Sub.nil))
       ·have hm := cond_f hb hm
        refine CWalk.skip ?_
        refine Leaf.thenN ?_
        refine CWalk.ad (Ad.ow (s := 9) 31 rfl rfl (ElT.tags rfl) rfl (Cv.owM (T := [11, 31]) (te := [12, 23, 24, 25, 26]) (T' := [11, 31]) (te' := [12, 23, 24, 25, 26]) rfl rfl)) ?_
        refine CWalk.region ?_
        refine mv ?_
        refine wo (Spec.fieldAddrO fd58_0 (Has.cv (Has.s rfl) (Cv.isvP rfl))) ?_
        refine wo (Spec.loadF (i := 0) ty3 rfl (Has.s rfl) rfl (HasG.s rfl)) ?_
        refine wo (Spec.loadObj (ls := [(false, 1, Fact.ow [23] [24] 56 (x11.1.Blocks : List (List UInt8))), (false, 1, Fact.ow [25] [26] 91 (x11.1.Wait : List Write)), (false, 1, Fact.rep [] x11.1.Dead)]) ty67 rfl rfl (Has.s rfl) rfl (HasGs.cons (HasG.s rfl) (HasGs.cons (HasG.s rfl) (HasGs.cons (HasG.s rfl) HasGs.nil)))) ?_
        obtain ⟨x12, hx12, hm⟩ := bind_some hm
        refine wo (Spec.idxOwn hx12 ow60 (Has.s rfl) rfl (Has.s rfl)) ?_
        refine ws (Step.storeOwn (te' := [12, 23, 24, 25, 26]) rfl (bnd_lt hx12 rfl) ty67 (Has.s rfl) rfl (Has.cv (Has.s rfl) (Cv.trans (Cv.flds (CvL.cons (Cv.trans (Cv.trans Cv.owSl (Cv.slRep (T' := [23, 24]) rfl rfl)) (Cv.m rfl)) (CvL.cons (Cv.trans (Cv.trans Cv.owSl (Cv.slRep (T' := [25, 26]) rfl rfl)) (Cv.m rfl)) (CvL.cons Cv.fl CvL.nil)))) (Cv.close (T := [23, 24, 25, 26]) (chDisk x11.1)))) (ElKeep.tags rfl rfl) (ElKeep.tags rfl rfl)) ?_
        refine Walk.nil ?_
        refine Leaf.blockN ?_
        exact Leaf.join ((s4).set x12 x11.1) hm (Sub.cons (Has.cv (Has.s rfl) (Cv.trans (Cv.isvOw rfl) (Cv.owM (T := [31]) (te := [12, 23, 24, 25, 26]) rfl rfl))) (su (st (st Sub.nil))))
    ·have hm := cond_f hb hm
     refine CWalk.exit ?_
     refine Leaf.thenE ?_
     exact Leaf.brk hm (fun h => nomatch h) rfl (Sub.cons (Has.cv (Has.s rfl) (Cv.owM (T := [11, 31]) (te := [12, 23, 24, 25, 26]) rfl rfl)) Sub.nil)
   ·intro _
    rcases b13 with b14 | b15
    ·have hm := selim_l hm
     refine Leaf.blockE ?_
     refine Leaf.thenN ?_
     refine CWalk.seq ?_
     refine CWalk.region ?_
     refine mv ?_
     refine wo (Spec.assign (Has.s rfl)) ?_
     refine wo (Spec.assign Has.int) ?_
     refine Walk.nil ?_
     refine Leaf.thenN ?_
     refine CWalk.ret ?_
     obtain rfl := Option.some.inj hm
     exact Leaf.retC2 rfl (HasR.cv (HasR.tmp (Has.s rfl)) (Cv.owM (T := [11, 31]) (te := [12, 23, 24, 25, 26]) rfl rfl)) (HasR.cv (HasR.tmp (Has.s rfl)) Cv.fl)
    ·have hm := selim_r hm
     refine Leaf.blockR ?_
     refine Leaf.thenR ?_
     obtain rfl := Option.some.inj hm
     exact Leaf.retC2 rfl (HasR.cv (HasR.tmp (Has.s rfl)) (Cv.trans Cv.nilOw (Cv.owM (T := []) (te := []) rfl rfl))) (HasR.cv (HasR.tmp (Has.s rfl)) Cv.fl)

/-- freeboard/disk.Lasting -/
def disk_Lasting (a0 : Disk) (a1 : Int) : Option ((List UInt8) × Int) :=
  Option.bind (disk_place a0 a1) (fun x1 => (bif (x1 != (0 : Int)) then some (([] : List UInt8), x1) else (bif a0.Dead then some (([] : List UInt8), (40 : Int)) else Option.bind (idx a0.Blocks a1) (fun x2 => Option.bind (disk_block x2) (fun x3 => some (x3, (0 : Int)))))))
set_option maxRecDepth 100000 in
set_option maxHeartbeats 2000000 in
theorem disk_Lasting_c (a0 : Disk) (a1 : Int) {r : (List UInt8) × Int} (hm : disk_Lasting a0 a1 = some r) : Ctr Try.prog 47 [.rep 0 a0, .rep 0 a1] (.tup2 (.own 0 none 5 r.1) (.fl r.2)) [] := by
 refine ctr_of_walk [[15]] 21 Try.func47 rfl rfl rfl rfl (fun w0 om => ?_)
 unfold disk_Lasting at hm
 refine CWalk.sub (G' := [.fact 0 (.rep [0] (a0 : Disk)), .fact 1 (.rep [] (a1 : Int))]) (sn (Sub.cons (Has.fl (Has.s rfl)) Sub.nil)) ?_
 refine CWalk.seq ?_
 refine CWalk.region ?_
 refine ws (Step.boxObj (ls := [(false, 1, Fact.rep [0] a0.Blocks), (false, 1, Fact.rep [0] a0.Wait), (false, 1, Fact.rep [] a0.Dead)]) 10 rfl rfl rfl rfl (HasL.flds (Has.cv (Has.s rfl) (Cv.trans (Cv.opens (chDisk a0)) (Cv.flds (CvL.cons Cv.refl (CvL.cons Cv.refl (CvL.cons Cv.fl CvL.nil)))))))) ?_
 refine wo (Spec.assign Has.nilv) ?_
 refine wo (Spec.assign Has.int) ?_
 refine Walk.nil ?_
 refine Leaf.thenN ?_
 refine CWalk.seq ?_
 refine CWalk.seq ?_
 refine CWalk.region ?_
 refine wo (Spec.loadObj (ls := [(false, 1, Fact.rep [0] a0.Blocks), (false, 1, Fact.rep [0] a0.Wait), (false, 1, Fact.rep [] a0.Dead)]) ty67 rfl rfl (Has.s rfl) rfl (HasGs.cons (HasG.s rfl) (HasGs.cons (HasG.s rfl) (HasGs.cons (HasG.s rfl) HasGs.nil)))) ?_
 refine mv ?_
 obtain ⟨x1, hx1, hm⟩ := bind_some hm
 refine wo (f := Fact.rep [] (x1 : Int)) (Spec.callE [0] 14 rfl en66 (disk_place_c a0 a1 hx1) (HasAll.cons (Has.m (Has.cv (Has.s rfl) (Cv.trans (Cv.flds (CvL.cons (Cv.m rfl) (CvL.cons (Cv.m rfl) (CvL.cons Cv.fl CvL.nil)))) (Cv.close (T := [0]) (chDisk a0)))) rfl) (HasAll.cons (Has.fl (Has.s rfl)) HasAll.nil))) ?_
 refine wo (Spec.assign (Has.s rfl)) ?_
 refine Walk.nil ?_
 refine Leaf.thenN ?_
 refine CWalk.seq ?_
 refine CWalk.region ?_
 refine mv ?_
 refine wo (Spec.neqI (Has.s rfl) Has.int) ?_
 refine Walk.nil ?_
 refine Leaf.thenN ?_
 refine CWalk.cond rfl (fun hb => ?_) (fun hb => ?_)
 ·have hm := cond_t hb hm
  refine CWalk.seq ?_
  refine CWalk.region ?_
  refine mv ?_
  refine wo (Spec.assign Has.nilv) ?_
  refine wo (Spec.assign (Has.s rfl)) ?_
  refine Walk.nil ?_
  refine Leaf.thenN ?_
  refine CWalk.ret ?_
  refine Leaf.thenR ?_
  obtain rfl := Option.some.inj hm
  exact Leaf.retC2 rfl (HasR.cv (HasR.tmp (Has.s rfl)) (Cv.trans Cv.nilOw (Cv.owF (T := []) (te := []) rfl))) (HasR.cv (HasR.tmp (Has.s rfl)) Cv.fl)
 ·have hm := cond_f hb hm
  refine CWalk.skip ?_
  refine Leaf.thenN ?_
  refine CWalk.seq ?_
  refine CWalk.seq ?_
  refine CWalk.region ?_
  refine wo (Spec.fieldAddrO fd67_2 (Has.cv (Has.s rfl) (Cv.isvP rfl))) ?_
  refine wo (Spec.loadF (i := 2) ty4 rfl (Has.s rfl) rfl (HasG.s rfl)) ?_
  refine Walk.nil ?_
  refine Leaf.thenN ?_
  refine CWalk.cond rfl (fun hb => ?_) (fun hb => ?_)
  ·have hm := cond_t hb hm
   refine CWalk.seq ?_
   refine CWalk.region ?_
   refine wo (Spec.assign Has.nilv) ?_
   refine wo (Spec.assign Has.int) ?_
   refine Walk.nil ?_
   refine Leaf.thenN ?_
   refine CWalk.ret ?_
   refine Leaf.thenR ?_
   obtain rfl := Option.some.inj hm
   exact Leaf.retC2 rfl (HasR.cv (HasR.tmp (Has.s rfl)) (Cv.trans Cv.nilOw (Cv.owF (T := []) (te := []) rfl))) (HasR.cv (HasR.tmp (Has.s rfl)) Cv.fl)
  ·have hm := cond_f hb hm
   refine CWalk.skip ?_
   refine Leaf.thenN ?_
   refine CWalk.seq ?_
   refine CWalk.region ?_
   refine wo (Spec.fieldAddrO fd67_0 (Has.cv (Has.s rfl) (Cv.isvP rfl))) ?_
   refine wo (Spec.loadF (i := 0) ty64 rfl (Has.s rfl) rfl (HasG.s rfl)) ?_
   refine mv ?_
   obtain ⟨x2, hx2, hm⟩ := bind_some hm
   refine wo (Spec.indexAddr hx2 sl64 (Has.s rfl) (Has.s rfl)) ?_
   refine wo (Spec.load ty56 (Has.s rfl)) ?_
   obtain ⟨x3, hx3, hm⟩ := bind_some hm
   refine wo (f := Fact.ow [15] [] 5 (x3 : List UInt8)) (Spec.callE [0] 15 rfl en49 (disk_block_c x2 hx3) (HasAll.cons (Has.m (Has.s rfl) rfl) HasAll.nil)) ?_
   refine wo (Spec.assign (Has.s rfl)) ?_
   refine wo (Spec.assign Has.int) ?_
   refine Walk.nil ?_
   refine Leaf.thenN ?_
   refine CWalk.ret ?_
   obtain rfl := Option.some.inj hm
   exact Leaf.retC2 rfl (HasR.cv (HasR.tmp (Has.s rfl)) (Cv.owF (T := [15]) (te := []) rfl)) (HasR.cv (HasR.tmp (Has.s rfl)) Cv.fl)

def disk_Read_L2 (a0 : Disk) (a1 : Int) (s2 : Int) : Option (Ctl (Int) ((Unit) ⊕ ((List UInt8)))) :=
  (bif (decide (s2 ≥ (0 : Int))) then Option.bind (idx a0.Wait s2) (fun x4 => (bif (x4.At == a1) then Option.bind (disk_block x4.Data) (fun x5 => some (Ctl.brk (Sum.inr x5))) else some (Ctl.next (wI (s2 - (1 : Int)))))) else some (Ctl.brk (Sum.inl ())))
def disk_Read_J1 (a0 : Disk) (a1 : Int) (x1 : (List UInt8) × Int) : Option ((List UInt8) × Int) :=
  Option.bind (loopM (fun s : Int => disk_Read_L2 a0 a1 s) FUEL (wI (((a0.Wait).length : Int) - (1 : Int)))) (fun b6 => Sum.elim (fun b7 => some (x1.1, (0 : Int))) (fun b8 => some (b8, (0 : Int))) b6)
/-- freeboard/disk.Read -/
def disk_Read (a0 : Disk) (a1 : Int) : Option ((List UInt8) × Int) :=
  Option.bind (disk_Lasting a0 a1) (fun x1 => (bif (x1.2 != (0 : Int)) then some (([] : List UInt8), x1.2) else (disk_Read_J1 a0 a1 x1)))
set_option maxRecDepth 100000 in
set_option maxHeartbeats 2000000 in
theorem disk_Read_c (a0 : Disk) (a1 : Int) {r : (List UInt8) × Int} (hm : disk_Read a0 a1 = some r) : Ctr Try.prog 30 [.rep 0 a0, .rep 0 a1] (.tup2 (.own 0 none 5 r.1) (.fl r.2)) [] := by
 refine ctr_of_walkM [[20, 28]] 32 Try.func30 rfl rfl rfl rfl (fun w0 om => ?_)
 unfold disk_Read at hm
 refine CWalk.sub (G' := [.fact 0 (.rep [0] (a0 : Disk)), .fact 1 (.rep [] (a1 : Int))]) (sn (Sub.cons (Has.fl (Has.s rfl)) Sub.nil)) ?_
 refine CWalk.seq ?_
 refine CWalk.region ?_
 refine ws (Step.boxObj (ls := [(false, 1, Fact.rep [0] a0.Blocks), (false, 1, Fact.rep [0] a0.Wait), (false, 1, Fact.rep [] a0.Dead)]) 10 rfl rfl rfl rfl (HasL.flds (Has.cv (Has.s rfl) (Cv.trans (Cv.opens (chDisk a0)) (Cv.flds (CvL.cons Cv.refl (CvL.cons Cv.refl (CvL.cons Cv.fl CvL.nil)))))))) ?_
 refine ws (Step.boxObj (ls := [(false, 1, Fact.rep [] (a1 : Int))]) 14 rfl rfl rfl rfl (HasL.one (Has.s rfl) rfl (Has.s rfl))) ?_
 refine ws (Step.allocObj (ls := [(false, 1, Fact.nilv)]) 16 rfl rfl rfl rfl zl56) ?_
 refine ws (Step.allocObj (ls := [(false, 1, Fact.rep [] ((0 : Int) : Int))]) 18 rfl rfl rfl rfl zl27) ?_
 refine Walk.nil ?_
 refine Leaf.thenN ?_
 refine CWalk.seq ?_
 refine CWalk.region ?_
 refine wo (Spec.loadObj (ls := [(false, 1, Fact.rep [0] a0.Blocks), (false, 1, Fact.rep [0] a0.Wait), (false, 1, Fact.rep [] a0.Dead)]) ty67 rfl rfl (Has.s rfl) rfl (HasGs.cons (HasG.s rfl) (HasGs.cons (HasG.s rfl) (HasGs.cons (HasG.s rfl) HasGs.nil)))) ?_
 refine wo (Spec.loadF (i := 0) ty3 rfl (Has.cv (Has.s rfl) (Cv.isvP rfl)) rfl (HasG.s rfl)) ?_
 obtain ⟨x1, hx1, hm⟩ := bind_some hm
 refine wo (f := Fact.tup2 (Fact.ow [20] [] 5 (x1.1 : List UInt8)) (Fact.rep [] x1.2)) (Spec.callE [0] 20 rfl en47 (disk_Lasting_c a0 a1 hx1) (HasAll.cons (Has.m (Has.cv (Has.s rfl) (Cv.trans (Cv.flds (CvL.cons (Cv.m rfl) (CvL.cons (Cv.m rfl) (CvL.cons Cv.fl CvL.nil)))) (Cv.close (T := [0]) (chDisk a0)))) rfl) (HasAll.cons (Has.fl (Has.s rfl)) HasAll.nil))) ?_
 refine mv ?_
 refine wo (Spec.ext0 (Has.s rfl)) ?_
 refine wo (Spec.ext1 (Has.s rfl)) ?_
 refine wo (Spec.assign (Has.s rfl)) ?_
 refine wo (Spec.assign (Has.s rfl)) ?_
 refine Walk.nil ?_
 refine Leaf.thenN ?_
 refine CWalk.seq ?_
 refine CWalk.seq ?_
 refine CWalk.region ?_
 refine mv ?_
 refine wo (Spec.neqI (Has.s rfl) Has.int) ?_
 refine Walk.nil ?_
 refine Leaf.thenN ?_
 refine CWalk.cond rfl (fun hb => ?_) (fun hb => ?_)
 ·have hm := cond_t hb hm
  refine CWalk.seq ?_
  refine CWalk.region ?_
  refine mv ?_
  refine ws (Step.storeF (i := 0) (f := Fact.nilv) rfl ty56 rfl (Has.cv (Has.s rfl) (Cv.isvP rfl)) rfl (Has.cv Has.nilv (Cv.nil (T := []))) Has.nilv rfl) ?_
  refine ws (Step.storeF (i := 0) (f := Fact.rep [] x1.2) rfl ty27 rfl (Has.cv (Has.s rfl) (Cv.isvP rfl)) rfl (Has.s rfl) (Has.s rfl) rfl) ?_
  refine Walk.nil ?_
  refine Leaf.thenN ?_
  refine CWalk.ret ?_
  refine Leaf.thenR ?_
  obtain rfl := Option.some.inj hm
  exact Leaf.retM (Leaf.retC2 rfl (HasR.cv (HasR.cell1 ty56 rfl (Has.s rfl) rfl (HasG.s rfl)) (Cv.trans Cv.nilOw (Cv.owF (T := []) (te := []) rfl))) (HasR.cv (HasR.cell1 ty27 rfl (Has.s rfl) rfl (HasG.s rfl)) Cv.fl))
 ·have hm := cond_f hb hm
  refine CWalk.skip ?_
  refine Leaf.thenN ?_
  refine CWalk.seq ?_
  refine CWalk.seq ?_
  refine CWalk.region ?_
  refine wo (Spec.fieldAddrO fd67_1 (Has.cv (Has.s rfl) (Cv.isvP rfl))) ?_
  refine wo (Spec.loadF (i := 1) ty65 rfl (Has.s rfl) rfl (HasG.s rfl)) ?_
  refine Walk.inline (S := Unit) (fun p : Unit => [.fact 3 (.isv 14), .fact 4 (.isv 16), .fact 5 (.isv 18), .fact 6 (.ow [20] [] 5 (x1.1 : List UInt8)), .fact 21 (.fnv 67 [] [Fact.isv 21]), .fact 100015 (.at 15 (.rep [] (a1 : Int))), .fact 100017 (.at 17 (.nilv)), .fact 100019 (.at 19 (.rep [] ((0 : Int) : Int))), .fact 100022 (.at 22 (.rep [0] a0.Wait)), .fact 100014 (.obj 14 [(false, 1)]), .fact 100016 (.obj 16 [(false, 1)]), .fact 100018 (.obj 18 [(false, 1)]), .fact 100021 (.obj 21 [(false, 1)])]) (fun p : Unit => disk_Read_J1 a0 a1 x1 = some r) (fun u1 => [.fact 100015 (.at 15 (.rep [] (a1 : Int))), .fact 100017 (.at 17 (.nilv)), .fact 100019 (.at 19 (.rep [] ((0 : Int) : Int))), .fact 902003 (.cst (u1 3) (Fact.isv 14)), .fact 902004 (.cst (u1 4) (Fact.isv 16)), .fact 902005 (.cst (u1 5) (Fact.isv 18)), .fact 902006 (.cst (u1 6) (Fact.ow [20] [] 5 (x1.1 : List UInt8))), .fact 100014 (.obj 14 [(false, 1)]), .fact 100016 (.obj 16 [(false, 1)]), .fact 100018 (.obj 18 [(false, 1)])]) (FA := [Fact.rep [0] a0.Wait]) rfl Try.func48 rfl rfl rfl (CallOk.fn en48 (HasF.cons (Has.s rfl) HasF.nil)) (fun u1 => (ck (ck (ck (cs 902000 3 (cs 902000 4 (cs 902000 5 (cs 902000 6 (ck (ck (ck Carry.nil))))))))))) (fun u1 => ?_) ?_
  ·refine CWalk.seq ?_
   refine CWalk.region ?_
   refine ws (Step.boxObj (ls := [(false, 1, Fact.rep [0] a0.Wait)]) 21 rfl rfl rfl rfl (HasL.one (Has.s rfl) rfl (Has.s rfl))) ?_
   refine wo (Spec.assign Has.top) ?_
   refine Walk.nil ?_
   refine Leaf.thenN ?_
   refine CWalk.seq ?_
   refine CWalk.region ?_
   refine wo (Spec.makeFunc (xs := []) (ys := [.tmp 1]) rfl rfl HasF.nil (HasF.cons (Has.s rfl) HasF.nil) (fun _ _ _ => rfl)) ?_
   refine wo (Spec.assign (Has.s rfl)) ?_
   refine Walk.nil ?_
   refine Leaf.thenN ?_
   refine CWalk.ret ?_
   exact Leaf.in1 () hm rfl rfl (HasR.tmp (Has.s rfl)) (ls 902003 (ls 902004 (ls 902005 (Low.slot rfl (HasC.cv (HasC.s (s := 902006) rfl) (Cv.owF (T := [20]) (te := []) rfl)) (Low.res (lf (lg (lf (lm (lo (lo (lo (lo Low.nil)))))))))))))
  ·rintro _ hm
   replace hm : disk_Read_J1 a0 a1 x1 = some r := hm
   unfold disk_Read_J1 at hm
   show Walk _ _ _ [.fact 3 (.isv 14), .fact 4 (.isv 16), .fact 5 (.isv 18), .fact 6 (.ow [20] [] 5 (x1.1 : List UInt8)), .fact 21 (.fnv 67 [] [Fact.isv 21]), .fact 100015 (.at 15 (.rep [] (a1 : Int))), .fact 100017 (.at 17 (.nilv)), .fact 100019 (.at 19 (.rep [] ((0 : Int) : Int))), .fact 100022 (.at 22 (.rep [0] a0.Wait)), .fact 100014 (.obj 14 [(false, 1)]), .fact 100016 (.obj 16 [(false, 1)]), .fact 100018 (.obj 18 [(false, 1)]), .fact 100021 (.obj 21 [(false, 1)])] _
   refine Walk.nil ?_
   refine Leaf.thenN ?_
   refine CWalk.block ?_
   refine CWalk.rangeFunc (cs := [Fact.isv 21]) 23 (fun u1 => [.fact 902003 (.cst (u1 3) (Fact.isv 14)), .fact 902004 (.cst (u1 4) (Fact.isv 16)), .fact 902005 (.cst (u1 5) (Fact.isv 18)), .fact 902006 (.cst (u1 6) (Fact.ow [20] [] 5 (x1.1 : List UInt8))), .fact 902021 (.cst (u1 21) (Fact.fnv 67 [] [Fact.isv 21])), .fact 100015 (.at 15 (.rep [] (a1 : Int))), .fact 100017 (.at 17 (.nilv)), .fact 100019 (.at 19 (.rep [] ((0 : Int) : Int))), .fact 100022 (.at 22 (.rep [0] a0.Wait)), .fact 100014 (.obj 14 [(false, 1)]), .fact 100016 (.obj 16 [(false, 1)]), .fact 100018 (.obj 18 [(false, 1)]), .fact 100021 (.obj 21 [(false, 1)])]) rfl rfl rfl rfl Try.func67 rfl rfl en67 rfl (fun u1 => (cs 902000 3 (cs 902000 4 (cs 902000 5 (cs 902000 6 (cs 902000 21 (ck (ck (ck (ck (ck (ck (ck (ck Carry.nil)))))))))))))) (fun u1 rr1 hrr1 => ?_)
   refine CWalk.seq ?_
   refine CWalk.region ?_
   refine wo (Spec.loadF (i := 0) ty65 rfl (Has.cv (Has.s rfl) (Cv.isvP rfl)) rfl (HasG.s rfl)) ?_
   refine wo (Spec.len (Has.s rfl) Try.underlying65) ?_
   refine wo (Spec.subI (Has.s rfl) Has.int) ?_
   refine wo (Spec.assign (Has.s rfl)) ?_
   refine Walk.nil ?_
   refine Leaf.thenN ?_
   refine CWalk.block ?_
   obtain ⟨b6, hb6, hm⟩ := bind_some hm
   refine CWalk.loop (fun s : Int => [.fact 0 (.yv rr1.l), .fact 1 (.isv 21), .fact 3 (.rep [] (s : Int)), .fact 902003 (.cst (u1 3) (Fact.isv 14)), .fact 902004 (.cst (u1 4) (Fact.isv 16)), .fact 902005 (.cst (u1 5) (Fact.isv 18)), .fact 902006 (.cst (u1 6) (Fact.ow [20] [] 5 (x1.1 : List UInt8))), .fact 902021 (.cst (u1 21) (Fact.fnv 67 [] [Fact.isv 21])), .fact 100022 (.at 22 (.rep [0] a0.Wait)), .fact 100015 (.at 15 (.rep [] (a1 : Int))), .fact 100017 (.at 17 (.nilv)), .fact 100019 (.at 19 (.rep [] ((0 : Int) : Int))), .fact 100021 (.obj 21 [(false, 1)]), .fact 100014 (.obj 14 [(false, 1)]), .fact 100016 (.obj 16 [(false, 1)]), .fact 100018 (.obj 18 [(false, 1)]), .fact 100023 (.rc 23 rr1 .ready none), .fact 100024 (.dm 24 rr1.D)]) (fun b : (Unit) ⊕ ((List UInt8)) => Sum.elim (fun b => (Exit.exit 0, [.fact 902003 (.cst (u1 3) (Fact.isv 14)), .fact 902004 (.cst (u1 4) (Fact.isv 16)), .fact 902005 (.cst (u1 5) (Fact.isv 18)), .fact 902006 (.cst (u1 6) (Fact.ow [20] [] 5 (x1.1 : List UInt8))), .fact 902021 (.cst (u1 21) (Fact.fnv 67 [] [Fact.isv 21])), .fact 100015 (.at 15 (.rep [] (a1 : Int))), .fact 100017 (.at 17 (.nilv)), .fact 100019 (.at 19 (.rep [] ((0 : Int) : Int))), .fact 100022 (.at 22 (.rep [0] a0.Wait)), .fact 100014 (.obj 14 [(false, 1)]), .fact 100016 (.obj 16 [(false, 1)]), .fact 100018 (.obj 18 [(false, 1)]), .fact 100021 (.obj 21 [(false, 1)]), .fact 100023 (.rc 23 rr1 .ready none), .fact 100024 (.dm 24 rr1.D)])) (fun b => (Exit.ret, [.fact 902003 (.cst (u1 3) (Fact.isv 14)), .fact 902004 (.cst (u1 4) (Fact.isv 16)), .fact 902005 (.cst (u1 5) (Fact.isv 18)), .fact 902006 (.cst (u1 6) (Fact.ow [20] [] 5 (x1.1 : List UInt8))), .fact 902021 (.cst (u1 21) (Fact.fnv 67 [] [Fact.isv 21])), .fact 100015 (.at 15 (.rep [] (a1 : Int))), .fact 100017 (.at 17 (.ow [28] [] 5 (b : List UInt8))), .fact 100019 (.at 19 (.rep [] ((0 : Int) : Int))), .fact 100022 (.at 22 (.rep [0] a0.Wait)), .fact 100014 (.obj 14 [(false, 1)]), .fact 100016 (.obj 16 [(false, 1)]), .fact 100018 (.obj 18 [(false, 1)]), .fact 100021 (.obj 21 [(false, 1)]), .fact 100023 (.rc 23 rr1 (.done) (some .ret)), .fact 100024 (.dm 24 rr1.D)])) b) hb6 (sn (sn (st (sc (sc (sc (Sub.cons (Has.cst (HasC.cv (HasC.s (s := 902006) rfl) (Cv.owF (T := [20]) (te := []) rfl))) (sc (sm (sf (sg (sf (sn (sn (sn (sn (sn (sn Sub.nil)))))))))))))))))) ?_ ?_
   ·rintro s2 c3 hm
    replace hm : disk_Read_L2 a0 a1 s2 = some c3 := hm
    unfold disk_Read_L2 at hm
    show CWalk _ [.fact 0 (.yv rr1.l), .fact 1 (.isv 21), .fact 3 (.rep [] (s2 : Int)), .fact 902003 (.cst (u1 3) (Fact.isv 14)), .fact 902004 (.cst (u1 4) (Fact.isv 16)), .fact 902005 (.cst (u1 5) (Fact.isv 18)), .fact 902006 (.cst (u1 6) (Fact.ow [20] [] 5 (x1.1 : List UInt8))), .fact 902021 (.cst (u1 21) (Fact.fnv 67 [] [Fact.isv 21])), .fact 100022 (.at 22 (.rep [0] a0.Wait)), .fact 100015 (.at 15 (.rep [] (a1 : Int))), .fact 100017 (.at 17 (.nilv)), .fact 100019 (.at 19 (.rep [] ((0 : Int) : Int))), .fact 100021 (.obj 21 [(false, 1)]), .fact 100014 (.obj 14 [(false, 1)]), .fact 100016 (.obj 16 [(false, 1)]), .fact 100018 (.obj 18 [(false, 1)]), .fact 100023 (.rc 23 rr1 .ready none), .fact 100024 (.dm 24 rr1.D)] _ _
    refine CWalk.seq ?_
    refine CWalk.seq ?_
    refine CWalk.region ?_
    refine mv ?_
    refine wo (Spec.geqI (Has.s rfl) Has.int) ?_
    refine Walk.nil ?_
    refine Leaf.thenN ?_
    refine CWalk.cond rfl (fun hb => ?_) (fun hb => ?_)
    ·have hm := cond_t hb hm
     refine CWalk.skip ?_
     refine Leaf.thenN ?_
     refine CWalk.seq ?_
     refine CWalk.block ?_
     refine CWalk.seq ?_
     refine CWalk.region ?_
     refine mv ?_
     refine mv ?_
     refine wo (Spec.loadF (i := 0) ty65 rfl (Has.cv (Has.s rfl) (Cv.isvP rfl)) rfl (HasG.s rfl)) ?_
     refine mv ?_
     obtain ⟨x4, hx4, hm⟩ := bind_some hm
     refine wo (Spec.indexAddr hx4 sl65 (Has.s rfl) (Has.s rfl)) ?_
     refine wo (Spec.load ty91 (Has.s rfl)) ?_
     refine Walk.yieldH (t := 23) (fs := [Fact.rep [] (s2 : Int), Fact.rep [0] (x4 : Write)]) (fun u2 => [.fact 904000 (.cst (u2 0) (Fact.yv rr1.l)), .fact 904001 (.cst (u2 1) (Fact.isv 21)), .fact 904003 (.cst (u2 3) (Fact.rep [] (s2 : Int))), .fact 100015 (.at 15 (.rep [] (a1 : Int))), .fact 100017 (.at 17 (.nilv)), .fact 100019 (.at 19 (.rep [] ((0 : Int) : Int))), .fact 100022 (.at 22 (.rep [0] a0.Wait)), .fact 902003 (.cst (u1 3) (Fact.isv 14)), .fact 902004 (.cst (u1 4) (Fact.isv 16)), .fact 902005 (.cst (u1 5) (Fact.isv 18)), .fact 902006 (.cst (u1 6) (Fact.ow [20] [] 5 (x1.1 : List UInt8))), .fact 902021 (.cst (u1 21) (Fact.fnv 67 [] [Fact.isv 21])), .fact 3 (.isv 14), .fact 4 (.isv 16), .fact 5 (.isv 18), .fact 6 (.ow [20] [] 5 (x1.1 : List UInt8)), .fact 21 (.fnv 67 [] [Fact.isv 21]), .fact 100014 (.obj 14 [(false, 1)]), .fact 100016 (.obj 16 [(false, 1)]), .fact 100018 (.obj 18 [(false, 1)]), .fact 100021 (.obj 21 [(false, 1)]), .fact 100023 (.rc 23 rr1 .ready none), .fact 100024 (.dm 24 rr1.D)]) hrr1 rfl rfl (Has.s rfl) rfl rfl (HasF.cons (Has.s rfl) (HasF.cons (Has.s rfl) HasF.nil)) rfl rfl (fun u2 => (Carry2.slot 904000 0 (Carry2.slot 904000 1 (Carry2.slot 904000 3 (Carry2.keep (Carry2.keep (Carry2.keep (Carry2.keep (Carry2.keep (Carry2.keep (Carry2.keep (Carry2.keep (Carry2.keep (Carry2.low 902003 3 (Carry2.low 902004 4 (Carry2.low 902005 5 (Carry2.low 902006 6 (Carry2.low 902021 21 (Carry2.keep (Carry2.keep (Carry2.keep (Carry2.keep (Carry2.keep (Carry2.keep Carry2.nil)))))))))))))))))))))))) (fun u2 => ?_)
     refine CWalk.region ?_
     refine ws (Step.allocObj (ls := [(false, 1, Fact.rep [] ((0 : Int) : Int)), (false, 1, Fact.nilv)]) 25 rfl rfl rfl rfl zl91) ?_
     refine ws (Step.storeObj (ls := [(false, 1, Fact.rep [] x4.At), (false, 1, Fact.rep [0] x4.Data)]) rfl ty91 rfl rfl (Has.s rfl) rfl (HasL.flds (Has.cv (Has.s rfl) (Cv.trans (Cv.opens (chWrite x4)) (Cv.flds (CvL.cons Cv.fl (CvL.cons Cv.refl CvL.nil)))))) rfl) ?_
     refine Walk.nil ?_
     refine Leaf.begin (t := 23) rfl rfl ?_
     refine CWalk.block ?_
     refine CWalk.seq ?_
     refine CWalk.region ?_
     refine wo (Spec.fieldAddrO fd91_0 (Has.cv (Has.s rfl) (Cv.isvP rfl))) ?_
     refine wo (Spec.loadF (i := 0) ty3 rfl (Has.s rfl) rfl (HasG.s rfl)) ?_
     refine wo (Spec.loadF (i := 0) ty3 rfl (Has.cv (Has.s rfl) (Cv.isvP rfl)) rfl (HasG.s rfl)) ?_
     refine wo (Spec.eqlI (Has.s rfl) (Has.s rfl)) ?_
     refine Walk.nil ?_
     refine Leaf.thenN ?_
     refine CWalk.cond rfl (fun hb => ?_) (fun hb => ?_)
     ·have hm := cond_t hb hm
      refine CWalk.seq ?_
      refine CWalk.region ?_
      refine wo (Spec.fieldAddrO fd91_1 (Has.cv (Has.s rfl) (Cv.isvP rfl))) ?_
      refine wo (Spec.loadF (i := 1) ty56 rfl (Has.s rfl) rfl (HasG.s rfl)) ?_
      obtain ⟨x5, hx5, hm⟩ := bind_some hm
      refine wo (f := Fact.ow [28] [] 5 (x5 : List UInt8)) (Spec.callE [0] 28 rfl en49 (disk_block_c x4.Data hx5) (HasAll.cons (Has.m (Has.s rfl) rfl) HasAll.nil)) ?_
      refine ws (Step.storeF (i := 0) (f := Fact.ow [28] [] 5 (x5 : List UInt8)) rfl ty56 rfl (Has.cv (Has.s rfl) (Cv.isvP rfl)) rfl (Has.cv (Has.s rfl) (Cv.trans Cv.owSl (Cv.slRep (T' := [28]) rfl rfl))) (Has.s rfl) rfl) ?_
      refine ws (Step.storeF (i := 0) (f := Fact.rep [] ((0 : Int) : Int)) rfl ty27 rfl (Has.cv (Has.s rfl) (Cv.isvP rfl)) rfl Has.int Has.int rfl) ?_
      refine Walk.nil ?_
      refine Leaf.thenN ?_
      refine CWalk.ret ?_
      refine Leaf.blockR ?_
      refine Leaf.rdR (t := 23) (J := [.fact 17 (.rep [] (false : Bool)), .fact 100015 (.at 15 (.rep [] (a1 : Int))), .fact 100017 (.at 17 (.ow [28] [] 5 (x5 : List UInt8))), .fact 100019 (.at 19 (.rep [] ((0 : Int) : Int))), .fact 100022 (.at 22 (.rep [0] a0.Wait)), .fact 100026 (.at 26 (.rep [] x4.At)), .fact 100027 (.at 27 (.rep [0] x4.Data)), .fact 902003 (.cst (u1 3) (Fact.isv 14)), .fact 902004 (.cst (u1 4) (Fact.isv 16)), .fact 902005 (.cst (u1 5) (Fact.isv 18)), .fact 902006 (.cst (u1 6) (Fact.ow [20] [] 5 (x1.1 : List UInt8))), .fact 902021 (.cst (u1 21) (Fact.fnv 67 [] [Fact.isv 21])), .fact 0 (.yv rr1.l), .fact 1 (.isv 21), .fact 3 (.rep [] (s2 : Int)), .fact 100014 (.obj 14 [(false, 1)]), .fact 100016 (.obj 16 [(false, 1)]), .fact 100018 (.obj 18 [(false, 1)]), .fact 100021 (.obj 21 [(false, 1)]), .fact 100024 (.dm 24 rr1.D), .fact 100025 (.obj 25 [(false, 1), (false, 1)])]) rfl rfl rfl (Low.res (lg (lg (lg (lg (lg (lg (lc (lc (lc (lc (lc (ls 904000 (ls 904001 (ls 904003 (lo (lo (lo (lo (lk (lo Low.nil))))))))))))))))))))) ?_
      refine wo (Spec.not (Has.s rfl)) ?_
      refine Walk.nil ?_
      refine Leaf.thenN ?_
      refine CWalk.cond rfl (fun hb => ?_) (fun hb => ?_)
      ·skip
       refine CWalk.ret ?_
       refine Leaf.blockR ?_
       refine Leaf.thenR ?_
       exact Leaf.brk hm (fun h => nomatch h) rfl (sc (sc (sc (Sub.cons (Has.cst (HasC.cv (HasC.s (s := 902006) rfl) (Cv.owF (T := [20]) (te := []) rfl))) (sc (sf (Sub.cons (Has.at (HasG.cv (HasG.s rfl) (Cv.owF (T := [28]) (te := []) rfl))) (sf (sm (sn (sn (sn (sn (sn (sn Sub.nil)))))))))))))))
      ·exact absurd hb (by decide)
     ·have hm := cond_f hb hm
      refine CWalk.skip ?_
      refine Leaf.blockN ?_
      refine Leaf.rdN (t := 23) (J := [.fact 17 (.rep [] (true : Bool)), .fact 100015 (.at 15 (.rep [] (a1 : Int))), .fact 100017 (.at 17 (.nilv)), .fact 100019 (.at 19 (.rep [] ((0 : Int) : Int))), .fact 100022 (.at 22 (.rep [0] a0.Wait)), .fact 100026 (.at 26 (.rep [] x4.At)), .fact 100027 (.at 27 (.rep [0] x4.Data)), .fact 902003 (.cst (u1 3) (Fact.isv 14)), .fact 902004 (.cst (u1 4) (Fact.isv 16)), .fact 902005 (.cst (u1 5) (Fact.isv 18)), .fact 902006 (.cst (u1 6) (Fact.ow [20] [] 5 (x1.1 : List UInt8))), .fact 902021 (.cst (u1 21) (Fact.fnv 67 [] [Fact.isv 21])), .fact 0 (.yv rr1.l), .fact 1 (.isv 21), .fact 3 (.rep [] (s2 : Int)), .fact 100014 (.obj 14 [(false, 1)]), .fact 100016 (.obj 16 [(false, 1)]), .fact 100018 (.obj 18 [(false, 1)]), .fact 100021 (.obj 21 [(false, 1)]), .fact 100024 (.dm 24 rr1.D), .fact 100025 (.obj 25 [(false, 1), (false, 1)])]) rfl rfl rfl (Low.res (lg (lg (lg (lg (lg (lg (lc (lc (lc (lc (lc (ls 904000 (ls 904001 (ls 904003 (lo (lo (lo (lo (lk (lo Low.nil))))))))))))))))))))) ?_
      refine wo (Spec.not (Has.s rfl)) ?_
      refine Walk.nil ?_
      refine Leaf.thenN ?_
      refine CWalk.cond rfl (fun hb => ?_) (fun hb => ?_)
      ·exact absurd hb (by decide)
      ·skip
       refine CWalk.skip ?_
       refine Leaf.blockN ?_
       refine Leaf.thenN ?_
       refine CWalk.region ?_
       refine mv ?_
       refine wo (Spec.subI (Has.s rfl) Has.int) ?_
       refine wo (Spec.assign (Has.s rfl)) ?_
       refine Walk.nil ?_
       exact Leaf.next hm (sn (sn (st (sc (sc (sc (Sub.cons (Has.cst (HasC.cv (HasC.s (s := 902006) rfl) (Cv.owF (T := [20]) (te := []) rfl))) (sc (sm (sf (sg (sf (sn (sn (sn (sn (sn (sn Sub.nil))))))))))))))))))
    ·have hm := cond_f hb hm
     refine CWalk.exit ?_
     refine Leaf.thenE ?_
     exact Leaf.brk hm (fun h => nomatch h) rfl (sc (sc (sc (Sub.cons (Has.cst (HasC.cv (HasC.s (s := 902006) rfl) (Cv.owF (T := [20]) (te := []) rfl))) (sc (sf (sg (sf (sm (sn (sn (sn (sn (sn (sn Sub.nil)))))))))))))))
   ·intro _
    rcases b6 with b7 | b8
    ·have hm := selim_l hm
     refine Leaf.blockE ?_
     refine Leaf.rfe ?_
     refine Leaf.rfN (t := 23) (st := .ready) (J := [.fact 100015 (.at 15 (.rep [] (a1 : Int))), .fact 100017 (.at 17 (.nilv)), .fact 100019 (.at 19 (.rep [] ((0 : Int) : Int))), .fact 100022 (.at 22 (.rep [0] a0.Wait)), .fact 3 (.isv 14), .fact 4 (.isv 16), .fact 5 (.isv 18), .fact 6 (.ow [20] [] 5 (x1.1 : List UInt8)), .fact 21 (.fnv 67 [] [Fact.isv 21]), .fact 100014 (.obj 14 [(false, 1)]), .fact 100016 (.obj 16 [(false, 1)]), .fact 100018 (.obj 18 [(false, 1)]), .fact 100021 (.obj 21 [(false, 1)]), .fact 100024 (.dm 24 rr1.D)]) rfl rfl rfl (fun h => nomatch h) (lg (lg (lg (lg (ls 902003 (ls 902004 (ls 902005 (ls 902006 (ls 902021 (lo (lo (lo (lo (lk Low.nil)))))))))))))) ?_
     refine Leaf.blockN ?_
     refine Leaf.thenN ?_
     refine CWalk.seq ?_
     refine CWalk.region ?_
     refine mv ?_
     refine ws (Step.storeF (i := 0) (f := Fact.ow [20] [] 5 (x1.1 : List UInt8)) rfl ty56 rfl (Has.cv (Has.s rfl) (Cv.isvP rfl)) rfl (Has.cv (Has.s rfl) (Cv.trans Cv.owSl (Cv.slRep (T' := [20]) rfl rfl))) (Has.s rfl) rfl) ?_
     refine ws (Step.storeF (i := 0) (f := Fact.rep [] ((0 : Int) : Int)) rfl ty27 rfl (Has.cv (Has.s rfl) (Cv.isvP rfl)) rfl Has.int Has.int rfl) ?_
     refine Walk.nil ?_
     refine Leaf.thenN ?_
     refine CWalk.ret ?_
     obtain rfl := Option.some.inj hm
     exact Leaf.unmark (t := 24) rfl rfl (Leaf.retC2 rfl (HasR.cv (HasR.cell1 ty56 rfl (Has.s rfl) rfl (HasG.s rfl)) (Cv.owF (T := [20]) (te := []) rfl)) (HasR.cv (HasR.cell1 ty27 rfl (Has.s rfl) rfl (HasG.s rfl)) Cv.fl))
    ·have hm := selim_r hm
     refine Leaf.blockR ?_
     refine Leaf.rfJ (t := 23) (st := (.done)) (J := [.fact 100015 (.at 15 (.rep [] (a1 : Int))), .fact 100017 (.at 17 (.ow [28] [] 5 (b8 : List UInt8))), .fact 100019 (.at 19 (.rep [] ((0 : Int) : Int))), .fact 100022 (.at 22 (.rep [0] a0.Wait)), .fact 3 (.isv 14), .fact 4 (.isv 16), .fact 5 (.isv 18), .fact 6 (.ow [20] [] 5 (x1.1 : List UInt8)), .fact 21 (.fnv 67 [] [Fact.isv 21]), .fact 100014 (.obj 14 [(false, 1)]), .fact 100016 (.obj 16 [(false, 1)]), .fact 100018 (.obj 18 [(false, 1)]), .fact 100021 (.obj 21 [(false, 1)]), .fact 100024 (.dm 24 rr1.D)]) rfl rfl rfl (fun h => nomatch h) (lg (lg (lg (lg (ls 902003 (ls 902004 (ls 902005 (ls 902006 (ls 902021 (lo (lo (lo (lo (lk Low.nil)))))))))))))) ?_
     refine CWalk.ret ?_
     refine Leaf.blockR ?_
     refine Leaf.thenR ?_
     obtain rfl := Option.some.inj hm
     exact Leaf.unmark (t := 24) rfl rfl (Leaf.retC2 rfl (HasR.cv (HasR.cell1 ty56 rfl (Has.s rfl) rfl (HasG.s rfl)) (Cv.owF (T := [28]) (te := []) rfl)) (HasR.cv (HasR.cell1 ty27 rfl (Has.s rfl) rfl (HasG.s rfl)) Cv.fl))

def pack_Take_L1 (a1 : Int) (a2 : Int) (x1 : (ArrV 128 UInt8) × Int) (s3 : Int) (s4 : Int) : Option (Ctl (Int × Int) (Int)) :=
  (bif (decide (s4 < a2)) then Option.bind (bnd 128 (wI (a1 + s4))) (fun x6 => Option.bind ((x1.1.l)[x6]?) (fun x7 => Option.bind (shlI (wI (x7.toNat : Int)) (wI ((8 : Int) * s4))) (fun x8 => some (Ctl.next ((orI s3 x8), (wI (s4 + (1 : Int)))))))) else some (Ctl.brk s3))
/-- freeboard/pack.Take -/
def pack_Take (a0 : List UInt8) (a1 : Int) (a2 : Int) : Option (Int × Int) :=
  Option.bind (pack_whole a0) (fun x1 => (bif (x1.2 != (0 : Int)) then some ((0 : Int), x1.2) else Option.bind (pack_fits a1 a2) (fun x2 => (bif (!x2) then some ((0 : Int), (2 : Int)) else Option.bind (loopM (fun s : Int × Int => pack_Take_L1 a1 a2 x1 s.1 s.2) FUEL ((0 : Int), (0 : Int))) (fun b9 => some (b9, (0 : Int)))))))
set_option maxRecDepth 100000 in
set_option maxHeartbeats 2000000 in
theorem pack_Take_c (a0 : List UInt8) (a1 : Int) (a2 : Int) {r : Int × Int} (hm : pack_Take a0 a1 a2 = some r) : Ctr Try.prog 51 [.rep 0 a0, .rep 0 a1, .rep 0 a2] (.tup2 (.fl r.1) (.fl r.2)) [] := by
 refine ctr_of_walk [[]] 39 Try.func51 rfl rfl rfl rfl (fun w0 om => ?_)
 unfold pack_Take at hm
 refine CWalk.sub (G' := [.fact 0 (.rep [0] (a0 : List UInt8)), .fact 1 (.rep [] (a1 : Int)), .fact 2 (.rep [] (a2 : Int))]) (sn (Sub.cons (Has.fl (Has.s rfl)) (Sub.cons (Has.fl (Has.s rfl)) Sub.nil))) ?_
 refine CWalk.seq ?_
 refine CWalk.region ?_
 refine wo (Spec.assign Has.int) ?_
 refine wo (Spec.assign Has.int) ?_
 refine Walk.nil ?_
 refine Leaf.thenN ?_
 refine CWalk.seq ?_
 refine CWalk.region ?_
 refine mv ?_
 obtain ⟨x1, hx1, hm⟩ := bind_some hm
 refine wo (f := Fact.tup2 (Fact.rep [] x1.1) (Fact.rep [] x1.2)) (Spec.callE [0] 10 rfl en70 (pack_whole_c a0 hx1) (HasAll.cons (Has.m (Has.s rfl) rfl) HasAll.nil)) ?_
 refine mv ?_
 refine wo (Spec.ext0 (Has.s rfl)) ?_
 refine wo (Spec.ext1 (Has.s rfl)) ?_
 refine ws (Step.allocArr 11 rfl rfl ar122) ?_
 refine ws (Step.storeArrV rfl ty122 (Has.s rfl) rfl (Has.s rfl)) ?_
 refine wo (Spec.assign (Has.s rfl)) ?_
 refine Walk.nil ?_
 refine Leaf.thenN ?_
 refine CWalk.seq ?_
 refine CWalk.seq ?_
 refine CWalk.region ?_
 refine mv ?_
 refine wo (Spec.neqI (Has.s rfl) Has.int) ?_
 refine Walk.nil ?_
 refine Leaf.thenN ?_
 refine CWalk.cond rfl (fun hb => ?_) (fun hb => ?_)
 ·have hm := cond_t hb hm
  refine CWalk.seq ?_
  refine CWalk.region ?_
  refine mv ?_
  refine wo (Spec.assign Has.int) ?_
  refine wo (Spec.assign (Has.s rfl)) ?_
  refine Walk.nil ?_
  refine Leaf.thenN ?_
  refine CWalk.ret ?_
  refine Leaf.thenR ?_
  obtain rfl := Option.some.inj hm
  exact Leaf.retC2 rfl (HasR.cv (HasR.tmp (Has.s rfl)) Cv.fl) (HasR.cv (HasR.tmp (Has.s rfl)) Cv.fl)
 ·have hm := cond_f hb hm
  refine CWalk.skip ?_
  refine Leaf.thenN ?_
  refine CWalk.seq ?_
  refine CWalk.seq ?_
  refine CWalk.region ?_
  refine mv ?_
  refine mv ?_
  obtain ⟨x2, hx2, hm⟩ := bind_some hm
  refine wo (f := Fact.rep [] (x2 : Bool)) (Spec.callE [] 12 rfl en71 (pack_fits_c a1 a2 hx2) (HasAll.cons (Has.fl (Has.s rfl)) (HasAll.cons (Has.fl (Has.s rfl)) HasAll.nil))) ?_
  refine wo (Spec.not (Has.s rfl)) ?_
  refine Walk.nil ?_
  refine Leaf.thenN ?_
  refine CWalk.cond rfl (fun hb => ?_) (fun hb => ?_)
  ·have hm := cond_t hb hm
   refine CWalk.seq ?_
   refine CWalk.region ?_
   refine wo (Spec.assign Has.int) ?_
   refine wo (Spec.assign Has.int) ?_
   refine Walk.nil ?_
   refine Leaf.thenN ?_
   refine CWalk.ret ?_
   refine Leaf.thenR ?_
   obtain rfl := Option.some.inj hm
   exact Leaf.retC2 rfl (HasR.cv (HasR.tmp (Has.s rfl)) Cv.fl) (HasR.cv (HasR.tmp (Has.s rfl)) Cv.fl)
  ·have hm := cond_f hb hm
   refine CWalk.skip ?_
   refine Leaf.thenN ?_
   refine CWalk.seq ?_
   refine CWalk.seq ?_
   refine CWalk.region ?_
   refine mv ?_
   refine wo (Spec.move Has.int) ?_
   refine Walk.nil ?_
   refine Leaf.thenN ?_
   refine CWalk.block ?_
   obtain ⟨b9, hb9, hm⟩ := bind_some hm
   refine CWalk.loop (fun s : Int × Int => [.fact 1 (.rep [] (a1 : Int)), .fact 6 (.rep [] s.1), .fact 8 (.isv 11), .fact 22 (.rep [] (a2 : Int)), .fact 23 (.rep [] s.2), .fact 100011 (.arr 11 [] 128 (x1.1.l : List UInt8))]) (fun b : Int => (Exit.exit 0, [.fact 6 (.rep [] (b : Int))])) hb9 (st (st (sn (st (st (Sub.cons (Has.arrM (Has.s rfl) rfl) Sub.nil)))))) ?_ ?_
   ·rintro ⟨s3, s4⟩ c5 hm
    replace hm : pack_Take_L1 a1 a2 x1 s3 s4 = some c5 := hm
    unfold pack_Take_L1 at hm
    show CWalk _ [.fact 1 (.rep [] (a1 : Int)), .fact 6 (.rep [] (s3 : Int)), .fact 8 (.isv 11), .fact 22 (.rep [] (a2 : Int)), .fact 23 (.rep [] (s4 : Int)), .fact 100011 (.arr 11 [] 128 (x1.1.l : List UInt8))] _ _
    refine CWalk.seq ?_
    refine CWalk.region ?_
    refine wo (Spec.lssI (Has.s rfl) (Has.s rfl)) ?_
    refine Walk.nil ?_
    refine Leaf.thenN ?_
    refine CWalk.seq ?_
    refine CWalk.cond rfl (fun hb => ?_) (fun hb => ?_)
    ·have hm := cond_t hb hm
     refine CWalk.skip ?_
     refine Leaf.thenN ?_
     refine CWalk.seq ?_
     refine CWalk.block ?_
     refine CWalk.seq ?_
     refine CWalk.region ?_
     refine mv ?_
     refine wo (Spec.assign (Has.s rfl)) ?_
     refine Walk.nil ?_
     refine Leaf.thenN ?_
     refine CWalk.region ?_
     refine mv ?_
     refine mv ?_
     refine mv ?_
     refine wo (Spec.addI (Has.s rfl) (Has.s rfl)) ?_
     obtain ⟨x6, hx6, hm⟩ := bind_some hm
     refine wo (Spec.idxArr hx6 ar122 (Has.s rfl) rfl (Has.s rfl)) ?_
     obtain ⟨x7, hx7, hm⟩ := bind_some hm
     refine wo ((Spec.loadArr hx7 ty5 (Has.s rfl) rfl).flat (T' := [])) ?_
     refine wo (Spec.conv (α := UInt8) (β := Int) Try.underlying5 Try.underlying3 (Has.s rfl)) ?_
     refine mv ?_
     refine wo (Spec.mulI Has.int (Has.s rfl)) ?_
     obtain ⟨x8, hx8, hm⟩ := bind_some hm
     refine wo (Spec.shlI hx8 (Has.s rfl) (Has.s rfl)) ?_
     refine wo (Spec.orI (Has.s rfl) (Has.s rfl)) ?_
     refine wo (Spec.assign (Has.s rfl)) ?_
     refine Walk.nil ?_
     refine Leaf.blockN ?_
     refine Leaf.thenN ?_
     refine CWalk.region ?_
     refine wo (Spec.addI (Has.s rfl) Has.int) ?_
     refine mv ?_
     refine Walk.nil ?_
     exact Leaf.next hm (st (st (sn (st (st (Sub.cons (Has.arrM (Has.s rfl) rfl) Sub.nil))))))
    ·have hm := cond_f hb hm
     refine CWalk.exit ?_
     refine Leaf.thenE ?_
     exact Leaf.brk hm (fun h => nomatch h) rfl (st Sub.nil)
   ·intro _
    refine Leaf.blockE ?_
    refine Leaf.thenN ?_
    refine CWalk.seq ?_
    refine CWalk.region ?_
    refine mv ?_
    refine wo (Spec.assign (Has.s rfl)) ?_
    refine wo (Spec.assign Has.int) ?_
    refine Walk.nil ?_
    refine Leaf.thenN ?_
    refine CWalk.ret ?_
    obtain rfl := Option.some.inj hm
    exact Leaf.retC2 rfl (HasR.cv (HasR.tmp (Has.s rfl)) Cv.fl) (HasR.cv (HasR.tmp (Has.s rfl)) Cv.fl)

/-- bytes.Equal -/
def bytes_Equal (a0 : List UInt8) (a1 : List UInt8) : Option (Bool) :=
  some ((Str.mk a0).s == (Str.mk a1).s)
set_option maxRecDepth 100000 in
set_option maxHeartbeats 2000000 in
theorem bytes_Equal_c (a0 : List UInt8) (a1 : List UInt8) {r : Bool} (hm : bytes_Equal a0 a1 = some r) : Ctr Try.prog 52 [.rep 0 a0, .rep 0 a1] (.fl r) [] := by
 refine ctr_of_walk [[]] 10 Try.func52 rfl rfl rfl rfl (fun w0 om => ?_)
 unfold bytes_Equal at hm
 refine CWalk.sub (G' := [.fact 0 (.rep [0] (a0 : List UInt8)), .fact 1 (.rep [0] (a1 : List UInt8))]) (sn (sn Sub.nil)) ?_
 refine CWalk.seq ?_
 refine CWalk.region ?_
 refine wo (Spec.assign Has.bool) ?_
 refine Walk.nil ?_
 refine Leaf.thenN ?_
 refine CWalk.seq ?_
 refine CWalk.region ?_
 refine mv ?_
 refine wo (Spec.toStr Try.underlying56 Try.underlying5 Try.underlying9 (Has.s rfl)) ?_
 refine mv ?_
 refine wo (Spec.toStr Try.underlying56 Try.underlying5 Try.underlying9 (Has.s rfl)) ?_
 refine wo (Spec.eqlS (Has.s rfl) (Has.s rfl)) ?_
 refine wo (Spec.assign (Has.s rfl)) ?_
 refine Walk.nil ?_
 refine Leaf.thenN ?_
 refine CWalk.ret ?_
 obtain rfl := Option.some.inj hm
 exact Leaf.retC1 rfl (HasR.cv (HasR.tmp (Has.s rfl)) Cv.fl)

def label_Read_L1 (a0 : List UInt8) (x1 : (List Field)) (s2 : List Int) (s3 : Int) : Option (Ctl ((List Int) × Int) (((List Int)) ⊕ (Int))) :=
  (bif (decide (s3 < ((x1).length : Int))) then Option.bind (idx x1 s3) (fun x5 => Option.bind (pack_Take a0 x5.at_ x5.size) (fun x6 => (bif (x6.2 != (0 : Int)) then some (Ctl.brk (Sum.inr x6.2)) else Option.bind (app s2 ([x6.1])) (fun x7 => some (Ctl.next (x7, (wI (s3 + (1 : Int))))))))) else some (Ctl.brk (Sum.inl s2)))
def label_Read_J2 (a0 : List UInt8) (x10 : Int) (x11 : Int) (x12 : Int) (x13 : Int) (x14 : Int) (x15 : Int) (x16 : Int) (x18 : Int) (x19 : Int) (j20 : Int) : Option (Label × Int) :=
  Option.bind (label_Write (Label.mk (scW.of x10) (scW.of x11) x12 x13 x14 x15 x16 j20 x18 (x19 == (1 : Int)))) (fun x21 => Option.bind (gO (!(x21.2 != (0 : Int))) (bytes_Equal x21.1 a0)) (fun x22 => (bif ((x21.2 != (0 : Int)) || (!x22)) then some ((Label.mk (0 : UInt32) (0 : UInt32) (0 : Int) (0 : Int) (0 : Int) (0 : Int) (0 : Int) (0 : Int) (0 : Int) false), (90 : Int)) else some ((Label.mk (scW.of x10) (scW.of x11) x12 x13 x14 x15 x16 j20 x18 (x19 == (1 : Int))), (0 : Int)))))
/-- freeboard/label.Read -/
def label_Read (a0 : List UInt8) : Option (Label × Int) :=
  Option.bind (label_fields (Label.mk (0 : UInt32) (0 : UInt32) (0 : Int) (0 : Int) (0 : Int) (0 : Int) (0 : Int) (0 : Int) (0 : Int) false)) (fun x1 => Option.bind (loopM (fun s : (List Int) × Int => label_Read_L1 a0 x1 s.1 s.2) FUEL (([] : List Int), (0 : Int))) (fun b8 => Sum.elim (fun b9 => Option.bind (idx b9 (1 : Int)) (fun x10 => Option.bind (idx b9 (2 : Int)) (fun x11 => Option.bind (idx b9 (3 : Int)) (fun x12 => Option.bind (idx b9 (4 : Int)) (fun x13 => Option.bind (idx b9 (5 : Int)) (fun x14 => Option.bind (idx b9 (6 : Int)) (fun x15 => Option.bind (idx b9 (7 : Int)) (fun x16 => Option.bind (idx b9 (8 : Int)) (fun x17 => Option.bind (idx b9 (9 : Int)) (fun x18 => Option.bind (idx b9 (10 : Int)) (fun x19 => (bif (x17 == (255 : Int)) then (label_Read_J2 a0 x10 x11 x12 x13 x14 x15 x16 x18 x19 (-1 : Int)) else (label_Read_J2 a0 x10 x11 x12 x13 x14 x15 x16 x18 x19 x17))))))))))))) (fun b23 => some ((Label.mk (0 : UInt32) (0 : UInt32) (0 : Int) (0 : Int) (0 : Int) (0 : Int) (0 : Int) (0 : Int) (0 : Int) false), b23)) b8))
set_option maxRecDepth 100000 in
set_option maxHeartbeats 2000000 in
theorem label_Read_c (a0 : List UInt8) {r : Label × Int} (hm : label_Read a0 = some r) : Ctr Try.prog 31 [.rep 0 a0] (.tup2 (.fl r.1) (.fl r.2)) [] := by
 refine ctr_of_walk [[]] 90 Try.func31 rfl rfl rfl rfl (fun w0 om => ?_)
 unfold label_Read at hm
 refine CWalk.sub (G' := [.fact 0 (.rep [0] (a0 : List UInt8))]) (sn Sub.nil) ?_
 refine CWalk.seq ?_
 refine CWalk.region ?_
 refine ws (Step.allocObj (ls := [(false, 1, Fact.rep [] ((0 : UInt32) : UInt32)), (false, 1, Fact.rep [] ((0 : UInt32) : UInt32)), (false, 1, Fact.rep [] ((0 : Int) : Int)), (false, 1, Fact.rep [] ((0 : Int) : Int)), (false, 1, Fact.rep [] ((0 : Int) : Int)), (false, 1, Fact.rep [] ((0 : Int) : Int)), (false, 1, Fact.rep [] ((0 : Int) : Int)), (false, 1, Fact.rep [] ((0 : Int) : Int)), (false, 1, Fact.rep [] ((0 : Int) : Int)), (false, 1, Fact.rep [] (false : Bool))]) 10 rfl rfl rfl rfl zl71) ?_
 refine wo (Spec.assign Has.int) ?_
 refine Walk.nil ?_
 refine Leaf.thenN ?_
 refine CWalk.seq ?_
 refine CWalk.region ?_
 refine wo (Spec.assign Has.nilv) ?_
 refine Walk.nil ?_
 refine Leaf.thenN ?_
 refine CWalk.seq ?_
 refine CWalk.seq ?_
 refine CWalk.region ?_
 refine wo (Spec.build (us := []) (ls' := [(false, 1, Fact.rep [] ((0 : UInt32) : UInt32)), (false, 1, Fact.rep [] ((0 : UInt32) : UInt32)), (false, 1, Fact.rep [] ((0 : Int) : Int)), (false, 1, Fact.rep [] ((0 : Int) : Int)), (false, 1, Fact.rep [] ((0 : Int) : Int)), (false, 1, Fact.rep [] ((0 : Int) : Int)), (false, 1, Fact.rep [] ((0 : Int) : Int)), (false, 1, Fact.rep [] ((0 : Int) : Int)), (false, 1, Fact.rep [] ((0 : Int) : Int)), (false, 1, Fact.rep [] (false : Bool))]) bd71 rfl BP.nil) ?_
 obtain ⟨x1, hx1, hm⟩ := bind_some hm
 refine wo (f := Fact.rep [21] (x1 : List Field)) (Spec.callE [] 21 rfl en50 (label_fields_c (Label.mk (0 : UInt32) (0 : UInt32) (0 : Int) (0 : Int) (0 : Int) (0 : Int) (0 : Int) (0 : Int) (0 : Int) false) hx1) (HasAll.cons (Has.fl (Has.cv (Has.s rfl) (Cv.trans (Cv.flds (CvL.cons Cv.fl (CvL.cons Cv.fl (CvL.cons Cv.fl (CvL.cons Cv.fl (CvL.cons Cv.fl (CvL.cons Cv.fl (CvL.cons Cv.fl (CvL.cons Cv.fl (CvL.cons Cv.fl (CvL.cons Cv.fl CvL.nil))))))))))) (Cv.close (T := []) (chLabel (Label.mk (0 : UInt32) (0 : UInt32) (0 : Int) (0 : Int) (0 : Int) (0 : Int) (0 : Int) (0 : Int) (0 : Int) false)))))) HasAll.nil)) ?_
 refine wo (Spec.len (Has.s rfl) Try.underlying103) ?_
 refine wo (Spec.move Has.int) ?_
 refine Walk.nil ?_
 refine Leaf.thenN ?_
 refine CWalk.block ?_
 obtain ⟨b8, hb8, hm⟩ := bind_some hm
 refine CWalk.loop (fun s : (List Int) × Int => [.fact 0 (.rep [0] (a0 : List UInt8)), .fact 2 (.isv 10), .fact 4 (.ow [28] [] 3 (s.1 : List Int)), .fact 13 (.rep [21] (x1 : List Field)), .fact 14 (.rep [] (((x1).length : Int) : Int)), .fact 15 (.rep [] s.2), .fact 100011 (.at 11 (.rep [] ((0 : UInt32) : UInt32))), .fact 100012 (.at 12 (.rep [] ((0 : UInt32) : UInt32))), .fact 100013 (.at 13 (.rep [] ((0 : Int) : Int))), .fact 100014 (.at 14 (.rep [] ((0 : Int) : Int))), .fact 100015 (.at 15 (.rep [] ((0 : Int) : Int))), .fact 100016 (.at 16 (.rep [] ((0 : Int) : Int))), .fact 100017 (.at 17 (.rep [] ((0 : Int) : Int))), .fact 100018 (.at 18 (.rep [] ((0 : Int) : Int))), .fact 100019 (.at 19 (.rep [] ((0 : Int) : Int))), .fact 100020 (.at 20 (.rep [] (false : Bool))), .fact 100010 (.obj 10 [(false, 1), (false, 1), (false, 1), (false, 1), (false, 1), (false, 1), (false, 1), (false, 1), (false, 1), (false, 1)])]) (fun b : ((List Int)) ⊕ (Int) => Sum.elim (fun b => (Exit.exit 0, [.fact 0 (.rep [0] (a0 : List UInt8)), .fact 2 (.isv 10), .fact 4 (.ow [28] [] 3 (b : List Int)), .fact 100011 (.at 11 (.rep [] ((0 : UInt32) : UInt32))), .fact 100012 (.at 12 (.rep [] ((0 : UInt32) : UInt32))), .fact 100013 (.at 13 (.rep [] ((0 : Int) : Int))), .fact 100014 (.at 14 (.rep [] ((0 : Int) : Int))), .fact 100015 (.at 15 (.rep [] ((0 : Int) : Int))), .fact 100016 (.at 16 (.rep [] ((0 : Int) : Int))), .fact 100017 (.at 17 (.rep [] ((0 : Int) : Int))), .fact 100018 (.at 18 (.rep [] ((0 : Int) : Int))), .fact 100019 (.at 19 (.rep [] ((0 : Int) : Int))), .fact 100020 (.at 20 (.rep [] (false : Bool))), .fact 100010 (.obj 10 [(false, 1), (false, 1), (false, 1), (false, 1), (false, 1), (false, 1), (false, 1), (false, 1), (false, 1), (false, 1)])])) (fun b => (Exit.ret, [.fact 2 (.isv 10), .fact 3 (.rep [] (b : Int)), .fact 100011 (.at 11 (.rep [] ((0 : UInt32) : UInt32))), .fact 100012 (.at 12 (.rep [] ((0 : UInt32) : UInt32))), .fact 100013 (.at 13 (.rep [] ((0 : Int) : Int))), .fact 100014 (.at 14 (.rep [] ((0 : Int) : Int))), .fact 100015 (.at 15 (.rep [] ((0 : Int) : Int))), .fact 100016 (.at 16 (.rep [] ((0 : Int) : Int))), .fact 100017 (.at 17 (.rep [] ((0 : Int) : Int))), .fact 100018 (.at 18 (.rep [] ((0 : Int) : Int))), .fact 100019 (.at 19 (.rep [] ((0 : Int) : Int))), .fact 100020 (.at 20 (.rep [] (false : Bool))), .fact 100010 (.obj 10 [(false, 1), (false, 1), (false, 1), (false, 1), (false, 1), (false, 1), (false, 1), (false, 1), (false, 1), (false, 1)])])) b) hb8 (su (sn (Sub.cons (Has.cv (Has.s rfl) (Cv.trans Cv.nilOw (Cv.owF (T := []) (te := []) rfl))) (su (st (st (sf (sf (sf (sf (sf (sf (sf (sf (sf (sf (sn Sub.nil))))))))))))))))) ?_ ?_
 ·rintro ⟨s2, s3⟩ c4 hm
  replace hm : label_Read_L1 a0 x1 s2 s3 = some c4 := hm
  unfold label_Read_L1 at hm
  show CWalk _ [.fact 0 (.rep [0] (a0 : List UInt8)), .fact 2 (.isv 10), .fact 4 (.ow [28] [] 3 (s2 : List Int)), .fact 13 (.rep [21] (x1 : List Field)), .fact 14 (.rep [] (((x1).length : Int) : Int)), .fact 15 (.rep [] (s3 : Int)), .fact 100011 (.at 11 (.rep [] ((0 : UInt32) : UInt32))), .fact 100012 (.at 12 (.rep [] ((0 : UInt32) : UInt32))), .fact 100013 (.at 13 (.rep [] ((0 : Int) : Int))), .fact 100014 (.at 14 (.rep [] ((0 : Int) : Int))), .fact 100015 (.at 15 (.rep [] ((0 : Int) : Int))), .fact 100016 (.at 16 (.rep [] ((0 : Int) : Int))), .fact 100017 (.at 17 (.rep [] ((0 : Int) : Int))), .fact 100018 (.at 18 (.rep [] ((0 : Int) : Int))), .fact 100019 (.at 19 (.rep [] ((0 : Int) : Int))), .fact 100020 (.at 20 (.rep [] (false : Bool))), .fact 100010 (.obj 10 [(false, 1), (false, 1), (false, 1), (false, 1), (false, 1), (false, 1), (false, 1), (false, 1), (false, 1), (false, 1)])] _ _
  refine CWalk.seq ?_
  refine CWalk.region ?_
  refine wo (Spec.lssI (Has.s rfl) (Has.s rfl)) ?_
  refine Walk.nil ?_
  refine Leaf.thenN ?_
  refine CWalk.seq ?_
  refine CWalk.cond rfl (fun hb => ?_) (fun hb => ?_)
  ·have hm := cond_t hb hm
   refine CWalk.skip ?_
   refine Leaf.thenN ?_
   refine CWalk.seq ?_
   refine CWalk.block ?_
   refine CWalk.seq ?_
   refine CWalk.region ?_
   obtain ⟨x5, hx5, hm⟩ := bind_some hm
   refine wo (Spec.indexAddr hx5 sl103 (Has.s rfl) (Has.s rfl)) ?_
   refine wo ((Spec.load ty106 (Has.s rfl)).flat (T' := [])) ?_
   refine ws (Step.allocObj (ls := [(false, 1, Fact.rep [] ((0 : Int) : Int)), (false, 1, Fact.rep [] ((0 : Int) : Int)), (false, 1, Fact.rep [] ((0 : Int) : Int))]) 22 rfl rfl rfl rfl zl106) ?_
   refine ws (Step.storeObj (ls := [(false, 1, Fact.rep [] x5.n), (false, 1, Fact.rep [] x5.at_), (false, 1, Fact.rep [] x5.size)]) rfl ty106 rfl rfl (Has.s rfl) rfl (HasL.flds (Has.cv (Has.s rfl) (Cv.trans (Cv.opens (chField x5)) (Cv.flds (CvL.cons Cv.fl (CvL.cons Cv.fl (CvL.cons Cv.fl CvL.nil))))))) rfl) ?_
   refine Walk.nil ?_
   refine Leaf.thenN ?_
   refine CWalk.seq ?_
   refine CWalk.region ?_
   refine mv ?_
   refine wo (Spec.fieldAddrO fd106_1 (Has.cv (Has.s rfl) (Cv.isvP rfl))) ?_
   refine wo (Spec.loadF (i := 1) ty3 rfl (Has.s rfl) rfl (HasG.s rfl)) ?_
   refine wo (Spec.fieldAddrO fd106_2 (Has.cv (Has.s rfl) (Cv.isvP rfl))) ?_
   refine wo (Spec.loadF (i := 2) ty3 rfl (Has.s rfl) rfl (HasG.s rfl)) ?_
   obtain ⟨x6, hx6, hm⟩ := bind_some hm
   refine wo (f := Fact.tup2 (Fact.rep [] x6.1) (Fact.rep [] x6.2)) (Spec.callE [0] 26 rfl en51 (pack_Take_c a0 x5.at_ x5.size hx6) (HasAll.cons (Has.m (Has.s rfl) rfl) (HasAll.cons (Has.fl (Has.s rfl)) (HasAll.cons (Has.fl (Has.s rfl)) HasAll.nil)))) ?_
   refine mv ?_
   refine wo (Spec.ext0 (Has.s rfl)) ?_
   refine wo (Spec.ext1 (Has.s rfl)) ?_
   refine wo (Spec.assign (Has.s rfl)) ?_
   refine wo (Spec.assign (Has.s rfl)) ?_
   refine Walk.nil ?_
   refine Leaf.thenN ?_
   refine CWalk.seq ?_
   refine CWalk.seq ?_
   refine CWalk.region ?_
   refine mv ?_
   refine wo (Spec.neqI (Has.s rfl) Has.int) ?_
   refine Walk.nil ?_
   refine Leaf.thenN ?_
   refine CWalk.cond rfl (fun hb => ?_) (fun hb => ?_)
   ·have hm := cond_t hb hm
    refine CWalk.seq ?_
    refine CWalk.region ?_
    refine wo (Spec.build (us := []) (ls' := [(false, 1, Fact.rep [] ((0 : UInt32) : UInt32)), (false, 1, Fact.rep [] ((0 : UInt32) : UInt32)), (false, 1, Fact.rep [] ((0 : Int) : Int)), (false, 1, Fact.rep [] ((0 : Int) : Int)), (false, 1, Fact.rep [] ((0 : Int) : Int)), (false, 1, Fact.rep [] ((0 : Int) : Int)), (false, 1, Fact.rep [] ((0 : Int) : Int)), (false, 1, Fact.rep [] ((0 : Int) : Int)), (false, 1, Fact.rep [] ((0 : Int) : Int)), (false, 1, Fact.rep [] (false : Bool))]) bd71 rfl BP.nil) ?_
    refine mv ?_
    refine ws (Step.storeObj (ls := [(false, 1, Fact.rep [] ((0 : UInt32) : UInt32)), (false, 1, Fact.rep [] ((0 : UInt32) : UInt32)), (false, 1, Fact.rep [] ((0 : Int) : Int)), (false, 1, Fact.rep [] ((0 : Int) : Int)), (false, 1, Fact.rep [] ((0 : Int) : Int)), (false, 1, Fact.rep [] ((0 : Int) : Int)), (false, 1, Fact.rep [] ((0 : Int) : Int)), (false, 1, Fact.rep [] ((0 : Int) : Int)), (false, 1, Fact.rep [] ((0 : Int) : Int)), (false, 1, Fact.rep [] (false : Bool))]) rfl ty71 rfl rfl (Has.s rfl) rfl (HasL.flds (Has.s rfl)) rfl) ?_
    refine wo (Spec.assign (Has.s rfl)) ?_
    refine Walk.nil ?_
    refine Leaf.thenN ?_
    refine CWalk.ret ?_
    refine Leaf.thenR ?_
    refine Leaf.blockR ?_
    refine Leaf.thenR ?_
    exact Leaf.brk hm (fun h => nomatch h) rfl (sn (st (sf (sf (sf (sf (sf (sf (sf (sf (sf (sf (sn Sub.nil)))))))))))))
   ·have hm := cond_f hb hm
    refine CWalk.skip ?_
    refine Leaf.thenN ?_
    refine CWalk.region ?_
    refine mv ?_
    refine mv ?_
    refine wo (Spec.lit (xs := [.tmp 33]) (T := []) 27 rfl ow102 rfl rfl rfl rfl (HasEach.cons (Has.fl (Has.s rfl)) HasEach.nil)) ?_
    obtain ⟨x7, hx7, hm⟩ := bind_some hm
    refine ws (Step.appendOw (T := [28]) (te' := []) hx7 rfl rfl rfl ow102 (Has.s rfl) (Has.s rfl) ElKeeps.flat ElKeeps.flat) ?_
    refine wo (Spec.assign (Has.s rfl)) ?_
    refine Walk.nil ?_
    refine Leaf.blockN ?_
    refine Leaf.thenN ?_
    refine CWalk.region ?_
    refine wo (Spec.addI (Has.s rfl) Has.int) ?_
    refine mv ?_
    refine Walk.nil ?_
    exact Leaf.next hm (su (sn (Sub.cons (Has.cv (Has.s rfl) (Cv.owF (T := [28]) (te := []) rfl)) (su (st (st (sf (sf (sf (sf (sf (sf (sf (sf (sf (sf (sn Sub.nil)))))))))))))))))
  ·have hm := cond_f hb hm
   refine CWalk.exit ?_
   refine Leaf.thenE ?_
   exact Leaf.brk hm (fun h => nomatch h) rfl (su (sn (Sub.cons (Has.cv (Has.s rfl) (Cv.owF (T := [28]) (te := []) rfl)) (sf (sf (sf (sf (sf (sf (sf (sf (sf (sf (sn Sub.nil))))))))))))))
 ·intro _
  rcases b8 with b9 | b23
  ·have hm := selim_l hm
   refine Leaf.blockE ?_
   refine Leaf.thenN ?_
   refine CWalk.seq ?_
   obtain ⟨x10, hx10, hm⟩ := bind_some hm
   obtain ⟨x11, hx11, hm⟩ := bind_some hm
   obtain ⟨x12, hx12, hm⟩ := bind_some hm
   obtain ⟨x13, hx13, hm⟩ := bind_some hm
   obtain ⟨x14, hx14, hm⟩ := bind_some hm
   obtain ⟨x15, hx15, hm⟩ := bind_some hm
   obtain ⟨x16, hx16, hm⟩ := bind_some hm
   obtain ⟨x17, hx17, hm⟩ := bind_some hm
   obtain ⟨x18, hx18, hm⟩ := bind_some hm
   obtain ⟨x19, hx19, hm⟩ := bind_some hm
   refine CWalk.drawM [[], [0], [0, 1], [0, 1, 2], [], [4], [4, 5], [4, 5, 6], [], [8], [8, 9], [], [11], [11, 12], [], [14], [14, 15], [], [17], [17, 18], [], [20], [20, 21], [], [23], [23, 24], [], [26], [26, 27], [], [29], [29, 30], [29, 30, 31], [0, 1, 2, 3, 4, 5, 6, 7, 8, 9, 10, 11, 12, 13, 14, 15, 16, 17, 18, 19, 20, 21, 22, 23, 24, 25, 26, 27, 28, 29, 30, 31, 32], [], [0, 1, 2, 3, 4, 5, 6, 7, 8, 9, 10, 11, 12, 13, 14, 15, 16, 17, 18, 19, 20, 21, 22, 23, 24, 25, 26, 27, 28, 29, 30, 31, 32, 33, 34]] [[.fact 37 (.ow [28] [] 3 (b9 : List Int))], [.fact 38 (.pts [28] [] (x10 : Int))], [.fact 39 (.rep [] (x10 : Int))], [.fact 40 (.rep [] ((scW.of x10) : UInt32))], [.fact 41 (.ow [28] [] 3 (b9 : List Int))], [.fact 42 (.pts [28] [] (x11 : Int))], [.fact 43 (.rep [] (x11 : Int))], [.fact 44 (.rep [] ((scW.of x11) : UInt32))], [.fact 45 (.ow [28] [] 3 (b9 : List Int))], [.fact 46 (.pts [28] [] (x12 : Int))], [.fact 47 (.rep [] (x12 : Int))], [.fact 48 (.ow [28] [] 3 (b9 : List Int))], [.fact 49 (.pts [28] [] (x13 : Int))], [.fact 50 (.rep [] (x13 : Int))], [.fact 51 (.ow [28] [] 3 (b9 : List Int))], [.fact 52 (.pts [28] [] (x14 : Int))], [.fact 53 (.rep [] (x14 : Int))], [.fact 54 (.ow [28] [] 3 (b9 : List Int))], [.fact 55 (.pts [28] [] (x15 : Int))], [.fact 56 (.rep [] (x15 : Int))], [.fact 57 (.ow [28] [] 3 (b9 : List Int))], [.fact 58 (.pts [28] [] (x16 : Int))], [.fact 59 (.rep [] (x16 : Int))], [.fact 60 (.ow [28] [] 3 (b9 : List Int))], [.fact 61 (.pts [28] [] (x17 : Int))], [.fact 62 (.rep [] (x17 : Int))], [.fact 63 (.ow [28] [] 3 (b9 : List Int))], [.fact 64 (.pts [28] [] (x18 : Int))], [.fact 65 (.rep [] (x18 : Int))], [.fact 66 (.ow [28] [] 3 (b9 : List Int))], [.fact 67 (.pts [28] [] (x19 : Int))], [.fact 68 (.rep [] (x19 : Int))], [.fact 69 (.rep [] ((x19 == (1 : Int)) : Bool))], [.fact 70 (.flds [(false, 1, Fact.rep [] ((scW.of x10) : UInt32)), (false, 1, Fact.rep [] ((scW.of x11) : UInt32)), (false, 1, Fact.rep [] (x12 : Int)), (false, 1, Fact.rep [] (x13 : Int)), (false, 1, Fact.rep [] (x14 : Int)), (false, 1, Fact.rep [] (x15 : Int)), (false, 1, Fact.rep [] (x16 : Int)), (false, 1, Fact.rep [] (x17 : Int)), (false, 1, Fact.rep [] (x18 : Int)), (false, 1, Fact.rep [] ((x19 == (1 : Int)) : Bool))])], [.fact 9 (.isv 29), .fact 100029 (.obj 29 [(false, 1), (false, 1), (false, 1), (false, 1), (false, 1), (false, 1), (false, 1), (false, 1), (false, 1), (false, 1)]), .fact 100030 (.at 30 (.rep [] ((0 : UInt32) : UInt32))), .fact 100031 (.at 31 (.rep [] ((0 : UInt32) : UInt32))), .fact 100032 (.at 32 (.rep [] ((0 : Int) : Int))), .fact 100033 (.at 33 (.rep [] ((0 : Int) : Int))), .fact 100034 (.at 34 (.rep [] ((0 : Int) : Int))), .fact 100035 (.at 35 (.rep [] ((0 : Int) : Int))), .fact 100036 (.at 36 (.rep [] ((0 : Int) : Int))), .fact 100037 (.at 37 (.rep [] ((0 : Int) : Int))), .fact 100038 (.at 38 (.rep [] ((0 : Int) : Int))), .fact 100039 (.at 39 (.rep [] (false : Bool))), .killId 29, .killId 30, .killId 31, .killId 32, .killId 33, .killId 34, .killId 35, .killId 36, .killId 37, .killId 38, .killId 39], [.fact 100029 (.obj 29 [(false, 1), (false, 1), (false, 1), (false, 1), (false, 1), (false, 1), (false, 1), (false, 1), (false, 1), (false, 1)]), .fact 100030 (.at 30 (.rep [] ((scW.of x10) : UInt32))), .fact 100031 (.at 31 (.rep [] ((scW.of x11) : UInt32))), .fact 100032 (.at 32 (.rep [] (x12 : Int))), .fact 100033 (.at 33 (.rep [] (x13 : Int))), .fact 100034 (.at 34 (.rep [] (x14 : Int))), .fact 100035 (.at 35 (.rep [] (x15 : Int))), .fact 100036 (.at 36 (.rep [] (x16 : Int))), .fact 100037 (.at 37 (.rep [] (x17 : Int))), .fact 100038 (.at 38 (.rep [] (x18 : Int))), .fact 100039 (.at 39 (.rep [] ((x19 == (1 : Int)) : Bool))), .kill 29, .killId 30, .killId 31, .killId 32, .killId 33, .killId 34, .killId 35, .killId 36, .killId 37, .killId 38, .killId 39]] mixed (by kernel_rfl) (ao (so (Spec.move (Has.s rfl))) (ao (so (Spec.indexSl hx10 sl102 (Has.cv (Has.s rfl) Cv.owSl) Has.int)) (ao (so ((Spec.loadS ty3 (Has.s rfl)).flat (T' := []))) (ao (so (Spec.conv (α := Int) (β := UInt32) Try.underlying3 Try.underlying22 (Has.s rfl))) (ao (so (Spec.move (Has.s rfl))) (ao (so (Spec.indexSl hx11 sl102 (Has.cv (Has.s rfl) Cv.owSl) Has.int)) (ao (so ((Spec.loadS ty3 (Has.s rfl)).flat (T' := []))) (ao (so (Spec.conv (α := Int) (β := UInt32) Try.underlying3 Try.underlying22 (Has.s rfl))) (ao (so (Spec.move (Has.s rfl))) (ao (so (Spec.indexSl hx12 sl102 (Has.cv (Has.s rfl) Cv.owSl) Has.int)) (ao (so ((Spec.loadS ty3 (Has.s rfl)).flat (T' := []))) (ao (so (Spec.move (Has.s rfl))) (ao (so (Spec.indexSl hx13 sl102 (Has.cv (Has.s rfl) Cv.owSl) Has.int)) (ao (so ((Spec.loadS ty3 (Has.s rfl)).flat (T' := []))) (ao (so (Spec.move (Has.s rfl))) (ao (so (Spec.indexSl hx14 sl102 (Has.cv (Has.s rfl) Cv.owSl) Has.int)) (ao (so ((Spec.loadS ty3 (Has.s rfl)).flat (T' := []))) (ao (so (Spec.move (Has.s rfl))) (ao (so (Spec.indexSl hx15 sl102 (Has.cv (Has.s rfl) Cv.owSl) Has.int)) (ao (so ((Spec.loadS ty3 (Has.s rfl)).flat (T' := []))) (ao (so (Spec.move (Has.s rfl))) (ao (so (Spec.indexSl hx16 sl102 (Has.cv (Has.s rfl) Cv.owSl) Has.int)) (ao (so ((Spec.loadS ty3 (Has.s rfl)).flat (T' := []))) (ao (so (Spec.move (Has.s rfl))) (ao (so (Spec.indexSl hx17 sl102 (Has.cv (Has.s rfl) Cv.owSl) Has.int)) (ao (so ((Spec.loadS ty3 (Has.s rfl)).flat (T' := []))) (ao (so (Spec.move (Has.s rfl))) (ao (so (Spec.indexSl hx18 sl102 (Has.cv (Has.s rfl) Cv.owSl) Has.int)) (ao (so ((Spec.loadS ty3 (Has.s rfl)).flat (T' := []))) (ao (so (Spec.move (Has.s rfl))) (ao (so (Spec.indexSl hx19 sl102 (Has.cv (Has.s rfl) Cv.owSl) Has.int)) (ao (so ((Spec.loadS ty3 (Has.s rfl)).flat (T' := []))) (ao (so (Spec.eqlI (Has.s rfl) Has.int)) (ao (so (Spec.build (us := [(0, .tmp 40), (1, .tmp 44), (2, .tmp 47), (3, .tmp 50), (4, .tmp 53), (5, .tmp 56), (6, .tmp 59), (7, .tmp 62), (8, .tmp 65), (9, .tmp 69)]) (ls' := [(false, 1, Fact.rep [] ((scW.of x10) : UInt32)), (false, 1, Fact.rep [] ((scW.of x11) : UInt32)), (false, 1, Fact.rep [] (x12 : Int)), (false, 1, Fact.rep [] (x13 : Int)), (false, 1, Fact.rep [] (x14 : Int)), (false, 1, Fact.rep [] (x15 : Int)), (false, 1, Fact.rep [] (x16 : Int)), (false, 1, Fact.rep [] (x17 : Int)), (false, 1, Fact.rep [] (x18 : Int)), (false, 1, Fact.rep [] ((x19 == (1 : Int)) : Bool))]) bd71 rfl (BP.cons rfl rfl (Has.s rfl) (Has.s rfl) (BP.cons rfl rfl (Has.s rfl) (Has.s rfl) (BP.cons rfl rfl (Has.s rfl) (Has.s rfl) (BP.cons rfl rfl (Has.s rfl) (Has.s rfl) (BP.cons rfl rfl (Has.s rfl) (Has.s rfl) (BP.cons rfl rfl (Has.s rfl) (Has.s rfl) (BP.cons rfl rfl (Has.s rfl) (Has.s rfl) (BP.cons rfl rfl (Has.s rfl) (Has.s rfl) (BP.cons rfl rfl (Has.s rfl) (Has.s rfl) (BP.cons rfl rfl (Has.s rfl) (Has.s rfl) BP.nil)))))))))))) (ao (StepG.stE (Step.allocObj (ls := [(false, 1, Fact.rep [] ((0 : UInt32) : UInt32)), (false, 1, Fact.rep [] ((0 : UInt32) : UInt32)), (false, 1, Fact.rep [] ((0 : Int) : Int)), (false, 1, Fact.rep [] ((0 : Int) : Int)), (false, 1, Fact.rep [] ((0 : Int) : Int)), (false, 1, Fact.rep [] ((0 : Int) : Int)), (false, 1, Fact.rep [] ((0 : Int) : Int)), (false, 1, Fact.rep [] ((0 : Int) : Int)), (false, 1, Fact.rep [] ((0 : Int) : Int)), (false, 1, Fact.rep [] (false : Bool))]) 29 rfl rfl rfl rfl zl71)) (ao (StepG.stE (Step.storeObj (ls := [(false, 1, Fact.rep [] ((scW.of x10) : UInt32)), (false, 1, Fact.rep [] ((scW.of x11) : UInt32)), (false, 1, Fact.rep [] (x12 : Int)), (false, 1, Fact.rep [] (x13 : Int)), (false, 1, Fact.rep [] (x14 : Int)), (false, 1, Fact.rep [] (x15 : Int)), (false, 1, Fact.rep [] (x16 : Int)), (false, 1, Fact.rep [] (x17 : Int)), (false, 1, Fact.rep [] (x18 : Int)), (false, 1, Fact.rep [] ((x19 == (1 : Int)) : Bool))]) rfl ty71 rfl rfl (Has.s rfl) rfl (HasL.flds (Has.s rfl)) rfl)) AllM.nil)))))))))))))))))))))))))))))))))))) ?_
   refine Leaf.thenN ?_
   refine CWalk.seqJ (fun p : Int => [.fact 0 (.rep [0] (a0 : List UInt8)), .fact 2 (.isv 10), .fact 9 (.isv 29), .fact 100011 (.at 11 (.rep [] ((0 : UInt32) : UInt32))), .fact 100012 (.at 12 (.rep [] ((0 : UInt32) : UInt32))), .fact 100013 (.at 13 (.rep [] ((0 : Int) : Int))), .fact 100014 (.at 14 (.rep [] ((0 : Int) : Int))), .fact 100015 (.at 15 (.rep [] ((0 : Int) : Int))), .fact 100016 (.at 16 (.rep [] ((0 : Int) : Int))), .fact 100017 (.at 17 (.rep [] ((0 : Int) : Int))), .fact 100018 (.at 18 (.rep [] ((0 : Int) : Int))), .fact 100019 (.at 19 (.rep [] ((0 : Int) : Int))), .fact 100020 (.at 20 (.rep [] (false : Bool))), .fact 100030 (.at 30 (.rep [] ((scW.of x10) : UInt32))), .fact 100031 (.at 31 (.rep [] ((scW.of x11) : UInt32))), .fact 100032 (.at 32 (.rep [] (x12 : Int))), .fact 100033 (.at 33 (.rep [] (x13 : Int))), .fact 100034 (.at 34 (.rep [] (x14 : Int))), .fact 100035 (.at 35 (.rep [] (x15 : Int))), .fact 100036 (.at 36 (.rep [] (x16 : Int))), .fact 100037 (.at 37 (.rep [] (p : Int))), .fact 100038 (.at 38 (.rep [] (x18 : Int))), .fact 100039 (.at 39 (.rep [] ((x19 == (1 : Int)) : Bool))), .fact 100010 (.obj 10 [(false, 1), (false, 1), (false, 1), (false, 1), (false, 1), (false, 1), (false, 1), (false, 1), (false, 1), (false, 1)]), .fact 100029 (.obj 29 [(false, 1), (false, 1), (false, 1), (false, 1), (false, 1), (false, 1), (false, 1), (false, 1), (false, 1), (false, 1)])]) (fun p : Int => label_Read_J2 a0 x10 x11 x12 x13 x14 x15 x16 x18 x19 p = some r) ?_ ?_
   ·rintro j20 hm
    replace hm : label_Read_J2 a0 x10 x11 x12 x13 x14 x15 x16 x18 x19 j20 = some r := hm
    unfold label_Read_J2 at hm
    show CWalk _ [.fact 0 (.rep [0] (a0 : List UInt8)), .fact 2 (.isv 10), .fact 9 (.isv 29), .fact 100011 (.at 11 (.rep [] ((0 : UInt32) : UInt32))), .fact 100012 (.at 12 (.rep [] ((0 : UInt32) : UInt32))), .fact 100013 (.at 13 (.rep [] ((0 : Int) : Int))), .fact 100014 (.at 14 (.rep [] ((0 : Int) : Int))), .fact 100015 (.at 15 (.rep [] ((0 : Int) : Int))), .fact 100016 (.at 16 (.rep [] ((0 : Int) : Int))), .fact 100017 (.at 17 (.rep [] ((0 : Int) : Int))), .fact 100018 (.at 18 (.rep [] ((0 : Int) : Int))), .fact 100019 (.at 19 (.rep [] ((0 : Int) : Int))), .fact 100020 (.at 20 (.rep [] (false : Bool))), .fact 100030 (.at 30 (.rep [] ((scW.of x10) : UInt32))), .fact 100031 (.at 31 (.rep [] ((scW.of x11) : UInt32))), .fact 100032 (.at 32 (.rep [] (x12 : Int))), .fact 100033 (.at 33 (.rep [] (x13 : Int))), .fact 100034 (.at 34 (.rep [] (x14 : Int))), .fact 100035 (.at 35 (.rep [] (x15 : Int))), .fact 100036 (.at 36 (.rep [] (x16 : Int))), .fact 100037 (.at 37 (.rep [] (j20 : Int))), .fact 100038 (.at 38 (.rep [] (x18 : Int))), .fact 100039 (.at 39 (.rep [] ((x19 == (1 : Int)) : Bool))), .fact 100010 (.obj 10 [(false, 1), (false, 1), (false, 1), (false, 1), (false, 1), (false, 1), (false, 1), (false, 1), (false, 1), (false, 1)]), .fact 100029 (.obj 29 [(false, 1), (false, 1), (false, 1), (false, 1), (false, 1), (false, 1), (false, 1), (false, 1), (false, 1), (false, 1)])] _ _
    refine CWalk.seq ?_
    refine CWalk.seq ?_
    refine CWalk.region ?_
    refine wo (Spec.loadObj (ls := [(false, 1, Fact.rep [] ((scW.of x10) : UInt32)), (false, 1, Fact.rep [] ((scW.of x11) : UInt32)), (false, 1, Fact.rep [] (x12 : Int)), (false, 1, Fact.rep [] (x13 : Int)), (false, 1, Fact.rep [] (x14 : Int)), (false, 1, Fact.rep [] (x15 : Int)), (false, 1, Fact.rep [] (x16 : Int)), (false, 1, Fact.rep [] (j20 : Int)), (false, 1, Fact.rep [] (x18 : Int)), (false, 1, Fact.rep [] ((x19 == (1 : Int)) : Bool))]) ty71 rfl rfl (Has.s rfl) rfl (HasGs.cons (HasG.s rfl) (HasGs.cons (HasG.s rfl) (HasGs.cons (HasG.s rfl) (HasGs.cons (HasG.s rfl) (HasGs.cons (HasG.s rfl) (HasGs.cons (HasG.s rfl) (HasGs.cons (HasG.s rfl) (HasGs.cons (HasG.s rfl) (HasGs.cons (HasG.s rfl) (HasGs.cons (HasG.s rfl) HasGs.nil))))))))))) ?_
    obtain ⟨x21, hx21, hm⟩ := bind_some hm
    refine wo (f := Fact.tup2 (Fact.sl [40] [] (x21.1 : List UInt8)) (Fact.rep [] x21.2)) (Spec.callE [] 40 rfl en41 (label_Write_c (Label.mk (scW.of x10) (scW.of x11) x12 x13 x14 x15 x16 j20 x18 (x19 == (1 : Int))) hx21) (HasAll.cons (Has.fl (Has.cv (Has.s rfl) (Cv.trans (Cv.flds (CvL.cons Cv.fl (CvL.cons Cv.fl (CvL.cons Cv.fl (CvL.cons Cv.fl (CvL.cons Cv.fl (CvL.cons Cv.fl (CvL.cons Cv.fl (CvL.cons Cv.fl (CvL.cons Cv.fl (CvL.cons Cv.fl CvL.nil))))))))))) (Cv.close (T := []) (chLabel (Label.mk (scW.of x10) (scW.of x11) x12 x13 x14 x15 x16 j20 x18 (x19 == (1 : Int)))))))) HasAll.nil)) ?_
    refine mv ?_
    refine wo (Spec.ext0 (Has.s rfl)) ?_
    refine wo (Spec.ext1 (Has.s rfl)) ?_
    refine wo (Spec.assign (Has.s rfl)) ?_
    refine wo (Spec.assign (Has.s rfl)) ?_
    refine Walk.nil ?_
    refine Leaf.thenN ?_
    refine CWalk.seq ?_
    refine CWalk.region ?_
    refine mv ?_
    refine wo (Spec.neqI (Has.s rfl) Has.int) ?_
    refine mv ?_
    refine wg rfl rfl (fun hb => Spec.move (Has.s rfl)) ?_
    refine wg rfl rfl (fun hb => Spec.move (Has.s rfl)) ?_
    obtain ⟨x22, hx22, hm⟩ := bind_some hm
    refine wg (f := Fact.rep [] (x22 : Bool)) rfl rfl (fun hb => Spec.callE [0, 40] 41 rfl en52 (bytes_Equal_c x21.1 a0 (gO_t hx22 (not_t hb))) (HasAll.cons (Has.m (Has.cv (Has.u rfl hb) (Cv.slRep (T' := [40]) rfl rfl)) rfl) (HasAll.cons (Has.m (Has.u rfl hb) rfl) HasAll.nil))) ?_
    refine wg rfl rfl (fun hb => Spec.not (Has.u rfl hb)) ?_
    refine wo (Spec.or (Has.s rfl) (fun h => Has.u rfl h)) ?_
    refine Walk.nil ?_
    refine Leaf.thenN ?_
    refine CWalk.cond rfl (fun hb => ?_) (fun hb => ?_)
    ·have hm := cond_t hb hm
     refine CWalk.seq ?_
     refine CWalk.region ?_
     refine wo (Spec.build (us := []) (ls' := [(false, 1, Fact.rep [] ((0 : UInt32) : UInt32)), (false, 1, Fact.rep [] ((0 : UInt32) : UInt32)), (false, 1, Fact.rep [] ((0 : Int) : Int)), (false, 1, Fact.rep [] ((0 : Int) : Int)), (false, 1, Fact.rep [] ((0 : Int) : Int)), (false, 1, Fact.rep [] ((0 : Int) : Int)), (false, 1, Fact.rep [] ((0 : Int) : Int)), (false, 1, Fact.rep [] ((0 : Int) : Int)), (false, 1, Fact.rep [] ((0 : Int) : Int)), (false, 1, Fact.rep [] (false : Bool))]) bd71 rfl BP.nil) ?_
     refine ws (Step.storeObj (ls := [(false, 1, Fact.rep [] ((0 : UInt32) : UInt32)), (false, 1, Fact.rep [] ((0 : UInt32) : UInt32)), (false, 1, Fact.rep [] ((0 : Int) : Int)), (false, 1, Fact.rep [] ((0 : Int) : Int)), (false, 1, Fact.rep [] ((0 : Int) : Int)), (false, 1, Fact.rep [] ((0 : Int) : Int)), (false, 1, Fact.rep [] ((0 : Int) : Int)), (false, 1, Fact.rep [] ((0 : Int) : Int)), (false, 1, Fact.rep [] ((0 : Int) : Int)), (false, 1, Fact.rep [] (false : Bool))]) rfl ty71 rfl rfl (Has.s rfl) rfl (HasL.flds (Has.s rfl)) rfl) ?_
     refine wo (Spec.assign Has.int) ?_
     refine Walk.nil ?_
     refine Leaf.thenN ?_
     refine CWalk.ret ?_
     refine Leaf.thenR ?_
     obtain rfl := Option.some.inj hm
     exact Leaf.retC2 rfl (HasR.cv (HasR.obj (ls := [(false, 1, Fact.rep [] ((0 : UInt32) : UInt32)), (false, 1, Fact.rep [] ((0 : UInt32) : UInt32)), (false, 1, Fact.rep [] ((0 : Int) : Int)), (false, 1, Fact.rep [] ((0 : Int) : Int)), (false, 1, Fact.rep [] ((0 : Int) : Int)), (false, 1, Fact.rep [] ((0 : Int) : Int)), (false, 1, Fact.rep [] ((0 : Int) : Int)), (false, 1, Fact.rep [] ((0 : Int) : Int)), (false, 1, Fact.rep [] ((0 : Int) : Int)), (false, 1, Fact.rep [] (false : Bool))]) ty71 rfl rfl (Has.s rfl) rfl (HasGs.cons (HasG.s rfl) (HasGs.cons (HasG.s rfl) (HasGs.cons (HasG.s rfl) (HasGs.cons (HasG.s rfl) (HasGs.cons (HasG.s rfl) (HasGs.cons (HasG.s rfl) (HasGs.cons (HasG.s rfl) (HasGs.cons (HasG.s rfl) (HasGs.cons (HasG.s rfl) (HasGs.cons (HasG.s rfl) HasGs.nil))))))))))) (Cv.trans (Cv.trans (Cv.flds (CvL.cons Cv.fl (CvL.cons Cv.fl (CvL.cons Cv.fl (CvL.cons Cv.fl (CvL.cons Cv.fl (CvL.cons Cv.fl (CvL.cons Cv.fl (CvL.cons Cv.fl (CvL.cons Cv.fl (CvL.cons Cv.fl CvL.nil))))))))))) (Cv.close (T := []) (chLabel (Label.mk (0 : UInt32) (0 : UInt32) (0 : Int) (0 : Int) (0 : Int) (0 : Int) (0 : Int) (0 : Int) (0 : Int) false)))) Cv.fl)) (HasR.cv (HasR.tmp (Has.s rfl)) Cv.fl)
    ·have hm := cond_f hb hm
     refine CWalk.skip ?_
     refine Leaf.thenN ?_
     refine CWalk.seq ?_
     refine CWalk.region ?_
     refine wo (Spec.loadObj (ls := [(false, 1, Fact.rep [] ((scW.of x10) : UInt32)), (false, 1, Fact.rep [] ((scW.of x11) : UInt32)), (false, 1, Fact.rep [] (x12 : Int)), (false, 1, Fact.rep [] (x13 : Int)), (false, 1, Fact.rep [] (x14 : Int)), (false, 1, Fact.rep [] (x15 : Int)), (false, 1, Fact.rep [] (x16 : Int)), (false, 1, Fact.rep [] (j20 : Int)), (false, 1, Fact.rep [] (x18 : Int)), (false, 1, Fact.rep [] ((x19 == (1 : Int)) : Bool))]) ty71 rfl rfl (Has.s rfl) rfl (HasGs.cons (HasG.s rfl) (HasGs.cons (HasG.s rfl) (HasGs.cons (HasG.s rfl) (HasGs.cons (HasG.s rfl) (HasGs.cons (HasG.s rfl) (HasGs.cons (HasG.s rfl) (HasGs.cons (HasG.s rfl) (HasGs.cons (HasG.s rfl) (HasGs.cons (HasG.s rfl) (HasGs.cons (HasG.s rfl) HasGs.nil))))))))))) ?_
     refine ws (Step.storeObj (ls := [(false, 1, Fact.rep [] ((scW.of x10) : UInt32)), (false, 1, Fact.rep [] ((scW.of x11) : UInt32)), (false, 1, Fact.rep [] (x12 : Int)), (false, 1, Fact.rep [] (x13 : Int)), (false, 1, Fact.rep [] (x14 : Int)), (false, 1, Fact.rep [] (x15 : Int)), (false, 1, Fact.rep [] (x16 : Int)), (false, 1, Fact.rep [] (j20 : Int)), (false, 1, Fact.rep [] (x18 : Int)), (false, 1, Fact.rep [] ((x19 == (1 : Int)) : Bool))]) rfl ty71 rfl rfl (Has.s rfl) rfl (HasL.flds (Has.s rfl)) rfl) ?_
     refine wo (Spec.assign Has.int) ?_
     refine Walk.nil ?_
     refine Leaf.thenN ?_
     refine CWalk.ret ?_
     obtain rfl := Option.some.inj hm
     exact Leaf.retC2 rfl (HasR.cv (HasR.obj (ls := [(false, 1, Fact.rep [] ((scW.of x10) : UInt32)), (false, 1, Fact.rep [] ((scW.of x11) : UInt32)), (false, 1, Fact.rep [] (x12 : Int)), (false, 1, Fact.rep [] (x13 : Int)), (false, 1, Fact.rep [] (x14 : Int)), (false, 1, Fact.rep [] (x15 : Int)), (false, 1, Fact.rep [] (x16 : Int)), (false, 1, Fact.rep [] (j20 : Int)), (false, 1, Fact.rep [] (x18 : Int)), (false, 1, Fact.rep [] ((x19 == (1 : Int)) : Bool))]) ty71 rfl rfl (Has.s rfl) rfl (HasGs.cons (HasG.s rfl) (HasGs.cons (HasG.s rfl) (HasGs.cons (HasG.s rfl) (HasGs.cons (HasG.s rfl) (HasGs.cons (HasG.s rfl) (HasGs.cons (HasG.s rfl) (HasGs.cons (HasG.s rfl) (HasGs.cons (HasG.s rfl) (HasGs.cons (HasG.s rfl) (HasGs.cons (HasG.s rfl) HasGs.nil))))))))))) (Cv.trans (Cv.trans (Cv.flds (CvL.cons Cv.fl (CvL.cons Cv.fl (CvL.cons Cv.fl (CvL.cons Cv.fl (CvL.cons Cv.fl (CvL.cons Cv.fl (CvL.cons Cv.fl (CvL.cons Cv.fl (CvL.cons Cv.fl (CvL.cons Cv.fl CvL.nil))))))))))) (Cv.close (T := []) (chLabel (Label.mk (scW.of x10) (scW.of x11) x12 x13 x14 x15 x16 j20 x18 (x19 == (1 : Int)))))) Cv.fl)) (HasR.cv (HasR.tmp (Has.s rfl)) Cv.fl)
   ·refine CWalk.seq ?_
    refine CWalk.region ?_
    refine wo (Spec.fieldAddrO fd71_7 (Has.cv (Has.s rfl) (Cv.isvP rfl))) ?_
    refine wo (Spec.loadF (i := 7) ty3 rfl (Has.s rfl) rfl (HasG.s rfl)) ?_
    refine wo (Spec.eqlI (Has.s rfl) Has.int) ?_
    refine Walk.nil ?_
    refine Leaf.thenN ?_
    refine CWalk.cond rfl (fun hb => ?_) (fun hb => ?_)
    ·have hm := cond_t hb hm
     refine CWalk.region ?_
     refine wo (Spec.fieldAddrO fd71_7 (Has.cv (Has.s rfl) (Cv.isvP rfl))) ?_
     refine ws (Step.storeF (i := 7) (f := Fact.rep [] ((-1 : Int) : Int)) rfl ty3 rfl (Has.s rfl) rfl Has.int Has.int rfl) ?_
     refine Walk.nil ?_
     exact Leaf.join (-1 : Int) hm (su (sn (sn (sf (sf (sf (sf (sf (sf (sf (sf (sf (sf (sf (sf (sf (sf (sf (sf (sf (sf (sf (sf (sn (sn Sub.nil)))))))))))))))))))))))))
    ·have hm := cond_f hb hm
     refine CWalk.skip ?_
     exact Leaf.join x17 hm (su (sn (sn (sf (sf (sf (sf (sf (sf (sf (sf (sf (sf (sf (sf (sf (sf (sf (sf (sf (sf (sf (sf (sn (sn Sub.nil)))))))))))))))))))))))))
  ·have hm := selim_r hm
   refine Leaf.blockR ?_
   refine Leaf.thenR ?_
   obtain rfl := Option.some.inj hm
   exact Leaf.retC2 rfl (HasR.cv (HasR.obj (ls := [(false, 1, Fact.rep [] ((0 : UInt32) : UInt32)), (false, 1, Fact.rep [] ((0 : UInt32) : UInt32)), (false, 1, Fact.rep [] ((0 : Int) : Int)), (false, 1, Fact.rep [] ((0 : Int) : Int)), (false, 1, Fact.rep [] ((0 : Int) : Int)), (false, 1, Fact.rep [] ((0 : Int) : Int)), (false, 1, Fact.rep [] ((0 : Int) : Int)), (false, 1, Fact.rep [] ((0 : Int) : Int)), (false, 1, Fact.rep [] ((0 : Int) : Int)), (false, 1, Fact.rep [] (false : Bool))]) ty71 rfl rfl (Has.s rfl) rfl (HasGs.cons (HasG.s rfl) (HasGs.cons (HasG.s rfl) (HasGs.cons (HasG.s rfl) (HasGs.cons (HasG.s rfl) (HasGs.cons (HasG.s rfl) (HasGs.cons (HasG.s rfl) (HasGs.cons (HasG.s rfl) (HasGs.cons (HasG.s rfl) (HasGs.cons (HasG.s rfl) (HasGs.cons (HasG.s rfl) HasGs.nil))))))))))) (Cv.trans (Cv.trans (Cv.flds (CvL.cons Cv.fl (CvL.cons Cv.fl (CvL.cons Cv.fl (CvL.cons Cv.fl (CvL.cons Cv.fl (CvL.cons Cv.fl (CvL.cons Cv.fl (CvL.cons Cv.fl (CvL.cons Cv.fl (CvL.cons Cv.fl CvL.nil))))))))))) (Cv.close (T := []) (chLabel (Label.mk (0 : UInt32) (0 : UInt32) (0 : Int) (0 : Int) (0 : Int) (0 : Int) (0 : Int) (0 : Int) (0 : Int) false)))) Cv.fl)) (HasR.cv (HasR.tmp (Has.s rfl)) Cv.fl)

end Go.Proofs.Ytgjibgklailenaa
