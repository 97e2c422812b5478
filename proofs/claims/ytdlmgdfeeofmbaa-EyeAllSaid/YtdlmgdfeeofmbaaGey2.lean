/- Printed by a program of ours: models of functions, and that calls do what they say. -/
import Derived.Test.YtdlmgdfeeofmbaaGey1
namespace Go.Proofs.Ytdlmgdfeeofmbaa
open Go GL
set_option linter.unusedVariables false

def law22_EyeAll_J2 (s6 : Int) (j8 : Int) : Option (Ctl (Int × Int) ((Int) ⊕ (Unit))) :=
  some (Ctl.next (j8, (wI (s6 + (1 : Int)))))
def law22_EyeAll_L1 (a0 : Config) (a1 : List Disk) (x3 : (List Int) × Int) (s5 : Int) (s6 : Int) : Option (Ctl (Int × Int) ((Int) ⊕ (Unit))) :=
  (bif (decide (s6 < (wI (a0.Chunk * a0.Rows)))) then Option.bind (eye_Even a0 a1 s6) (fun x9 => (bif (x9.2 != (0 : Int)) then some (Ctl.brk (Sum.inr ())) else (bif x9.1 then (law22_EyeAll_J2 s6 s5) else Option.bind (gO (!(decide (s5 ≥ ((x3.1).length : Int)))) (idx x3.1 s5)) (fun x10 => (bif ((decide (s5 ≥ ((x3.1).length : Int))) || (x10 != s6)) then some (Ctl.brk (Sum.inr ())) else (law22_EyeAll_J2 s6 (wI (s5 + (1 : Int))))))))) else some (Ctl.brk (Sum.inl s5)))
/-- freeboard/freeboardlaw22.EyeAll -/
def law22_EyeAll (a0 : Config) (a1 : List Disk) : Option (Bool) :=
  Option.bind (law22_alive) (fun x1 => Option.bind (ref05_Great a1) (fun x2 => (bif (x2 || (!x1)) then some x1 else Option.bind (eye_Odd a0 a1) (fun x3 => (bif (x3.2 != (0 : Int)) then Option.bind (gO ((x1 && (((x3.1).length : Int) == (0 : Int)))) (eye_Check a0 a1)) (fun x4 => some ((x1 && (((x3.1).length : Int) == (0 : Int))) && (x4 == x3.2))) else Option.bind (loopM (fun s : Int × Int => law22_EyeAll_L1 a0 a1 x3 s.1 s.2) FUEL ((0 : Int), (0 : Int))) (fun b11 => Sum.elim (fun b12 => Option.bind (gO (((x1 && (b12 == ((x3.1).length : Int)))) && (!(b12 == (0 : Int)))) (law22_whole a0 a1)) (fun x13 => some ((x1 && (b12 == ((x3.1).length : Int))) && ((b12 == (0 : Int)) || x13)))) (fun b14 => some false) b11))))))
set_option maxRecDepth 100000 in
set_option maxHeartbeats 2000000 in
theorem law22_EyeAll_c (a0 : Config) (a1 : List Disk) {r : Bool} (hm : law22_EyeAll a0 a1 = some r) : Ctr Try.prog 5 [.rep 0 a0, .rep 0 a1] (.fl r) [] := by
 refine ctr_of_walk [[]] 90 Try.func5 rfl rfl rfl rfl (fun w0 om => ?_)
 unfold law22_EyeAll at hm
 refine CWalk.sub (G' := [.fact 0 (.rep [] (a0 : Config)), .fact 1 (.rep [0] (a1 : List Disk))]) (Sub.cons (Has.fl (Has.s rfl)) (sn Sub.nil)) ?_
 refine CWalk.seq ?_
 refine CWalk.region ?_
 refine ws (Step.boxObj (ls := [(false, 1, Fact.rep [] a0.Id), (false, 1, Fact.rep [] a0.Members), (false, 1, Fact.rep [] a0.Chunk), (false, 1, Fact.rep [] a0.Rows), (false, 1, Fact.rep [] a0.Log), (false, 1, Fact.rep [] a0.Heads)]) 10 rfl rfl rfl rfl (HasL.flds (Has.cv (Has.s rfl) (Cv.trans (Cv.opens (chConfig a0)) (Cv.flds (CvL.cons Cv.fl (CvL.cons Cv.fl (CvL.cons Cv.fl (CvL.cons Cv.fl (CvL.cons Cv.fl (CvL.cons Cv.fl CvL.nil))))))))))) ?_
 refine wo (Spec.assign Has.bool) ?_
 refine Walk.nil ?_
 refine Leaf.thenN ?_
 refine CWalk.seq ?_
 refine CWalk.region ?_
 obtain ⟨x1, hx1, hm⟩ := bind_some hm
 refine wo (f := Fact.rep [] (x1 : Bool)) (Spec.callE [] 17 rfl en18 (law22_alive_c  hx1) HasAll.nil) ?_
 refine wo (Spec.assign (Has.s rfl)) ?_
 refine Walk.nil ?_
 refine Leaf.thenN ?_
 refine CWalk.seq ?_
 refine CWalk.seq ?_
 refine CWalk.region ?_
 refine mv ?_
 obtain ⟨x2, hx2, hm⟩ := bind_some hm
 refine wo (f := Fact.rep [] (x2 : Bool)) (Spec.callE [0] 18 rfl en8 (ref05_Great_c a1 hx2) (HasAll.cons (Has.m (Has.s rfl) rfl) HasAll.nil)) ?_
 refine mv ?_
 refine wg rfl rfl (fun hb => Spec.move (Has.s rfl)) ?_
 refine wg rfl rfl (fun hb => Spec.not (Has.u rfl hb)) ?_
 refine wo (Spec.or (Has.s rfl) (fun h => Has.u rfl h)) ?_
 refine Walk.nil ?_
 refine Leaf.thenN ?_
 refine CWalk.cond rfl (fun hb => ?_) (fun hb => ?_)
 ·have hm := cond_t hb hm
  refine CWalk.seq ?_
  refine CWalk.region ?_
  refine mv ?_
  refine wo (Spec.assign (Has.s rfl)) ?_
  refine Walk.nil ?_
  refine Leaf.thenN ?_
  refine CWalk.ret ?_
  refine Leaf.thenR ?_
  obtain rfl := Option.some.inj hm
  exact Leaf.retC1 rfl (HasR.cv (HasR.tmp (Has.s rfl)) Cv.fl)
 ·have hm := cond_f hb hm
  refine CWalk.skip ?_
  refine Leaf.thenN ?_
  refine CWalk.seq ?_
  refine CWalk.region ?_
  refine wo (Spec.loadObj (ls := [(false, 1, Fact.rep [] a0.Id), (false, 1, Fact.rep [] a0.Members), (false, 1, Fact.rep [] a0.Chunk), (false, 1, Fact.rep [] a0.Rows), (false, 1, Fact.rep [] a0.Log), (false, 1, Fact.rep [] a0.Heads)]) ty24 rfl rfl (Has.s rfl) rfl (HasGs.cons (HasG.s rfl) (HasGs.cons (HasG.s rfl) (HasGs.cons (HasG.s rfl) (HasGs.cons (HasG.s rfl) (HasGs.cons (HasG.s rfl) (HasGs.cons (HasG.s rfl) HasGs.nil))))))) ?_
  refine mv ?_
  obtain ⟨x3, hx3, hm⟩ := bind_some hm
  refine wo (f := Fact.tup2 (Fact.ow [19] [] 3 (x3.1 : List Int)) (Fact.rep [] x3.2)) (Spec.callE [0] 19 rfl en12 (eye_Odd_c a0 a1 hx3) (HasAll.cons (Has.fl (Has.cv (Has.s rfl) (Cv.trans (Cv.flds (CvL.cons Cv.fl (CvL.cons Cv.fl (CvL.cons Cv.fl (CvL.cons Cv.fl (CvL.cons Cv.fl (CvL.cons Cv.fl CvL.nil))))))) (Cv.close (T := []) (chConfig a0))))) (HasAll.cons (Has.m (Has.s rfl) rfl) HasAll.nil))) ?_
  refine mv ?_
  refine wo (Spec.ext0 (Has.s rfl)) ?_
  refine wo (Spec.ext1 (Has.s rfl)) ?_
  refine wo (Spec.assign (Has.s rfl)) ?_
  refine wo (Spec.assign (Has.s rfl)) ?_
  refine Walk.nil ?_
  refine Leaf.thenN ?_
  refine CWalk.seq ?_
  refine CWalk.seq ?_
  refine CWalk.region ?_
  refine mv ?_
  refine wo (Spec.neqI (Has.s rfl) Has.int) ?_
  refine Walk.nil ?_
  refine Leaf.thenN ?_
  refine CWalk.cond rfl (fun hb => ?_) (fun hb => ?_)
  ·have hm := cond_t hb hm
   refine CWalk.seq ?_
   refine CWalk.region ?_
   refine mv ?_
   refine mv ?_
   refine wg rfl rfl (fun hb => Spec.move (Has.s rfl)) ?_
   refine wg rfl rfl (fun hb => Spec.len (Has.cv (Has.u rfl hb) (Cv.trans Cv.owSl (Cv.slRep (T' := [19]) rfl rfl))) Try.underlying33) ?_
   refine wg rfl rfl (fun hb => Spec.eqlI (Has.u rfl hb) Has.int) ?_
   refine wo (Spec.and (Has.s rfl) (fun h => Has.u rfl h)) ?_
   refine mv ?_
   refine wg rfl rfl (fun hb => Spec.loadObj (ls := [(false, 1, Fact.rep [] a0.Id), (false, 1, Fact.rep [] a0.Members), (false, 1, Fact.rep [] a0.Chunk), (false, 1, Fact.rep [] a0.Rows), (false, 1, Fact.rep [] a0.Log), (false, 1, Fact.rep [] a0.Heads)]) ty24 rfl rfl (Has.s rfl) rfl (HasGs.cons (HasG.s rfl) (HasGs.cons (HasG.s rfl) (HasGs.cons (HasG.s rfl) (HasGs.cons (HasG.s rfl) (HasGs.cons (HasG.s rfl) (HasGs.cons (HasG.s rfl) HasGs.nil))))))) ?_
   refine wg rfl rfl (fun hb => Spec.move (Has.s rfl)) ?_
   obtain ⟨x4, hx4, hm⟩ := bind_some hm
   refine wg (f := Fact.rep [] (x4 : Int)) rfl rfl (fun hb => Spec.callE [0] 20 rfl en15 (eye_Check_c a0 a1 (gO_t hx4 hb)) (HasAll.cons (Has.fl (Has.cv (Has.u rfl hb) (Cv.trans (Cv.flds (CvL.cons Cv.fl (CvL.cons Cv.fl (CvL.cons Cv.fl (CvL.cons Cv.fl (CvL.cons Cv.fl (CvL.cons Cv.fl CvL.nil))))))) (Cv.close (T := []) (chConfig a0))))) (HasAll.cons (Has.m (Has.u rfl hb) rfl) HasAll.nil))) ?_
   refine wg rfl rfl (fun hb => Spec.move (Has.s rfl)) ?_
   refine wg rfl rfl (fun hb => Spec.eqlI (Has.u rfl hb) (Has.u rfl hb)) ?_
   refine wo (Spec.and (Has.s rfl) (fun h => Has.u rfl h)) ?_
   refine wo (Spec.assign (Has.s rfl)) ?_
   refine Walk.nil ?_
   refine Leaf.thenN ?_
   refine CWalk.ret ?_
   refine Leaf.thenR ?_
   obtain rfl := Option.some.inj hm
   exact Leaf.retC1 rfl (HasR.cv (HasR.tmp (Has.s rfl)) Cv.fl)
  ·have hm := cond_f hb hm
   refine CWalk.skip ?_
   refine Leaf.thenN ?_
   refine CWalk.seq ?_
   refine CWalk.region ?_
   refine wo (Spec.assign Has.int) ?_
   refine Walk.nil ?_
   refine Leaf.thenN ?_
   refine CWalk.seq ?_
   refine CWalk.seq ?_
   refine CWalk.region ?_
   refine wo (Spec.assign Has.int) ?_
   refine Walk.nil ?_
   refine Leaf.thenN ?_
   refine CWalk.block ?_
   obtain ⟨b11, hb11, hm⟩ := bind_some hm
   refine CWalk.loop (fun s : Int × Int => [.fact 1 (.rep [0] (a1 : List Disk)), .fact 2 (.isv 10), .fact 5 (.rep [] (x1 : Bool)), .fact 6 (.ow [19] [] 3 (x3.1 : List Int)), .fact 8 (.rep [] s.1), .fact 9 (.rep [] s.2), .fact 100011 (.at 11 (.rep [] a0.Id)), .fact 100012 (.at 12 (.rep [] a0.Members)), .fact 100013 (.at 13 (.rep [] a0.Chunk)), .fact 100014 (.at 14 (.rep [] a0.Rows)), .fact 100015 (.at 15 (.rep [] a0.Log)), .fact 100016 (.at 16 (.rep [] a0.Heads)), .fact 100010 (.obj 10 [(false, 1), (false, 1), (false, 1), (false, 1), (false, 1), (false, 1)])]) (fun b : (Int) ⊕ (Unit) => Sum.elim (fun b => (Exit.exit 0, [.fact 1 (.rep [0] (a1 : List Disk)), .fact 2 (.isv 10), .fact 5 (.rep [] (x1 : Bool)), .fact 6 (.ow [19] [] 3 (x3.1 : List Int)), .fact 8 (.rep [] (b : Int)), .fact 100011 (.at 11 (.rep [] a0.Id)), .fact 100012 (.at 12 (.rep [] a0.Members)), .fact 100013 (.at 13 (.rep [] a0.Chunk)), .fact 100014 (.at 14 (.rep [] a0.Rows)), .fact 100015 (.at 15 (.rep [] a0.Log)), .fact 100016 (.at 16 (.rep [] a0.Heads)), .fact 100010 (.obj 10 [(false, 1), (false, 1), (false, 1), (false, 1), (false, 1), (false, 1)])])) (fun b => (Exit.ret, [.fact 4 (.rep [] (false : Bool))])) b) hb11 (su (sn (st (Sub.cons (Has.cv (Has.s rfl) (Cv.owF (T := [19]) (te := []) rfl)) (st (st (sf (sf (sf (sf (sf (sf (sn Sub.nil))))))))))))) ?_ ?_
   ·rintro ⟨s5, s6⟩ c7 hm
    replace hm : law22_EyeAll_L1 a0 a1 x3 s5 s6 = some c7 := hm
    unfold law22_EyeAll_L1 at hm
    show CWalk _ [.fact 1 (.rep [0] (a1 : List Disk)), .fact 2 (.isv 10), .fact 5 (.rep [] (x1 : Bool)), .fact 6 (.ow [19] [] 3 (x3.1 : List Int)), .fact 8 (.rep [] (s5 : Int)), .fact 9 (.rep [] (s6 : Int)), .fact 100011 (.at 11 (.rep [] a0.Id)), .fact 100012 (.at 12 (.rep [] a0.Members)), .fact 100013 (.at 13 (.rep [] a0.Chunk)), .fact 100014 (.at 14 (.rep [] a0.Rows)), .fact 100015 (.at 15 (.rep [] a0.Log)), .fact 100016 (.at 16 (.rep [] a0.Heads)), .fact 100010 (.obj 10 [(false, 1), (false, 1), (false, 1), (false, 1), (false, 1), (false, 1)])] _ _
    refine CWalk.seq ?_
    refine CWalk.seq ?_
    refine CWalk.region ?_
    refine mv ?_
    refine wo (Spec.fieldAddrO fd24_2 (Has.cv (Has.s rfl) (Cv.isvP rfl))) ?_
    refine wo (Spec.loadF (i := 2) ty3 rfl (Has.s rfl) rfl (HasG.s rfl)) ?_
    refine wo (Spec.fieldAddrO fd24_3 (Has.cv (Has.s rfl) (Cv.isvP rfl))) ?_
    refine wo (Spec.loadF (i := 3) ty3 rfl (Has.s rfl) rfl (HasG.s rfl)) ?_
    refine wo (Spec.mulI (Has.s rfl) (Has.s rfl)) ?_
    refine wo (Spec.lssI (Has.s rfl) (Has.s rfl)) ?_
    refine Walk.nil ?_
    refine Leaf.thenN ?_
    refine CWalk.cond rfl (fun hb => ?_) (fun hb => ?_)
    ·have hm := cond_t hb hm
     refine CWalk.skip ?_
     refine Leaf.thenN ?_
     refine CWalk.seqJ (fun p : Int => [.fact 1 (.rep [0] (a1 : List Disk)), .fact 2 (.isv 10), .fact 5 (.rep [] (x1 : Bool)), .fact 6 (.ow [19] [] 3 (x3.1 : List Int)), .fact 8 (.rep [] (p : Int)), .fact 9 (.rep [] (s6 : Int)), .fact 100011 (.at 11 (.rep [] a0.Id)), .fact 100012 (.at 12 (.rep [] a0.Members)), .fact 100013 (.at 13 (.rep [] a0.Chunk)), .fact 100014 (.at 14 (.rep [] a0.Rows)), .fact 100015 (.at 15 (.rep [] a0.Log)), .fact 100016 (.at 16 (.rep [] a0.Heads)), .fact 100010 (.obj 10 [(false, 1), (false, 1), (false, 1), (false, 1), (false, 1), (false, 1)])]) (fun p : Int => law22_EyeAll_J2 s6 p = some c7) ?_ ?_
     ·rintro j8 hm
      replace hm : law22_EyeAll_J2 s6 j8 = some c7 := hm
      unfold law22_EyeAll_J2 at hm
      show CWalk _ [.fact 1 (.rep [0] (a1 : List Disk)), .fact 2 (.isv 10), .fact 5 (.rep [] (x1 : Bool)), .fact 6 (.ow [19] [] 3 (x3.1 : List Int)), .fact 8 (.rep [] (j8 : Int)), .fact 9 (.rep [] (s6 : Int)), .fact 100011 (.at 11 (.rep [] a0.Id)), .fact 100012 (.at 12 (.rep [] a0.Members)), .fact 100013 (.at 13 (.rep [] a0.Chunk)), .fact 100014 (.at 14 (.rep [] a0.Rows)), .fact 100015 (.at 15 (.rep [] a0.Log)), .fact 100016 (.at 16 (.rep [] a0.Heads)), .fact 100010 (.obj 10 [(false, 1), (false, 1), (false, 1), (false, 1), (false, 1), (false, 1)])] _ _
      refine CWalk.region ?_
      refine mv ?_
      refine wo (Spec.addI (Has.s rfl) Has.int) ?_
      refine wo (Spec.assign (Has.s rfl)) ?_
      refine Walk.nil ?_
      exact Leaf.next hm (su (sn (st (Sub.cons (Has.cv (Has.s rfl) (Cv.owF (T := [19]) (te := []) rfl)) (st (st (sf (sf (sf (sf (sf (sf (sn Sub.nil)))))))))))))
     ·refine CWalk.block ?_
      refine CWalk.seq ?_
      refine CWalk.region ?_
      refine wo (Spec.loadObj (ls := [(false, 1, Fact.rep [] a0.Id), (false, 1, Fact.rep [] a0.Members), (false, 1, Fact.rep [] a0.Chunk), (false, 1, Fact.rep [] a0.Rows), (false, 1, Fact.rep [] a0.Log), (false, 1, Fact.rep [] a0.Heads)]) ty24 rfl rfl (Has.s rfl) rfl (HasGs.cons (HasG.s rfl) (HasGs.cons (HasG.s rfl) (HasGs.cons (HasG.s rfl) (HasGs.cons (HasG.s rfl) (HasGs.cons (HasG.s rfl) (HasGs.cons (HasG.s rfl) HasGs.nil))))))) ?_
      refine mv ?_
      refine mv ?_
      obtain ⟨x9, hx9, hm⟩ := bind_some hm
      refine wo (f := Fact.tup2 (Fact.rep [] x9.1) (Fact.rep [] x9.2)) (Spec.callE [0] 21 rfl en10 (eye_Even_c a0 a1 s6 hx9) (HasAll.cons (Has.fl (Has.cv (Has.s rfl) (Cv.trans (Cv.flds (CvL.cons Cv.fl (CvL.cons Cv.fl (CvL.cons Cv.fl (CvL.cons Cv.fl (CvL.cons Cv.fl (CvL.cons Cv.fl CvL.nil))))))) (Cv.close (T := []) (chConfig a0))))) (HasAll.cons (Has.m (Has.s rfl) rfl) (HasAll.cons (Has.fl (Has.s rfl)) HasAll.nil)))) ?_
      refine mv ?_
      refine wo (Spec.ext0 (Has.s rfl)) ?_
      refine wo (Spec.ext1 (Has.s rfl)) ?_
      refine wo (Spec.assign (Has.s rfl)) ?_
      refine wo (Spec.assign (Has.s rfl)) ?_
      refine Walk.nil ?_
      refine Leaf.thenN ?_
      refine CWalk.seq ?_
      refine CWalk.seq ?_
      refine CWalk.region ?_
      refine mv ?_
      refine wo (Spec.neqI (Has.s rfl) Has.int) ?_
      refine Walk.nil ?_
      refine Leaf.thenN ?_
      refine CWalk.cond rfl (fun hb => ?_) (fun hb => ?_)
      ·have hm := cond_t hb hm
       refine CWalk.seq ?_
       refine CWalk.region ?_
       refine wo (Spec.assign Has.bool) ?_
       refine Walk.nil ?_
       refine Leaf.thenN ?_
       refine CWalk.ret ?_
       refine Leaf.thenR ?_
       refine Leaf.blockR ?_
       refine Leaf.thenR ?_
       exact Leaf.brk hm (fun h => nomatch h) rfl (st Sub.nil)
      ·have hm := cond_f hb hm
       refine CWalk.skip ?_
       refine Leaf.thenN ?_
       refine CWalk.seq ?_
       refine CWalk.seq ?_
       refine CWalk.region ?_
       refine mv ?_
       refine Walk.nil ?_
       refine Leaf.thenN ?_
       refine CWalk.cond rfl (fun hb => ?_) (fun hb => ?_)
       ·have hm := cond_t hb hm
        refine CWalk.exit ?_
        refine Leaf.thenE ?_
        refine Leaf.blockE ?_
        exact Leaf.join s5 hm (su (sn (st (Sub.cons (Has.cv (Has.s rfl) (Cv.owF (T := [19]) (te := []) rfl)) (st (st (sf (sf (sf (sf (sf (sf (sn Sub.nil)))))))))))))
       ·have hm := cond_f hb hm
        refine CWalk.skip ?_
        refine Leaf.thenN ?_
        refine CWalk.seq ?_
        refine CWalk.seq ?_
        refine CWalk.region ?_
        refine mv ?_
        refine mv ?_
        refine wo (Spec.len (Has.cv (Has.s rfl) (Cv.trans Cv.owSl (Cv.slRep (T' := [19]) rfl rfl))) Try.underlying33) ?_
        refine wo (Spec.geqI (Has.s rfl) (Has.s rfl)) ?_
        refine mv ?_
        refine wg rfl rfl (fun hb => Spec.move (Has.s rfl)) ?_
        refine wg rfl rfl (fun hb => Spec.move (Has.s rfl)) ?_
        obtain ⟨x10, hx10, hm⟩ := bind_some hm
        refine wg rfl rfl (fun hb => Spec.indexSl (gO_t hx10 (not_t hb)) sl33 (Has.cv (Has.u rfl hb) Cv.owSl) (Has.u rfl hb)) ?_
        refine wg rfl rfl (fun hb => (Spec.loadS ty3 (Has.u rfl hb)).flat (T' := [])) ?_
        refine wg rfl rfl (fun hb => Spec.move (Has.s rfl)) ?_
        refine wg rfl rfl (fun hb => Spec.neqI (Has.u rfl hb) (Has.u rfl hb)) ?_
        refine wo (Spec.or (Has.s rfl) (fun h => Has.u rfl h)) ?_
        refine Walk.nil ?_
        refine Leaf.thenN ?_
        refine CWalk.cond rfl (fun hb => ?_) (fun hb => ?_)
        ·have hm := cond_t hb hm
         refine CWalk.seq ?_
         refine CWalk.region ?_
         refine wo (Spec.assign Has.bool) ?_
         refine Walk.nil ?_
         refine Leaf.thenN ?_
         refine CWalk.ret ?_
         refine Leaf.thenR ?_
         refine Leaf.blockR ?_
         refine Leaf.thenR ?_
         exact Leaf.brk hm (fun h => nomatch h) rfl (st Sub.nil)
        ·have hm := cond_f hb hm
         refine CWalk.skip ?_
         refine Leaf.thenN ?_
         refine CWalk.region ?_
         refine mv ?_
         refine wo (Spec.addI (Has.s rfl) Has.int) ?_
         refine wo (Spec.assign (Has.s rfl)) ?_
         refine Walk.nil ?_
         refine Leaf.blockN ?_
         exact Leaf.join (wI (s5 + (1 : Int))) hm (su (sn (st (Sub.cons (Has.cv (Has.s rfl) (Cv.owF (T := [19]) (te := []) rfl)) (st (st (sf (sf (sf (sf (sf (sf (sn Sub.nil)))))))))))))
    ·have hm := cond_f hb hm
     refine CWalk.exit ?_
     refine Leaf.thenE ?_
     exact Leaf.brk hm (fun h => nomatch h) rfl (su (sn (st (Sub.cons (Has.cv (Has.s rfl) (Cv.owF (T := [19]) (te := []) rfl)) (st (sf (sf (sf (sf (sf (sf (sn Sub.nil))))))))))))
   ·intro _
    rcases b11 with b12 | b14
    ·have hm := selim_l hm
     refine Leaf.blockE ?_
     refine Leaf.thenN ?_
     refine CWalk.seq ?_
     refine CWalk.region ?_
     refine mv ?_
     refine mv ?_
     refine wg rfl rfl (fun hb => Spec.move (Has.s rfl)) ?_
     refine wg rfl rfl (fun hb => Spec.move (Has.s rfl)) ?_
     refine wg rfl rfl (fun hb => Spec.len (Has.cv (Has.u rfl hb) (Cv.trans Cv.owSl (Cv.slRep (T' := [19]) rfl rfl))) Try.underlying33) ?_
     refine wg rfl rfl (fun hb => Spec.eqlI (Has.u rfl hb) (Has.u rfl hb)) ?_
     refine wo (Spec.and (Has.s rfl) (fun h => Has.u rfl h)) ?_
     refine mv ?_
     refine wg rfl rfl (fun hb => Spec.move (Has.s rfl)) ?_
     refine wg rfl rfl (fun hb => Spec.eqlI (Has.u rfl hb) Has.int) ?_
     refine wg rfl rfl (fun hb => Spec.move (Has.u rfl hb)) ?_
     refine Walk.opgu rfl rfl rfl (fun hb => Spec.loadObj (ls := [(false, 1, Fact.rep [] a0.Id), (false, 1, Fact.rep [] a0.Members), (false, 1, Fact.rep [] a0.Chunk), (false, 1, Fact.rep [] a0.Rows), (false, 1, Fact.rep [] a0.Log), (false, 1, Fact.rep [] a0.Heads)]) ty24 rfl rfl (Has.s rfl) rfl (HasGs.cons (HasG.s rfl) (HasGs.cons (HasG.s rfl) (HasGs.cons (HasG.s rfl) (HasGs.cons (HasG.s rfl) (HasGs.cons (HasG.s rfl) (HasGs.cons (HasG.s rfl) HasGs.nil))))))) ?_
     refine Walk.opgu rfl rfl rfl (fun hb => Spec.move (Has.s rfl)) ?_
     obtain ⟨x13, hx13, hm⟩ := bind_some hm
     refine Walk.opgu (f := Fact.rep [] (x13 : Bool)) rfl rfl rfl (fun hb => Spec.callE [0] 22 rfl en19 (law22_whole_c a0 a1 (gO_t hx13 (and_t hb.1 (not_t hb.2)))) (HasAll.cons (Has.fl (Has.cv (Has.u rfl hb) (Cv.trans (Cv.flds (CvL.cons Cv.fl (CvL.cons Cv.fl (CvL.cons Cv.fl (CvL.cons Cv.fl (CvL.cons Cv.fl (CvL.cons Cv.fl CvL.nil))))))) (Cv.close (T := []) (chConfig a0))))) (HasAll.cons (Has.m (Has.u rfl hb) rfl) HasAll.nil))) ?_
     refine wg rfl rfl (fun hb => Spec.or (Has.u rfl hb) (fun h => Has.u rfl ⟨hb, h⟩)) ?_
     refine wo (Spec.and (Has.s rfl) (fun h => Has.u rfl h)) ?_
     refine wo (Spec.assign (Has.s rfl)) ?_
     refine Walk.nil ?_
     refine Leaf.thenN ?_
     refine CWalk.ret ?_
     obtain rfl := Option.some.inj hm
     exact Leaf.retC1 rfl (HasR.cv (HasR.tmp (Has.s rfl)) Cv.fl)
    ·have hm := selim_r hm
     refine Leaf.blockR ?_
     refine Leaf.thenR ?_
     obtain rfl := Option.some.inj hm
     exact Leaf.retC1 rfl (HasR.cv (HasR.tmp (Has.s rfl)) Cv.fl)

end Go.Proofs.Ytdlmgdfeeofmbaa
