/- Printed by a program of ours: models of functions, and that calls do what they say. -/
import Derived.Test.YteadgdpeiokplaaProg
import Derived.Test.YteadgdpeiokplaaCore46
import Derived.KernelRfl
namespace Go.Proofs.Yteadgdpeiokplaa
open Go GL
set_option linter.unusedVariables false

theorem ow22 : OwnTy Try.prog 22 5 (UInt8) := OwnTy.of Try.underlying22 (by kernel_rfl) rfl (by kernel_rfl)
theorem zt5 : ZeroTy Try.prog 5 (0 : UInt8) := ⟨.int .u8 0, by kernel_rfl, fun _ => rfl⟩
theorem ty5 : Ty Try.prog 5 (UInt8) := Ty.of (by kernel_rfl)
theorem en11 : enters Try.prog 11 = true := by kernel_rfl
theorem ow27 : OwnTy Try.prog 27 22 (List UInt8) := OwnTy.of Try.underlying27 (by kernel_rfl) rfl (by kernel_rfl)
theorem ar39 : ArrTy Try.prog 39 5 128 (UInt8) (0 : UInt8) := ArrTy.of Try.underlying39 rfl (by kernel_rfl) (by kernel_rfl) (fun _ => rfl)
theorem sl27 : SlTy Try.prog 27 22 (List UInt8) := SlTy.of Try.underlying27 (by kernel_rfl) rfl
theorem ty22 : Ty Try.prog 22 (List UInt8) := Ty.of (by kernel_rfl)
theorem sl22 : SlTy Try.prog 22 5 (UInt8) := SlTy.of Try.underlying22 (by kernel_rfl) rfl
theorem en10 : enters Try.prog 10 = true := by kernel_rfl
theorem mixed : Try.prog.follows .mixedOrders = true := by kernel_rfl
theorem en12 : enters Try.prog 12 = true := by kernel_rfl
theorem en13 : enters Try.prog 13 = true := by kernel_rfl

def law03_full_L1 (a0 : UInt8) (s2 : Int) (s3 : List UInt8) : Option (Ctl (Int × (List UInt8)) ((List UInt8))) :=
  (bif (decide (s2 < (128 : Int))) then Option.bind (bnd (s3).length s2) (fun x5 => some (Ctl.next ((wI (s2 + (1 : Int))), (s3).set x5 a0))) else some (Ctl.brk s3))
/-- freeboard/freeboardlaw03.full -/
def law03_full (a0 : UInt8) : Option ((List UInt8)) :=
  Option.bind (makeL (0 : UInt8) (128 : Int)) (fun x1 => Option.bind (loopM (fun s : Int × (List UInt8) => law03_full_L1 a0 s.1 s.2) FUEL ((0 : Int), x1)) (fun b6 => some b6))
set_option maxRecDepth 100000 in
set_option maxHeartbeats 2000000 in
theorem law03_full_c (a0 : UInt8) {r : (List UInt8)} (hm : law03_full a0 = some r) : Ctr Try.prog 11 [.rep 0 a0] (.own 0 none 5 r) [] := by
 refine ctr_of_walk [[10]] 15 Try.func11 rfl rfl rfl rfl (fun w0 om => ?_)
 unfold law03_full at hm
 refine CWalk.sub (G' := [.fact 0 (.rep [] (a0 : UInt8))]) (Sub.cons (Has.fl (Has.s rfl)) Sub.nil) ?_
 refine CWalk.seq ?_
 refine CWalk.region ?_
 refine wo (Spec.assign Has.nilv) ?_
 refine Walk.nil ?_
 refine Leaf.thenN ?_
 refine CWalk.seq ?_
 refine CWalk.region ?_
 obtain ⟨x1, hx1, hm⟩ := bind_some hm
 refine ws (Step.makeOwn 10 hx1 rfl rfl ow22 zt5 Has.int) ?_
 refine wo (Spec.assign (Has.s rfl)) ?_
 refine Walk.nil ?_
 refine Leaf.thenN ?_
 refine CWalk.seq ?_
 refine CWalk.seq ?_
 refine CWalk.region ?_
 refine wo (Spec.assign Has.int) ?_
 refine Walk.nil ?_
 refine Leaf.thenN ?_
 refine CWalk.block ?_
 obtain ⟨b6, hb6, hm⟩ := bind_some hm
 refine CWalk.loop (fun s : Int × (List UInt8) => [.fact 0 (.rep [] (a0 : UInt8)), .fact 3 (.isv 10), .fact 4 (.rep [] s.1), .fact 100010 (.own 10 [] 5 (s.2 : List UInt8))]) (fun b : (List UInt8) => (Exit.exit 0, [.fact 3 (.isv 10), .fact 100010 (.own 10 [] 5 (b : List UInt8))])) hb6 (st (sn (st (Sub.cons (Has.ownM (Has.s rfl) rfl) Sub.nil)))) ?_ ?_
 ·rintro ⟨s2, s3⟩ c4 hm
  replace hm : law03_full_L1 a0 s2 s3 = some c4 := hm
  unfold law03_full_L1 at hm
  show CWalk _ [.fact 0 (.rep [] (a0 : UInt8)), .fact 3 (.isv 10), .fact 4 (.rep [] (s2 : Int)), .fact 100010 (.own 10 [] 5 (s3 : List UInt8))] _ _
  refine CWalk.seq ?_
  refine CWalk.seq ?_
  refine CWalk.region ?_
  refine mv ?_
  refine wo (Spec.lssI (Has.s rfl) Has.int) ?_
  refine Walk.nil ?_
  refine Leaf.thenN ?_
  refine CWalk.cond rfl (fun hb => ?_) (fun hb => ?_)
  ·have hm := cond_t hb hm
   refine CWalk.skip ?_
   refine Leaf.thenN ?_
   refine CWalk.seq ?_
   refine CWalk.block ?_
   refine CWalk.region ?_
   refine mv ?_
   refine mv ?_
   refine mv ?_
   obtain ⟨x5, hx5, hm⟩ := bind_some hm
   refine wo (Spec.idxOwn hx5 ow22 (Has.s rfl) rfl (Has.s rfl)) ?_
   refine ws (Step.storeOwn (te' := []) rfl (bnd_lt hx5 rfl) ty5 (Has.s rfl) rfl (Has.s rfl) ElKeep.flat ElKeep.flat) ?_
   refine Walk.nil ?_
   refine Leaf.blockN ?_
   refine Leaf.thenN ?_
   refine CWalk.region ?_
   refine mv ?_
   refine wo (Spec.addI (Has.s rfl) Has.int) ?_
   refine wo (Spec.assign (Has.s rfl)) ?_
   refine Walk.nil ?_
   exact Leaf.next hm (st (sn (st (Sub.cons (Has.ownM (Has.s rfl) rfl) Sub.nil))))
  ·have hm := cond_f hb hm
   refine CWalk.exit ?_
   refine Leaf.thenE ?_
   exact Leaf.brk hm (fun h => nomatch h) rfl (sn (Sub.cons (Has.ownM (Has.s rfl) rfl) Sub.nil))
 ·intro _
  refine Leaf.blockE ?_
  refine Leaf.thenN ?_
  refine CWalk.seq ?_
  refine CWalk.region ?_
  refine mv ?_
  refine wo (Spec.assign (Has.s rfl)) ?_
  refine Walk.nil ?_
  refine Leaf.thenN ?_
  refine CWalk.ret ?_
  obtain rfl := Option.some.inj hm
  exact Leaf.retC1 rfl (HasR.cv (HasR.tmp (Has.s rfl)) (Cv.trans (Cv.isvOw rfl) (Cv.owF (T := [10]) (te := []) rfl)))

def fold_Fold_J2 (s1 : Int) (j4 : List UInt8) : Option (Ctl (Int × (List UInt8)) (Int × (List UInt8))) :=
  some (Ctl.next ((wI (s1 + (1 : Int))), j4))
def fold_Fold_L3 (x5 : List UInt8) (s6 : Int) (s7 : List UInt8) : Option (Ctl (Int × (List UInt8)) ((List UInt8))) :=
  (bif (decide (s6 < ((x5).length : Int))) then Option.bind (idx x5 s6) (fun x9 => Option.bind (bnd 128 s6) (fun x10 => Option.bind ((s7)[x10]?) (fun x11 => Option.bind (bnd 128 s6) (fun x12 => some (Ctl.next ((wI (s6 + (1 : Int))), (s7).set x12 (x11 ^^^ x9))))))) else some (Ctl.brk s7))
def fold_Fold_L1 (a0 : List (List UInt8)) (s1 : Int) (s2 : List UInt8) : Option (Ctl (Int × (List UInt8)) (Int × (List UInt8))) :=
  (bif (decide (s1 < ((a0).length : Int))) then Option.bind (idx a0 s1) (fun x5 => (bif (((x5).length : Int) == (0 : Int)) then (fold_Fold_J2 s1 s2) else (bif (((x5).length : Int) == (128 : Int)) then Option.bind (loopM (fun s : Int × (List UInt8) => fold_Fold_L3 x5 s.1 s.2) FUEL ((0 : Int), s2)) (fun b13 => (fold_Fold_J2 s1 b13)) else some (Ctl.brk ((3 : Int), s2))))) else some (Ctl.brk ((0 : Int), s2)))
/-- freeboard/fold.Fold -/
def fold_Fold (a0 : List (List UInt8)) : Option ((List UInt8) × Int) :=
  (bif (decide (((a0).length : Int) > (16 : Int))) then some (([] : List UInt8), (4 : Int)) else Option.bind (loopM (fun s : Int × (List UInt8) => fold_Fold_L1 a0 s.1 s.2) FUEL ((0 : Int), List.replicate 128 (0 : UInt8))) (fun b14 => (bif (b14.1 != (0 : Int)) then some (([] : List UInt8), b14.1) else some (b14.2, (0 : Int)))))
set_option maxRecDepth 100000 in
set_option maxHeartbeats 2000000 in
theorem fold_Fold_c (a0 : List (List UInt8)) {r : (List UInt8) × Int} (hm : fold_Fold a0 = some r) : Ctr Try.prog 10 [.rep 0 a0] (.tup2 (.sl 0 none r.1) (.fl r.2)) [] := by
 refine ctr_of_walk [[10]] 44 Try.func10 rfl rfl rfl rfl (fun w0 om => ?_)
 unfold fold_Fold at hm
 refine CWalk.sub (G' := [.fact 0 (.rep [0] (a0 : List (List UInt8)))]) (sn Sub.nil) ?_
 refine CWalk.seq ?_
 refine CWalk.region ?_
 refine wo (Spec.assign Has.nilv) ?_
 refine wo (Spec.assign Has.int) ?_
 refine Walk.nil ?_
 refine Leaf.thenN ?_
 refine CWalk.scope ?_
 refine CWalk.seq ?_
 refine CWalk.seq ?_
 refine CWalk.region ?_
 refine mv ?_
 refine wo (Spec.len (Has.s rfl) Try.underlying27) ?_
 refine wo (Spec.gtrI (Has.s rfl) Has.int) ?_
 refine Walk.nil ?_
 refine Leaf.thenN ?_
 refine CWalk.cond rfl (fun hb => ?_) (fun hb => ?_)
 ·have hm := cond_t hb hm
  refine CWalk.seq ?_
  refine CWalk.region ?_
  refine wo (Spec.assign Has.nilv) ?_
  refine wo (Spec.assign Has.int) ?_
  refine Walk.nil ?_
  refine Leaf.thenN ?_
  refine CWalk.ret ?_
  refine Leaf.thenR ?_
  refine Leaf.scR ?_
  obtain rfl := Option.some.inj hm
  exact Leaf.retC2 rfl (HasR.cv (HasR.tmp (Has.s rfl)) (Cv.trans Cv.nilSl (Cv.slF (T := []) (te := []) rfl))) (HasR.cv (HasR.tmp (Has.s rfl)) Cv.fl)
 ·have hm := cond_f hb hm
  refine CWalk.skip ?_
  refine Leaf.thenN ?_
  refine CWalk.seq ?_
  refine CWalk.region ?_
  refine ws (Step.allocArr 10 rfl rfl ar39) ?_
  refine Walk.nil ?_
  refine Leaf.thenN ?_
  refine CWalk.seq ?_
  refine CWalk.region ?_
  refine wo (Spec.assign Has.int) ?_
  refine Walk.nil ?_
  refine Leaf.thenN ?_
  refine CWalk.seq ?_
  refine CWalk.label ?_
  refine Leaf.thenN ?_
  refine CWalk.seq ?_
  refine CWalk.seq ?_
  refine CWalk.region ?_
  refine mv ?_
  refine wo (Spec.len (Has.s rfl) Try.underlying27) ?_
  refine wo (Spec.move Has.int) ?_
  refine Walk.nil ?_
  refine Leaf.thenN ?_
  refine CWalk.block ?_
  obtain ⟨b14, hb14, hm⟩ := bind_some hm
  refine CWalk.loop (fun s : Int × (List UInt8) => [.fact 4 (.isv 10), .fact 5 (.rep [] ((0 : Int) : Int)), .fact 13 (.rep [0] (a0 : List (List UInt8))), .fact 14 (.rep [] (((a0).length : Int) : Int)), .fact 15 (.rep [] s.1), .fact 100010 (.arr 10 [] 128 (s.2 : List UInt8))]) (fun b : Int × (List UInt8) => (Exit.exit 0, [.fact 4 (.isv 10), .fact 5 (.rep [] b.1), .fact 100010 (.arr 10 [] 128 (b.2 : List UInt8))])) hb14 (sn (st (su (st (st (Sub.cons (Has.arrM (Has.s rfl) rfl) Sub.nil)))))) ?_ ?_
  ·rintro ⟨s1, s2⟩ c3 hm
   replace hm : fold_Fold_L1 a0 s1 s2 = some c3 := hm
   unfold fold_Fold_L1 at hm
   show CWalk _ [.fact 4 (.isv 10), .fact 5 (.rep [] ((0 : Int) : Int)), .fact 13 (.rep [0] (a0 : List (List UInt8))), .fact 14 (.rep [] (((a0).length : Int) : Int)), .fact 15 (.rep [] (s1 : Int)), .fact 100010 (.arr 10 [] 128 (s2 : List UInt8))] _ _
   refine CWalk.seq ?_
   refine CWalk.region ?_
   refine wo (Spec.lssI (Has.s rfl) (Has.s rfl)) ?_
   refine Walk.nil ?_
   refine Leaf.thenN ?_
   refine CWalk.seq ?_
   refine CWalk.cond rfl (fun hb => ?_) (fun hb => ?_)
   ·have hm := cond_t hb hm
    refine CWalk.skip ?_
    refine Leaf.thenN ?_
    refine CWalk.seqJ (fun p : (List UInt8) => [.fact 4 (.isv 10), .fact 5 (.rep [] ((0 : Int) : Int)), .fact 13 (.rep [0] (a0 : List (List UInt8))), .fact 14 (.rep [] (((a0).length : Int) : Int)), .fact 15 (.rep [] (s1 : Int)), .fact 100010 (.arr 10 [] 128 (p : List UInt8))]) (fun p : (List UInt8) => fold_Fold_J2 s1 p = some c3) ?_ ?_
    ·rintro j4 hm
     replace hm : fold_Fold_J2 s1 j4 = some c3 := hm
     unfold fold_Fold_J2 at hm
     show CWalk _ [.fact 4 (.isv 10), .fact 5 (.rep [] ((0 : Int) : Int)), .fact 13 (.rep [0] (a0 : List (List UInt8))), .fact 14 (.rep [] (((a0).length : Int) : Int)), .fact 15 (.rep [] (s1 : Int)), .fact 100010 (.arr 10 [] 128 (j4 : List UInt8))] _ _
     refine CWalk.region ?_
     refine wo (Spec.addI (Has.s rfl) Has.int) ?_
     refine mv ?_
     refine Walk.nil ?_
     exact Leaf.next hm (sn (st (su (st (st (Sub.cons (Has.arrM (Has.s rfl) rfl) Sub.nil))))))
    ·refine CWalk.block ?_
     refine CWalk.seq ?_
     refine CWalk.region ?_
     obtain ⟨x5, hx5, hm⟩ := bind_some hm
     refine wo (Spec.indexAddr hx5 sl27 (Has.s rfl) (Has.s rfl)) ?_
     refine wo (Spec.load ty22 (Has.s rfl)) ?_
     refine wo (Spec.assign (Has.s rfl)) ?_
     refine Walk.nil ?_
     refine Leaf.thenN ?_
     refine CWalk.seq ?_
     refine CWalk.region ?_
     refine mv ?_
     refine wo (Spec.len (Has.s rfl) Try.underlying22) ?_
     refine Walk.nil ?_
     refine Leaf.thenN ?_
     refine CWalk.block ?_
     refine CWalk.seq ?_
     refine CWalk.region ?_
     refine wo (Spec.eqlI (Has.s rfl) Has.int) ?_
     refine wo (Spec.assign (Has.s rfl)) ?_
     refine Walk.nil ?_
     refine Leaf.thenN ?_
     refine CWalk.cond rfl (fun hb => ?_) (fun hb => ?_)
     ·have hm := cond_t hb hm
      refine CWalk.exit ?_
      refine Leaf.blockO rfl ?_
      refine Leaf.blockE ?_
      exact Leaf.join s2 hm (sn (st (su (st (st (Sub.cons (Has.arrM (Has.s rfl) rfl) Sub.nil))))))
     ·have hm := cond_f hb hm
      refine CWalk.seq ?_
      refine CWalk.region ?_
      refine wo (Spec.eqlI (Has.s rfl) Has.int) ?_
      refine wo (Spec.assign (Has.s rfl)) ?_
      refine Walk.nil ?_
      refine Leaf.thenN ?_
      refine CWalk.cond rfl (fun hb => ?_) (fun hb => ?_)
      ·have hm := cond_t hb hm
       refine CWalk.seq ?_
       refine CWalk.region ?_
       refine mv ?_
       refine wo (Spec.len (Has.s rfl) Try.underlying22) ?_
       refine wo (Spec.move Has.int) ?_
       refine Walk.nil ?_
       refine Leaf.thenN ?_
       refine CWalk.block ?_
       obtain ⟨b13, hb13, hm⟩ := bind_some hm
       refine CWalk.loop (fun s : Int × (List UInt8) => [.fact 4 (.isv 10), .fact 5 (.rep [] ((0 : Int) : Int)), .fact 13 (.rep [0] (a0 : List (List UInt8))), .fact 14 (.rep [] (((a0).length : Int) : Int)), .fact 15 (.rep [] (s1 : Int)), .fact 25 (.rep [0] (x5 : List UInt8)), .fact 26 (.rep [] (((x5).length : Int) : Int)), .fact 27 (.rep [] s.1), .fact 100010 (.arr 10 [] 128 (s.2 : List UInt8))]) (fun b : (List UInt8) => (Exit.exit 3, [.fact 4 (.isv 10), .fact 5 (.rep [] ((0 : Int) : Int)), .fact 13 (.rep [0] (a0 : List (List UInt8))), .fact 14 (.rep [] (((a0).length : Int) : Int)), .fact 15 (.rep [] (s1 : Int)), .fact 100010 (.arr 10 [] 128 (b : List UInt8))])) hb13 (sn (st (su (st (st (su (st (st (Sub.cons (Has.arrM (Has.s rfl) rfl) Sub.nil))))))))) ?_ ?_
       ·rintro ⟨s6, s7⟩ c8 hm
        replace hm : fold_Fold_L3 x5 s6 s7 = some c8 := hm
        unfold fold_Fold_L3 at hm
        show CWalk _ [.fact 4 (.isv 10), .fact 5 (.rep [] ((0 : Int) : Int)), .fact 13 (.rep [0] (a0 : List (List UInt8))), .fact 14 (.rep [] (((a0).length : Int) : Int)), .fact 15 (.rep [] (s1 : Int)), .fact 25 (.rep [0] (x5 : List UInt8)), .fact 26 (.rep [] (((x5).length : Int) : Int)), .fact 27 (.rep [] (s6 : Int)), .fact 100010 (.arr 10 [] 128 (s7 : List UInt8))] _ _
        refine CWalk.seq ?_
        refine CWalk.region ?_
        refine wo (Spec.lssI (Has.s rfl) (Has.s rfl)) ?_
        refine Walk.nil ?_
        refine Leaf.thenN ?_
        refine CWalk.seq ?_
        refine CWalk.cond rfl (fun hb => ?_) (fun hb => ?_)
        ·have hm := cond_t hb hm
         refine CWalk.skip ?_
         refine Leaf.thenN ?_
         refine CWalk.seq ?_
         refine CWalk.block ?_
         refine CWalk.seq ?_
         refine CWalk.region ?_
         refine mv ?_
         obtain ⟨x9, hx9, hm⟩ := bind_some hm
         refine wo (Spec.indexAddr hx9 sl22 (Has.s rfl) (Has.s rfl)) ?_
         refine wo ((Spec.load ty5 (Has.s rfl)).flat (T' := [])) ?_
         refine wo (Spec.assign (Has.s rfl)) ?_
         refine wo (Spec.assign (Has.s rfl)) ?_
         refine Walk.nil ?_
         refine Leaf.thenN ?_
         refine CWalk.region ?_
         refine mv ?_
         obtain ⟨x10, hx10, hm⟩ := bind_some hm
         refine wo (Spec.idxArr hx10 ar39 (Has.s rfl) rfl (Has.s rfl)) ?_
         obtain ⟨x11, hx11, hm⟩ := bind_some hm
         refine wo ((Spec.loadArr hx11 ty5 (Has.s rfl) rfl).flat (T' := [])) ?_
         refine mv ?_
         refine wo (Spec.xorB (Has.s rfl) (Has.s rfl)) ?_
         obtain ⟨x12, hx12, hm⟩ := bind_some hm
         refine wo (Spec.idxArr hx12 ar39 (Has.s rfl) rfl (Has.s rfl)) ?_
         refine ws (Step.storeArr (te' := []) rfl (bnd_lt hx12 rfl) ty5 (Has.s rfl) rfl (Has.s rfl) ElKeep.flat ElKeep.flat) ?_
         refine Walk.nil ?_
         refine Leaf.blockN ?_
         refine Leaf.thenN ?_
         refine CWalk.region ?_
         refine wo (Spec.addI (Has.s rfl) Has.int) ?_
         refine mv ?_
         refine Walk.nil ?_
         exact Leaf.next hm (sn (st (su (st (st (su (st (st (Sub.cons (Has.arrM (Has.s rfl) rfl) Sub.nil)))))))))
        ·have hm := cond_f hb hm
         refine CWalk.exit ?_
         refine Leaf.thenE ?_
         exact Leaf.brk hm (fun h => nomatch h) rfl (sn (st (su (st (st (Sub.cons (Has.arrM (Has.s rfl) rfl) Sub.nil))))))
       ·intro _
        refine Leaf.blockE ?_
        refine Leaf.blockN ?_
        refine Leaf.blockN ?_
        exact Leaf.join b13 hm (sn (st (su (st (st (Sub.cons (Has.arrM (Has.s rfl) rfl) Sub.nil))))))
      ·have hm := cond_f hb hm
       refine CWalk.seq ?_
       refine CWalk.region ?_
       refine wo (Spec.assign Has.int) ?_
       refine Walk.nil ?_
       refine Leaf.thenN ?_
       refine CWalk.exit ?_
       refine Leaf.blockO rfl ?_
       refine Leaf.blockO rfl ?_
       refine Leaf.thenE ?_
       exact Leaf.brk hm (fun h => nomatch h) rfl (sn (st (Sub.cons (Has.arrM (Has.s rfl) rfl) Sub.nil)))
   ·have hm := cond_f hb hm
    refine CWalk.exit ?_
    refine Leaf.thenE ?_
    exact Leaf.brk hm (fun h => nomatch h) rfl (sn (st (Sub.cons (Has.arrM (Has.s rfl) rfl) Sub.nil)))
  ·intro _
   refine Leaf.blockE ?_
   refine Leaf.thenN ?_
   refine CWalk.seq ?_
   refine CWalk.seq ?_
   refine CWalk.region ?_
   refine mv ?_
   refine wo (Spec.neqI (Has.s rfl) Has.int) ?_
   refine Walk.nil ?_
   refine Leaf.thenN ?_
   refine CWalk.cond rfl (fun hb => ?_) (fun hb => ?_)
   ·have hm := cond_t hb hm
    refine CWalk.seq ?_
    refine CWalk.region ?_
    refine mv ?_
    refine wo (Spec.assign Has.nilv) ?_
    refine wo (Spec.assign (Has.s rfl)) ?_
    refine Walk.nil ?_
    refine Leaf.thenN ?_
    refine CWalk.ret ?_
    refine Leaf.thenR ?_
    refine Leaf.scR ?_
    obtain rfl := Option.some.inj hm
    exact Leaf.retC2 rfl (HasR.cv (HasR.tmp (Has.s rfl)) (Cv.trans Cv.nilSl (Cv.slF (T := []) (te := []) rfl))) (HasR.cv (HasR.tmp (Has.s rfl)) Cv.fl)
   ·have hm := cond_f hb hm
    refine CWalk.skip ?_
    refine Leaf.thenN ?_
    refine CWalk.seq ?_
    refine CWalk.region ?_
    refine wo (Spec.sliceArrS ar39 (Has.s rfl) rfl) ?_
    refine wo (Spec.assign (Has.s rfl)) ?_
    refine wo (Spec.assign Has.int) ?_
    refine Walk.nil ?_
    refine Leaf.thenN ?_
    refine CWalk.ret ?_
    refine Leaf.scR ?_
    obtain rfl := Option.some.inj hm
    exact Leaf.retC2 rfl (HasR.cv (HasR.tmp (Has.s rfl)) (Cv.slF (T := [10]) (te := []) rfl)) (HasR.cv (HasR.tmp (Has.s rfl)) Cv.fl)

/-- freeboard/freeboardlaw03.alive -/
def law03_alive : Option (Bool) :=
  Option.bind (law03_full (5 : UInt8)) (fun x1 => Option.bind (law03_full (3 : UInt8)) (fun x2 => Option.bind (fold_Fold ([x1, x2])) (fun x3 => Option.bind (gO ((x3.2 == (0 : Int))) (law03_full (6 : UInt8))) (fun x4 => some ((x3.2 == (0 : Int)) && ((Str.mk x3.1).s == (Str.mk x4).s))))))
set_option maxRecDepth 100000 in
set_option maxHeartbeats 2000000 in
theorem law03_alive_c {r : Bool} (hm : law03_alive = some r) : Ctr Try.prog 12 [] (.fl r) [] := by
 refine ctr_of_walk [[]] 19 Try.func12 rfl rfl rfl rfl (fun w0 om => ?_)
 unfold law03_alive at hm
 refine CWalk.sub (G' := []) (Sub.nil) ?_
 refine CWalk.seq ?_
 refine CWalk.region ?_
 refine wo (Spec.assign Has.bool) ?_
 refine Walk.nil ?_
 refine Leaf.thenN ?_
 refine CWalk.seq ?_
 refine CWalk.region ?_
 obtain ⟨x1, hx1, hm⟩ := bind_some hm
 refine wo (f := Fact.ow [10] [] 5 (x1 : List UInt8)) (Spec.callE [] 10 rfl en11 (law03_full_c (5 : UInt8) hx1) (HasAll.cons (Has.fl (Has.u8 5 rfl)) HasAll.nil)) ?_
 obtain ⟨x2, hx2, hm⟩ := bind_some hm
 refine wo (f := Fact.ow [11] [] 5 (x2 : List UInt8)) (Spec.callE [] 11 rfl en11 (law03_full_c (3 : UInt8) hx2) (HasAll.cons (Has.fl (Has.u8 3 rfl)) HasAll.nil)) ?_
 refine wo (Spec.lit (xs := [.tmp 4, .tmp 5]) (T := [10, 11]) 12 rfl ow27 rfl rfl rfl rfl (HasEach.cons (Has.m (Has.cv (Has.s rfl) (Cv.trans Cv.owSl (Cv.slRep (T' := [10]) rfl rfl))) rfl) (HasEach.cons (Has.m (Has.cv (Has.s rfl) (Cv.trans Cv.owSl (Cv.slRep (T' := [11]) rfl rfl))) rfl) HasEach.nil))) ?_
 obtain ⟨x3, hx3, hm⟩ := bind_some hm
 refine wo (f := Fact.tup2 (Fact.sl [13] [] (x3.1 : List UInt8)) (Fact.rep [] x3.2)) (Spec.callE [10, 11, 12] 13 rfl en10 (fold_Fold_c ([x1, x2]) hx3) (HasAll.cons (Has.m (Has.s rfl) rfl) HasAll.nil)) ?_
 refine mv ?_
 refine wo (Spec.ext0 (Has.s rfl)) ?_
 refine wo (Spec.ext1 (Has.s rfl)) ?_
 refine wo (Spec.assign (Has.s rfl)) ?_
 refine wo (Spec.assign (Has.s rfl)) ?_
 refine Walk.nil ?_
 refine Leaf.thenN ?_
 refine CWalk.seq ?_
 obtain ⟨x4, hx4, hm⟩ := bind_some hm
 refine CWalk.drawM [[], [0], [0, 1], [0, 1, 2], [0, 1, 2, 3], [0, 1, 2], [0, 1, 2, 5], [0, 1, 2, 3, 4, 5, 6], [0, 1, 2, 3, 4, 5, 6, 7], [0, 1, 2, 3, 4, 5, 6, 7, 8]] [[.fact 10 (.rep [] x3.2)], [.fact 11 (.rep [] ((x3.2 == (0 : Int)) : Bool))], [.fact 12 (.rep [] ((x3.2 == (0 : Int)) : Bool))], [.fact 13 (.under ((x3.2 == (0 : Int)) = true) (.sl [13] [] (x3.1 : List UInt8)))], [.fact 14 (.under ((x3.2 == (0 : Int)) = true) (.rep [] ((Str.mk x3.1) : Str)))], [.fact 15 (.under ((x3.2 == (0 : Int)) = true) (.ow [14] [] 5 (x4 : List UInt8)))], [.fact 16 (.under ((x3.2 == (0 : Int)) = true) (.rep [] ((Str.mk x4) : Str)))], [.fact 17 (.under ((x3.2 == (0 : Int)) = true) (.rep [] (((Str.mk x3.1).s == (Str.mk x4).s) : Bool)))], [.fact 18 (.rep [] (((x3.2 == (0 : Int)) && ((Str.mk x3.1).s == (Str.mk x4).s)) : Bool))], [.fact 0 (.rep [] (((x3.2 == (0 : Int)) && ((Str.mk x3.1).s == (Str.mk x4).s)) : Bool))]] mixed (by kernel_rfl) (ao (so (Spec.move (Has.s rfl))) (ao (so (Spec.eqlI (Has.s rfl) Has.int)) (ao (so (Spec.move (Has.s rfl))) (ao (StepG.opg rfl rfl rfl (fun hb => Spec.move (Has.s rfl))) (ao (StepG.opg rfl rfl rfl (fun hb => Spec.toStr Try.underlying22 Try.underlying5 Try.underlying9 (Has.cv (Has.u rfl hb) (Cv.slRep (T' := [13]) rfl rfl)))) (ao (StepG.opg rfl rfl rfl (fun hb => Spec.callE [] 14 rfl en11 (law03_full_c (6 : UInt8) (gO_t hx4 hb)) (HasAll.cons (Has.fl (Has.u8 6 rfl)) HasAll.nil))) (ao (StepG.opg rfl rfl rfl (fun hb => Spec.toStr Try.underlying22 Try.underlying5 Try.underlying9 (Has.cv (Has.u rfl hb) (Cv.trans Cv.owSl (Cv.slRep (T' := [14]) rfl rfl))))) (ao (StepG.opg rfl rfl rfl (fun hb => Spec.eqlS (Has.u rfl hb) (Has.u rfl hb))) (ao (so (Spec.and (Has.s rfl) (fun h => Has.u rfl h))) (ao (so (Spec.assign (Has.s rfl))) AllM.nil)))))))))) ?_
 refine Leaf.thenN ?_
 refine CWalk.ret ?_
 obtain rfl := Option.some.inj hm
 exact Leaf.retC1 rfl (HasR.cv (HasR.tmp (Has.s rfl)) Cv.fl)

def ref03_Great_L1 (a0 : List (List UInt8)) (s1 : Int) : Option (Ctl (Int) ((Unit) ⊕ (Unit))) :=
  (bif (decide (s1 < ((a0).length : Int))) then Option.bind (idx a0 s1) (fun x3 => (bif (decide (((x3).length : Int) > (1000 : Int))) then some (Ctl.brk (Sum.inr ())) else some (Ctl.next (wI (s1 + (1 : Int)))))) else some (Ctl.brk (Sum.inl ())))
/-- freeboard/freeboardref03.Great -/
def ref03_Great (a0 : List (List UInt8)) : Option (Bool) :=
  (bif (decide (((a0).length : Int) > (300 : Int))) then some true else Option.bind (loopM (fun s : Int => ref03_Great_L1 a0 s) FUEL (0 : Int)) (fun b4 => Sum.elim (fun b5 => some false) (fun b6 => some true) b4))
set_option maxRecDepth 100000 in
set_option maxHeartbeats 2000000 in
theorem ref03_Great_c (a0 : List (List UInt8)) {r : Bool} (hm : ref03_Great a0 = some r) : Ctr Try.prog 13 [.rep 0 a0] (.fl r) [] := by
 refine ctr_of_walk [[]] 19 Try.func13 rfl rfl rfl rfl (fun w0 om => ?_)
 unfold ref03_Great at hm
 refine CWalk.sub (G' := [.fact 0 (.rep [0] (a0 : List (List UInt8)))]) (sn Sub.nil) ?_
 refine CWalk.seq ?_
 refine CWalk.region ?_
 refine wo (Spec.assign Has.bool) ?_
 refine Walk.nil ?_
 refine Leaf.thenN ?_
 refine CWalk.seq ?_
 refine CWalk.seq ?_
 refine CWalk.region ?_
 refine mv ?_
 refine wo (Spec.len (Has.s rfl) Try.underlying27) ?_
 refine wo (Spec.gtrI (Has.s rfl) Has.int) ?_
 refine Walk.nil ?_
 refine Leaf.thenN ?_
 refine CWalk.cond rfl (fun hb => ?_) (fun hb => ?_)
 ·have hm := cond_t hb hm
  refine CWalk.seq ?_
  refine CWalk.region ?_
  refine wo (Spec.assign Has.bool) ?_
  refine Walk.nil ?_
  refine Leaf.thenN ?_
  refine CWalk.ret ?_
  refine Leaf.thenR ?_
  obtain rfl := Option.some.inj hm
  exact Leaf.retC1 rfl (HasR.cv (HasR.tmp (Has.s rfl)) Cv.fl)
 ·have hm := cond_f hb hm
  refine CWalk.skip ?_
  refine Leaf.thenN ?_
  refine CWalk.seq ?_
  refine CWalk.seq ?_
  refine CWalk.region ?_
  refine wo (Spec.assign Has.int) ?_
  refine Walk.nil ?_
  refine Leaf.thenN ?_
  refine CWalk.block ?_
  obtain ⟨b4, hb4, hm⟩ := bind_some hm
  refine CWalk.loop (fun s : Int => [.fact 0 (.rep [0] (a0 : List (List UInt8))), .fact 3 (.rep [] (s : Int))]) (fun b : (Unit) ⊕ (Unit) => Sum.elim (fun b => (Exit.exit 0, [])) (fun b => (Exit.ret, [.fact 2 (.rep [] (true : Bool))])) b) hb4 (su (st Sub.nil)) ?_ ?_
  ·rintro s1 c2 hm
   replace hm : ref03_Great_L1 a0 s1 = some c2 := hm
   unfold ref03_Great_L1 at hm
   show CWalk _ [.fact 0 (.rep [0] (a0 : List (List UInt8))), .fact 3 (.rep [] (s1 : Int))] _ _
   refine CWalk.seq ?_
   refine CWalk.seq ?_
   refine CWalk.region ?_
   refine mv ?_
   refine mv ?_
   refine wo (Spec.len (Has.s rfl) Try.underlying27) ?_
   refine wo (Spec.lssI (Has.s rfl) (Has.s rfl)) ?_
   refine Walk.nil ?_
   refine Leaf.thenN ?_
   refine CWalk.cond rfl (fun hb => ?_) (fun hb => ?_)
   ·have hm := cond_t hb hm
    refine CWalk.skip ?_
    refine Leaf.thenN ?_
    refine CWalk.seq ?_
    refine CWalk.block ?_
    refine CWalk.seq ?_
    refine CWalk.region ?_
    refine mv ?_
    refine mv ?_
    obtain ⟨x3, hx3, hm⟩ := bind_some hm
    refine wo (Spec.indexAddr hx3 sl27 (Has.s rfl) (Has.s rfl)) ?_
    refine wo (Spec.load ty22 (Has.s rfl)) ?_
    refine wo (Spec.len (Has.s rfl) Try.underlying22) ?_
    refine wo (Spec.gtrI (Has.s rfl) Has.int) ?_
    refine Walk.nil ?_
    refine Leaf.thenN ?_
    refine CWalk.cond rfl (fun hb => ?_) (fun hb => ?_)
    ·have hm := cond_t hb hm
     refine CWalk.seq ?_
     refine CWalk.region ?_
     refine wo (Spec.assign Has.bool) ?_
     refine Walk.nil ?_
     refine Leaf.thenN ?_
     refine CWalk.ret ?_
     refine Leaf.blockR ?_
     refine Leaf.thenR ?_
     exact Leaf.brk hm (fun h => nomatch h) rfl (st Sub.nil)
    ·have hm := cond_f hb hm
     refine CWalk.skip ?_
     refine Leaf.blockN ?_
     refine Leaf.thenN ?_
     refine CWalk.region ?_
     refine mv ?_
     refine wo (Spec.addI (Has.s rfl) Has.int) ?_
     refine wo (Spec.assign (Has.s rfl)) ?_
     refine Walk.nil ?_
     exact Leaf.next hm (su (st Sub.nil))
   ·have hm := cond_f hb hm
    refine CWalk.exit ?_
    refine Leaf.thenE ?_
    exact Leaf.brk hm (fun h => nomatch h) rfl (Sub.nil)
  ·intro _
   rcases b4 with b5 | b6
   ·have hm := selim_l hm
    refine Leaf.blockE ?_
    refine Leaf.thenN ?_
    refine CWalk.seq ?_
    refine CWalk.region ?_
    refine wo (Spec.assign Has.bool) ?_
    refine Walk.nil ?_
    refine Leaf.thenN ?_
    refine CWalk.ret ?_
    obtain rfl := Option.some.inj hm
    exact Leaf.retC1 rfl (HasR.cv (HasR.tmp (Has.s rfl)) Cv.fl)
   ·have hm := selim_r hm
    refine Leaf.blockR ?_
    refine Leaf.thenR ?_
    obtain rfl := Option.some.inj hm
    exact Leaf.retC1 rfl (HasR.cv (HasR.tmp (Has.s rfl)) Cv.fl)

def law03_FoldTurns_L1 (x2 : Int) (x12 : (List UInt8) × Int) (x13 : (List UInt8) × Int) (s14 : Int) : Option (Ctl (Int) ((Unit) ⊕ (Unit))) :=
  (bif (decide (s14 < (128 : Int))) then Option.bind (gO ((s14 != x2)) (idx x12.1 s14)) (fun x16 => Option.bind (gO ((s14 != x2)) (idx x13.1 s14)) (fun x17 => (bif ((s14 != x2) && (x16 != x17)) then some (Ctl.brk (Sum.inr ())) else some (Ctl.next (wI (s14 + (1 : Int))))))) else some (Ctl.brk (Sum.inl ())))
/-- freeboard/freeboardlaw03.FoldTurns -/
def law03_FoldTurns (a0 : List (List UInt8)) (a1 : Int) (a2 : UInt8) (a3 : UInt8) : Option (Bool) :=
  Option.bind (law03_alive) (fun x1 => Option.bind (remI (wI (a2.toNat : Int)) (128 : Int)) (fun x2 => Option.bind (ref03_Great a0) (fun x3 => Option.bind (gO (!((x3 || (decide (a1 < (0 : Int)))) || (decide (a1 ≥ ((a0).length : Int))))) (idx a0 a1)) (fun x4 => (bif (((x3 || (decide (a1 < (0 : Int)))) || (decide (a1 ≥ ((a0).length : Int)))) || (((x4).length : Int) != (128 : Int))) then some x1 else Option.bind (app ([] : List (List UInt8)) a0) (fun x5 => Option.bind (idx a0 a1) (fun x6 => Option.bind (app ([] : List UInt8) x6) (fun x7 => Option.bind (bnd (x5).length a1) (fun x8 => Option.bind (bnd (x7).length x2) (fun x9 => Option.bind ((x7)[x9]?) (fun x10 => Option.bind (bnd (x7).length x2) (fun x11 => Option.bind (fold_Fold a0) (fun x12 => Option.bind (fold_Fold ((x5).set x8 ((x7).set x11 (x10 ^^^ a3)))) (fun x13 => (bif (x12.2 != (0 : Int)) then some (x1 && (x13.2 == x12.2)) else (bif (((x13.2 != (0 : Int)) || (((x12.1).length : Int) != (128 : Int))) || (((x13.1).length : Int) != (128 : Int))) then some false else Option.bind (loopM (fun s : Int => law03_FoldTurns_L1 x2 x12 x13 s) FUEL (0 : Int)) (fun b18 => Sum.elim (fun b19 => Option.bind (gO (x1) (idx x12.1 x2)) (fun x20 => Option.bind (gO (x1) (idx x13.1 x2)) (fun x21 => some (x1 && ((x20 ^^^ a3) == x21))))) (fun b22 => some false) b18)))))))))))))))))
set_option maxRecDepth 100000 in
set_option maxHeartbeats 2000000 in
theorem law03_FoldTurns_c (a0 : List (List UInt8)) (a1 : Int) (a2 : UInt8) (a3 : UInt8) {r : Bool} (hm : law03_FoldTurns a0 a1 a2 a3 = some r) : Ctr Try.prog 8 [.rep 0 a0, .rep 0 a1, .rep 0 a2, .rep 0 a3] (.fl r) [] := by
 refine ctr_of_walk [[]] 129 Try.func8 rfl rfl rfl rfl (fun w0 om => ?_)
 unfold law03_FoldTurns at hm
 refine CWalk.sub (G' := [.fact 0 (.rep [0] (a0 : List (List UInt8))), .fact 1 (.rep [] (a1 : Int)), .fact 2 (.rep [] (a2 : UInt8)), .fact 3 (.rep [] (a3 : UInt8))]) (sn (Sub.cons (Has.fl (Has.s rfl)) (Sub.cons (Has.fl (Has.s rfl)) (Sub.cons (Has.fl (Has.s rfl)) Sub.nil)))) ?_
 refine CWalk.seq ?_
 refine CWalk.region ?_
 refine wo (Spec.assign Has.bool) ?_
 refine Walk.nil ?_
 refine Leaf.thenN ?_
 refine CWalk.seq ?_
 refine CWalk.region ?_
 obtain ⟨x1, hx1, hm⟩ := bind_some hm
 refine wo (f := Fact.rep [] (x1 : Bool)) (Spec.callE [] 10 rfl en12 (law03_alive_c  hx1) HasAll.nil) ?_
 refine wo (Spec.assign (Has.s rfl)) ?_
 refine Walk.nil ?_
 refine Leaf.thenN ?_
 refine CWalk.seq ?_
 refine CWalk.region ?_
 refine mv ?_
 refine wo (Spec.conv (α := UInt8) (β := Int) Try.underlying5 Try.underlying3 (Has.s rfl)) ?_
 obtain ⟨x2, hx2, hm⟩ := bind_some hm
 refine wo (Spec.remI hx2 (Has.s rfl) Has.int) ?_
 refine wo (Spec.assign (Has.s rfl)) ?_
 refine Walk.nil ?_
 refine Leaf.thenN ?_
 refine CWalk.seq ?_
 refine CWalk.seq ?_
 refine CWalk.region ?_
 refine mv ?_
 obtain ⟨x3, hx3, hm⟩ := bind_some hm
 refine wo (f := Fact.rep [] (x3 : Bool)) (Spec.callE [0] 11 rfl en13 (ref03_Great_c a0 hx3) (HasAll.cons (Has.m (Has.s rfl) rfl) HasAll.nil)) ?_
 refine mv ?_
 refine wg rfl rfl (fun hb => Spec.move (Has.s rfl)) ?_
 refine wg rfl rfl (fun hb => Spec.lssI (Has.u rfl hb) Has.int) ?_
 refine wo (Spec.or (Has.s rfl) (fun h => Has.u rfl h)) ?_
 refine mv ?_
 refine wg rfl rfl (fun hb => Spec.move (Has.s rfl)) ?_
 refine wg rfl rfl (fun hb => Spec.move (Has.s rfl)) ?_
 refine wg rfl rfl (fun hb => Spec.len (Has.u rfl hb) Try.underlying27) ?_
 refine wg rfl rfl (fun hb => Spec.geqI (Has.u rfl hb) (Has.u rfl hb)) ?_
 refine wo (Spec.or (Has.s rfl) (fun h => Has.u rfl h)) ?_
 refine mv ?_
 refine wg rfl rfl (fun hb => Spec.move (Has.s rfl)) ?_
 refine wg rfl rfl (fun hb => Spec.move (Has.s rfl)) ?_
 obtain ⟨x4, hx4, hm⟩ := bind_some hm
 refine wg rfl rfl (fun hb => Spec.indexAddr (gO_t hx4 (not_t hb)) sl27 (Has.u rfl hb) (Has.u rfl hb)) ?_
 refine wg rfl rfl (fun hb => Spec.load ty22 (Has.u rfl hb)) ?_
 refine wg rfl rfl (fun hb => Spec.len (Has.u rfl hb) Try.underlying22) ?_
 refine wg rfl rfl (fun hb => Spec.neqI (Has.u rfl hb) Has.int) ?_
 refine wo (Spec.or (Has.s rfl) (fun h => Has.u rfl h)) ?_
 refine Walk.nil ?_
 refine Leaf.thenN ?_
 refine CWalk.cond rfl (fun hb => ?_) (fun hb => ?_)
 ·have hm := cond_t hb hm
  refine CWalk.seq ?_
  refine CWalk.region ?_
  refine mv ?_
  refine wo (Spec.assign (Has.s rfl)) ?_
  refine Walk.nil ?_
  refine Leaf.thenN ?_
  refine CWalk.ret ?_
  refine Leaf.thenR ?_
  obtain rfl := Option.some.inj hm
  exact Leaf.retC1 rfl (HasR.cv (HasR.tmp (Has.s rfl)) Cv.fl)
 ·have hm := cond_f hb hm
  refine CWalk.skip ?_
  refine Leaf.thenN ?_
  refine CWalk.seq ?_
  refine CWalk.region ?_
  refine mv ?_
  obtain ⟨x5, hx5, hm⟩ := bind_some hm
  refine wo (Spec.appNilO (te' := [0]) 12 hx5 rfl ow27 Has.nilv (Has.s rfl) (ElKeep.tags rfl rfl)) ?_
  refine wo (Spec.assign (Has.s rfl)) ?_
  refine Walk.nil ?_
  refine Leaf.thenN ?_
  refine CWalk.seq ?_
  refine CWalk.ad (Ad.ow (s := 11) 13 rfl rfl (ElT.tags rfl) rfl (Cv.owM (T := [12]) (te := [0]) (T' := [12]) (te' := [0]) rfl rfl)) ?_
  refine CWalk.region ?_
  refine mv ?_
  refine mv ?_
  refine mv ?_
  refine mv ?_
  obtain ⟨x6, hx6, hm⟩ := bind_some hm
  refine wo (Spec.indexAddr hx6 sl27 (Has.s rfl) (Has.s rfl)) ?_
  refine wo (Spec.load ty22 (Has.s rfl)) ?_
  obtain ⟨x7, hx7, hm⟩ := bind_some hm
  refine wo (Spec.appNilO (te' := []) 14 hx7 rfl ow22 Has.nilv (Has.s rfl) ElKeep.flat) ?_
  obtain ⟨x8, hx8, hm⟩ := bind_some hm
  refine wo (Spec.idxOwn hx8 ow27 (Has.s rfl) rfl (Has.s rfl)) ?_
  refine Walk.ad (Ad.ow (s := 50) 15 rfl rfl ElT.flat rfl (Cv.owF (T := [14]) (te := []) (T' := [14]) (te' := []) rfl)) ?_
  refine ws (Step.storeX rfl rfl rfl rfl (bnd_lt hx8 rfl) ty22 (Has.s rfl) rfl (Has.s rfl) rfl (ElKeep.tags rfl rfl)) ?_
  refine Walk.nil ?_
  refine Leaf.thenN ?_
  refine CWalk.seq ?_
  obtain ⟨x9, hx9, hm⟩ := bind_some hm
  obtain ⟨x10, hx10, hm⟩ := bind_some hm
  obtain ⟨x11, hx11, hm⟩ := bind_some hm
  refine CWalk.drawM [[], [], [0, 1], [0, 1, 2], [], [], [], [5, 6], [5, 6, 7], [], [5, 6, 7, 8, 9], [5, 6, 7, 8, 9, 10], [], [5, 6, 7, 8, 9, 10, 11, 12], [0, 1, 2, 3, 4, 5, 6, 7, 8, 9, 10, 11, 12, 13], [0, 1, 2, 3, 4, 5, 6, 7, 8, 9, 10, 11, 12, 13, 14]] [[.fact 52 (.isv 13)], [.fact 53 (.rep [] (a1 : Int))], [.fact 54 (.pto 13 (x8 * Rp.n (List UInt8)))], [.fact 55 (.isv 15)], [.fact 56 (.rep [] (x2 : Int))], [.fact 57 (.isv 13)], [.fact 58 (.rep [] (a1 : Int))], [.fact 59 (.pto 13 (x8 * Rp.n (List UInt8)))], [.fact 60 (.isv 15)], [.fact 61 (.rep [] (x2 : Int))], [.fact 62 (.pto 15 (x9 * Rp.n UInt8))], [.fact 63 (.rep [] (x10 : UInt8))], [.fact 64 (.rep [] (a3 : UInt8))], [.fact 65 (.rep [] ((x10 ^^^ a3) : UInt8))], [.fact 66 (.pto 15 (x11 * Rp.n UInt8))], [.fact 100015 (.own 15 [] 5 ((x7).set x11 (x10 ^^^ a3) : List UInt8)), .kill 15]] mixed (by kernel_rfl) (ao (so (Spec.move (Has.s rfl))) (ao (so (Spec.move (Has.s rfl))) (ao (so (Spec.idxX hx8 ow27 (Has.s rfl) rfl (Has.s rfl))) (ao (so (Spec.loadX rfl rfl ty22 (Has.s rfl) rfl)) (ao (so (Spec.move (Has.s rfl))) (ao (so (Spec.move (Has.s rfl))) (ao (so (Spec.move (Has.s rfl))) (ao (so (Spec.idxX hx8 ow27 (Has.s rfl) rfl (Has.s rfl))) (ao (so (Spec.loadX rfl rfl ty22 (Has.s rfl) rfl)) (ao (so (Spec.move (Has.s rfl))) (ao (so (Spec.idxOwn hx9 ow22 (Has.s rfl) rfl (Has.s rfl))) (ao (so ((Spec.loadOwn hx10 ty5 (Has.s rfl) rfl).flat (T' := []))) (ao (so (Spec.move (Has.s rfl))) (ao (so (Spec.xorB (Has.s rfl) (Has.s rfl))) (ao (so (Spec.idxOwn hx11 ow22 (Has.s rfl) rfl (Has.s rfl))) (ao (StepG.stE (Step.storeOwn (te' := []) rfl (bnd_lt hx11 rfl) ty5 (Has.s rfl) rfl (Has.s rfl) ElKeep.flat ElKeep.flat)) AllM.nil)))))))))))))))) ?_
  refine Leaf.thenN ?_
  refine CWalk.seq ?_
  refine CWalk.region ?_
  refine mv ?_
  obtain ⟨x12, hx12, hm⟩ := bind_some hm
  refine wo (f := Fact.tup2 (Fact.sl [16] [] (x12.1 : List UInt8)) (Fact.rep [] x12.2)) (Spec.callE [0] 16 rfl en10 (fold_Fold_c a0 hx12) (HasAll.cons (Has.m (Has.s rfl) rfl) HasAll.nil)) ?_
  refine mv ?_
  refine wo (Spec.ext0 (Has.s rfl)) ?_
  refine wo (Spec.ext1 (Has.s rfl)) ?_
  refine wo (Spec.assign (Has.s rfl)) ?_
  refine wo (Spec.assign (Has.s rfl)) ?_
  refine Walk.nil ?_
  refine Leaf.thenN ?_
  refine CWalk.seq ?_
  refine CWalk.region ?_
  refine mv ?_
  obtain ⟨x13, hx13, hm⟩ := bind_some hm
  refine wo (f := Fact.tup2 (Fact.sl [17] [] (x13.1 : List UInt8)) (Fact.rep [] x13.2)) (Spec.callE [0, 13, 15] 17 rfl en10 (fold_Fold_c ((x5).set x8 ((x7).set x11 (x10 ^^^ a3))) hx13) (HasAll.cons (Has.m (Has.cv (Has.s rfl) (Cv.ownX (T := [0, 15]) rfl rfl rfl rfl rfl rfl)) rfl) HasAll.nil)) ?_
  refine mv ?_
  refine wo (Spec.ext0 (Has.s rfl)) ?_
  refine wo (Spec.ext1 (Has.s rfl)) ?_
  refine wo (Spec.assign (Has.s rfl)) ?_
  refine wo (Spec.assign (Has.s rfl)) ?_
  refine Walk.nil ?_
  refine Leaf.thenN ?_
  refine CWalk.seq ?_
  refine CWalk.seq ?_
  refine CWalk.region ?_
  refine mv ?_
  refine wo (Spec.neqI (Has.s rfl) Has.int) ?_
  refine Walk.nil ?_
  refine Leaf.thenN ?_
  refine CWalk.cond rfl (fun hb => ?_) (fun hb => ?_)
  ·have hm := cond_t hb hm
   refine CWalk.seq ?_
   refine CWalk.region ?_
   refine mv ?_
   refine mv ?_
   refine wg rfl rfl (fun hb => Spec.move (Has.s rfl)) ?_
   refine wg rfl rfl (fun hb => Spec.move (Has.s rfl)) ?_
   refine wg rfl rfl (fun hb => Spec.eqlI (Has.u rfl hb) (Has.u rfl hb)) ?_
   refine wo (Spec.and (Has.s rfl) (fun h => Has.u rfl h)) ?_
   refine wo (Spec.assign (Has.s rfl)) ?_
   refine Walk.nil ?_
   refine Leaf.thenN ?_
   refine CWalk.ret ?_
   refine Leaf.thenR ?_
   obtain rfl := Option.some.inj hm
   exact Leaf.retC1 rfl (HasR.cv (HasR.tmp (Has.s rfl)) Cv.fl)
  ·have hm := cond_f hb hm
   refine CWalk.skip ?_
   refine Leaf.thenN ?_
   refine CWalk.seq ?_
   refine CWalk.seq ?_
   refine CWalk.region ?_
   refine mv ?_
   refine wo (Spec.neqI (Has.s rfl) Has.int) ?_
   refine mv ?_
   refine wg rfl rfl (fun hb => Spec.move (Has.s rfl)) ?_
   refine wg rfl rfl (fun hb => Spec.len (Has.cv (Has.u rfl hb) (Cv.slRep (T' := [16]) rfl rfl)) Try.underlying22) ?_
   refine wg rfl rfl (fun hb => Spec.neqI (Has.u rfl hb) Has.int) ?_
   refine wo (Spec.or (Has.s rfl) (fun h => Has.u rfl h)) ?_
   refine mv ?_
   refine wg rfl rfl (fun hb => Spec.move (Has.s rfl)) ?_
   refine wg rfl rfl (fun hb => Spec.len (Has.cv (Has.u rfl hb) (Cv.slRep (T' := [17]) rfl rfl)) Try.underlying22) ?_
   refine wg rfl rfl (fun hb => Spec.neqI (Has.u rfl hb) Has.int) ?_
   refine wo (Spec.or (Has.s rfl) (fun h => Has.u rfl h)) ?_
   refine Walk.nil ?_
   refine Leaf.thenN ?_
   refine CWalk.cond rfl (fun hb => ?_) (fun hb => ?_)
   ·have hm := cond_t hb hm
    refine CWalk.seq ?_
    refine CWalk.region ?_
    refine wo (Spec.assign Has.bool) ?_
    refine Walk.nil ?_
    refine Leaf.thenN ?_
    refine CWalk.ret ?_
    refine Leaf.thenR ?_
    obtain rfl := Option.some.inj hm
    exact Leaf.retC1 rfl (HasR.cv (HasR.tmp (Has.s rfl)) Cv.fl)
   ·have hm := cond_f hb hm
    refine CWalk.skip ?_
    refine Leaf.thenN ?_
    refine CWalk.seq ?_
    refine CWalk.seq ?_
    refine CWalk.region ?_
    refine wo (Spec.assign Has.int) ?_
    refine Walk.nil ?_
    refine Leaf.thenN ?_
    refine CWalk.block ?_
    obtain ⟨b18, hb18, hm⟩ := bind_some hm
    refine CWalk.loop (fun s : Int => [.fact 3 (.rep [] (a3 : UInt8)), .fact 9 (.rep [] (x1 : Bool)), .fact 10 (.rep [] (x2 : Int)), .fact 12 (.sl [16] [] (x12.1 : List UInt8)), .fact 14 (.sl [17] [] (x13.1 : List UInt8)), .fact 16 (.rep [] (s : Int))]) (fun b : (Unit) ⊕ (Unit) => Sum.elim (fun b => (Exit.exit 0, [.fact 3 (.rep [] (a3 : UInt8)), .fact 9 (.rep [] (x1 : Bool)), .fact 10 (.rep [] (x2 : Int)), .fact 12 (.sl [16] [] (x12.1 : List UInt8)), .fact 14 (.sl [17] [] (x13.1 : List UInt8))])) (fun b => (Exit.ret, [.fact 8 (.rep [] (false : Bool))])) b) hb18 (st (st (st (Sub.cons (Has.cv (Has.s rfl) (Cv.slF (T := [16]) (te := []) rfl)) (Sub.cons (Has.cv (Has.s rfl) (Cv.slF (T := [17]) (te := []) rfl)) (st Sub.nil)))))) ?_ ?_
    ·rintro s14 c15 hm
     replace hm : law03_FoldTurns_L1 x2 x12 x13 s14 = some c15 := hm
     unfold law03_FoldTurns_L1 at hm
     show CWalk _ [.fact 3 (.rep [] (a3 : UInt8)), .fact 9 (.rep [] (x1 : Bool)), .fact 10 (.rep [] (x2 : Int)), .fact 12 (.sl [16] [] (x12.1 : List UInt8)), .fact 14 (.sl [17] [] (x13.1 : List UInt8)), .fact 16 (.rep [] (s14 : Int))] _ _
     refine CWalk.seq ?_
     refine CWalk.seq ?_
     refine CWalk.region ?_
     refine mv ?_
     refine wo (Spec.lssI (Has.s rfl) Has.int) ?_
     refine Walk.nil ?_
     refine Leaf.thenN ?_
     refine CWalk.cond rfl (fun hb => ?_) (fun hb => ?_)
     ·have hm := cond_t hb hm
      refine CWalk.skip ?_
      refine Leaf.thenN ?_
      refine CWalk.seq ?_
      refine CWalk.block ?_
      refine CWalk.seq ?_
      obtain ⟨x16, hx16, hm⟩ := bind_some hm
      obtain ⟨x17, hx17, hm⟩ := bind_some hm
      refine CWalk.drawM [[], [], [0, 1], [0, 1, 2], [0, 1, 2, 3], [0, 1, 2, 3], [0, 1, 2, 3, 4, 5], [0, 1, 2, 3, 4, 5, 6], [0, 1, 2, 3], [0, 1, 2, 3], [0, 1, 2, 3, 8, 9], [0, 1, 2, 3, 8, 9, 10], [0, 1, 2, 3, 4, 5, 6, 7, 8, 9, 10, 11], [0, 1, 2, 3, 4, 5, 6, 7, 8, 9, 10, 11, 12]] [[.fact 101 (.rep [] (s14 : Int))], [.fact 102 (.rep [] (x2 : Int))], [.fact 103 (.rep [] ((s14 != x2) : Bool))], [.fact 104 (.rep [] ((s14 != x2) : Bool))], [.fact 105 (.under ((s14 != x2) = true) (.sl [16] [] (x12.1 : List UInt8)))], [.fact 106 (.under ((s14 != x2) = true) (.rep [] (s14 : Int)))], [.fact 107 (.under ((s14 != x2) = true) (.pts [16] [] (x16 : UInt8)))], [.fact 108 (.under ((s14 != x2) = true) (.rep [] (x16 : UInt8)))], [.fact 109 (.under ((s14 != x2) = true) (.sl [17] [] (x13.1 : List UInt8)))], [.fact 110 (.under ((s14 != x2) = true) (.rep [] (s14 : Int)))], [.fact 111 (.under ((s14 != x2) = true) (.pts [17] [] (x17 : UInt8)))], [.fact 112 (.under ((s14 != x2) = true) (.rep [] (x17 : UInt8)))], [.fact 113 (.under ((s14 != x2) = true) (.rep [] ((x16 != x17) : Bool)))], [.fact 114 (.rep [] (((s14 != x2) && (x16 != x17)) : Bool))]] mixed (by kernel_rfl) (ao (so (Spec.move (Has.s rfl))) (ao (so (Spec.move (Has.s rfl))) (ao (so (Spec.neqI (Has.s rfl) (Has.s rfl))) (ao (so (Spec.move (Has.s rfl))) (ao (StepG.opg rfl rfl rfl (fun hb => Spec.move (Has.s rfl))) (ao (StepG.opg rfl rfl rfl (fun hb => Spec.move (Has.s rfl))) (ao (StepG.opg rfl rfl rfl (fun hb => Spec.indexSl (gO_t hx16 hb) sl22 (Has.u rfl hb) (Has.u rfl hb))) (ao (StepG.opg rfl rfl rfl (fun hb => (Spec.loadS ty5 (Has.u rfl hb)).flat (T' := []))) (ao (StepG.opg rfl rfl rfl (fun hb => Spec.move (Has.s rfl))) (ao (StepG.opg rfl rfl rfl (fun hb => Spec.move (Has.s rfl))) (ao (StepG.opg rfl rfl rfl (fun hb => Spec.indexSl (gO_t hx17 hb) sl22 (Has.u rfl hb) (Has.u rfl hb))) (ao (StepG.opg rfl rfl rfl (fun hb => (Spec.loadS ty5 (Has.u rfl hb)).flat (T' := []))) (ao (StepG.opg rfl rfl rfl (fun hb => Spec.neqB (Has.u rfl hb) (Has.u rfl hb))) (ao (so (Spec.and (Has.s rfl) (fun h => Has.u rfl h))) AllM.nil)))))))))))))) ?_
      refine Leaf.thenN ?_
      refine CWalk.cond rfl (fun hb => ?_) (fun hb => ?_)
      ·have hm := cond_t hb hm
       refine CWalk.seq ?_
       refine CWalk.region ?_
       refine wo (Spec.assign Has.bool) ?_
       refine Walk.nil ?_
       refine Leaf.thenN ?_
       refine CWalk.ret ?_
       refine Leaf.blockR ?_
       refine Leaf.thenR ?_
       exact Leaf.brk hm (fun h => nomatch h) rfl (st Sub.nil)
      ·have hm := cond_f hb hm
       refine CWalk.skip ?_
       refine Leaf.blockN ?_
       refine Leaf.thenN ?_
       refine CWalk.region ?_
       refine mv ?_
       refine wo (Spec.addI (Has.s rfl) Has.int) ?_
       refine wo (Spec.assign (Has.s rfl)) ?_
       refine Walk.nil ?_
       exact Leaf.next hm (st (st (st (Sub.cons (Has.cv (Has.s rfl) (Cv.slF (T := [16]) (te := []) rfl)) (Sub.cons (Has.cv (Has.s rfl) (Cv.slF (T := [17]) (te := []) rfl)) (st Sub.nil))))))
     ·have hm := cond_f hb hm
      refine CWalk.exit ?_
      refine Leaf.thenE ?_
      exact Leaf.brk hm (fun h => nomatch h) rfl (st (st (st (Sub.cons (Has.cv (Has.s rfl) (Cv.slF (T := [16]) (te := []) rfl)) (Sub.cons (Has.cv (Has.s rfl) (Cv.slF (T := [17]) (te := []) rfl)) Sub.nil)))))
    ·intro _
     rcases b18 with b19 | b22
     ·have hm := selim_l hm
      refine Leaf.blockE ?_
      refine Leaf.thenN ?_
      refine CWalk.seq ?_
      obtain ⟨x20, hx20, hm⟩ := bind_some hm
      obtain ⟨x21, hx21, hm⟩ := bind_some hm
      refine CWalk.drawM [[], [0], [0, 1], [0, 1], [0, 1, 2, 3], [0, 1, 2, 3, 4], [0, 1], [0, 1, 2, 3, 4, 5, 6], [0, 1], [0, 1], [0, 1, 8, 9], [0, 1, 8, 9, 10], [0, 1, 2, 3, 4, 5, 6, 7, 8, 9, 10, 11], [0, 1, 2, 3, 4, 5, 6, 7, 8, 9, 10, 11, 12], [0, 1, 2, 3, 4, 5, 6, 7, 8, 9, 10, 11, 12, 13]] [[.fact 115 (.rep [] (x1 : Bool))], [.fact 116 (.rep [] (x1 : Bool))], [.fact 117 (.under (x1 = true) (.sl [16] [] (x12.1 : List UInt8)))], [.fact 118 (.under (x1 = true) (.rep [] (x2 : Int)))], [.fact 119 (.under (x1 = true) (.pts [16] [] (x20 : UInt8)))], [.fact 120 (.under (x1 = true) (.rep [] (x20 : UInt8)))], [.fact 121 (.under (x1 = true) (.rep [] (a3 : UInt8)))], [.fact 122 (.under (x1 = true) (.rep [] ((x20 ^^^ a3) : UInt8)))], [.fact 123 (.under (x1 = true) (.sl [17] [] (x13.1 : List UInt8)))], [.fact 124 (.under (x1 = true) (.rep [] (x2 : Int)))], [.fact 125 (.under (x1 = true) (.pts [17] [] (x21 : UInt8)))], [.fact 126 (.under (x1 = true) (.rep [] (x21 : UInt8)))], [.fact 127 (.under (x1 = true) (.rep [] (((x20 ^^^ a3) == x21) : Bool)))], [.fact 128 (.rep [] ((x1 && ((x20 ^^^ a3) == x21)) : Bool))], [.fact 8 (.rep [] ((x1 && ((x20 ^^^ a3) == x21)) : Bool))]] mixed (by kernel_rfl) (ao (so (Spec.move (Has.s rfl))) (ao (so (Spec.move (Has.s rfl))) (ao (StepG.opg rfl rfl rfl (fun hb => Spec.move (Has.s rfl))) (ao (StepG.opg rfl rfl rfl (fun hb => Spec.move (Has.s rfl))) (ao (StepG.opg rfl rfl rfl (fun hb => Spec.indexSl (gO_t hx20 hb) sl22 (Has.u rfl hb) (Has.u rfl hb))) (ao (StepG.opg rfl rfl rfl (fun hb => (Spec.loadS ty5 (Has.u rfl hb)).flat (T' := []))) (ao (StepG.opg rfl rfl rfl (fun hb => Spec.move (Has.s rfl))) (ao (StepG.opg rfl rfl rfl (fun hb => Spec.xorB (Has.u rfl hb) (Has.u rfl hb))) (ao (StepG.opg rfl rfl rfl (fun hb => Spec.move (Has.s rfl))) (ao (StepG.opg rfl rfl rfl (fun hb => Spec.move (Has.s rfl))) (ao (StepG.opg rfl rfl rfl (fun hb => Spec.indexSl (gO_t hx21 hb) sl22 (Has.u rfl hb) (Has.u rfl hb))) (ao (StepG.opg rfl rfl rfl (fun hb => (Spec.loadS ty5 (Has.u rfl hb)).flat (T' := []))) (ao (StepG.opg rfl rfl rfl (fun hb => Spec.eqlB (Has.u rfl hb) (Has.u rfl hb))) (ao (so (Spec.and (Has.s rfl) (fun h => Has.u rfl h))) (ao (so (Spec.assign (Has.s rfl))) AllM.nil))))))))))))))) ?_
      refine Leaf.thenN ?_
      refine CWalk.ret ?_
      obtain rfl := Option.some.inj hm
      exact Leaf.retC1 rfl (HasR.cv (HasR.tmp (Has.s rfl)) Cv.fl)
     ·have hm := selim_r hm
      refine Leaf.blockR ?_
      refine Leaf.thenR ?_
      obtain rfl := Option.some.inj hm
      exact Leaf.retC1 rfl (HasR.cv (HasR.tmp (Has.s rfl)) Cv.fl)

end Go.Proofs.Yteadgdpeiokplaa
