/- Printed by a program of ours: models of functions, and that calls do what they say. -/
import Derived.Test.YteadgdpeiokplaaProg
import Derived.Test.YteadgdpeiokplaaCore11
import Derived.KernelRfl
namespace Go.Proofs.Yteadgdpeiokplaa
open Go GL
set_option linter.unusedVariables false

theorem ar39 : ArrTy Try.prog 39 5 128 (UInt8) (0 : UInt8) := ArrTy.of Try.underlying39 rfl (by kernel_rfl) (by kernel_rfl) (fun _ => rfl)
theorem sl27 : SlTy Try.prog 27 22 (List UInt8) := SlTy.of Try.underlying27 (by kernel_rfl) rfl
theorem ty22 : Ty Try.prog 22 (List UInt8) := Ty.of (by kernel_rfl)
theorem sl22 : SlTy Try.prog 22 5 (UInt8) := SlTy.of Try.underlying22 (by kernel_rfl) rfl
theorem ty5 : Ty Try.prog 5 (UInt8) := Ty.of (by kernel_rfl)
theorem ow22 : OwnTy Try.prog 22 5 (UInt8) := OwnTy.of Try.underlying22 (by kernel_rfl) rfl (by kernel_rfl)
theorem zt5 : ZeroTy Try.prog 5 (0 : UInt8) := ⟨.int .u8 0, by kernel_rfl, fun _ => rfl⟩
theorem en11 : enters Try.prog 11 = true := by kernel_rfl
theorem ow27 : OwnTy Try.prog 27 22 (List UInt8) := OwnTy.of Try.underlying27 (by kernel_rfl) rfl (by kernel_rfl)
theorem en10 : enters Try.prog 10 = true := by kernel_rfl
theorem mixed : Try.prog.follows .mixedOrders = true := by kernel_rfl
theorem zt22 : ZeroTy Try.prog 22 ([] : List UInt8) := ⟨.slice none 0 0, by kernel_rfl, fun _ => nil_rel⟩
theorem en12 : enters Try.prog 12 = true := by kernel_rfl
theorem en20 : enters Try.prog 20 = true := by kernel_rfl
theorem en22 : enters Try.prog 22 = true := by kernel_rfl
theorem en21 : enters Try.prog 21 = true := by kernel_rfl
theorem en18 : enters Try.prog 18 = true := by kernel_rfl
theorem en19 : enters Try.prog 19 = true := by kernel_rfl
theorem en13 : enters Try.prog 13 = true := by kernel_rfl
theorem en14 : enters Try.prog 14 = true := by kernel_rfl
theorem en15 : enters Try.prog 15 = true := by kernel_rfl
theorem en16 : enters Try.prog 16 = true := by kernel_rfl
theorem en17 : enters Try.prog 17 = true := by kernel_rfl

def fold_Fold_J2 (s1 : Int) (j4 : List UInt8) : Option (Ctl (Int × (List UInt8)) (Int × (List UInt8))) :=
  some (Ctl.next ((wI (s1 + (1 : Int))), j4))
def fold_Fold_L3 (x5 : List UInt8) (s6 : Int) (s7 : List UInt8) : Option (Ctl (Int × (List UInt8)) ((List UInt8))) :=
  (bif (decide (s6 < ((x5).length : Int))) then Option.bind (idx x5 s6) (fun x9 => Option.bind (bnd 128 s6) (fun x10 => Option.bind ((s7)[x10]?) (fun x11 => Option.bind (bnd 128 s6) (fun x12 => some (Ctl.next ((wI (s6 + (1 : Int))), (s7).set x12 (x11 ^^^ x9))))))) else some (Ctl.brk s7))
def fold_Fold_L1 (a0 : List (List UInt8)) (s1 : Int) (s2 : List UInt8) : Option (Ctl (Int × (List UInt8)) (Int × (List UInt8))) :=
  (bif (decide (s1 < ((a0).length : Int))) then Option.bind (idx a0 s1) (fun x5 => (bif (((x5).length : Int) == (0 : Int)) then (fold_Fold_J2 s1 s2) else (bif (((x5).length : Int) == (128 : Int)) then Option.bind (loopM (fun s : Int × (List UInt8) => fold_Fold_L3 x5 s.1 s.2) FUEL ((0 : Int), s2)) (fun b13 => (fold_Fold_J2 s1 b13)) else some (Ctl.brk ((3 : Int), s2))))) else some (Ctl.brk ((0 : Int), s2)))
/-- freeboard/fold.Fold -/
def fold_Fold (a0 : List (List UInt8)) : Option ((List UInt8) × Int) :=
  (bif (decide (((a0).length : Int) > (16 : Int))) then some (([] : List UInt8), (4 : Int)) else Option.bind (loopM (fun s : Int × (List UInt8) => fold_Fold_L1 a0 s.1 s.2) FUEL ((0 : Int), List.replicate 128 (0 : UInt8))) (fun b14 => (bif (b14.1 != (0 : Int)) then some (([] : List UInt8), b14.1) else some (b14.2, (0 : Int)))))
set_option maxRecDepth 100000 in
theorem fold_Fold_c (a0 : List (List UInt8)) {r : (List UInt8) × Int} (hm : fold_Fold a0 = some r) : Ctr Try.prog 10 [.rep a0] (.tup2 (.rep r.1) (.rep r.2)) false := by
  refine ctr_of_walk (T := [10]) 44 Try.func10 rfl rfl rfl rfl (fun w0 om => ?_)
  unfold fold_Fold at hm
  refine CWalk.sub (G' := [.fact 0 (Fact.rep [0] (a0 : List (List UInt8)))]) (Sub.cons (Has.s rfl) Sub.nil) ?_
  refine CWalk.seq ?_
  refine CWalk.region ?_
  refine Walk.op rfl (Spec.assign (Has.nil UInt8)) ?_
  refine Walk.op rfl (Spec.assign Has.int) ?_
  refine Walk.nil ?_
  refine Leaf.thenN ?_
  refine CWalk.scope ?_
  refine CWalk.seq ?_
  refine CWalk.seq ?_
  refine CWalk.region ?_
  refine Walk.op rfl (Spec.move (Has.s rfl)) ?_
  refine Walk.op rfl (Spec.len (Has.s rfl) Try.underlying27) ?_
  refine Walk.op rfl (Spec.gtrI (Has.s rfl) Has.int) ?_
  refine Walk.nil ?_
  refine Leaf.thenN ?_
  refine CWalk.cond rfl (fun hb => ?_) (fun hb => ?_)
  · have hm := cond_t hb hm
    refine CWalk.seq ?_
    refine CWalk.region ?_
    refine Walk.op rfl (Spec.assign (Has.nil UInt8)) ?_
    refine Walk.op rfl (Spec.assign Has.int) ?_
    refine Walk.nil ?_
    refine Leaf.thenN ?_
    refine CWalk.ret ?_
    refine Leaf.thenR ?_
    refine Leaf.scR ?_
    obtain rfl := Option.some.inj hm
    exact Leaf.ret2 rfl (Has.m (Has.s rfl) rfl) (Has.fl (Has.s rfl))
  · have hm := cond_f hb hm
    refine CWalk.skip ?_
    refine Leaf.thenN ?_
    refine CWalk.seq ?_
    refine CWalk.region ?_
    refine Walk.allocArr 10 rfl rfl ar39 ?_
    refine Walk.nil ?_
    refine Leaf.thenN ?_
    refine CWalk.seq ?_
    refine CWalk.region ?_
    refine Walk.op rfl (Spec.assign Has.int) ?_
    refine Walk.nil ?_
    refine Leaf.thenN ?_
    refine CWalk.seq ?_
    refine CWalk.label ?_
    refine Leaf.thenN ?_
    refine CWalk.seq ?_
    refine CWalk.seq ?_
    refine CWalk.region ?_
    refine Walk.op rfl (Spec.move (Has.s rfl)) ?_
    refine Walk.op rfl (Spec.len (Has.s rfl) Try.underlying27) ?_
    refine Walk.op rfl (Spec.move Has.int) ?_
    refine Walk.nil ?_
    refine Leaf.thenN ?_
    refine CWalk.block ?_
    obtain ⟨b14, hb14, hm⟩ := bind_some hm
    refine CWalk.loop (fun s : Int × (List UInt8) => [.fact 4 (Fact.isv 10), .fact 5 (Fact.rep [] ((0 : Int) : Int)), .fact 13 (Fact.rep [0] (a0 : List (List UInt8))), .fact 14 (Fact.rep [] (((a0).length : Int) : Int)), .fact 15 (Fact.rep [] (s.1 : Int)), .fact 100010 (Fact.arr 10 [] 128 (s.2 : List UInt8))]) (fun b : Int × (List UInt8) => (Exit.exit 0, [.fact 4 (Fact.isv 10), .fact 5 (Fact.rep [] (b.1 : Int)), .fact 100010 (Fact.arr 10 [] 128 (b.2 : List UInt8))])) hb14 (Sub.cons (Has.s rfl) (Sub.cons ((Has.s rfl)) (Sub.cons (Has.m (Has.s rfl) rfl) (Sub.cons ((Has.s rfl)) (Sub.cons ((Has.s rfl)) (Sub.cons (Has.arrM (Has.s rfl) rfl) Sub.nil)))))) ?_ ?_
    · rintro ⟨s1, s2⟩ c3 hm
      replace hm : fold_Fold_L1 a0 s1 s2 = some c3 := hm
      unfold fold_Fold_L1 at hm
      show CWalk _ [.fact 4 (Fact.isv 10), .fact 5 (Fact.rep [] ((0 : Int) : Int)), .fact 13 (Fact.rep [0] (a0 : List (List UInt8))), .fact 14 (Fact.rep [] (((a0).length : Int) : Int)), .fact 15 (Fact.rep [] (s1 : Int)), .fact 100010 (Fact.arr 10 [] 128 (s2 : List UInt8))] _ _
      refine CWalk.seq ?_
      refine CWalk.region ?_
      refine Walk.op rfl (Spec.lssI (Has.s rfl) (Has.s rfl)) ?_
      refine Walk.nil ?_
      refine Leaf.thenN ?_
      refine CWalk.seq ?_
      refine CWalk.cond rfl (fun hb => ?_) (fun hb => ?_)
      · have hm := cond_t hb hm
        refine CWalk.skip ?_
        refine Leaf.thenN ?_
        refine CWalk.seqJ (fun p : (List UInt8) => [.fact 4 (Fact.isv 10), .fact 5 (Fact.rep [] ((0 : Int) : Int)), .fact 13 (Fact.rep [0] (a0 : List (List UInt8))), .fact 14 (Fact.rep [] (((a0).length : Int) : Int)), .fact 15 (Fact.rep [] (s1 : Int)), .fact 100010 (Fact.arr 10 [] 128 (p : List UInt8))]) (fun p : (List UInt8) => fold_Fold_J2 s1 p = some c3) ?_ ?_
        · rintro j4 hm
          replace hm : fold_Fold_J2 s1 j4 = some c3 := hm
          unfold fold_Fold_J2 at hm
          show CWalk _ [.fact 4 (Fact.isv 10), .fact 5 (Fact.rep [] ((0 : Int) : Int)), .fact 13 (Fact.rep [0] (a0 : List (List UInt8))), .fact 14 (Fact.rep [] (((a0).length : Int) : Int)), .fact 15 (Fact.rep [] (s1 : Int)), .fact 100010 (Fact.arr 10 [] 128 (j4 : List UInt8))] _ _
          refine CWalk.region ?_
          refine Walk.op rfl (Spec.addI (Has.s rfl) Has.int) ?_
          refine Walk.op rfl (Spec.move (Has.s rfl)) ?_
          refine Walk.nil ?_
          exact Leaf.next hm (Sub.cons (Has.s rfl) (Sub.cons ((Has.s rfl)) (Sub.cons (Has.m (Has.s rfl) rfl) (Sub.cons ((Has.s rfl)) (Sub.cons ((Has.s rfl)) (Sub.cons (Has.arrM (Has.s rfl) rfl) Sub.nil))))))
        · refine CWalk.block ?_
          refine CWalk.seq ?_
          refine CWalk.region ?_
          obtain ⟨x5, hx5, hm⟩ := bind_some hm
          refine Walk.op rfl (Spec.indexAddr hx5 sl27 (Has.s rfl) (Has.s rfl)) ?_
          refine Walk.op rfl (Spec.load ty22 (Has.s rfl)) ?_
          refine Walk.op rfl (Spec.assign (Has.s rfl)) ?_
          refine Walk.nil ?_
          refine Leaf.thenN ?_
          refine CWalk.seq ?_
          refine CWalk.region ?_
          refine Walk.op rfl (Spec.move (Has.s rfl)) ?_
          refine Walk.op rfl (Spec.len (Has.s rfl) Try.underlying22) ?_
          refine Walk.nil ?_
          refine Leaf.thenN ?_
          refine CWalk.block ?_
          refine CWalk.seq ?_
          refine CWalk.region ?_
          refine Walk.op rfl (Spec.eqlI (Has.s rfl) Has.int) ?_
          refine Walk.op rfl (Spec.assign (Has.s rfl)) ?_
          refine Walk.nil ?_
          refine Leaf.thenN ?_
          refine CWalk.cond rfl (fun hb => ?_) (fun hb => ?_)
          · have hm := cond_t hb hm
            refine CWalk.exit ?_
            refine Leaf.blockO rfl ?_
            refine Leaf.blockE ?_
            exact Leaf.join s2 hm (Sub.cons (Has.s rfl) (Sub.cons ((Has.s rfl)) (Sub.cons (Has.m (Has.s rfl) rfl) (Sub.cons ((Has.s rfl)) (Sub.cons ((Has.s rfl)) (Sub.cons (Has.arrM (Has.s rfl) rfl) Sub.nil))))))
          · have hm := cond_f hb hm
            refine CWalk.seq ?_
            refine CWalk.region ?_
            refine Walk.op rfl (Spec.eqlI (Has.s rfl) Has.int) ?_
            refine Walk.op rfl (Spec.assign (Has.s rfl)) ?_
            refine Walk.nil ?_
            refine Leaf.thenN ?_
            refine CWalk.cond rfl (fun hb => ?_) (fun hb => ?_)
            · have hm := cond_t hb hm
              refine CWalk.seq ?_
              refine CWalk.region ?_
              refine Walk.op rfl (Spec.move (Has.s rfl)) ?_
              refine Walk.op rfl (Spec.len (Has.s rfl) Try.underlying22) ?_
              refine Walk.op rfl (Spec.move Has.int) ?_
              refine Walk.nil ?_
              refine Leaf.thenN ?_
              refine CWalk.block ?_
              obtain ⟨b13, hb13, hm⟩ := bind_some hm
              refine CWalk.loop (fun s : Int × (List UInt8) => [.fact 4 (Fact.isv 10), .fact 5 (Fact.rep [] ((0 : Int) : Int)), .fact 13 (Fact.rep [0] (a0 : List (List UInt8))), .fact 14 (Fact.rep [] (((a0).length : Int) : Int)), .fact 15 (Fact.rep [] (s1 : Int)), .fact 25 (Fact.rep [0] (x5 : List UInt8)), .fact 26 (Fact.rep [] (((x5).length : Int) : Int)), .fact 27 (Fact.rep [] (s.1 : Int)), .fact 100010 (Fact.arr 10 [] 128 (s.2 : List UInt8))]) (fun b : (List UInt8) => (Exit.exit 3, [.fact 4 (Fact.isv 10), .fact 5 (Fact.rep [] ((0 : Int) : Int)), .fact 13 (Fact.rep [0] (a0 : List (List UInt8))), .fact 14 (Fact.rep [] (((a0).length : Int) : Int)), .fact 15 (Fact.rep [] (s1 : Int)), .fact 100010 (Fact.arr 10 [] 128 (b : List UInt8))])) hb13 (Sub.cons (Has.s rfl) (Sub.cons ((Has.s rfl)) (Sub.cons (Has.m (Has.s rfl) rfl) (Sub.cons ((Has.s rfl)) (Sub.cons ((Has.s rfl)) (Sub.cons (Has.m (Has.s rfl) rfl) (Sub.cons ((Has.s rfl)) (Sub.cons ((Has.s rfl)) (Sub.cons (Has.arrM (Has.s rfl) rfl) Sub.nil))))))))) ?_ ?_
              · rintro ⟨s6, s7⟩ c8 hm
                replace hm : fold_Fold_L3 x5 s6 s7 = some c8 := hm
                unfold fold_Fold_L3 at hm
                show CWalk _ [.fact 4 (Fact.isv 10), .fact 5 (Fact.rep [] ((0 : Int) : Int)), .fact 13 (Fact.rep [0] (a0 : List (List UInt8))), .fact 14 (Fact.rep [] (((a0).length : Int) : Int)), .fact 15 (Fact.rep [] (s1 : Int)), .fact 25 (Fact.rep [0] (x5 : List UInt8)), .fact 26 (Fact.rep [] (((x5).length : Int) : Int)), .fact 27 (Fact.rep [] (s6 : Int)), .fact 100010 (Fact.arr 10 [] 128 (s7 : List UInt8))] _ _
                refine CWalk.seq ?_
                refine CWalk.region ?_
                refine Walk.op rfl (Spec.lssI (Has.s rfl) (Has.s rfl)) ?_
                refine Walk.nil ?_
                refine Leaf.thenN ?_
                refine CWalk.seq ?_
                refine CWalk.cond rfl (fun hb => ?_) (fun hb => ?_)
                · have hm := cond_t hb hm
                  refine CWalk.skip ?_
                  refine Leaf.thenN ?_
                  refine CWalk.seq ?_
                  refine CWalk.block ?_
                  refine CWalk.seq ?_
                  refine CWalk.region ?_
                  refine Walk.op rfl (Spec.move (Has.s rfl)) ?_
                  obtain ⟨x9, hx9, hm⟩ := bind_some hm
                  refine Walk.op rfl (Spec.indexAddr hx9 sl22 (Has.s rfl) (Has.s rfl)) ?_
                  refine Walk.op rfl ((Spec.load ty5 (Has.s rfl)).flat (T' := [])) ?_
                  refine Walk.op rfl (Spec.assign (Has.s rfl)) ?_
                  refine Walk.op rfl (Spec.assign (Has.s rfl)) ?_
                  refine Walk.nil ?_
                  refine Leaf.thenN ?_
                  refine CWalk.region ?_
                  refine Walk.op rfl (Spec.move (Has.s rfl)) ?_
                  obtain ⟨x10, hx10, hm⟩ := bind_some hm
                  refine Walk.op rfl (Spec.idxArr hx10 ar39 (Has.s rfl) rfl (Has.s rfl)) ?_
                  obtain ⟨x11, hx11, hm⟩ := bind_some hm
                  refine Walk.op rfl ((Spec.loadArr hx11 ty5 (Has.s rfl) rfl).flat (T' := [])) ?_
                  refine Walk.op rfl (Spec.move (Has.s rfl)) ?_
                  refine Walk.op rfl (Spec.xorB (Has.s rfl) (Has.s rfl)) ?_
                  obtain ⟨x12, hx12, hm⟩ := bind_some hm
                  refine Walk.op rfl (Spec.idxArr hx12 ar39 (Has.s rfl) rfl (Has.s rfl)) ?_
                  refine Walk.storeArr (te' := []) rfl (bnd_lt hx12 rfl) ty5 (Has.s rfl) rfl (Has.s rfl) ElKeep.flat ElKeep.flat ?_
                  refine Walk.nil ?_
                  refine Leaf.blockN ?_
                  refine Leaf.thenN ?_
                  refine CWalk.region ?_
                  refine Walk.op rfl (Spec.addI (Has.s rfl) Has.int) ?_
                  refine Walk.op rfl (Spec.move (Has.s rfl)) ?_
                  refine Walk.nil ?_
                  exact Leaf.next hm (Sub.cons (Has.s rfl) (Sub.cons ((Has.s rfl)) (Sub.cons (Has.m (Has.s rfl) rfl) (Sub.cons ((Has.s rfl)) (Sub.cons ((Has.s rfl)) (Sub.cons (Has.m (Has.s rfl) rfl) (Sub.cons ((Has.s rfl)) (Sub.cons ((Has.s rfl)) (Sub.cons (Has.arrM (Has.s rfl) rfl) Sub.nil)))))))))
                · have hm := cond_f hb hm
                  refine CWalk.exit ?_
                  refine Leaf.thenE ?_
                  exact Leaf.brk hm (fun h => nomatch h) rfl (Sub.cons (Has.s rfl) (Sub.cons ((Has.s rfl)) (Sub.cons (Has.m (Has.s rfl) rfl) (Sub.cons ((Has.s rfl)) (Sub.cons ((Has.s rfl)) (Sub.cons (Has.arrM (Has.s rfl) rfl) Sub.nil))))))
              · intro _
                refine Leaf.blockE ?_
                refine Leaf.blockN ?_
                refine Leaf.blockN ?_
                exact Leaf.join b13 hm (Sub.cons (Has.s rfl) (Sub.cons ((Has.s rfl)) (Sub.cons (Has.m (Has.s rfl) rfl) (Sub.cons ((Has.s rfl)) (Sub.cons ((Has.s rfl)) (Sub.cons (Has.arrM (Has.s rfl) rfl) Sub.nil))))))
            · have hm := cond_f hb hm
              refine CWalk.seq ?_
              refine CWalk.region ?_
              refine Walk.op rfl (Spec.assign Has.int) ?_
              refine Walk.nil ?_
              refine Leaf.thenN ?_
              refine CWalk.exit ?_
              refine Leaf.blockO rfl ?_
              refine Leaf.blockO rfl ?_
              refine Leaf.thenE ?_
              exact Leaf.brk hm (fun h => nomatch h) rfl (Sub.cons (Has.s rfl) (Sub.cons ((Has.s rfl)) (Sub.cons (Has.arrM (Has.s rfl) rfl) Sub.nil)))
      · have hm := cond_f hb hm
        refine CWalk.exit ?_
        refine Leaf.thenE ?_
        exact Leaf.brk hm (fun h => nomatch h) rfl (Sub.cons (Has.s rfl) (Sub.cons ((Has.s rfl)) (Sub.cons (Has.arrM (Has.s rfl) rfl) Sub.nil)))
    · intro _
      refine Leaf.blockE ?_
      refine Leaf.thenN ?_
      refine CWalk.seq ?_
      refine CWalk.seq ?_
      refine CWalk.region ?_
      refine Walk.op rfl (Spec.move (Has.s rfl)) ?_
      refine Walk.op rfl (Spec.neqI (Has.s rfl) Has.int) ?_
      refine Walk.nil ?_
      refine Leaf.thenN ?_
      refine CWalk.cond rfl (fun hb => ?_) (fun hb => ?_)
      · have hm := cond_t hb hm
        refine CWalk.seq ?_
        refine CWalk.region ?_
        refine Walk.op rfl (Spec.move (Has.s rfl)) ?_
        refine Walk.op rfl (Spec.assign (Has.nil UInt8)) ?_
        refine Walk.op rfl (Spec.assign (Has.s rfl)) ?_
        refine Walk.nil ?_
        refine Leaf.thenN ?_
        refine CWalk.ret ?_
        refine Leaf.thenR ?_
        refine Leaf.scR ?_
        obtain rfl := Option.some.inj hm
        exact Leaf.ret2 rfl (Has.m (Has.s rfl) rfl) (Has.fl (Has.s rfl))
      · have hm := cond_f hb hm
        refine CWalk.skip ?_
        refine Leaf.thenN ?_
        refine CWalk.seq ?_
        refine CWalk.region ?_
        refine Walk.op rfl (Spec.sliceArr ar39 (Has.s rfl) rfl) ?_
        refine Walk.op rfl (Spec.assign (Has.s rfl)) ?_
        refine Walk.op rfl (Spec.assign Has.int) ?_
        refine Walk.nil ?_
        refine Leaf.thenN ?_
        refine CWalk.ret ?_
        refine Leaf.scR ?_
        obtain rfl := Option.some.inj hm
        exact Leaf.ret2 rfl (Has.m (Has.s rfl) rfl) (Has.fl (Has.s rfl))

def law03_full_L1 (a0 : UInt8) (s2 : Int) (s3 : List UInt8) : Option (Ctl (Int × (List UInt8)) ((List UInt8))) :=
  (bif (decide (s2 < (128 : Int))) then Option.bind (bnd (s3).length s2) (fun x5 => some (Ctl.next ((wI (s2 + (1 : Int))), (s3).set x5 a0))) else some (Ctl.brk s3))
/-- freeboard/freeboardlaw03.full -/
def law03_full (a0 : UInt8) : Option ((List UInt8)) :=
  Option.bind (makeL (0 : UInt8) (128 : Int)) (fun x1 => Option.bind (loopM (fun s : Int × (List UInt8) => law03_full_L1 a0 s.1 s.2) FUEL ((0 : Int), x1)) (fun b6 => some b6))
set_option maxRecDepth 100000 in
theorem law03_full_c (a0 : UInt8) {r : (List UInt8)} (hm : law03_full a0 = some r) : Ctr Try.prog 11 [.rep a0] (.rep r) false := by
  refine ctr_of_walk (T := [10]) 15 Try.func11 rfl rfl rfl rfl (fun w0 om => ?_)
  unfold law03_full at hm
  refine CWalk.sub (G' := [.fact 0 (Fact.rep [] (a0 : UInt8))]) (Sub.cons (Has.fl (Has.s rfl)) Sub.nil) ?_
  refine CWalk.seq ?_
  refine CWalk.region ?_
  refine Walk.op rfl (Spec.assign (Has.nil UInt8)) ?_
  refine Walk.nil ?_
  refine Leaf.thenN ?_
  refine CWalk.seq ?_
  refine CWalk.region ?_
  obtain ⟨x1, hx1, hm⟩ := bind_some hm
  refine Walk.makeOwn 10 hx1 rfl rfl ow22 zt5 Has.int ?_
  refine Walk.op rfl (Spec.assign (Has.s rfl)) ?_
  refine Walk.nil ?_
  refine Leaf.thenN ?_
  refine CWalk.seq ?_
  refine CWalk.seq ?_
  refine CWalk.region ?_
  refine Walk.op rfl (Spec.assign Has.int) ?_
  refine Walk.nil ?_
  refine Leaf.thenN ?_
  refine CWalk.block ?_
  obtain ⟨b6, hb6, hm⟩ := bind_some hm
  refine CWalk.loop (fun s : Int × (List UInt8) => [.fact 0 (Fact.rep [] (a0 : UInt8)), .fact 3 (Fact.isv 10), .fact 4 (Fact.rep [] (s.1 : Int)), .fact 100010 (Fact.own 10 [] 5 (s.2 : List UInt8))]) (fun b : (List UInt8) => (Exit.exit 0, [.fact 3 (Fact.isv 10), .fact 100010 (Fact.own 10 [] 5 (b : List UInt8))])) hb6 (Sub.cons ((Has.s rfl)) (Sub.cons (Has.s rfl) (Sub.cons ((Has.s rfl)) (Sub.cons (Has.ownM (Has.s rfl) rfl) Sub.nil)))) ?_ ?_
  · rintro ⟨s2, s3⟩ c4 hm
    replace hm : law03_full_L1 a0 s2 s3 = some c4 := hm
    unfold law03_full_L1 at hm
    show CWalk _ [.fact 0 (Fact.rep [] (a0 : UInt8)), .fact 3 (Fact.isv 10), .fact 4 (Fact.rep [] (s2 : Int)), .fact 100010 (Fact.own 10 [] 5 (s3 : List UInt8))] _ _
    refine CWalk.seq ?_
    refine CWalk.seq ?_
    refine CWalk.region ?_
    refine Walk.op rfl (Spec.move (Has.s rfl)) ?_
    refine Walk.op rfl (Spec.lssI (Has.s rfl) Has.int) ?_
    refine Walk.nil ?_
    refine Leaf.thenN ?_
    refine CWalk.cond rfl (fun hb => ?_) (fun hb => ?_)
    · have hm := cond_t hb hm
      refine CWalk.skip ?_
      refine Leaf.thenN ?_
      refine CWalk.seq ?_
      refine CWalk.block ?_
      refine CWalk.region ?_
      refine Walk.op rfl (Spec.move (Has.s rfl)) ?_
      refine Walk.op rfl (Spec.move (Has.s rfl)) ?_
      refine Walk.op rfl (Spec.move (Has.s rfl)) ?_
      obtain ⟨x5, hx5, hm⟩ := bind_some hm
      refine Walk.op rfl (Spec.idxOwn hx5 ow22 (Has.s rfl) rfl (Has.s rfl)) ?_
      refine Walk.storeOwn (te' := []) rfl (bnd_lt hx5 rfl) ty5 (Has.s rfl) rfl (Has.s rfl) ElKeep.flat ElKeep.flat ?_
      refine Walk.nil ?_
      refine Leaf.blockN ?_
      refine Leaf.thenN ?_
      refine CWalk.region ?_
      refine Walk.op rfl (Spec.move (Has.s rfl)) ?_
      refine Walk.op rfl (Spec.addI (Has.s rfl) Has.int) ?_
      refine Walk.op rfl (Spec.assign (Has.s rfl)) ?_
      refine Walk.nil ?_
      exact Leaf.next hm (Sub.cons ((Has.s rfl)) (Sub.cons (Has.s rfl) (Sub.cons ((Has.s rfl)) (Sub.cons (Has.ownM (Has.s rfl) rfl) Sub.nil))))
    · have hm := cond_f hb hm
      refine CWalk.exit ?_
      refine Leaf.thenE ?_
      exact Leaf.brk hm (fun h => nomatch h) rfl (Sub.cons (Has.s rfl) (Sub.cons (Has.ownM (Has.s rfl) rfl) Sub.nil))
  · intro _
    refine Leaf.blockE ?_
    refine Leaf.thenN ?_
    refine CWalk.seq ?_
    refine CWalk.region ?_
    refine Walk.op rfl (Spec.move (Has.s rfl)) ?_
    refine Walk.op rfl (Spec.assign (Has.s rfl)) ?_
    refine Walk.nil ?_
    refine Leaf.thenN ?_
    refine CWalk.ret ?_
    obtain rfl := Option.some.inj hm
    exact Leaf.ret1 rfl (Has.m (Has.own (Has.s rfl) rfl) rfl)

/-- freeboard/freeboardlaw03.alive -/
def law03_alive : Option (Bool) :=
  Option.bind (law03_full (5 : UInt8)) (fun x1 => Option.bind (law03_full (3 : UInt8)) (fun x2 => Option.bind (fold_Fold ([x1, x2])) (fun x3 => Option.bind (gO ((x3.2 == (0 : Int))) (law03_full (6 : UInt8))) (fun x4 => some ((x3.2 == (0 : Int)) && ((Str.mk x3.1).s == (Str.mk x4).s))))))
set_option maxRecDepth 100000 in
theorem law03_alive_c {r : Bool} (hm : law03_alive = some r) : Ctr Try.prog 12 [] (.rep r) false := by
  refine ctr_of_walk (T := []) 19 Try.func12 rfl rfl rfl rfl (fun w0 om => ?_)
  unfold law03_alive at hm
  refine CWalk.sub (G' := []) (Sub.nil) ?_
  refine CWalk.seq ?_
  refine CWalk.region ?_
  refine Walk.op rfl (Spec.assign Has.bool) ?_
  refine Walk.nil ?_
  refine Leaf.thenN ?_
  refine CWalk.seq ?_
  refine CWalk.region ?_
  obtain ⟨x1, hx1, hm⟩ := bind_some hm
  refine Walk.op rfl (Spec.callN1 [] 10 rfl en11 (law03_full_c (5 : UInt8) hx1) (HasAll.cons (Has.fl (Has.u8 5 rfl)) HasAll.nil)) ?_
  obtain ⟨x2, hx2, hm⟩ := bind_some hm
  refine Walk.op rfl (Spec.callN1 [] 11 rfl en11 (law03_full_c (3 : UInt8) hx2) (HasAll.cons (Has.fl (Has.u8 3 rfl)) HasAll.nil)) ?_
  refine Walk.op rfl (Spec.lit (xs := [.tmp 4, .tmp 5]) (T := [10, 11]) 12 rfl ow27 rfl rfl rfl rfl (HasEach.cons (Has.m (Has.s rfl) rfl) (HasEach.cons (Has.m (Has.s rfl) rfl) HasEach.nil))) ?_
  obtain ⟨x3, hx3, hm⟩ := bind_some hm
  refine Walk.op rfl (Spec.callN [10, 11, 12] 13 rfl en10 (fold_Fold_c ([x1, x2]) hx3) (HasAll.cons (Has.m (Has.s rfl) rfl) HasAll.nil)) ?_
  refine Walk.op rfl (Spec.move (Has.s rfl)) ?_
  refine Walk.op rfl (Spec.ext0 (Has.s rfl)) ?_
  refine Walk.op rfl ((Spec.ext1 (Has.s rfl)).flat (T' := [])) ?_
  refine Walk.op rfl (Spec.assign (Has.s rfl)) ?_
  refine Walk.op rfl (Spec.assign (Has.s rfl)) ?_
  refine Walk.nil ?_
  refine Leaf.thenN ?_
  refine CWalk.seq ?_
  obtain ⟨x4, hx4, hm⟩ := bind_some hm
  refine CWalk.draw [([], []), ([0], []), ([0, 1], []), ([0, 1, 2], [15, 16]), ([0, 1, 2, 3], [15, 16]), ([0, 1, 2], [13, 14]), ([0, 1, 2, 5], [13, 14]), ([0, 1, 2, 3, 4, 5, 6], []), ([0, 1, 2, 3, 4, 5, 6, 7], []), ([0, 1, 2, 3, 4, 5, 6, 7, 8], [])] [10, 11, 12, 13, 14, 15, 16, 17, 18, 0] [Fact.rep [] (x3.2 : Int), Fact.rep [] ((x3.2 == (0 : Int)) : Bool), Fact.rep [] ((x3.2 == (0 : Int)) : Bool), Fact.under ((x3.2 == (0 : Int)) = true) (.rep [13] (x3.1 : List UInt8)), Fact.under ((x3.2 == (0 : Int)) = true) (.rep [] ((Str.mk x3.1) : Str)), Fact.under ((x3.2 == (0 : Int)) = true) (.rep [14] (x4 : List UInt8)), Fact.under ((x3.2 == (0 : Int)) = true) (.rep [] ((Str.mk x4) : Str)), Fact.under ((x3.2 == (0 : Int)) = true) (.rep [] (((Str.mk x3.1).s == (Str.mk x4).s) : Bool)), Fact.rep [] (((x3.2 == (0 : Int)) && ((Str.mk x3.1).s == (Str.mk x4).s)) : Bool), Fact.rep [] (((x3.2 == (0 : Int)) && ((Str.mk x3.1).s == (Str.mk x4).s)) : Bool)] mixed (by kernel_rfl) rfl rfl rfl (AllOk.cons (OpOk.op (Spec.move (Has.s rfl))) (AllOk.cons (OpOk.op (Spec.eqlI (Has.s rfl) Has.int)) (AllOk.cons (OpOk.op (Spec.move (Has.s rfl))) (AllOk.cons (OpOk.opg rfl rfl (fun hb => Spec.move (Has.s rfl))) (AllOk.cons (OpOk.opg rfl rfl (fun hb => Spec.toStr Try.underlying22 Try.underlying5 Try.underlying9 (Has.u rfl hb))) (AllOk.cons (OpOk.opg rfl rfl (fun hb => Spec.callN1 [] 14 rfl en11 (law03_full_c (6 : UInt8) (gO_t hx4 hb)) (HasAll.cons (Has.fl (Has.u8 6 rfl)) HasAll.nil))) (AllOk.cons (OpOk.opg rfl rfl (fun hb => Spec.toStr Try.underlying22 Try.underlying5 Try.underlying9 (Has.u rfl hb))) (AllOk.cons (OpOk.opg rfl rfl (fun hb => Spec.eqlS (Has.u rfl hb) (Has.u rfl hb))) (AllOk.cons (OpOk.op (Spec.and (Has.s rfl) (fun h => Has.u rfl h))) (AllOk.cons (OpOk.op (Spec.assign (Has.s rfl))) AllOk.nil)))))))))) ?_
  refine Leaf.thenN ?_
  refine CWalk.ret ?_
  obtain rfl := Option.some.inj hm
  exact Leaf.ret1 rfl (Has.fl (Has.s rfl))

/-- freeboard/freeboardlaw03.FoldNames -/
def law03_FoldNames : Option (Bool) :=
  Option.bind (fold_Fold ([] : List (List UInt8))) (fun x1 => Option.bind (law03_full (5 : UInt8)) (fun x2 => Option.bind (fold_Fold ([x2])) (fun x3 => Option.bind (law03_full (5 : UInt8)) (fun x4 => Option.bind (law03_full (3 : UInt8)) (fun x5 => Option.bind (law03_full (5 : UInt8)) (fun x6 => Option.bind (fold_Fold ([x4, x5, x6])) (fun x7 => Option.bind (law03_full (5 : UInt8)) (fun x8 => Option.bind (fold_Fold ([([] : List UInt8), x8])) (fun x9 => Option.bind (fold_Fold ([[(1 : UInt8)]])) (fun x10 => Option.bind (makeL ([] : List UInt8) (17 : Int)) (fun x11 => Option.bind (fold_Fold x11) (fun x12 => Option.bind (gO (true) (law03_alive)) (fun x13 => Option.bind (gO (((true && x13) && (x1.2 == (0 : Int)))) (law03_full (0 : UInt8))) (fun x14 => Option.bind (gO (((((true && x13) && (x1.2 == (0 : Int))) && ((Str.mk x1.1).s == (Str.mk x14).s)) && (x3.2 == (0 : Int)))) (law03_full (5 : UInt8))) (fun x15 => Option.bind (gO (((((((true && x13) && (x1.2 == (0 : Int))) && ((Str.mk x1.1).s == (Str.mk x14).s)) && (x3.2 == (0 : Int))) && ((Str.mk x3.1).s == (Str.mk x15).s)) && (x7.2 == (0 : Int)))) (law03_full (3 : UInt8))) (fun x16 => Option.bind (gO (((((((((true && x13) && (x1.2 == (0 : Int))) && ((Str.mk x1.1).s == (Str.mk x14).s)) && (x3.2 == (0 : Int))) && ((Str.mk x3.1).s == (Str.mk x15).s)) && (x7.2 == (0 : Int))) && ((Str.mk x7.1).s == (Str.mk x16).s)) && (x9.2 == (0 : Int)))) (law03_full (5 : UInt8))) (fun x17 => some (((((((((((true && x13) && (x1.2 == (0 : Int))) && ((Str.mk x1.1).s == (Str.mk x14).s)) && (x3.2 == (0 : Int))) && ((Str.mk x3.1).s == (Str.mk x15).s)) && (x7.2 == (0 : Int))) && ((Str.mk x7.1).s == (Str.mk x16).s)) && (x9.2 == (0 : Int))) && ((Str.mk x9.1).s == (Str.mk x17).s)) && (x10.2 == (3 : Int))) && (x12.2 == (4 : Int))))))))))))))))))))
set_option maxRecDepth 100000 in
theorem law03_FoldNames_c {r : Bool} (hm : law03_FoldNames = some r) : Ctr Try.prog 3 [] (.rep r) false := by
  refine ctr_of_walk (T := []) 103 Try.func3 rfl rfl rfl rfl (fun w0 om => ?_)
  unfold law03_FoldNames at hm
  refine CWalk.sub (G' := []) (Sub.nil) ?_
  refine CWalk.seq ?_
  refine CWalk.region ?_
  refine Walk.op rfl (Spec.assign Has.bool) ?_
  refine Walk.nil ?_
  refine Leaf.thenN ?_
  refine CWalk.seq ?_
  refine CWalk.region ?_
  obtain ⟨x1, hx1, hm⟩ := bind_some hm
  refine Walk.op rfl (Spec.callN [] 10 rfl en10 (fold_Fold_c ([] : List (List UInt8)) hx1) (HasAll.cons (Has.m (Has.nil (List UInt8)) rfl) HasAll.nil)) ?_
  refine Walk.op rfl (Spec.move (Has.s rfl)) ?_
  refine Walk.op rfl (Spec.ext0 (Has.s rfl)) ?_
  refine Walk.op rfl ((Spec.ext1 (Has.s rfl)).flat (T' := [])) ?_
  refine Walk.op rfl (Spec.assign (Has.s rfl)) ?_
  refine Walk.op rfl (Spec.assign (Has.s rfl)) ?_
  refine Walk.nil ?_
  refine Leaf.thenN ?_
  refine CWalk.seq ?_
  refine CWalk.region ?_
  obtain ⟨x2, hx2, hm⟩ := bind_some hm
  refine Walk.op rfl (Spec.callN1 [] 11 rfl en11 (law03_full_c (5 : UInt8) hx2) (HasAll.cons (Has.fl (Has.u8 5 rfl)) HasAll.nil)) ?_
  refine Walk.op rfl (Spec.lit (xs := [.tmp 18]) (T := [11]) 12 rfl ow27 rfl rfl rfl rfl (HasEach.cons (Has.m (Has.s rfl) rfl) HasEach.nil)) ?_
  obtain ⟨x3, hx3, hm⟩ := bind_some hm
  refine Walk.op rfl (Spec.callN [11, 12] 13 rfl en10 (fold_Fold_c ([x2]) hx3) (HasAll.cons (Has.m (Has.s rfl) rfl) HasAll.nil)) ?_
  refine Walk.op rfl (Spec.move (Has.s rfl)) ?_
  refine Walk.op rfl (Spec.ext0 (Has.s rfl)) ?_
  refine Walk.op rfl ((Spec.ext1 (Has.s rfl)).flat (T' := [])) ?_
  refine Walk.op rfl (Spec.assign (Has.s rfl)) ?_
  refine Walk.op rfl (Spec.assign (Has.s rfl)) ?_
  refine Walk.nil ?_
  refine Leaf.thenN ?_
  refine CWalk.seq ?_
  refine CWalk.region ?_
  obtain ⟨x4, hx4, hm⟩ := bind_some hm
  refine Walk.op rfl (Spec.callN1 [] 14 rfl en11 (law03_full_c (5 : UInt8) hx4) (HasAll.cons (Has.fl (Has.u8 5 rfl)) HasAll.nil)) ?_
  obtain ⟨x5, hx5, hm⟩ := bind_some hm
  refine Walk.op rfl (Spec.callN1 [] 15 rfl en11 (law03_full_c (3 : UInt8) hx5) (HasAll.cons (Has.fl (Has.u8 3 rfl)) HasAll.nil)) ?_
  obtain ⟨x6, hx6, hm⟩ := bind_some hm
  refine Walk.op rfl (Spec.callN1 [] 16 rfl en11 (law03_full_c (5 : UInt8) hx6) (HasAll.cons (Has.fl (Has.u8 5 rfl)) HasAll.nil)) ?_
  refine Walk.op rfl (Spec.lit (xs := [.tmp 24, .tmp 25, .tmp 26]) (T := [14, 15, 16]) 17 rfl ow27 rfl rfl rfl rfl (HasEach.cons (Has.m (Has.s rfl) rfl) (HasEach.cons (Has.m (Has.s rfl) rfl) (HasEach.cons (Has.m (Has.s rfl) rfl) HasEach.nil)))) ?_
  obtain ⟨x7, hx7, hm⟩ := bind_some hm
  refine Walk.op rfl (Spec.callN [14, 15, 16, 17] 18 rfl en10 (fold_Fold_c ([x4, x5, x6]) hx7) (HasAll.cons (Has.m (Has.s rfl) rfl) HasAll.nil)) ?_
  refine Walk.op rfl (Spec.move (Has.s rfl)) ?_
  refine Walk.op rfl (Spec.ext0 (Has.s rfl)) ?_
  refine Walk.op rfl ((Spec.ext1 (Has.s rfl)).flat (T' := [])) ?_
  refine Walk.op rfl (Spec.assign (Has.s rfl)) ?_
  refine Walk.op rfl (Spec.assign (Has.s rfl)) ?_
  refine Walk.nil ?_
  refine Leaf.thenN ?_
  refine CWalk.seq ?_
  refine CWalk.region ?_
  obtain ⟨x8, hx8, hm⟩ := bind_some hm
  refine Walk.op rfl (Spec.callN1 [] 19 rfl en11 (law03_full_c (5 : UInt8) hx8) (HasAll.cons (Has.fl (Has.u8 5 rfl)) HasAll.nil)) ?_
  refine Walk.op rfl (Spec.lit (xs := [.const (.slice none 0 0), .tmp 32]) (T := [19]) 20 rfl ow27 rfl rfl rfl rfl (HasEach.cons (Has.m (Has.nil UInt8) rfl) (HasEach.cons (Has.m (Has.s rfl) rfl) HasEach.nil))) ?_
  obtain ⟨x9, hx9, hm⟩ := bind_some hm
  refine Walk.op rfl (Spec.callN [19, 20] 21 rfl en10 (fold_Fold_c ([([] : List UInt8), x8]) hx9) (HasAll.cons (Has.m (Has.s rfl) rfl) HasAll.nil)) ?_
  refine Walk.op rfl (Spec.move (Has.s rfl)) ?_
  refine Walk.op rfl (Spec.ext0 (Has.s rfl)) ?_
  refine Walk.op rfl ((Spec.ext1 (Has.s rfl)).flat (T' := [])) ?_
  refine Walk.op rfl (Spec.assign (Has.s rfl)) ?_
  refine Walk.op rfl (Spec.assign (Has.s rfl)) ?_
  refine Walk.nil ?_
  refine Leaf.thenN ?_
  refine CWalk.seq ?_
  refine CWalk.region ?_
  refine Walk.op rfl (Spec.lit (xs := [.const (.int .u8 1)]) (T := []) 22 rfl ow22 rfl rfl rfl rfl (HasEach.cons (Has.fl (Has.u8 1 rfl)) HasEach.nil)) ?_
  refine Walk.op rfl (Spec.lit (xs := [.tmp 38]) (T := [22]) 23 rfl ow27 rfl rfl rfl rfl (HasEach.cons (Has.m (Has.s rfl) rfl) HasEach.nil)) ?_
  obtain ⟨x10, hx10, hm⟩ := bind_some hm
  refine Walk.op rfl (Spec.callN [22, 23] 24 rfl en10 (fold_Fold_c ([[(1 : UInt8)]]) hx10) (HasAll.cons (Has.m (Has.s rfl) rfl) HasAll.nil)) ?_
  refine Walk.op rfl (Spec.move (Has.s rfl)) ?_
  refine Walk.op rfl (Spec.ext0 (Has.s rfl)) ?_
  refine Walk.op rfl ((Spec.ext1 (Has.s rfl)).flat (T' := [])) ?_
  refine Walk.op rfl (Spec.assign (Has.s rfl)) ?_
  refine Walk.op rfl (Spec.assign (Has.s rfl)) ?_
  refine Walk.nil ?_
  refine Leaf.thenN ?_
  refine CWalk.seq ?_
  refine CWalk.region ?_
  obtain ⟨x11, hx11, hm⟩ := bind_some hm
  refine Walk.makeOwn 25 hx11 rfl rfl ow27 zt22 Has.int ?_
  obtain ⟨x12, hx12, hm⟩ := bind_some hm
  refine Walk.op rfl (Spec.callN [25] 26 rfl en10 (fold_Fold_c x11 hx12) (HasAll.cons (Has.m (Has.own (Has.s rfl) rfl) rfl) HasAll.nil)) ?_
  refine Walk.op rfl (Spec.move (Has.s rfl)) ?_
  refine Walk.op rfl (Spec.ext0 (Has.s rfl)) ?_
  refine Walk.op rfl ((Spec.ext1 (Has.s rfl)).flat (T' := [])) ?_
  refine Walk.op rfl (Spec.assign (Has.s rfl)) ?_
  refine Walk.op rfl (Spec.assign (Has.s rfl)) ?_
  refine Walk.nil ?_
  refine Leaf.thenN ?_
  refine CWalk.seq ?_
  obtain ⟨x13, hx13, hm⟩ := bind_some hm
  obtain ⟨x14, hx14, hm⟩ := bind_some hm
  obtain ⟨x15, hx15, hm⟩ := bind_some hm
  obtain ⟨x16, hx16, hm⟩ := bind_some hm
  obtain ⟨x17, hx17, hm⟩ := bind_some hm
  refine CWalk.draw [([], []), ([0], []), ([0, 1], []), ([0, 1, 2], []), ([0, 1, 2, 3], []), ([0, 1, 2, 3, 4], []), ([0, 1, 2, 3, 4, 5], []), ([0, 1, 2, 3, 4, 5, 6], []), ([0, 1, 2, 3, 4, 5, 6, 7], [58, 59]), ([0, 1, 2, 3, 4, 5, 6, 7, 8], [58, 59]), ([0, 1, 2, 3, 4, 5, 6, 7], [56, 57]), ([0, 1, 2, 3, 4, 5, 6, 7, 10], [56, 57]), ([0, 1, 2, 3, 4, 5, 6, 7, 8, 9, 10, 11], []), ([0, 1, 2, 3, 4, 5, 6, 7, 8, 9, 10, 11, 12], []), ([0, 1, 2, 3, 4, 5, 6, 7, 8, 9, 10, 11, 12, 13], []), ([0, 1, 2, 3, 4, 5, 6, 7, 8, 9, 10, 11, 12, 13, 14], []), ([0, 1, 2, 3, 4, 5, 6, 7, 8, 9, 10, 11, 12, 13, 14, 15], []), ([0, 1, 2, 3, 4, 5, 6, 7, 8, 9, 10, 11, 12, 13, 14, 15, 16], []), ([0, 1, 2, 3, 4, 5, 6, 7, 8, 9, 10, 11, 12, 13, 14, 15, 16, 17], []), ([0, 1, 2, 3, 4, 5, 6, 7, 8, 9, 10, 11, 12, 13, 14, 15, 16, 17, 18], [69, 70]), ([0, 1, 2, 3, 4, 5, 6, 7, 8, 9, 10, 11, 12, 13, 14, 15, 16, 17, 18, 19], [69, 70]), ([0, 1, 2, 3, 4, 5, 6, 7, 8, 9, 10, 11, 12, 13, 14, 15, 16, 17, 18], [67, 68]), ([0, 1, 2, 3, 4, 5, 6, 7, 8, 9, 10, 11, 12, 13, 14, 15, 16, 17, 18, 21], [67, 68]), ([0, 1, 2, 3, 4, 5, 6, 7, 8, 9, 10, 11, 12, 13, 14, 15, 16, 17, 18, 19, 20, 21, 22], []), ([0, 1, 2, 3, 4, 5, 6, 7, 8, 9, 10, 11, 12, 13, 14, 15, 16, 17, 18, 19, 20, 21, 22, 23], []), ([0, 1, 2, 3, 4, 5, 6, 7, 8, 9, 10, 11, 12, 13, 14, 15, 16, 17, 18, 19, 20, 21, 22, 23, 24], []), ([0, 1, 2, 3, 4, 5, 6, 7, 8, 9, 10, 11, 12, 13, 14, 15, 16, 17, 18, 19, 20, 21, 22, 23, 24, 25], []), ([0, 1, 2, 3, 4, 5, 6, 7, 8, 9, 10, 11, 12, 13, 14, 15, 16, 17, 18, 19, 20, 21, 22, 23, 24, 25, 26], []), ([0, 1, 2, 3, 4, 5, 6, 7, 8, 9, 10, 11, 12, 13, 14, 15, 16, 17, 18, 19, 20, 21, 22, 23, 24, 25, 26, 27], []), ([0, 1, 2, 3, 4, 5, 6, 7, 8, 9, 10, 11, 12, 13, 14, 15, 16, 17, 18, 19, 20, 21, 22, 23, 24, 25, 26, 27, 28], []), ([0, 1, 2, 3, 4, 5, 6, 7, 8, 9, 10, 11, 12, 13, 14, 15, 16, 17, 18, 19, 20, 21, 22, 23, 24, 25, 26, 27, 28, 29], [80, 81]), ([0, 1, 2, 3, 4, 5, 6, 7, 8, 9, 10, 11, 12, 13, 14, 15, 16, 17, 18, 19, 20, 21, 22, 23, 24, 25, 26, 27, 28, 29, 30], [80, 81]), ([0, 1, 2, 3, 4, 5, 6, 7, 8, 9, 10, 11, 12, 13, 14, 15, 16, 17, 18, 19, 20, 21, 22, 23, 24, 25, 26, 27, 28, 29], [78, 79]), ([0, 1, 2, 3, 4, 5, 6, 7, 8, 9, 10, 11, 12, 13, 14, 15, 16, 17, 18, 19, 20, 21, 22, 23, 24, 25, 26, 27, 28, 29, 32], [78, 79]), ([0, 1, 2, 3, 4, 5, 6, 7, 8, 9, 10, 11, 12, 13, 14, 15, 16, 17, 18, 19, 20, 21, 22, 23, 24, 25, 26, 27, 28, 29, 30, 31, 32, 33], []), ([0, 1, 2, 3, 4, 5, 6, 7, 8, 9, 10, 11, 12, 13, 14, 15, 16, 17, 18, 19, 20, 21, 22, 23, 24, 25, 26, 27, 28, 29, 30, 31, 32, 33, 34], []), ([0, 1, 2, 3, 4, 5, 6, 7, 8, 9, 10, 11, 12, 13, 14, 15, 16, 17, 18, 19, 20, 21, 22, 23, 24, 25, 26, 27, 28, 29, 30, 31, 32, 33, 34, 35], []), ([0, 1, 2, 3, 4, 5, 6, 7, 8, 9, 10, 11, 12, 13, 14, 15, 16, 17, 18, 19, 20, 21, 22, 23, 24, 25, 26, 27, 28, 29, 30, 31, 32, 33, 34, 35, 36], []), ([0, 1, 2, 3, 4, 5, 6, 7, 8, 9, 10, 11, 12, 13, 14, 15, 16, 17, 18, 19, 20, 21, 22, 23, 24, 25, 26, 27, 28, 29, 30, 31, 32, 33, 34, 35, 36, 37], []), ([0, 1, 2, 3, 4, 5, 6, 7, 8, 9, 10, 11, 12, 13, 14, 15, 16, 17, 18, 19, 20, 21, 22, 23, 24, 25, 26, 27, 28, 29, 30, 31, 32, 33, 34, 35, 36, 37, 38], []), ([0, 1, 2, 3, 4, 5, 6, 7, 8, 9, 10, 11, 12, 13, 14, 15, 16, 17, 18, 19, 20, 21, 22, 23, 24, 25, 26, 27, 28, 29, 30, 31, 32, 33, 34, 35, 36, 37, 38, 39], []), ([0, 1, 2, 3, 4, 5, 6, 7, 8, 9, 10, 11, 12, 13, 14, 15, 16, 17, 18, 19, 20, 21, 22, 23, 24, 25, 26, 27, 28, 29, 30, 31, 32, 33, 34, 35, 36, 37, 38, 39, 40], [91, 92]), ([0, 1, 2, 3, 4, 5, 6, 7, 8, 9, 10, 11, 12, 13, 14, 15, 16, 17, 18, 19, 20, 21, 22, 23, 24, 25, 26, 27, 28, 29, 30, 31, 32, 33, 34, 35, 36, 37, 38, 39, 40, 41], [91, 92]), ([0, 1, 2, 3, 4, 5, 6, 7, 8, 9, 10, 11, 12, 13, 14, 15, 16, 17, 18, 19, 20, 21, 22, 23, 24, 25, 26, 27, 28, 29, 30, 31, 32, 33, 34, 35, 36, 37, 38, 39, 40], [89, 90]), ([0, 1, 2, 3, 4, 5, 6, 7, 8, 9, 10, 11, 12, 13, 14, 15, 16, 17, 18, 19, 20, 21, 22, 23, 24, 25, 26, 27, 28, 29, 30, 31, 32, 33, 34, 35, 36, 37, 38, 39, 40, 43], [89, 90]), ([0, 1, 2, 3, 4, 5, 6, 7, 8, 9, 10, 11, 12, 13, 14, 15, 16, 17, 18, 19, 20, 21, 22, 23, 24, 25, 26, 27, 28, 29, 30, 31, 32, 33, 34, 35, 36, 37, 38, 39, 40, 41, 42, 43, 44], []), ([0, 1, 2, 3, 4, 5, 6, 7, 8, 9, 10, 11, 12, 13, 14, 15, 16, 17, 18, 19, 20, 21, 22, 23, 24, 25, 26, 27, 28, 29, 30, 31, 32, 33, 34, 35, 36, 37, 38, 39, 40, 41, 42, 43, 44, 45], []), ([0, 1, 2, 3, 4, 5, 6, 7, 8, 9, 10, 11, 12, 13, 14, 15, 16, 17, 18, 19, 20, 21, 22, 23, 24, 25, 26, 27, 28, 29, 30, 31, 32, 33, 34, 35, 36, 37, 38, 39, 40, 41, 42, 43, 44, 45, 46], []), ([0, 1, 2, 3, 4, 5, 6, 7, 8, 9, 10, 11, 12, 13, 14, 15, 16, 17, 18, 19, 20, 21, 22, 23, 24, 25, 26, 27, 28, 29, 30, 31, 32, 33, 34, 35, 36, 37, 38, 39, 40, 41, 42, 43, 44, 45, 46, 47], []), ([0, 1, 2, 3, 4, 5, 6, 7, 8, 9, 10, 11, 12, 13, 14, 15, 16, 17, 18, 19, 20, 21, 22, 23, 24, 25, 26, 27, 28, 29, 30, 31, 32, 33, 34, 35, 36, 37, 38, 39, 40, 41, 42, 43, 44, 45, 46, 47, 48], []), ([0, 1, 2, 3, 4, 5, 6, 7, 8, 9, 10, 11, 12, 13, 14, 15, 16, 17, 18, 19, 20, 21, 22, 23, 24, 25, 26, 27, 28, 29, 30, 31, 32, 33, 34, 35, 36, 37, 38, 39, 40, 41, 42, 43, 44, 45, 46, 47, 48, 49], []), ([0, 1, 2, 3, 4, 5, 6, 7, 8, 9, 10, 11, 12, 13, 14, 15, 16, 17, 18, 19, 20, 21, 22, 23, 24, 25, 26, 27, 28, 29, 30, 31, 32, 33, 34, 35, 36, 37, 38, 39, 40, 41, 42, 43, 44, 45, 46, 47, 48, 49, 50], []), ([0, 1, 2, 3, 4, 5, 6, 7, 8, 9, 10, 11, 12, 13, 14, 15, 16, 17, 18, 19, 20, 21, 22, 23, 24, 25, 26, 27, 28, 29, 30, 31, 32, 33, 34, 35, 36, 37, 38, 39, 40, 41, 42, 43, 44, 45, 46, 47, 48, 49, 50, 51], []), ([0, 1, 2, 3, 4, 5, 6, 7, 8, 9, 10, 11, 12, 13, 14, 15, 16, 17, 18, 19, 20, 21, 22, 23, 24, 25, 26, 27, 28, 29, 30, 31, 32, 33, 34, 35, 36, 37, 38, 39, 40, 41, 42, 43, 44, 45, 46, 47, 48, 49, 50, 51, 52], []), ([0, 1, 2, 3, 4, 5, 6, 7, 8, 9, 10, 11, 12, 13, 14, 15, 16, 17, 18, 19, 20, 21, 22, 23, 24, 25, 26, 27, 28, 29, 30, 31, 32, 33, 34, 35, 36, 37, 38, 39, 40, 41, 42, 43, 44, 45, 46, 47, 48, 49, 50, 51, 52, 53], []), ([0, 1, 2, 3, 4, 5, 6, 7, 8, 9, 10, 11, 12, 13, 14, 15, 16, 17, 18, 19, 20, 21, 22, 23, 24, 25, 26, 27, 28, 29, 30, 31, 32, 33, 34, 35, 36, 37, 38, 39, 40, 41, 42, 43, 44, 45, 46, 47, 48, 49, 50, 51, 52, 53, 54], [])] [48, 49, 50, 51, 52, 53, 54, 55, 56, 57, 58, 59, 60, 61, 62, 63, 64, 65, 66, 67, 68, 69, 70, 71, 72, 73, 74, 75, 76, 77, 78, 79, 80, 81, 82, 83, 84, 85, 86, 87, 88, 89, 90, 91, 92, 93, 94, 95, 96, 97, 98, 99, 100, 101, 102, 0] [Fact.rep [] (true : Bool), Fact.under (true = true) (.rep [] (x13 : Bool)), Fact.rep [] ((true && x13) : Bool), Fact.rep [] ((true && x13) : Bool), Fact.under ((true && x13) = true) (.rep [] (x1.2 : Int)), Fact.under ((true && x13) = true) (.rep [] ((x1.2 == (0 : Int)) : Bool)), Fact.rep [] (((true && x13) && (x1.2 == (0 : Int))) : Bool), Fact.rep [] (((true && x13) && (x1.2 == (0 : Int))) : Bool), Fact.under (((true && x13) && (x1.2 == (0 : Int))) = true) (.rep [10] (x1.1 : List UInt8)), Fact.under (((true && x13) && (x1.2 == (0 : Int))) = true) (.rep [] ((Str.mk x1.1) : Str)), Fact.under (((true && x13) && (x1.2 == (0 : Int))) = true) (.rep [28] (x14 : List UInt8)), Fact.under (((true && x13) && (x1.2 == (0 : Int))) = true) (.rep [] ((Str.mk x14) : Str)), Fact.under (((true && x13) && (x1.2 == (0 : Int))) = true) (.rep [] (((Str.mk x1.1).s == (Str.mk x14).s) : Bool)), Fact.rep [] ((((true && x13) && (x1.2 == (0 : Int))) && ((Str.mk x1.1).s == (Str.mk x14).s)) : Bool), Fact.rep [] ((((true && x13) && (x1.2 == (0 : Int))) && ((Str.mk x1.1).s == (Str.mk x14).s)) : Bool), Fact.under ((((true && x13) && (x1.2 == (0 : Int))) && ((Str.mk x1.1).s == (Str.mk x14).s)) = true) (.rep [] (x3.2 : Int)), Fact.under ((((true && x13) && (x1.2 == (0 : Int))) && ((Str.mk x1.1).s == (Str.mk x14).s)) = true) (.rep [] ((x3.2 == (0 : Int)) : Bool)), Fact.rep [] (((((true && x13) && (x1.2 == (0 : Int))) && ((Str.mk x1.1).s == (Str.mk x14).s)) && (x3.2 == (0 : Int))) : Bool), Fact.rep [] (((((true && x13) && (x1.2 == (0 : Int))) && ((Str.mk x1.1).s == (Str.mk x14).s)) && (x3.2 == (0 : Int))) : Bool), Fact.under (((((true && x13) && (x1.2 == (0 : Int))) && ((Str.mk x1.1).s == (Str.mk x14).s)) && (x3.2 == (0 : Int))) = true) (.rep [13] (x3.1 : List UInt8)), Fact.under (((((true && x13) && (x1.2 == (0 : Int))) && ((Str.mk x1.1).s == (Str.mk x14).s)) && (x3.2 == (0 : Int))) = true) (.rep [] ((Str.mk x3.1) : Str)), Fact.under (((((true && x13) && (x1.2 == (0 : Int))) && ((Str.mk x1.1).s == (Str.mk x14).s)) && (x3.2 == (0 : Int))) = true) (.rep [29] (x15 : List UInt8)), Fact.under (((((true && x13) && (x1.2 == (0 : Int))) && ((Str.mk x1.1).s == (Str.mk x14).s)) && (x3.2 == (0 : Int))) = true) (.rep [] ((Str.mk x15) : Str)), Fact.under (((((true && x13) && (x1.2 == (0 : Int))) && ((Str.mk x1.1).s == (Str.mk x14).s)) && (x3.2 == (0 : Int))) = true) (.rep [] (((Str.mk x3.1).s == (Str.mk x15).s) : Bool)), Fact.rep [] ((((((true && x13) && (x1.2 == (0 : Int))) && ((Str.mk x1.1).s == (Str.mk x14).s)) && (x3.2 == (0 : Int))) && ((Str.mk x3.1).s == (Str.mk x15).s)) : Bool), Fact.rep [] ((((((true && x13) && (x1.2 == (0 : Int))) && ((Str.mk x1.1).s == (Str.mk x14).s)) && (x3.2 == (0 : Int))) && ((Str.mk x3.1).s == (Str.mk x15).s)) : Bool), Fact.under ((((((true && x13) && (x1.2 == (0 : Int))) && ((Str.mk x1.1).s == (Str.mk x14).s)) && (x3.2 == (0 : Int))) && ((Str.mk x3.1).s == (Str.mk x15).s)) = true) (.rep [] (x7.2 : Int)), Fact.under ((((((true && x13) && (x1.2 == (0 : Int))) && ((Str.mk x1.1).s == (Str.mk x14).s)) && (x3.2 == (0 : Int))) && ((Str.mk x3.1).s == (Str.mk x15).s)) = true) (.rep [] ((x7.2 == (0 : Int)) : Bool)), Fact.rep [] (((((((true && x13) && (x1.2 == (0 : Int))) && ((Str.mk x1.1).s == (Str.mk x14).s)) && (x3.2 == (0 : Int))) && ((Str.mk x3.1).s == (Str.mk x15).s)) && (x7.2 == (0 : Int))) : Bool), Fact.rep [] (((((((true && x13) && (x1.2 == (0 : Int))) && ((Str.mk x1.1).s == (Str.mk x14).s)) && (x3.2 == (0 : Int))) && ((Str.mk x3.1).s == (Str.mk x15).s)) && (x7.2 == (0 : Int))) : Bool), Fact.under (((((((true && x13) && (x1.2 == (0 : Int))) && ((Str.mk x1.1).s == (Str.mk x14).s)) && (x3.2 == (0 : Int))) && ((Str.mk x3.1).s == (Str.mk x15).s)) && (x7.2 == (0 : Int))) = true) (.rep [18] (x7.1 : List UInt8)), Fact.under (((((((true && x13) && (x1.2 == (0 : Int))) && ((Str.mk x1.1).s == (Str.mk x14).s)) && (x3.2 == (0 : Int))) && ((Str.mk x3.1).s == (Str.mk x15).s)) && (x7.2 == (0 : Int))) = true) (.rep [] ((Str.mk x7.1) : Str)), Fact.under (((((((true && x13) && (x1.2 == (0 : Int))) && ((Str.mk x1.1).s == (Str.mk x14).s)) && (x3.2 == (0 : Int))) && ((Str.mk x3.1).s == (Str.mk x15).s)) && (x7.2 == (0 : Int))) = true) (.rep [30] (x16 : List UInt8)), Fact.under (((((((true && x13) && (x1.2 == (0 : Int))) && ((Str.mk x1.1).s == (Str.mk x14).s)) && (x3.2 == (0 : Int))) && ((Str.mk x3.1).s == (Str.mk x15).s)) && (x7.2 == (0 : Int))) = true) (.rep [] ((Str.mk x16) : Str)), Fact.under (((((((true && x13) && (x1.2 == (0 : Int))) && ((Str.mk x1.1).s == (Str.mk x14).s)) && (x3.2 == (0 : Int))) && ((Str.mk x3.1).s == (Str.mk x15).s)) && (x7.2 == (0 : Int))) = true) (.rep [] (((Str.mk x7.1).s == (Str.mk x16).s) : Bool)), Fact.rep [] ((((((((true && x13) && (x1.2 == (0 : Int))) && ((Str.mk x1.1).s == (Str.mk x14).s)) && (x3.2 == (0 : Int))) && ((Str.mk x3.1).s == (Str.mk x15).s)) && (x7.2 == (0 : Int))) && ((Str.mk x7.1).s == (Str.mk x16).s)) : Bool), Fact.rep [] ((((((((true && x13) && (x1.2 == (0 : Int))) && ((Str.mk x1.1).s == (Str.mk x14).s)) && (x3.2 == (0 : Int))) && ((Str.mk x3.1).s == (Str.mk x15).s)) && (x7.2 == (0 : Int))) && ((Str.mk x7.1).s == (Str.mk x16).s)) : Bool), Fact.under ((((((((true && x13) && (x1.2 == (0 : Int))) && ((Str.mk x1.1).s == (Str.mk x14).s)) && (x3.2 == (0 : Int))) && ((Str.mk x3.1).s == (Str.mk x15).s)) && (x7.2 == (0 : Int))) && ((Str.mk x7.1).s == (Str.mk x16).s)) = true) (.rep [] (x9.2 : Int)), Fact.under ((((((((true && x13) && (x1.2 == (0 : Int))) && ((Str.mk x1.1).s == (Str.mk x14).s)) && (x3.2 == (0 : Int))) && ((Str.mk x3.1).s == (Str.mk x15).s)) && (x7.2 == (0 : Int))) && ((Str.mk x7.1).s == (Str.mk x16).s)) = true) (.rep [] ((x9.2 == (0 : Int)) : Bool)), Fact.rep [] (((((((((true && x13) && (x1.2 == (0 : Int))) && ((Str.mk x1.1).s == (Str.mk x14).s)) && (x3.2 == (0 : Int))) && ((Str.mk x3.1).s == (Str.mk x15).s)) && (x7.2 == (0 : Int))) && ((Str.mk x7.1).s == (Str.mk x16).s)) && (x9.2 == (0 : Int))) : Bool), Fact.rep [] (((((((((true && x13) && (x1.2 == (0 : Int))) && ((Str.mk x1.1).s == (Str.mk x14).s)) && (x3.2 == (0 : Int))) && ((Str.mk x3.1).s == (Str.mk x15).s)) && (x7.2 == (0 : Int))) && ((Str.mk x7.1).s == (Str.mk x16).s)) && (x9.2 == (0 : Int))) : Bool), Fact.under (((((((((true && x13) && (x1.2 == (0 : Int))) && ((Str.mk x1.1).s == (Str.mk x14).s)) && (x3.2 == (0 : Int))) && ((Str.mk x3.1).s == (Str.mk x15).s)) && (x7.2 == (0 : Int))) && ((Str.mk x7.1).s == (Str.mk x16).s)) && (x9.2 == (0 : Int))) = true) (.rep [21] (x9.1 : List UInt8)), Fact.under (((((((((true && x13) && (x1.2 == (0 : Int))) && ((Str.mk x1.1).s == (Str.mk x14).s)) && (x3.2 == (0 : Int))) && ((Str.mk x3.1).s == (Str.mk x15).s)) && (x7.2 == (0 : Int))) && ((Str.mk x7.1).s == (Str.mk x16).s)) && (x9.2 == (0 : Int))) = true) (.rep [] ((Str.mk x9.1) : Str)), Fact.under (((((((((true && x13) && (x1.2 == (0 : Int))) && ((Str.mk x1.1).s == (Str.mk x14).s)) && (x3.2 == (0 : Int))) && ((Str.mk x3.1).s == (Str.mk x15).s)) && (x7.2 == (0 : Int))) && ((Str.mk x7.1).s == (Str.mk x16).s)) && (x9.2 == (0 : Int))) = true) (.rep [31] (x17 : List UInt8)), Fact.under (((((((((true && x13) && (x1.2 == (0 : Int))) && ((Str.mk x1.1).s == (Str.mk x14).s)) && (x3.2 == (0 : Int))) && ((Str.mk x3.1).s == (Str.mk x15).s)) && (x7.2 == (0 : Int))) && ((Str.mk x7.1).s == (Str.mk x16).s)) && (x9.2 == (0 : Int))) = true) (.rep [] ((Str.mk x17) : Str)), Fact.under (((((((((true && x13) && (x1.2 == (0 : Int))) && ((Str.mk x1.1).s == (Str.mk x14).s)) && (x3.2 == (0 : Int))) && ((Str.mk x3.1).s == (Str.mk x15).s)) && (x7.2 == (0 : Int))) && ((Str.mk x7.1).s == (Str.mk x16).s)) && (x9.2 == (0 : Int))) = true) (.rep [] (((Str.mk x9.1).s == (Str.mk x17).s) : Bool)), Fact.rep [] ((((((((((true && x13) && (x1.2 == (0 : Int))) && ((Str.mk x1.1).s == (Str.mk x14).s)) && (x3.2 == (0 : Int))) && ((Str.mk x3.1).s == (Str.mk x15).s)) && (x7.2 == (0 : Int))) && ((Str.mk x7.1).s == (Str.mk x16).s)) && (x9.2 == (0 : Int))) && ((Str.mk x9.1).s == (Str.mk x17).s)) : Bool), Fact.rep [] ((((((((((true && x13) && (x1.2 == (0 : Int))) && ((Str.mk x1.1).s == (Str.mk x14).s)) && (x3.2 == (0 : Int))) && ((Str.mk x3.1).s == (Str.mk x15).s)) && (x7.2 == (0 : Int))) && ((Str.mk x7.1).s == (Str.mk x16).s)) && (x9.2 == (0 : Int))) && ((Str.mk x9.1).s == (Str.mk x17).s)) : Bool), Fact.under ((((((((((true && x13) && (x1.2 == (0 : Int))) && ((Str.mk x1.1).s == (Str.mk x14).s)) && (x3.2 == (0 : Int))) && ((Str.mk x3.1).s == (Str.mk x15).s)) && (x7.2 == (0 : Int))) && ((Str.mk x7.1).s == (Str.mk x16).s)) && (x9.2 == (0 : Int))) && ((Str.mk x9.1).s == (Str.mk x17).s)) = true) (.rep [] (x10.2 : Int)), Fact.under ((((((((((true && x13) && (x1.2 == (0 : Int))) && ((Str.mk x1.1).s == (Str.mk x14).s)) && (x3.2 == (0 : Int))) && ((Str.mk x3.1).s == (Str.mk x15).s)) && (x7.2 == (0 : Int))) && ((Str.mk x7.1).s == (Str.mk x16).s)) && (x9.2 == (0 : Int))) && ((Str.mk x9.1).s == (Str.mk x17).s)) = true) (.rep [] ((x10.2 == (3 : Int)) : Bool)), Fact.rep [] (((((((((((true && x13) && (x1.2 == (0 : Int))) && ((Str.mk x1.1).s == (Str.mk x14).s)) && (x3.2 == (0 : Int))) && ((Str.mk x3.1).s == (Str.mk x15).s)) && (x7.2 == (0 : Int))) && ((Str.mk x7.1).s == (Str.mk x16).s)) && (x9.2 == (0 : Int))) && ((Str.mk x9.1).s == (Str.mk x17).s)) && (x10.2 == (3 : Int))) : Bool), Fact.rep [] (((((((((((true && x13) && (x1.2 == (0 : Int))) && ((Str.mk x1.1).s == (Str.mk x14).s)) && (x3.2 == (0 : Int))) && ((Str.mk x3.1).s == (Str.mk x15).s)) && (x7.2 == (0 : Int))) && ((Str.mk x7.1).s == (Str.mk x16).s)) && (x9.2 == (0 : Int))) && ((Str.mk x9.1).s == (Str.mk x17).s)) && (x10.2 == (3 : Int))) : Bool), Fact.under (((((((((((true && x13) && (x1.2 == (0 : Int))) && ((Str.mk x1.1).s == (Str.mk x14).s)) && (x3.2 == (0 : Int))) && ((Str.mk x3.1).s == (Str.mk x15).s)) && (x7.2 == (0 : Int))) && ((Str.mk x7.1).s == (Str.mk x16).s)) && (x9.2 == (0 : Int))) && ((Str.mk x9.1).s == (Str.mk x17).s)) && (x10.2 == (3 : Int))) = true) (.rep [] (x12.2 : Int)), Fact.under (((((((((((true && x13) && (x1.2 == (0 : Int))) && ((Str.mk x1.1).s == (Str.mk x14).s)) && (x3.2 == (0 : Int))) && ((Str.mk x3.1).s == (Str.mk x15).s)) && (x7.2 == (0 : Int))) && ((Str.mk x7.1).s == (Str.mk x16).s)) && (x9.2 == (0 : Int))) && ((Str.mk x9.1).s == (Str.mk x17).s)) && (x10.2 == (3 : Int))) = true) (.rep [] ((x12.2 == (4 : Int)) : Bool)), Fact.rep [] ((((((((((((true && x13) && (x1.2 == (0 : Int))) && ((Str.mk x1.1).s == (Str.mk x14).s)) && (x3.2 == (0 : Int))) && ((Str.mk x3.1).s == (Str.mk x15).s)) && (x7.2 == (0 : Int))) && ((Str.mk x7.1).s == (Str.mk x16).s)) && (x9.2 == (0 : Int))) && ((Str.mk x9.1).s == (Str.mk x17).s)) && (x10.2 == (3 : Int))) && (x12.2 == (4 : Int))) : Bool), Fact.rep [] ((((((((((((true && x13) && (x1.2 == (0 : Int))) && ((Str.mk x1.1).s == (Str.mk x14).s)) && (x3.2 == (0 : Int))) && ((Str.mk x3.1).s == (Str.mk x15).s)) && (x7.2 == (0 : Int))) && ((Str.mk x7.1).s == (Str.mk x16).s)) && (x9.2 == (0 : Int))) && ((Str.mk x9.1).s == (Str.mk x17).s)) && (x10.2 == (3 : Int))) && (x12.2 == (4 : Int))) : Bool)] mixed (by kernel_rfl) rfl rfl rfl (AllOk.cons (OpOk.op (Spec.move Has.bool)) (AllOk.cons (OpOk.opg rfl rfl (fun hb => Spec.callF [] 27 rfl en12 (law03_alive_c  (gO_t hx13 hb)) HasAll.nil)) (AllOk.cons (OpOk.op (Spec.and (Has.s rfl) (fun h => Has.u rfl h))) (AllOk.cons (OpOk.op (Spec.move (Has.s rfl))) (AllOk.cons (OpOk.opg rfl rfl (fun hb => Spec.move (Has.s rfl))) (AllOk.cons (OpOk.opg rfl rfl (fun hb => Spec.eqlI (Has.u rfl hb) Has.int)) (AllOk.cons (OpOk.op (Spec.and (Has.s rfl) (fun h => Has.u rfl h))) (AllOk.cons (OpOk.op (Spec.move (Has.s rfl))) (AllOk.cons (OpOk.opg rfl rfl (fun hb => Spec.move (Has.s rfl))) (AllOk.cons (OpOk.opg rfl rfl (fun hb => Spec.toStr Try.underlying22 Try.underlying5 Try.underlying9 (Has.u rfl hb))) (AllOk.cons (OpOk.opg rfl rfl (fun hb => Spec.callN1 [] 28 rfl en11 (law03_full_c (0 : UInt8) (gO_t hx14 hb)) (HasAll.cons (Has.fl (Has.u8 0 rfl)) HasAll.nil))) (AllOk.cons (OpOk.opg rfl rfl (fun hb => Spec.toStr Try.underlying22 Try.underlying5 Try.underlying9 (Has.u rfl hb))) (AllOk.cons (OpOk.opg rfl rfl (fun hb => Spec.eqlS (Has.u rfl hb) (Has.u rfl hb))) (AllOk.cons (OpOk.op (Spec.and (Has.s rfl) (fun h => Has.u rfl h))) (AllOk.cons (OpOk.op (Spec.move (Has.s rfl))) (AllOk.cons (OpOk.opg rfl rfl (fun hb => Spec.move (Has.s rfl))) (AllOk.cons (OpOk.opg rfl rfl (fun hb => Spec.eqlI (Has.u rfl hb) Has.int)) (AllOk.cons (OpOk.op (Spec.and (Has.s rfl) (fun h => Has.u rfl h))) (AllOk.cons (OpOk.op (Spec.move (Has.s rfl))) (AllOk.cons (OpOk.opg rfl rfl (fun hb => Spec.move (Has.s rfl))) (AllOk.cons (OpOk.opg rfl rfl (fun hb => Spec.toStr Try.underlying22 Try.underlying5 Try.underlying9 (Has.u rfl hb))) (AllOk.cons (OpOk.opg rfl rfl (fun hb => Spec.callN1 [] 29 rfl en11 (law03_full_c (5 : UInt8) (gO_t hx15 hb)) (HasAll.cons (Has.fl (Has.u8 5 rfl)) HasAll.nil))) (AllOk.cons (OpOk.opg rfl rfl (fun hb => Spec.toStr Try.underlying22 Try.underlying5 Try.underlying9 (Has.u rfl hb))) (AllOk.cons (OpOk.opg rfl rfl (fun hb => Spec.eqlS (Has.u rfl hb) (Has.u rfl hb))) (AllOk.cons (OpOk.op (Spec.and (Has.s rfl) (fun h => Has.u rfl h))) (AllOk.cons (OpOk.op (Spec.move (Has.s rfl))) (AllOk.cons (OpOk.opg rfl rfl (fun hb => Spec.move (Has.s rfl))) (AllOk.cons (OpOk.opg rfl rfl (fun hb => Spec.eqlI (Has.u rfl hb) Has.int)) (AllOk.cons (OpOk.op (Spec.and (Has.s rfl) (fun h => Has.u rfl h))) (AllOk.cons (OpOk.op (Spec.move (Has.s rfl))) (AllOk.cons (OpOk.opg rfl rfl (fun hb => Spec.move (Has.s rfl))) (AllOk.cons (OpOk.opg rfl rfl (fun hb => Spec.toStr Try.underlying22 Try.underlying5 Try.underlying9 (Has.u rfl hb))) (AllOk.cons (OpOk.opg rfl rfl (fun hb => Spec.callN1 [] 30 rfl en11 (law03_full_c (3 : UInt8) (gO_t hx16 hb)) (HasAll.cons (Has.fl (Has.u8 3 rfl)) HasAll.nil))) (AllOk.cons (OpOk.opg rfl rfl (fun hb => Spec.toStr Try.underlying22 Try.underlying5 Try.underlying9 (Has.u rfl hb))) (AllOk.cons (OpOk.opg rfl rfl (fun hb => Spec.eqlS (Has.u rfl hb) (Has.u rfl hb))) (AllOk.cons (OpOk.op (Spec.and (Has.s rfl) (fun h => Has.u rfl h))) (AllOk.cons (OpOk.op (Spec.move (Has.s rfl))) (AllOk.cons (OpOk.opg rfl rfl (fun hb => Spec.move (Has.s rfl))) (AllOk.cons (OpOk.opg rfl rfl (fun hb => Spec.eqlI (Has.u rfl hb) Has.int)) (AllOk.cons (OpOk.op (Spec.and (Has.s rfl) (fun h => Has.u rfl h))) (AllOk.cons (OpOk.op (Spec.move (Has.s rfl))) (AllOk.cons (OpOk.opg rfl rfl (fun hb => Spec.move (Has.s rfl))) (AllOk.cons (OpOk.opg rfl rfl (fun hb => Spec.toStr Try.underlying22 Try.underlying5 Try.underlying9 (Has.u rfl hb))) (AllOk.cons (OpOk.opg rfl rfl (fun hb => Spec.callN1 [] 31 rfl en11 (law03_full_c (5 : UInt8) (gO_t hx17 hb)) (HasAll.cons (Has.fl (Has.u8 5 rfl)) HasAll.nil))) (AllOk.cons (OpOk.opg rfl rfl (fun hb => Spec.toStr Try.underlying22 Try.underlying5 Try.underlying9 (Has.u rfl hb))) (AllOk.cons (OpOk.opg rfl rfl (fun hb => Spec.eqlS (Has.u rfl hb) (Has.u rfl hb))) (AllOk.cons (OpOk.op (Spec.and (Has.s rfl) (fun h => Has.u rfl h))) (AllOk.cons (OpOk.op (Spec.move (Has.s rfl))) (AllOk.cons (OpOk.opg rfl rfl (fun hb => Spec.move (Has.s rfl))) (AllOk.cons (OpOk.opg rfl rfl (fun hb => Spec.eqlI (Has.u rfl hb) Has.int)) (AllOk.cons (OpOk.op (Spec.and (Has.s rfl) (fun h => Has.u rfl h))) (AllOk.cons (OpOk.op (Spec.move (Has.s rfl))) (AllOk.cons (OpOk.opg rfl rfl (fun hb => Spec.move (Has.s rfl))) (AllOk.cons (OpOk.opg rfl rfl (fun hb => Spec.eqlI (Has.u rfl hb) Has.int)) (AllOk.cons (OpOk.op (Spec.and (Has.s rfl) (fun h => Has.u rfl h))) (AllOk.cons (OpOk.op (Spec.assign (Has.s rfl))) AllOk.nil)))))))))))))))))))))))))))))))))))))))))))))))))))))))) ?_
  refine Leaf.thenN ?_
  refine CWalk.ret ?_
  obtain rfl := Option.some.inj hm
  exact Leaf.ret1 rfl (Has.fl (Has.s rfl))

def ref03_Great_L1 (a0 : List (List UInt8)) (s1 : Int) : Option (Ctl (Int) ((Unit) ⊕ (Bool))) :=
  (bif (decide (s1 < ((a0).length : Int))) then Option.bind (idx a0 s1) (fun x3 => (bif (decide (((x3).length : Int) > (1000 : Int))) then some (Ctl.brk (Sum.inr true)) else some (Ctl.next (wI (s1 + (1 : Int)))))) else some (Ctl.brk (Sum.inl ())))
/-- freeboard/freeboardref03.Great -/
def ref03_Great (a0 : List (List UInt8)) : Option (Bool) :=
  (bif (decide (((a0).length : Int) > (300 : Int))) then some true else Option.bind (loopM (fun s : Int => ref03_Great_L1 a0 s) FUEL (0 : Int)) (fun b4 => Sum.elim (fun b5 => some false) (fun b6 => some b6) b4))
set_option maxRecDepth 100000 in
theorem ref03_Great_c (a0 : List (List UInt8)) {r : Bool} (hm : ref03_Great a0 = some r) : Ctr Try.prog 13 [.rep a0] (.rep r) false := by
  refine ctr_of_walk (T := []) 19 Try.func13 rfl rfl rfl rfl (fun w0 om => ?_)
  unfold ref03_Great at hm
  refine CWalk.sub (G' := [.fact 0 (Fact.rep [0] (a0 : List (List UInt8)))]) (Sub.cons (Has.s rfl) Sub.nil) ?_
  refine CWalk.seq ?_
  refine CWalk.region ?_
  refine Walk.op rfl (Spec.assign Has.bool) ?_
  refine Walk.nil ?_
  refine Leaf.thenN ?_
  refine CWalk.seq ?_
  refine CWalk.seq ?_
  refine CWalk.region ?_
  refine Walk.op rfl (Spec.move (Has.s rfl)) ?_
  refine Walk.op rfl (Spec.len (Has.s rfl) Try.underlying27) ?_
  refine Walk.op rfl (Spec.gtrI (Has.s rfl) Has.int) ?_
  refine Walk.nil ?_
  refine Leaf.thenN ?_
  refine CWalk.cond rfl (fun hb => ?_) (fun hb => ?_)
  · have hm := cond_t hb hm
    refine CWalk.seq ?_
    refine CWalk.region ?_
    refine Walk.op rfl (Spec.assign Has.bool) ?_
    refine Walk.nil ?_
    refine Leaf.thenN ?_
    refine CWalk.ret ?_
    refine Leaf.thenR ?_
    obtain rfl := Option.some.inj hm
    exact Leaf.ret1 rfl (Has.fl (Has.s rfl))
  · have hm := cond_f hb hm
    refine CWalk.skip ?_
    refine Leaf.thenN ?_
    refine CWalk.seq ?_
    refine CWalk.seq ?_
    refine CWalk.region ?_
    refine Walk.op rfl (Spec.assign Has.int) ?_
    refine Walk.nil ?_
    refine Leaf.thenN ?_
    refine CWalk.block ?_
    obtain ⟨b4, hb4, hm⟩ := bind_some hm
    refine CWalk.loop (fun s : Int => [.fact 0 (Fact.rep [0] (a0 : List (List UInt8))), .fact 3 (Fact.rep [] (s : Int))]) (fun b : (Unit) ⊕ (Bool) => Sum.elim (fun b => (Exit.exit 0, [])) (fun b => (Exit.ret, [.fact 2 (Fact.rep [] (b : Bool))])) b) hb4 (Sub.cons (Has.m (Has.s rfl) rfl) (Sub.cons ((Has.s rfl)) Sub.nil)) ?_ ?_
    · rintro s1 c2 hm
      replace hm : ref03_Great_L1 a0 s1 = some c2 := hm
      unfold ref03_Great_L1 at hm
      show CWalk _ [.fact 0 (Fact.rep [0] (a0 : List (List UInt8))), .fact 3 (Fact.rep [] (s1 : Int))] _ _
      refine CWalk.seq ?_
      refine CWalk.seq ?_
      refine CWalk.region ?_
      refine Walk.op rfl (Spec.move (Has.s rfl)) ?_
      refine Walk.op rfl (Spec.move (Has.s rfl)) ?_
      refine Walk.op rfl (Spec.len (Has.s rfl) Try.underlying27) ?_
      refine Walk.op rfl (Spec.lssI (Has.s rfl) (Has.s rfl)) ?_
      refine Walk.nil ?_
      refine Leaf.thenN ?_
      refine CWalk.cond rfl (fun hb => ?_) (fun hb => ?_)
      · have hm := cond_t hb hm
        refine CWalk.skip ?_
        refine Leaf.thenN ?_
        refine CWalk.seq ?_
        refine CWalk.block ?_
        refine CWalk.seq ?_
        refine CWalk.region ?_
        refine Walk.op rfl (Spec.move (Has.s rfl)) ?_
        refine Walk.op rfl (Spec.move (Has.s rfl)) ?_
        obtain ⟨x3, hx3, hm⟩ := bind_some hm
        refine Walk.op rfl (Spec.indexAddr hx3 sl27 (Has.s rfl) (Has.s rfl)) ?_
        refine Walk.op rfl (Spec.load ty22 (Has.s rfl)) ?_
        refine Walk.op rfl (Spec.len (Has.s rfl) Try.underlying22) ?_
        refine Walk.op rfl (Spec.gtrI (Has.s rfl) Has.int) ?_
        refine Walk.nil ?_
        refine Leaf.thenN ?_
        refine CWalk.cond rfl (fun hb => ?_) (fun hb => ?_)
        · have hm := cond_t hb hm
          refine CWalk.seq ?_
          refine CWalk.region ?_
          refine Walk.op rfl (Spec.assign Has.bool) ?_
          refine Walk.nil ?_
          refine Leaf.thenN ?_
          refine CWalk.ret ?_
          refine Leaf.blockR ?_
          refine Leaf.thenR ?_
          exact Leaf.brk hm (fun h => nomatch h) rfl (Sub.cons ((Has.s rfl)) Sub.nil)
        · have hm := cond_f hb hm
          refine CWalk.skip ?_
          refine Leaf.blockN ?_
          refine Leaf.thenN ?_
          refine CWalk.region ?_
          refine Walk.op rfl (Spec.move (Has.s rfl)) ?_
          refine Walk.op rfl (Spec.addI (Has.s rfl) Has.int) ?_
          refine Walk.op rfl (Spec.assign (Has.s rfl)) ?_
          refine Walk.nil ?_
          exact Leaf.next hm (Sub.cons (Has.m (Has.s rfl) rfl) (Sub.cons ((Has.s rfl)) Sub.nil))
      · have hm := cond_f hb hm
        refine CWalk.exit ?_
        refine Leaf.thenE ?_
        exact Leaf.brk hm (fun h => nomatch h) rfl (Sub.nil)
    · intro _
      rcases b4 with b5 | b6
      · have hm := selim_l hm
        refine Leaf.blockE ?_
        refine Leaf.thenN ?_
        refine CWalk.seq ?_
        refine CWalk.region ?_
        refine Walk.op rfl (Spec.assign Has.bool) ?_
        refine Walk.nil ?_
        refine Leaf.thenN ?_
        refine CWalk.ret ?_
        obtain rfl := Option.some.inj hm
        exact Leaf.ret1 rfl (Has.fl (Has.s rfl))
      · have hm := selim_r hm
        refine Leaf.blockR ?_
        refine Leaf.thenR ?_
        obtain rfl := Option.some.inj hm
        exact Leaf.ret1 rfl (Has.fl (Has.s rfl))

def ref03_Twin_L1 (a0 : List (List UInt8)) (s1 : Int) (s2 : List (List UInt8)) : Option (Ctl (Int × (List (List UInt8))) ((List (List UInt8)))) :=
  (bif (decide (s1 < ((a0).length : Int))) then Option.bind (idx a0 s1) (fun x4 => Option.bind (app ([] : List UInt8) x4) (fun x5 => Option.bind (app s2 ([x5])) (fun x6 => some (Ctl.next ((wI (s1 + (1 : Int))), x6))))) else some (Ctl.brk s2))
/-- freeboard/freeboardref03.Twin -/
def ref03_Twin (a0 : List (List UInt8)) : Option ((List (List UInt8))) :=
  Option.bind (loopM (fun s : Int × (List (List UInt8)) => ref03_Twin_L1 a0 s.1 s.2) FUEL ((0 : Int), ([] : List (List UInt8)))) (fun b7 => some b7)
set_option maxRecDepth 100000 in
theorem ref03_Twin_c (a0 : List (List UInt8)) {r : (List (List UInt8))} (hm : ref03_Twin a0 = some r) : Ctr Try.prog 14 [.rep a0] (.rep r) false := by
  refine ctr_of_walk (T := [10, 11, 12]) 20 Try.func14 rfl rfl rfl rfl (fun w0 om => ?_)
  unfold ref03_Twin at hm
  refine CWalk.sub (G' := [.fact 0 (Fact.rep [0] (a0 : List (List UInt8)))]) (Sub.cons (Has.s rfl) Sub.nil) ?_
  refine CWalk.seq ?_
  refine CWalk.region ?_
  refine Walk.op rfl (Spec.assign (Has.nil (List UInt8))) ?_
  refine Walk.nil ?_
  refine Leaf.thenN ?_
  refine CWalk.seq ?_
  refine CWalk.region ?_
  refine Walk.ownNil (α := List UInt8) 10 22 rfl rfl ?_
  refine Walk.nil ?_
  refine Leaf.thenN ?_
  refine CWalk.seq ?_
  refine CWalk.seq ?_
  refine CWalk.region ?_
  refine Walk.op rfl (Spec.assign Has.int) ?_
  refine Walk.nil ?_
  refine Leaf.thenN ?_
  refine CWalk.block ?_
  obtain ⟨b7, hb7, hm⟩ := bind_some hm
  refine CWalk.loop (fun s : Int × (List (List UInt8)) => [.fact 0 (Fact.rep [0] (a0 : List (List UInt8))), .fact 3 (Fact.isv 10), .fact 4 (Fact.rep [] (s.1 : Int)), .fact 100010 (Fact.own 10 [11, 12] 22 (s.2 : List (List UInt8)))]) (fun b : (List (List UInt8)) => (Exit.exit 0, [.fact 3 (Fact.isv 10), .fact 100010 (Fact.own 10 [11, 12] 22 (b : List (List UInt8)))])) hb7 (Sub.cons (Has.m (Has.s rfl) rfl) (Sub.cons (Has.s rfl) (Sub.cons ((Has.s rfl)) (Sub.cons (Has.ownM (Has.s rfl) rfl) Sub.nil)))) ?_ ?_
  · rintro ⟨s1, s2⟩ c3 hm
    replace hm : ref03_Twin_L1 a0 s1 s2 = some c3 := hm
    unfold ref03_Twin_L1 at hm
    show CWalk _ [.fact 0 (Fact.rep [0] (a0 : List (List UInt8))), .fact 3 (Fact.isv 10), .fact 4 (Fact.rep [] (s1 : Int)), .fact 100010 (Fact.own 10 [11, 12] 22 (s2 : List (List UInt8)))] _ _
    refine CWalk.seq ?_
    refine CWalk.seq ?_
    refine CWalk.region ?_
    refine Walk.op rfl (Spec.move (Has.s rfl)) ?_
    refine Walk.op rfl (Spec.move (Has.s rfl)) ?_
    refine Walk.op rfl (Spec.len (Has.s rfl) Try.underlying27) ?_
    refine Walk.op rfl (Spec.lssI (Has.s rfl) (Has.s rfl)) ?_
    refine Walk.nil ?_
    refine Leaf.thenN ?_
    refine CWalk.cond rfl (fun hb => ?_) (fun hb => ?_)
    · have hm := cond_t hb hm
      refine CWalk.skip ?_
      refine Leaf.thenN ?_
      refine CWalk.seq ?_
      refine CWalk.block ?_
      refine CWalk.region ?_
      refine Walk.op rfl (Spec.move (Has.s rfl)) ?_
      refine Walk.op rfl (Spec.move (Has.s rfl)) ?_
      refine Walk.op rfl (Spec.move (Has.s rfl)) ?_
      obtain ⟨x4, hx4, hm⟩ := bind_some hm
      refine Walk.op rfl (Spec.indexAddr hx4 sl27 (Has.s rfl) (Has.s rfl)) ?_
      refine Walk.op rfl (Spec.load ty22 (Has.s rfl)) ?_
      obtain ⟨x5, hx5, hm⟩ := bind_some hm
      refine Walk.appendNil (te' := []) 11 hx5 rfl rfl ow22 (Has.s rfl) ElKeep.flat ?_
      refine Walk.op rfl (Spec.lit (xs := [.tmp 16]) (T := [11]) 12 rfl ow27 rfl rfl rfl rfl (HasEach.cons (Has.m (Has.own (Has.s rfl) rfl) rfl) HasEach.nil)) ?_
      obtain ⟨x6, hx6, hm⟩ := bind_some hm
      refine Walk.append (te' := [11, 12]) 10 hx6 rfl rfl ow27 (Has.s rfl) rfl (Has.s rfl) (ElKeep.tags rfl rfl) (ElKeep.tags rfl rfl) ?_
      refine Walk.op rfl (Spec.assign (Has.s rfl)) ?_
      refine Walk.nil ?_
      refine Leaf.blockN ?_
      refine Leaf.thenN ?_
      refine CWalk.region ?_
      refine Walk.op rfl (Spec.move (Has.s rfl)) ?_
      refine Walk.op rfl (Spec.addI (Has.s rfl) Has.int) ?_
      refine Walk.op rfl (Spec.assign (Has.s rfl)) ?_
      refine Walk.nil ?_
      exact Leaf.next hm (Sub.cons (Has.m (Has.s rfl) rfl) (Sub.cons (Has.s rfl) (Sub.cons ((Has.s rfl)) (Sub.cons (Has.ownM (Has.s rfl) rfl) Sub.nil))))
    · have hm := cond_f hb hm
      refine CWalk.exit ?_
      refine Leaf.thenE ?_
      exact Leaf.brk hm (fun h => nomatch h) rfl (Sub.cons (Has.s rfl) (Sub.cons (Has.ownM (Has.s rfl) rfl) Sub.nil))
  · intro _
    refine Leaf.blockE ?_
    refine Leaf.thenN ?_
    refine CWalk.seq ?_
    refine CWalk.region ?_
    refine Walk.op rfl (Spec.move (Has.s rfl)) ?_
    refine Walk.op rfl (Spec.assign (Has.s rfl)) ?_
    refine Walk.nil ?_
    refine Leaf.thenN ?_
    refine CWalk.ret ?_
    obtain rfl := Option.some.inj hm
    exact Leaf.ret1 rfl (Has.m (Has.own (Has.s rfl) rfl) rfl)

/-- freeboard/freeboardref02.Block -/
def ref02_Block (a0 : List UInt8) : Option (Bool) :=
  some ((((a0).length : Int) == (0 : Int)) || (((a0).length : Int) == (128 : Int)))
set_option maxRecDepth 100000 in
theorem ref02_Block_c (a0 : List UInt8) {r : Bool} (hm : ref02_Block a0 = some r) : Ctr Try.prog 20 [.rep a0] (.rep r) false := by
  refine ctr_of_walk (T := []) 11 Try.func20 rfl rfl rfl rfl (fun w0 om => ?_)
  unfold ref02_Block at hm
  refine CWalk.sub (G' := [.fact 0 (Fact.rep [0] (a0 : List UInt8))]) (Sub.cons (Has.s rfl) Sub.nil) ?_
  refine CWalk.seq ?_
  refine CWalk.region ?_
  refine Walk.op rfl (Spec.assign Has.bool) ?_
  refine Walk.nil ?_
  refine Leaf.thenN ?_
  refine CWalk.seq ?_
  refine CWalk.region ?_
  refine Walk.op rfl (Spec.move (Has.s rfl)) ?_
  refine Walk.op rfl (Spec.len (Has.s rfl) Try.underlying22) ?_
  refine Walk.op rfl (Spec.eqlI (Has.s rfl) Has.int) ?_
  refine Walk.op rfl (Spec.move (Has.s rfl)) ?_
  refine Walk.opg rfl rfl rfl (fun hb => Spec.move (Has.s rfl)) ?_
  refine Walk.opg rfl rfl rfl (fun hb => Spec.len (Has.u rfl hb) Try.underlying22) ?_
  refine Walk.opg rfl rfl rfl (fun hb => Spec.eqlI (Has.u rfl hb) Has.int) ?_
  refine Walk.op rfl (Spec.or (Has.s rfl) (fun h => Has.u rfl h)) ?_
  refine Walk.op rfl (Spec.assign (Has.s rfl)) ?_
  refine Walk.nil ?_
  refine Leaf.thenN ?_
  refine CWalk.ret ?_
  obtain rfl := Option.some.inj hm
  exact Leaf.ret1 rfl (Has.fl (Has.s rfl))

def ref03_Blocks_L1 (a0 : List (List UInt8)) (s1 : Int) : Option (Ctl (Int) ((Unit) ⊕ (Unit))) :=
  (bif (decide (s1 < ((a0).length : Int))) then Option.bind (idx a0 s1) (fun x3 => Option.bind (ref02_Block x3) (fun x4 => (bif (!x4) then some (Ctl.brk (Sum.inr ())) else some (Ctl.next (wI (s1 + (1 : Int))))))) else some (Ctl.brk (Sum.inl ())))
/-- freeboard/freeboardref03.Blocks -/
def ref03_Blocks (a0 : List (List UInt8)) : Option (Bool) :=
  Option.bind (loopM (fun s : Int => ref03_Blocks_L1 a0 s) FUEL (0 : Int)) (fun b5 => Sum.elim (fun b6 => some true) (fun b7 => some false) b5)
set_option maxRecDepth 100000 in
theorem ref03_Blocks_c (a0 : List (List UInt8)) {r : Bool} (hm : ref03_Blocks a0 = some r) : Ctr Try.prog 18 [.rep a0] (.rep r) false := by
  refine ctr_of_walk (T := []) 16 Try.func18 rfl rfl rfl rfl (fun w0 om => ?_)
  unfold ref03_Blocks at hm
  refine CWalk.sub (G' := [.fact 0 (Fact.rep [0] (a0 : List (List UInt8)))]) (Sub.cons (Has.s rfl) Sub.nil) ?_
  refine CWalk.seq ?_
  refine CWalk.region ?_
  refine Walk.op rfl (Spec.assign Has.bool) ?_
  refine Walk.nil ?_
  refine Leaf.thenN ?_
  refine CWalk.seq ?_
  refine CWalk.seq ?_
  refine CWalk.region ?_
  refine Walk.op rfl (Spec.assign Has.int) ?_
  refine Walk.nil ?_
  refine Leaf.thenN ?_
  refine CWalk.block ?_
  obtain ⟨b5, hb5, hm⟩ := bind_some hm
  refine CWalk.loop (fun s : Int => [.fact 0 (Fact.rep [0] (a0 : List (List UInt8))), .fact 3 (Fact.rep [] (s : Int))]) (fun b : (Unit) ⊕ (Unit) => Sum.elim (fun b => (Exit.exit 0, [])) (fun b => (Exit.ret, [.fact 2 (Fact.rep [] (false : Bool))])) b) hb5 (Sub.cons (Has.m (Has.s rfl) rfl) (Sub.cons ((Has.s rfl)) Sub.nil)) ?_ ?_
  · rintro s1 c2 hm
    replace hm : ref03_Blocks_L1 a0 s1 = some c2 := hm
    unfold ref03_Blocks_L1 at hm
    show CWalk _ [.fact 0 (Fact.rep [0] (a0 : List (List UInt8))), .fact 3 (Fact.rep [] (s1 : Int))] _ _
    refine CWalk.seq ?_
    refine CWalk.seq ?_
    refine CWalk.region ?_
    refine Walk.op rfl (Spec.move (Has.s rfl)) ?_
    refine Walk.op rfl (Spec.move (Has.s rfl)) ?_
    refine Walk.op rfl (Spec.len (Has.s rfl) Try.underlying27) ?_
    refine Walk.op rfl (Spec.lssI (Has.s rfl) (Has.s rfl)) ?_
    refine Walk.nil ?_
    refine Leaf.thenN ?_
    refine CWalk.cond rfl (fun hb => ?_) (fun hb => ?_)
    · have hm := cond_t hb hm
      refine CWalk.skip ?_
      refine Leaf.thenN ?_
      refine CWalk.seq ?_
      refine CWalk.block ?_
      refine CWalk.seq ?_
      refine CWalk.region ?_
      refine Walk.op rfl (Spec.move (Has.s rfl)) ?_
      refine Walk.op rfl (Spec.move (Has.s rfl)) ?_
      obtain ⟨x3, hx3, hm⟩ := bind_some hm
      refine Walk.op rfl (Spec.indexAddr hx3 sl27 (Has.s rfl) (Has.s rfl)) ?_
      refine Walk.op rfl (Spec.load ty22 (Has.s rfl)) ?_
      obtain ⟨x4, hx4, hm⟩ := bind_some hm
      refine Walk.op rfl (Spec.callF [0] 10 rfl en20 (ref02_Block_c x3 hx4) (HasAll.cons (Has.m (Has.s rfl) rfl) HasAll.nil)) ?_
      refine Walk.op rfl (Spec.not (Has.s rfl)) ?_
      refine Walk.nil ?_
      refine Leaf.thenN ?_
      refine CWalk.cond rfl (fun hb => ?_) (fun hb => ?_)
      · have hm := cond_t hb hm
        refine CWalk.seq ?_
        refine CWalk.region ?_
        refine Walk.op rfl (Spec.assign Has.bool) ?_
        refine Walk.nil ?_
        refine Leaf.thenN ?_
        refine CWalk.ret ?_
        refine Leaf.blockR ?_
        refine Leaf.thenR ?_
        exact Leaf.brk hm (fun h => nomatch h) rfl (Sub.cons ((Has.s rfl)) Sub.nil)
      · have hm := cond_f hb hm
        refine CWalk.skip ?_
        refine Leaf.blockN ?_
        refine Leaf.thenN ?_
        refine CWalk.region ?_
        refine Walk.op rfl (Spec.move (Has.s rfl)) ?_
        refine Walk.op rfl (Spec.addI (Has.s rfl) Has.int) ?_
        refine Walk.op rfl (Spec.assign (Has.s rfl)) ?_
        refine Walk.nil ?_
        exact Leaf.next hm (Sub.cons (Has.m (Has.s rfl) rfl) (Sub.cons ((Has.s rfl)) Sub.nil))
    · have hm := cond_f hb hm
      refine CWalk.exit ?_
      refine Leaf.thenE ?_
      exact Leaf.brk hm (fun h => nomatch h) rfl (Sub.nil)
  · intro _
    rcases b5 with b6 | b7
    · have hm := selim_l hm
      refine Leaf.blockE ?_
      refine Leaf.thenN ?_
      refine CWalk.seq ?_
      refine CWalk.region ?_
      refine Walk.op rfl (Spec.assign Has.bool) ?_
      refine Walk.nil ?_
      refine Leaf.thenN ?_
      refine CWalk.ret ?_
      obtain rfl := Option.some.inj hm
      exact Leaf.ret1 rfl (Has.fl (Has.s rfl))
    · have hm := selim_r hm
      refine Leaf.blockR ?_
      refine Leaf.thenR ?_
      obtain rfl := Option.some.inj hm
      exact Leaf.ret1 rfl (Has.fl (Has.s rfl))

def ref02_Whole_L1 (a0 : List UInt8) (s2 : Int) (s3 : List UInt8) : Option (Ctl (Int × (List UInt8)) ((List UInt8))) :=
  (bif (decide (s2 < ((a0).length : Int))) then Option.bind (idx a0 s2) (fun x5 => Option.bind (bnd (s3).length s2) (fun x6 => some (Ctl.next ((wI (s2 + (1 : Int))), (s3).set x6 x5)))) else some (Ctl.brk s3))
/-- freeboard/freeboardref02.Whole -/
def ref02_Whole (a0 : List UInt8) : Option ((List UInt8)) :=
  Option.bind (makeL (0 : UInt8) (128 : Int)) (fun x1 => Option.bind (loopM (fun s : Int × (List UInt8) => ref02_Whole_L1 a0 s.1 s.2) FUEL ((0 : Int), x1)) (fun b7 => some b7))
set_option maxRecDepth 100000 in
theorem ref02_Whole_c (a0 : List UInt8) {r : (List UInt8)} (hm : ref02_Whole a0 = some r) : Ctr Try.prog 22 [.rep a0] (.rep r) false := by
  refine ctr_of_walk (T := [10]) 20 Try.func22 rfl rfl rfl rfl (fun w0 om => ?_)
  unfold ref02_Whole at hm
  refine CWalk.sub (G' := [.fact 0 (Fact.rep [0] (a0 : List UInt8))]) (Sub.cons (Has.s rfl) Sub.nil) ?_
  refine CWalk.seq ?_
  refine CWalk.region ?_
  refine Walk.op rfl (Spec.assign (Has.nil UInt8)) ?_
  refine Walk.nil ?_
  refine Leaf.thenN ?_
  refine CWalk.seq ?_
  refine CWalk.region ?_
  obtain ⟨x1, hx1, hm⟩ := bind_some hm
  refine Walk.makeOwn 10 hx1 rfl rfl ow22 zt5 Has.int ?_
  refine Walk.op rfl (Spec.assign (Has.s rfl)) ?_
  refine Walk.nil ?_
  refine Leaf.thenN ?_
  refine CWalk.seq ?_
  refine CWalk.seq ?_
  refine CWalk.region ?_
  refine Walk.op rfl (Spec.assign Has.int) ?_
  refine Walk.nil ?_
  refine Leaf.thenN ?_
  refine CWalk.block ?_
  obtain ⟨b7, hb7, hm⟩ := bind_some hm
  refine CWalk.loop (fun s : Int × (List UInt8) => [.fact 0 (Fact.rep [0] (a0 : List UInt8)), .fact 3 (Fact.isv 10), .fact 4 (Fact.rep [] (s.1 : Int)), .fact 100010 (Fact.own 10 [] 5 (s.2 : List UInt8))]) (fun b : (List UInt8) => (Exit.exit 0, [.fact 3 (Fact.isv 10), .fact 100010 (Fact.own 10 [] 5 (b : List UInt8))])) hb7 (Sub.cons (Has.m (Has.s rfl) rfl) (Sub.cons (Has.s rfl) (Sub.cons ((Has.s rfl)) (Sub.cons (Has.ownM (Has.s rfl) rfl) Sub.nil)))) ?_ ?_
  · rintro ⟨s2, s3⟩ c4 hm
    replace hm : ref02_Whole_L1 a0 s2 s3 = some c4 := hm
    unfold ref02_Whole_L1 at hm
    show CWalk _ [.fact 0 (Fact.rep [0] (a0 : List UInt8)), .fact 3 (Fact.isv 10), .fact 4 (Fact.rep [] (s2 : Int)), .fact 100010 (Fact.own 10 [] 5 (s3 : List UInt8))] _ _
    refine CWalk.seq ?_
    refine CWalk.seq ?_
    refine CWalk.region ?_
    refine Walk.op rfl (Spec.move (Has.s rfl)) ?_
    refine Walk.op rfl (Spec.move (Has.s rfl)) ?_
    refine Walk.op rfl (Spec.len (Has.s rfl) Try.underlying22) ?_
    refine Walk.op rfl (Spec.lssI (Has.s rfl) (Has.s rfl)) ?_
    refine Walk.nil ?_
    refine Leaf.thenN ?_
    refine CWalk.cond rfl (fun hb => ?_) (fun hb => ?_)
    · have hm := cond_t hb hm
      refine CWalk.skip ?_
      refine Leaf.thenN ?_
      refine CWalk.seq ?_
      refine CWalk.block ?_
      refine CWalk.region ?_
      refine Walk.op rfl (Spec.move (Has.s rfl)) ?_
      refine Walk.op rfl (Spec.move (Has.s rfl)) ?_
      refine Walk.op rfl (Spec.move (Has.s rfl)) ?_
      refine Walk.op rfl (Spec.move (Has.s rfl)) ?_
      obtain ⟨x5, hx5, hm⟩ := bind_some hm
      refine Walk.op rfl (Spec.indexAddr hx5 sl22 (Has.s rfl) (Has.s rfl)) ?_
      refine Walk.op rfl ((Spec.load ty5 (Has.s rfl)).flat (T' := [])) ?_
      obtain ⟨x6, hx6, hm⟩ := bind_some hm
      refine Walk.op rfl (Spec.idxOwn hx6 ow22 (Has.s rfl) rfl (Has.s rfl)) ?_
      refine Walk.storeOwn (te' := []) rfl (bnd_lt hx6 rfl) ty5 (Has.s rfl) rfl (Has.s rfl) ElKeep.flat ElKeep.flat ?_
      refine Walk.nil ?_
      refine Leaf.blockN ?_
      refine Leaf.thenN ?_
      refine CWalk.region ?_
      refine Walk.op rfl (Spec.move (Has.s rfl)) ?_
      refine Walk.op rfl (Spec.addI (Has.s rfl) Has.int) ?_
      refine Walk.op rfl (Spec.assign (Has.s rfl)) ?_
      refine Walk.nil ?_
      exact Leaf.next hm (Sub.cons (Has.m (Has.s rfl) rfl) (Sub.cons (Has.s rfl) (Sub.cons ((Has.s rfl)) (Sub.cons (Has.ownM (Has.s rfl) rfl) Sub.nil))))
    · have hm := cond_f hb hm
      refine CWalk.exit ?_
      refine Leaf.thenE ?_
      exact Leaf.brk hm (fun h => nomatch h) rfl (Sub.cons (Has.s rfl) (Sub.cons (Has.ownM (Has.s rfl) rfl) Sub.nil))
  · intro _
    refine Leaf.blockE ?_
    refine Leaf.thenN ?_
    refine CWalk.seq ?_
    refine CWalk.region ?_
    refine Walk.op rfl (Spec.move (Has.s rfl)) ?_
    refine Walk.op rfl (Spec.assign (Has.s rfl)) ?_
    refine Walk.nil ?_
    refine Leaf.thenN ?_
    refine CWalk.ret ?_
    obtain rfl := Option.some.inj hm
    exact Leaf.ret1 rfl (Has.m (Has.own (Has.s rfl) rfl) rfl)

def ref03_Two_L1 (a1 : List UInt8) (s2 : Int) (s3 : List UInt8) : Option (Ctl (Int × (List UInt8)) ((List UInt8))) :=
  (bif (decide (s2 < ((a1).length : Int))) then Option.bind (bnd (s3).length s2) (fun x5 => Option.bind ((s3)[x5]?) (fun x6 => Option.bind (idx a1 s2) (fun x7 => Option.bind (bnd (s3).length s2) (fun x8 => some (Ctl.next ((wI (s2 + (1 : Int))), (s3).set x8 (x6 ^^^ x7))))))) else some (Ctl.brk s3))
/-- freeboard/freeboardref03.Two -/
def ref03_Two (a0 : List UInt8) (a1 : List UInt8) : Option ((List UInt8)) :=
  Option.bind (ref02_Whole a0) (fun x1 => Option.bind (loopM (fun s : Int × (List UInt8) => ref03_Two_L1 a1 s.1 s.2) FUEL ((0 : Int), x1)) (fun b9 => some b9))
set_option maxRecDepth 100000 in
theorem ref03_Two_c (a0 : List UInt8) (a1 : List UInt8) {r : (List UInt8)} (hm : ref03_Two a0 a1 = some r) : Ctr Try.prog 21 [.rep a0, .rep a1] (.rep r) false := by
  refine ctr_of_walk (T := [10]) 28 Try.func21 rfl rfl rfl rfl (fun w0 om => ?_)
  unfold ref03_Two at hm
  refine CWalk.sub (G' := [.fact 0 (Fact.rep [0] (a0 : List UInt8)), .fact 1 (Fact.rep [0] (a1 : List UInt8))]) (Sub.cons (Has.s rfl) (Sub.cons (Has.s rfl) Sub.nil)) ?_
  refine CWalk.seq ?_
  refine CWalk.region ?_
  refine Walk.op rfl (Spec.assign (Has.nil UInt8)) ?_
  refine Walk.nil ?_
  refine Leaf.thenN ?_
  refine CWalk.seq ?_
  refine CWalk.region ?_
  refine Walk.op rfl (Spec.move (Has.s rfl)) ?_
  obtain ⟨x1, hx1, hm⟩ := bind_some hm
  refine Walk.op rfl (Spec.callN1 [0] 10 rfl en22 (ref02_Whole_c a0 hx1) (HasAll.cons (Has.m (Has.s rfl) rfl) HasAll.nil)) ?_
  refine Walk.op rfl (Spec.assign (Has.s rfl)) ?_
  refine Walk.adopt (t := 10) (s := 5) rfl ?_
  refine Walk.nil ?_
  refine Leaf.thenN ?_
  refine CWalk.seq ?_
  refine CWalk.seq ?_
  refine CWalk.region ?_
  refine Walk.op rfl (Spec.assign Has.int) ?_
  refine Walk.nil ?_
  refine Leaf.thenN ?_
  refine CWalk.block ?_
  obtain ⟨b9, hb9, hm⟩ := bind_some hm
  refine CWalk.loop (fun s : Int × (List UInt8) => [.fact 1 (Fact.rep [0] (a1 : List UInt8)), .fact 5 (Fact.isv 10), .fact 6 (Fact.rep [] (s.1 : Int)), .fact 100010 (Fact.mutS 10 (s.2 : List UInt8))]) (fun b : (List UInt8) => (Exit.exit 0, [.fact 5 (Fact.isv 10), .fact 100010 (Fact.mutS 10 (b : List UInt8))])) hb9 (Sub.cons (Has.m (Has.s rfl) rfl) (Sub.cons (Has.s rfl) (Sub.cons ((Has.s rfl)) (Sub.cons (Has.s rfl) Sub.nil)))) ?_ ?_
  · rintro ⟨s2, s3⟩ c4 hm
    replace hm : ref03_Two_L1 a1 s2 s3 = some c4 := hm
    unfold ref03_Two_L1 at hm
    show CWalk _ [.fact 1 (Fact.rep [0] (a1 : List UInt8)), .fact 5 (Fact.isv 10), .fact 6 (Fact.rep [] (s2 : Int)), .fact 100010 (Fact.mutS 10 (s3 : List UInt8))] _ _
    refine CWalk.seq ?_
    refine CWalk.seq ?_
    refine CWalk.region ?_
    refine Walk.op rfl (Spec.move (Has.s rfl)) ?_
    refine Walk.op rfl (Spec.move (Has.s rfl)) ?_
    refine Walk.op rfl (Spec.len (Has.s rfl) Try.underlying22) ?_
    refine Walk.op rfl (Spec.lssI (Has.s rfl) (Has.s rfl)) ?_
    refine Walk.nil ?_
    refine Leaf.thenN ?_
    refine CWalk.cond rfl (fun hb => ?_) (fun hb => ?_)
    · have hm := cond_t hb hm
      refine CWalk.skip ?_
      refine Leaf.thenN ?_
      refine CWalk.seq ?_
      refine CWalk.block ?_
      obtain ⟨x5, hx5, hm⟩ := bind_some hm
      obtain ⟨x6, hx6, hm⟩ := bind_some hm
      obtain ⟨x7, hx7, hm⟩ := bind_some hm
      obtain ⟨x8, hx8, hm⟩ := bind_some hm
      refine CWalk.drawT 12 [([], [16, 17, 18, 19, 20, 21, 22, 23, 24, 25]), ([], [15, 17, 18, 19, 20, 21, 22, 23, 24, 25]), ([], [15, 16, 18, 21, 22, 23, 24]), ([], [15, 16, 17, 21, 22, 23, 24]), ([2, 3], [15, 16, 21, 22, 23, 24]), ([2, 3, 4], [15, 16, 21, 22, 23, 24]), ([], [15, 16, 17, 18, 19, 20, 22]), ([], [15, 16, 17, 18, 19, 20, 21]), ([6, 7], [15, 16, 17, 18, 19, 20]), ([6, 7, 8], [15, 16, 17, 18, 19, 20]), ([2, 3, 4, 5, 6, 7, 8, 9], [15, 16]), ([0, 1, 2, 3, 4, 5, 6, 7, 8, 9, 10], []), ([0, 1, 2, 3, 4, 5, 6, 7, 8, 9, 10, 11], [])] [15, 16, 17, 18, 19, 20, 21, 22, 23, 24, 25, 26] [Fact.isv 10, Fact.rep [] (s2 : Int), Fact.isv 10, Fact.rep [] (s2 : Int), Fact.ptm 10 (x5 * Rp.n UInt8), Fact.rep [] (x6 : UInt8), Fact.rep [0] (a1 : List UInt8), Fact.rep [] (s2 : Int), Fact.ptr [0] (x7 : UInt8), Fact.rep [] (x7 : UInt8), Fact.rep [] ((x6 ^^^ x7) : UInt8), Fact.ptm 10 (x8 * Rp.n UInt8)] mixed (by kernel_rfl) rfl rfl rfl rfl (AllOk.cons (OpOk.op (Spec.move (Has.s rfl))) (AllOk.cons (OpOk.op (Spec.move (Has.s rfl))) (AllOk.cons (OpOk.op (Spec.move (Has.s rfl))) (AllOk.cons (OpOk.op (Spec.move (Has.s rfl))) (AllOk.cons (OpOk.op (Spec.idxMutS hx5 ow22 (Has.s rfl) rfl (Has.s rfl))) (AllOk.cons (OpOk.op ((Spec.loadMutS hx6 ty5 (Has.s rfl) rfl).flat (T' := []))) (AllOk.cons (OpOk.op (Spec.move (Has.s rfl))) (AllOk.cons (OpOk.op (Spec.move (Has.s rfl))) (AllOk.cons (OpOk.op (Spec.indexAddr hx7 sl22 (Has.s rfl) (Has.s rfl))) (AllOk.cons (OpOk.op ((Spec.load ty5 (Has.s rfl)).flat (T' := []))) (AllOk.cons (OpOk.op (Spec.xorB (Has.s rfl) (Has.s rfl))) (AllOk.cons (OpOk.op (Spec.idxMutS hx8 ow22 (Has.s rfl) rfl (Has.s rfl))) AllOk.nil)))))))))))) ?_
      refine Walk.storeMutS rfl (bnd_lt hx8 rfl) ty5 rfl (Has.s rfl) rfl (Has.s rfl) ?_
      refine Walk.nil ?_
      refine Leaf.blockN ?_
      refine Leaf.thenN ?_
      refine CWalk.region ?_
      refine Walk.op rfl (Spec.move (Has.s rfl)) ?_
      refine Walk.op rfl (Spec.addI (Has.s rfl) Has.int) ?_
      refine Walk.op rfl (Spec.assign (Has.s rfl)) ?_
      refine Walk.nil ?_
      exact Leaf.next hm (Sub.cons (Has.m (Has.s rfl) rfl) (Sub.cons (Has.s rfl) (Sub.cons ((Has.s rfl)) (Sub.cons (Has.s rfl) Sub.nil))))
    · have hm := cond_f hb hm
      refine CWalk.exit ?_
      refine Leaf.thenE ?_
      exact Leaf.brk hm (fun h => nomatch h) rfl (Sub.cons (Has.s rfl) (Sub.cons (Has.s rfl) Sub.nil))
  · intro _
    refine Leaf.blockE ?_
    refine Leaf.thenN ?_
    refine CWalk.seq ?_
    refine CWalk.region ?_
    refine Walk.op rfl (Spec.move (Has.s rfl)) ?_
    refine Walk.op rfl (Spec.assign (Has.s rfl)) ?_
    refine Walk.nil ?_
    refine Leaf.thenN ?_
    refine CWalk.ret ?_
    obtain rfl := Option.some.inj hm
    exact Leaf.ret1 rfl (Has.m (Has.mutS (Has.s rfl) rfl) rfl)

def ref03_All_L1 (a0 : List (List UInt8)) (s2 : List UInt8) (s3 : Int) : Option (Ctl ((List UInt8) × Int) ((List UInt8))) :=
  (bif (decide (s3 < ((a0).length : Int))) then Option.bind (idx a0 s3) (fun x5 => Option.bind (ref03_Two s2 x5) (fun x6 => some (Ctl.next (x6, (wI (s3 + (1 : Int))))))) else some (Ctl.brk s2))
/-- freeboard/freeboardref03.All -/
def ref03_All (a0 : List (List UInt8)) : Option ((List UInt8)) :=
  Option.bind (makeL (0 : UInt8) (128 : Int)) (fun x1 => Option.bind (loopM (fun s : (List UInt8) × Int => ref03_All_L1 a0 s.1 s.2) FUEL (x1, (0 : Int))) (fun b7 => some b7))
set_option maxRecDepth 100000 in
theorem ref03_All_c (a0 : List (List UInt8)) {r : (List UInt8)} (hm : ref03_All a0 = some r) : Ctr Try.prog 19 [.rep a0] (.rep r) false := by
  refine ctr_of_walk (T := [10, 11]) 19 Try.func19 rfl rfl rfl rfl (fun w0 om => ?_)
  unfold ref03_All at hm
  refine CWalk.sub (G' := [.fact 0 (Fact.rep [0] (a0 : List (List UInt8)))]) (Sub.cons (Has.s rfl) Sub.nil) ?_
  refine CWalk.seq ?_
  refine CWalk.region ?_
  refine Walk.op rfl (Spec.assign (Has.nil UInt8)) ?_
  refine Walk.nil ?_
  refine Leaf.thenN ?_
  refine CWalk.seq ?_
  refine CWalk.region ?_
  obtain ⟨x1, hx1, hm⟩ := bind_some hm
  refine Walk.makeOwn 10 hx1 rfl rfl ow22 zt5 Has.int ?_
  refine Walk.op rfl (Spec.assign (Has.s rfl)) ?_
  refine Walk.nil ?_
  refine Leaf.thenN ?_
  refine CWalk.seq ?_
  refine CWalk.seq ?_
  refine CWalk.region ?_
  refine Walk.op rfl (Spec.assign Has.int) ?_
  refine Walk.nil ?_
  refine Leaf.thenN ?_
  refine CWalk.block ?_
  obtain ⟨b7, hb7, hm⟩ := bind_some hm
  refine CWalk.loop (fun s : (List UInt8) × Int => [.fact 0 (Fact.rep [0] (a0 : List (List UInt8))), .fact 3 (Fact.rep [10, 11] (s.1 : List UInt8)), .fact 4 (Fact.rep [] (s.2 : Int))]) (fun b : (List UInt8) => (Exit.exit 0, [.fact 3 (Fact.rep [10, 11] (b : List UInt8))])) hb7 (Sub.cons (Has.m (Has.s rfl) rfl) (Sub.cons (Has.m (Has.own (Has.s rfl) rfl) rfl) (Sub.cons ((Has.s rfl)) Sub.nil))) ?_ ?_
  · rintro ⟨s2, s3⟩ c4 hm
    replace hm : ref03_All_L1 a0 s2 s3 = some c4 := hm
    unfold ref03_All_L1 at hm
    show CWalk _ [.fact 0 (Fact.rep [0] (a0 : List (List UInt8))), .fact 3 (Fact.rep [10, 11] (s2 : List UInt8)), .fact 4 (Fact.rep [] (s3 : Int))] _ _
    refine CWalk.seq ?_
    refine CWalk.seq ?_
    refine CWalk.region ?_
    refine Walk.op rfl (Spec.move (Has.s rfl)) ?_
    refine Walk.op rfl (Spec.move (Has.s rfl)) ?_
    refine Walk.op rfl (Spec.len (Has.s rfl) Try.underlying27) ?_
    refine Walk.op rfl (Spec.lssI (Has.s rfl) (Has.s rfl)) ?_
    refine Walk.nil ?_
    refine Leaf.thenN ?_
    refine CWalk.cond rfl (fun hb => ?_) (fun hb => ?_)
    · have hm := cond_t hb hm
      refine CWalk.skip ?_
      refine Leaf.thenN ?_
      refine CWalk.seq ?_
      refine CWalk.block ?_
      refine CWalk.region ?_
      refine Walk.op rfl (Spec.move (Has.s rfl)) ?_
      refine Walk.op rfl (Spec.move (Has.s rfl)) ?_
      refine Walk.op rfl (Spec.move (Has.s rfl)) ?_
      obtain ⟨x5, hx5, hm⟩ := bind_some hm
      refine Walk.op rfl (Spec.indexAddr hx5 sl27 (Has.s rfl) (Has.s rfl)) ?_
      refine Walk.op rfl (Spec.load ty22 (Has.s rfl)) ?_
      obtain ⟨x6, hx6, hm⟩ := bind_some hm
      refine Walk.op rfl (Spec.callN1 [0, 10, 11] 11 rfl en21 (ref03_Two_c s2 x5 hx6) (HasAll.cons (Has.m (Has.s rfl) rfl) (HasAll.cons (Has.m (Has.s rfl) rfl) HasAll.nil))) ?_
      refine Walk.op rfl (Spec.assign (Has.s rfl)) ?_
      refine Walk.nil ?_
      refine Leaf.blockN ?_
      refine Leaf.thenN ?_
      refine CWalk.region ?_
      refine Walk.op rfl (Spec.move (Has.s rfl)) ?_
      refine Walk.op rfl (Spec.addI (Has.s rfl) Has.int) ?_
      refine Walk.op rfl (Spec.assign (Has.s rfl)) ?_
      refine Walk.nil ?_
      exact Leaf.next hm (Sub.cons (Has.m (Has.s rfl) rfl) (Sub.cons (Has.m (Has.s rfl) rfl) (Sub.cons ((Has.s rfl)) Sub.nil)))
    · have hm := cond_f hb hm
      refine CWalk.exit ?_
      refine Leaf.thenE ?_
      exact Leaf.brk hm (fun h => nomatch h) rfl (Sub.cons (Has.m (Has.s rfl) rfl) Sub.nil)
  · intro _
    refine Leaf.blockE ?_
    refine Leaf.thenN ?_
    refine CWalk.seq ?_
    refine CWalk.region ?_
    refine Walk.op rfl (Spec.move (Has.s rfl)) ?_
    refine Walk.op rfl (Spec.assign (Has.s rfl)) ?_
    refine Walk.nil ?_
    refine Leaf.thenN ?_
    refine CWalk.ret ?_
    obtain rfl := Option.some.inj hm
    exact Leaf.ret1 rfl (Has.m (Has.s rfl) rfl)

/-- freeboard/freeboardref03.Fold -/
def ref03_Fold (a0 : List (List UInt8)) : Option ((List UInt8) × Int) :=
  (bif (decide (((a0).length : Int) > (16 : Int))) then some (([] : List UInt8), (4 : Int)) else Option.bind (ref03_Blocks a0) (fun x1 => (bif (!x1) then some (([] : List UInt8), (3 : Int)) else Option.bind (ref03_All a0) (fun x2 => some (x2, (0 : Int))))))
set_option maxRecDepth 100000 in
theorem ref03_Fold_c (a0 : List (List UInt8)) {r : (List UInt8) × Int} (hm : ref03_Fold a0 = some r) : Ctr Try.prog 15 [.rep a0] (.tup2 (.rep r.1) (.rep r.2)) false := by
  refine ctr_of_walk (T := [11]) 12 Try.func15 rfl rfl rfl rfl (fun w0 om => ?_)
  unfold ref03_Fold at hm
  refine CWalk.sub (G' := [.fact 0 (Fact.rep [0] (a0 : List (List UInt8)))]) (Sub.cons (Has.s rfl) Sub.nil) ?_
  refine CWalk.seq ?_
  refine CWalk.region ?_
  refine Walk.op rfl (Spec.assign (Has.nil UInt8)) ?_
  refine Walk.op rfl (Spec.assign Has.int) ?_
  refine Walk.nil ?_
  refine Leaf.thenN ?_
  refine CWalk.seq ?_
  refine CWalk.seq ?_
  refine CWalk.region ?_
  refine Walk.op rfl (Spec.move (Has.s rfl)) ?_
  refine Walk.op rfl (Spec.len (Has.s rfl) Try.underlying27) ?_
  refine Walk.op rfl (Spec.gtrI (Has.s rfl) Has.int) ?_
  refine Walk.nil ?_
  refine Leaf.thenN ?_
  refine CWalk.cond rfl (fun hb => ?_) (fun hb => ?_)
  · have hm := cond_t hb hm
    refine CWalk.seq ?_
    refine CWalk.region ?_
    refine Walk.op rfl (Spec.assign (Has.nil UInt8)) ?_
    refine Walk.op rfl (Spec.assign Has.int) ?_
    refine Walk.nil ?_
    refine Leaf.thenN ?_
    refine CWalk.ret ?_
    refine Leaf.thenR ?_
    obtain rfl := Option.some.inj hm
    exact Leaf.ret2 rfl (Has.m (Has.s rfl) rfl) (Has.fl (Has.s rfl))
  · have hm := cond_f hb hm
    refine CWalk.skip ?_
    refine Leaf.thenN ?_
    refine CWalk.seq ?_
    refine CWalk.seq ?_
    refine CWalk.region ?_
    refine Walk.op rfl (Spec.move (Has.s rfl)) ?_
    obtain ⟨x1, hx1, hm⟩ := bind_some hm
    refine Walk.op rfl (Spec.callF [0] 10 rfl en18 (ref03_Blocks_c a0 hx1) (HasAll.cons (Has.m (Has.s rfl) rfl) HasAll.nil)) ?_
    refine Walk.op rfl (Spec.not (Has.s rfl)) ?_
    refine Walk.nil ?_
    refine Leaf.thenN ?_
    refine CWalk.cond rfl (fun hb => ?_) (fun hb => ?_)
    · have hm := cond_t hb hm
      refine CWalk.seq ?_
      refine CWalk.region ?_
      refine Walk.op rfl (Spec.assign (Has.nil UInt8)) ?_
      refine Walk.op rfl (Spec.assign Has.int) ?_
      refine Walk.nil ?_
      refine Leaf.thenN ?_
      refine CWalk.ret ?_
      refine Leaf.thenR ?_
      obtain rfl := Option.some.inj hm
      exact Leaf.ret2 rfl (Has.m (Has.s rfl) rfl) (Has.fl (Has.s rfl))
    · have hm := cond_f hb hm
      refine CWalk.skip ?_
      refine Leaf.thenN ?_
      refine CWalk.seq ?_
      refine CWalk.region ?_
      refine Walk.op rfl (Spec.move (Has.s rfl)) ?_
      obtain ⟨x2, hx2, hm⟩ := bind_some hm
      refine Walk.op rfl (Spec.callN1 [0] 11 rfl en19 (ref03_All_c a0 hx2) (HasAll.cons (Has.m (Has.s rfl) rfl) HasAll.nil)) ?_
      refine Walk.op rfl (Spec.assign (Has.s rfl)) ?_
      refine Walk.op rfl (Spec.assign Has.int) ?_
      refine Walk.nil ?_
      refine Leaf.thenN ?_
      refine CWalk.ret ?_
      obtain rfl := Option.some.inj hm
      exact Leaf.ret2 rfl (Has.m (Has.s rfl) rfl) (Has.fl (Has.s rfl))

def ref03_Same_L1 (a0 : List (List UInt8)) (a1 : List (List UInt8)) (s1 : Int) : Option (Ctl (Int) ((Unit) ⊕ (Unit))) :=
  (bif (decide (s1 < ((a0).length : Int))) then Option.bind (idx a0 s1) (fun x3 => Option.bind (idx a1 s1) (fun x4 => (bif (!((Str.mk x3).s == (Str.mk x4).s)) then some (Ctl.brk (Sum.inr ())) else some (Ctl.next (wI (s1 + (1 : Int))))))) else some (Ctl.brk (Sum.inl ())))
/-- freeboard/freeboardref03.Same -/
def ref03_Same (a0 : List (List UInt8)) (a1 : List (List UInt8)) : Option (Bool) :=
  (bif (((a0).length : Int) != ((a1).length : Int)) then some false else Option.bind (loopM (fun s : Int => ref03_Same_L1 a0 a1 s) FUEL (0 : Int)) (fun b5 => Sum.elim (fun b6 => some true) (fun b7 => some false) b5))
set_option maxRecDepth 100000 in
theorem ref03_Same_c (a0 : List (List UInt8)) (a1 : List (List UInt8)) {r : Bool} (hm : ref03_Same a0 a1 = some r) : Ctr Try.prog 16 [.rep a0, .rep a1] (.rep r) false := by
  refine ctr_of_walk (T := []) 28 Try.func16 rfl rfl rfl rfl (fun w0 om => ?_)
  unfold ref03_Same at hm
  refine CWalk.sub (G' := [.fact 0 (Fact.rep [0] (a0 : List (List UInt8))), .fact 1 (Fact.rep [0] (a1 : List (List UInt8)))]) (Sub.cons (Has.s rfl) (Sub.cons (Has.s rfl) Sub.nil)) ?_
  refine CWalk.seq ?_
  refine CWalk.region ?_
  refine Walk.op rfl (Spec.assign Has.bool) ?_
  refine Walk.nil ?_
  refine Leaf.thenN ?_
  refine CWalk.seq ?_
  refine CWalk.seq ?_
  refine CWalk.region ?_
  refine Walk.op rfl (Spec.move (Has.s rfl)) ?_
  refine Walk.op rfl (Spec.len (Has.s rfl) Try.underlying27) ?_
  refine Walk.op rfl (Spec.move (Has.s rfl)) ?_
  refine Walk.op rfl (Spec.len (Has.s rfl) Try.underlying27) ?_
  refine Walk.op rfl (Spec.neqI (Has.s rfl) (Has.s rfl)) ?_
  refine Walk.nil ?_
  refine Leaf.thenN ?_
  refine CWalk.cond rfl (fun hb => ?_) (fun hb => ?_)
  · have hm := cond_t hb hm
    refine CWalk.seq ?_
    refine CWalk.region ?_
    refine Walk.op rfl (Spec.assign Has.bool) ?_
    refine Walk.nil ?_
    refine Leaf.thenN ?_
    refine CWalk.ret ?_
    refine Leaf.thenR ?_
    obtain rfl := Option.some.inj hm
    exact Leaf.ret1 rfl (Has.fl (Has.s rfl))
  · have hm := cond_f hb hm
    refine CWalk.skip ?_
    refine Leaf.thenN ?_
    refine CWalk.seq ?_
    refine CWalk.seq ?_
    refine CWalk.region ?_
    refine Walk.op rfl (Spec.assign Has.int) ?_
    refine Walk.nil ?_
    refine Leaf.thenN ?_
    refine CWalk.block ?_
    obtain ⟨b5, hb5, hm⟩ := bind_some hm
    refine CWalk.loop (fun s : Int => [.fact 0 (Fact.rep [0] (a0 : List (List UInt8))), .fact 1 (Fact.rep [0] (a1 : List (List UInt8))), .fact 5 (Fact.rep [] (s : Int))]) (fun b : (Unit) ⊕ (Unit) => Sum.elim (fun b => (Exit.exit 0, [])) (fun b => (Exit.ret, [.fact 4 (Fact.rep [] (false : Bool))])) b) hb5 (Sub.cons (Has.m (Has.s rfl) rfl) (Sub.cons (Has.m (Has.s rfl) rfl) (Sub.cons ((Has.s rfl)) Sub.nil))) ?_ ?_
    · rintro s1 c2 hm
      replace hm : ref03_Same_L1 a0 a1 s1 = some c2 := hm
      unfold ref03_Same_L1 at hm
      show CWalk _ [.fact 0 (Fact.rep [0] (a0 : List (List UInt8))), .fact 1 (Fact.rep [0] (a1 : List (List UInt8))), .fact 5 (Fact.rep [] (s1 : Int))] _ _
      refine CWalk.seq ?_
      refine CWalk.seq ?_
      refine CWalk.region ?_
      refine Walk.op rfl (Spec.move (Has.s rfl)) ?_
      refine Walk.op rfl (Spec.move (Has.s rfl)) ?_
      refine Walk.op rfl (Spec.len (Has.s rfl) Try.underlying27) ?_
      refine Walk.op rfl (Spec.lssI (Has.s rfl) (Has.s rfl)) ?_
      refine Walk.nil ?_
      refine Leaf.thenN ?_
      refine CWalk.cond rfl (fun hb => ?_) (fun hb => ?_)
      · have hm := cond_t hb hm
        refine CWalk.skip ?_
        refine Leaf.thenN ?_
        refine CWalk.seq ?_
        refine CWalk.block ?_
        refine CWalk.seq ?_
        obtain ⟨x3, hx3, hm⟩ := bind_some hm
        obtain ⟨x4, hx4, hm⟩ := bind_some hm
        refine CWalk.draw [([], [18, 22, 23, 24, 25, 26]), ([], [17, 22, 23, 24, 25, 26]), ([0, 1], [22, 23, 24, 25, 26]), ([0, 1, 2], [22, 23, 24, 25, 26]), ([0, 1, 2, 3], [22, 23, 24, 25, 26]), ([], [17, 18, 19, 20, 21, 23]), ([], [17, 18, 19, 20, 21, 22]), ([5, 6], [17, 18, 19, 20, 21]), ([5, 6, 7], [17, 18, 19, 20, 21]), ([5, 6, 7, 8], [17, 18, 19, 20, 21]), ([0, 1, 2, 3, 4, 5, 6, 7, 8, 9], [])] [17, 18, 19, 20, 21, 22, 23, 24, 25, 26, 27] [Fact.rep [0] (a0 : List (List UInt8)), Fact.rep [] (s1 : Int), Fact.ptr [0] (x3 : List UInt8), Fact.rep [0] (x3 : List UInt8), Fact.rep [] ((Str.mk x3) : Str), Fact.rep [0] (a1 : List (List UInt8)), Fact.rep [] (s1 : Int), Fact.ptr [0] (x4 : List UInt8), Fact.rep [0] (x4 : List UInt8), Fact.rep [] ((Str.mk x4) : Str), Fact.rep [] ((!((Str.mk x3).s == (Str.mk x4).s)) : Bool)] mixed (by kernel_rfl) rfl rfl rfl (AllOk.cons (OpOk.op (Spec.move (Has.s rfl))) (AllOk.cons (OpOk.op (Spec.move (Has.s rfl))) (AllOk.cons (OpOk.op (Spec.indexAddr hx3 sl27 (Has.s rfl) (Has.s rfl))) (AllOk.cons (OpOk.op (Spec.load ty22 (Has.s rfl))) (AllOk.cons (OpOk.op (Spec.toStr Try.underlying22 Try.underlying5 Try.underlying9 (Has.s rfl))) (AllOk.cons (OpOk.op (Spec.move (Has.s rfl))) (AllOk.cons (OpOk.op (Spec.move (Has.s rfl))) (AllOk.cons (OpOk.op (Spec.indexAddr hx4 sl27 (Has.s rfl) (Has.s rfl))) (AllOk.cons (OpOk.op (Spec.load ty22 (Has.s rfl))) (AllOk.cons (OpOk.op (Spec.toStr Try.underlying22 Try.underlying5 Try.underlying9 (Has.s rfl))) (AllOk.cons (OpOk.op (Spec.neqS (Has.s rfl) (Has.s rfl))) AllOk.nil))))))))))) ?_
        refine Leaf.thenN ?_
        refine CWalk.cond rfl (fun hb => ?_) (fun hb => ?_)
        · have hm := cond_t hb hm
          refine CWalk.seq ?_
          refine CWalk.region ?_
          refine Walk.op rfl (Spec.assign Has.bool) ?_
          refine Walk.nil ?_
          refine Leaf.thenN ?_
          refine CWalk.ret ?_
          refine Leaf.blockR ?_
          refine Leaf.thenR ?_
          exact Leaf.brk hm (fun h => nomatch h) rfl (Sub.cons ((Has.s rfl)) Sub.nil)
        · have hm := cond_f hb hm
          refine CWalk.skip ?_
          refine Leaf.blockN ?_
          refine Leaf.thenN ?_
          refine CWalk.region ?_
          refine Walk.op rfl (Spec.move (Has.s rfl)) ?_
          refine Walk.op rfl (Spec.addI (Has.s rfl) Has.int) ?_
          refine Walk.op rfl (Spec.assign (Has.s rfl)) ?_
          refine Walk.nil ?_
          exact Leaf.next hm (Sub.cons (Has.m (Has.s rfl) rfl) (Sub.cons (Has.m (Has.s rfl) rfl) (Sub.cons ((Has.s rfl)) Sub.nil)))
      · have hm := cond_f hb hm
        refine CWalk.exit ?_
        refine Leaf.thenE ?_
        exact Leaf.brk hm (fun h => nomatch h) rfl (Sub.nil)
    · intro _
      rcases b5 with b6 | b7
      · have hm := selim_l hm
        refine Leaf.blockE ?_
        refine Leaf.thenN ?_
        refine CWalk.seq ?_
        refine CWalk.region ?_
        refine Walk.op rfl (Spec.assign Has.bool) ?_
        refine Walk.nil ?_
        refine Leaf.thenN ?_
        refine CWalk.ret ?_
        obtain rfl := Option.some.inj hm
        exact Leaf.ret1 rfl (Has.fl (Has.s rfl))
      · have hm := selim_r hm
        refine Leaf.blockR ?_
        refine Leaf.thenR ?_
        obtain rfl := Option.some.inj hm
        exact Leaf.ret1 rfl (Has.fl (Has.s rfl))

def law03_FoldTells_L1 (s5 : Int) (s6 : List UInt8) : Option (Ctl (Int × (List UInt8)) (Unit)) :=
  (bif (decide (s5 < ((s6).length : Int))) then Option.bind (bnd (s6).length s5) (fun x8 => Option.bind ((s6)[x8]?) (fun x9 => Option.bind (bnd (s6).length s5) (fun x10 => some (Ctl.next ((wI (s5 + (1 : Int))), (s6).set x10 (x9 + (1 : UInt8))))))) else some (Ctl.brk ()))
/-- freeboard/freeboardlaw03.FoldTells -/
def law03_FoldTells (a0 : List (List UInt8)) : Option (Bool) :=
  Option.bind (ref03_Great a0) (fun x1 => (bif x1 then some true else Option.bind (ref03_Twin a0) (fun x2 => Option.bind (fold_Fold x2) (fun x3 => Option.bind (ref03_Fold a0) (fun x4 => (bif ((!((Str.mk x3.1).s == (Str.mk x4.1).s)) || (x3.2 != x4.2)) then some false else Option.bind (loopM (fun s : Int × (List UInt8) => law03_FoldTells_L1 s.1 s.2) FUEL ((0 : Int), x3.1)) (fun b11 => Option.bind (ref03_Same x2 a0) (fun x12 => some x12))))))))
set_option maxRecDepth 100000 in
theorem law03_FoldTells_c (a0 : List (List UInt8)) {r : Bool} (hm : law03_FoldTells a0 = some r) : Ctr Try.prog 4 [.rep a0] (.rep r) false := by
  refine ctr_of_walk (T := []) 50 Try.func4 rfl rfl rfl rfl (fun w0 om => ?_)
  unfold law03_FoldTells at hm
  refine CWalk.sub (G' := [.fact 0 (Fact.rep [0] (a0 : List (List UInt8)))]) (Sub.cons (Has.s rfl) Sub.nil) ?_
  refine CWalk.seq ?_
  refine CWalk.region ?_
  refine Walk.op rfl (Spec.assign Has.bool) ?_
  refine Walk.nil ?_
  refine Leaf.thenN ?_
  refine CWalk.seq ?_
  refine CWalk.seq ?_
  refine CWalk.region ?_
  refine Walk.op rfl (Spec.move (Has.s rfl)) ?_
  obtain ⟨x1, hx1, hm⟩ := bind_some hm
  refine Walk.op rfl (Spec.callF [0] 10 rfl en13 (ref03_Great_c a0 hx1) (HasAll.cons (Has.m (Has.s rfl) rfl) HasAll.nil)) ?_
  refine Walk.nil ?_
  refine Leaf.thenN ?_
  refine CWalk.cond rfl (fun hb => ?_) (fun hb => ?_)
  · have hm := cond_t hb hm
    refine CWalk.seq ?_
    refine CWalk.region ?_
    refine Walk.op rfl (Spec.assign Has.bool) ?_
    refine Walk.nil ?_
    refine Leaf.thenN ?_
    refine CWalk.ret ?_
    refine Leaf.thenR ?_
    obtain rfl := Option.some.inj hm
    exact Leaf.ret1 rfl (Has.fl (Has.s rfl))
  · have hm := cond_f hb hm
    refine CWalk.skip ?_
    refine Leaf.thenN ?_
    refine CWalk.seq ?_
    refine CWalk.region ?_
    refine Walk.op rfl (Spec.move (Has.s rfl)) ?_
    obtain ⟨x2, hx2, hm⟩ := bind_some hm
    refine Walk.op rfl (Spec.callN1 [0] 11 rfl en14 (ref03_Twin_c a0 hx2) (HasAll.cons (Has.m (Has.s rfl) rfl) HasAll.nil)) ?_
    refine Walk.op rfl (Spec.assign (Has.s rfl)) ?_
    refine Walk.nil ?_
    refine Leaf.thenN ?_
    refine CWalk.seq ?_
    refine CWalk.region ?_
    refine Walk.op rfl (Spec.move (Has.s rfl)) ?_
    obtain ⟨x3, hx3, hm⟩ := bind_some hm
    refine Walk.op rfl (Spec.callN [11] 12 rfl en10 (fold_Fold_c x2 hx3) (HasAll.cons (Has.m (Has.s rfl) rfl) HasAll.nil)) ?_
    refine Walk.op rfl (Spec.move (Has.s rfl)) ?_
    refine Walk.op rfl (Spec.ext0 (Has.s rfl)) ?_
    refine Walk.op rfl ((Spec.ext1 (Has.s rfl)).flat (T' := [])) ?_
    refine Walk.op rfl (Spec.assign (Has.s rfl)) ?_
    refine Walk.adopt (t := 12) (s := 4) rfl ?_
    refine Walk.op rfl (Spec.assign (Has.s rfl)) ?_
    refine Walk.nil ?_
    refine Leaf.thenN ?_
    refine CWalk.seq ?_
    refine CWalk.region ?_
    refine Walk.op rfl (Spec.move (Has.s rfl)) ?_
    obtain ⟨x4, hx4, hm⟩ := bind_some hm
    refine Walk.op rfl (Spec.callN [0] 13 rfl en15 (ref03_Fold_c a0 hx4) (HasAll.cons (Has.m (Has.s rfl) rfl) HasAll.nil)) ?_
    refine Walk.op rfl (Spec.move (Has.s rfl)) ?_
    refine Walk.op rfl (Spec.ext0 (Has.s rfl)) ?_
    refine Walk.op rfl ((Spec.ext1 (Has.s rfl)).flat (T' := [])) ?_
    refine Walk.op rfl (Spec.assign (Has.s rfl)) ?_
    refine Walk.op rfl (Spec.assign (Has.s rfl)) ?_
    refine Walk.nil ?_
    refine Leaf.thenN ?_
    refine CWalk.seq ?_
    refine CWalk.seq ?_
    refine CWalk.region ?_
    refine Walk.op rfl (Spec.move (Has.s rfl)) ?_
    refine Walk.op rfl (Spec.toStr Try.underlying22 Try.underlying5 Try.underlying9 (Has.mutS (Has.s rfl) rfl)) ?_
    refine Walk.op rfl (Spec.move (Has.s rfl)) ?_
    refine Walk.op rfl (Spec.toStr Try.underlying22 Try.underlying5 Try.underlying9 (Has.s rfl)) ?_
    refine Walk.op rfl (Spec.neqS (Has.s rfl) (Has.s rfl)) ?_
    refine Walk.op rfl (Spec.move (Has.s rfl)) ?_
    refine Walk.opg rfl rfl rfl (fun hb => Spec.move (Has.s rfl)) ?_
    refine Walk.opg rfl rfl rfl (fun hb => Spec.move (Has.s rfl)) ?_
    refine Walk.opg rfl rfl rfl (fun hb => Spec.neqI (Has.u rfl hb) (Has.u rfl hb)) ?_
    refine Walk.op rfl (Spec.or (Has.s rfl) (fun h => Has.u rfl h)) ?_
    refine Walk.nil ?_
    refine Leaf.thenN ?_
    refine CWalk.cond rfl (fun hb => ?_) (fun hb => ?_)
    · have hm := cond_t hb hm
      refine CWalk.seq ?_
      refine CWalk.region ?_
      refine Walk.op rfl (Spec.assign Has.bool) ?_
      refine Walk.nil ?_
      refine Leaf.thenN ?_
      refine CWalk.ret ?_
      refine Leaf.thenR ?_
      obtain rfl := Option.some.inj hm
      exact Leaf.ret1 rfl (Has.fl (Has.s rfl))
    · have hm := cond_f hb hm
      refine CWalk.skip ?_
      refine Leaf.thenN ?_
      refine CWalk.seq ?_
      refine CWalk.seq ?_
      refine CWalk.region ?_
      refine Walk.op rfl (Spec.assign Has.int) ?_
      refine Walk.nil ?_
      refine Leaf.thenN ?_
      refine CWalk.block ?_
      obtain ⟨b11, hb11, hm⟩ := bind_some hm
      refine CWalk.loop (fun s : Int × (List UInt8) => [.fact 0 (Fact.rep [0] (a0 : List (List UInt8))), .fact 3 (Fact.rep [11] (x2 : List (List UInt8))), .fact 4 (Fact.isv 12), .fact 8 (Fact.rep [] (s.1 : Int)), .fact 100012 (Fact.mutS 12 (s.2 : List UInt8))]) (fun b : Unit => (Exit.exit 0, [.fact 0 (Fact.rep [0] (a0 : List (List UInt8))), .fact 3 (Fact.rep [11] (x2 : List (List UInt8)))])) hb11 (Sub.cons (Has.m (Has.s rfl) rfl) (Sub.cons (Has.m (Has.s rfl) rfl) (Sub.cons (Has.s rfl) (Sub.cons ((Has.s rfl)) (Sub.cons (Has.s rfl) Sub.nil))))) ?_ ?_
      · rintro ⟨s5, s6⟩ c7 hm
        replace hm : law03_FoldTells_L1 s5 s6 = some c7 := hm
        unfold law03_FoldTells_L1 at hm
        show CWalk _ [.fact 0 (Fact.rep [0] (a0 : List (List UInt8))), .fact 3 (Fact.rep [11] (x2 : List (List UInt8))), .fact 4 (Fact.isv 12), .fact 8 (Fact.rep [] (s5 : Int)), .fact 100012 (Fact.mutS 12 (s6 : List UInt8))] _ _
        refine CWalk.seq ?_
        refine CWalk.seq ?_
        refine CWalk.region ?_
        refine Walk.op rfl (Spec.move (Has.s rfl)) ?_
        refine Walk.op rfl (Spec.move (Has.s rfl)) ?_
        refine Walk.op rfl (Spec.len (Has.mutS (Has.s rfl) rfl) Try.underlying22) ?_
        refine Walk.op rfl (Spec.lssI (Has.s rfl) (Has.s rfl)) ?_
        refine Walk.nil ?_
        refine Leaf.thenN ?_
        refine CWalk.cond rfl (fun hb => ?_) (fun hb => ?_)
        · have hm := cond_t hb hm
          refine CWalk.skip ?_
          refine Leaf.thenN ?_
          refine CWalk.seq ?_
          refine CWalk.block ?_
          refine CWalk.region ?_
          refine Walk.op rfl (Spec.move (Has.s rfl)) ?_
          refine Walk.op rfl (Spec.move (Has.s rfl)) ?_
          refine Walk.op rfl (Spec.move (Has.s rfl)) ?_
          refine Walk.op rfl (Spec.move (Has.s rfl)) ?_
          obtain ⟨x8, hx8, hm⟩ := bind_some hm
          refine Walk.op rfl (Spec.idxMutS hx8 ow22 (Has.s rfl) rfl (Has.s rfl)) ?_
          obtain ⟨x9, hx9, hm⟩ := bind_some hm
          refine Walk.op rfl ((Spec.loadMutS hx9 ty5 (Has.s rfl) rfl).flat (T' := [])) ?_
          refine Walk.op rfl (Spec.addB (Has.s rfl) (Has.u8 1 rfl)) ?_
          obtain ⟨x10, hx10, hm⟩ := bind_some hm
          refine Walk.op rfl (Spec.idxMutS hx10 ow22 (Has.s rfl) rfl (Has.s rfl)) ?_
          refine Walk.storeMutS rfl (bnd_lt hx10 rfl) ty5 rfl (Has.s rfl) rfl (Has.s rfl) ?_
          refine Walk.nil ?_
          refine Leaf.blockN ?_
          refine Leaf.thenN ?_
          refine CWalk.region ?_
          refine Walk.op rfl (Spec.move (Has.s rfl)) ?_
          refine Walk.op rfl (Spec.addI (Has.s rfl) Has.int) ?_
          refine Walk.op rfl (Spec.assign (Has.s rfl)) ?_
          refine Walk.nil ?_
          exact Leaf.next hm (Sub.cons (Has.m (Has.s rfl) rfl) (Sub.cons (Has.m (Has.s rfl) rfl) (Sub.cons (Has.s rfl) (Sub.cons ((Has.s rfl)) (Sub.cons (Has.s rfl) Sub.nil)))))
        · have hm := cond_f hb hm
          refine CWalk.exit ?_
          refine Leaf.thenE ?_
          exact Leaf.brk hm (fun h => nomatch h) rfl (Sub.cons (Has.m (Has.s rfl) rfl) (Sub.cons (Has.m (Has.s rfl) rfl) Sub.nil))
      · intro _
        refine Leaf.blockE ?_
        refine Leaf.thenN ?_
        refine CWalk.seq ?_
        refine CWalk.region ?_
        refine Walk.op rfl (Spec.move (Has.s rfl)) ?_
        refine Walk.op rfl (Spec.move (Has.s rfl)) ?_
        obtain ⟨x12, hx12, hm⟩ := bind_some hm
        refine Walk.op rfl (Spec.callF [0, 11] 14 rfl en16 (ref03_Same_c x2 a0 hx12) (HasAll.cons (Has.m (Has.s rfl) rfl) (HasAll.cons (Has.m (Has.s rfl) rfl) HasAll.nil))) ?_
        refine Walk.op rfl (Spec.assign (Has.s rfl)) ?_
        refine Walk.nil ?_
        refine Leaf.thenN ?_
        refine CWalk.ret ?_
        obtain rfl := Option.some.inj hm
        exact Leaf.ret1 rfl (Has.fl (Has.s rfl))

/-- freeboard/freeboardlaw03.at -/
def law03_at (a0 : List UInt8) (a1 : Int) : Option (UInt8) :=
  (bif (decide (a1 ≥ ((a0).length : Int))) then some (0 : UInt8) else Option.bind (idx a0 a1) (fun x1 => some x1))
set_option maxRecDepth 100000 in
theorem law03_at_c (a0 : List UInt8) (a1 : Int) {r : UInt8} (hm : law03_at a0 a1 = some r) : Ctr Try.prog 17 [.rep a0, .rep a1] (.rep r) false := by
  refine ctr_of_walk (T := []) 13 Try.func17 rfl rfl rfl rfl (fun w0 om => ?_)
  unfold law03_at at hm
  refine CWalk.sub (G' := [.fact 0 (Fact.rep [0] (a0 : List UInt8)), .fact 1 (Fact.rep [] (a1 : Int))]) (Sub.cons (Has.s rfl) (Sub.cons (Has.fl (Has.s rfl)) Sub.nil)) ?_
  refine CWalk.seq ?_
  refine CWalk.region ?_
  refine Walk.op rfl (Spec.assign (Has.u8 0 rfl)) ?_
  refine Walk.nil ?_
  refine Leaf.thenN ?_
  refine CWalk.seq ?_
  refine CWalk.seq ?_
  refine CWalk.region ?_
  refine Walk.op rfl (Spec.move (Has.s rfl)) ?_
  refine Walk.op rfl (Spec.move (Has.s rfl)) ?_
  refine Walk.op rfl (Spec.len (Has.s rfl) Try.underlying22) ?_
  refine Walk.op rfl (Spec.geqI (Has.s rfl) (Has.s rfl)) ?_
  refine Walk.nil ?_
  refine Leaf.thenN ?_
  refine CWalk.cond rfl (fun hb => ?_) (fun hb => ?_)
  · have hm := cond_t hb hm
    refine CWalk.seq ?_
    refine CWalk.region ?_
    refine Walk.op rfl (Spec.assign (Has.u8 0 rfl)) ?_
    refine Walk.nil ?_
    refine Leaf.thenN ?_
    refine CWalk.ret ?_
    refine Leaf.thenR ?_
    obtain rfl := Option.some.inj hm
    exact Leaf.ret1 rfl (Has.fl (Has.s rfl))
  · have hm := cond_f hb hm
    refine CWalk.skip ?_
    refine Leaf.thenN ?_
    refine CWalk.seq ?_
    refine CWalk.region ?_
    refine Walk.op rfl (Spec.move (Has.s rfl)) ?_
    refine Walk.op rfl (Spec.move (Has.s rfl)) ?_
    obtain ⟨x1, hx1, hm⟩ := bind_some hm
    refine Walk.op rfl (Spec.indexAddr hx1 sl22 (Has.s rfl) (Has.s rfl)) ?_
    refine Walk.op rfl ((Spec.load ty5 (Has.s rfl)).flat (T' := [])) ?_
    refine Walk.op rfl (Spec.assign (Has.s rfl)) ?_
    refine Walk.nil ?_
    refine Leaf.thenN ?_
    refine CWalk.ret ?_
    obtain rfl := Option.some.inj hm
    exact Leaf.ret1 rfl (Has.fl (Has.s rfl))

def law03_FoldBack_J2 (s4 : Int) (j7 : List (List UInt8)) : Option (Ctl (Int × (List (List UInt8))) ((List (List UInt8)))) :=
  some (Ctl.next ((wI (s4 + (1 : Int))), j7))
def law03_FoldBack_L1 (a0 : List (List UInt8)) (a1 : Int) (s4 : Int) (s5 : List (List UInt8)) : Option (Ctl (Int × (List (List UInt8))) ((List (List UInt8)))) :=
  (bif (decide (s4 < ((a0).length : Int))) then (bif (s4 != a1) then Option.bind (idx a0 s4) (fun x8 => Option.bind (app s5 ([x8])) (fun x9 => (law03_FoldBack_J2 s4 x9))) else (law03_FoldBack_J2 s4 s5)) else some (Ctl.brk s5))
def law03_FoldBack_L3 (a0 : List (List UInt8)) (a1 : Int) (x12 : (List UInt8) × Int) (s13 : Int) : Option (Ctl (Int) ((Unit) ⊕ (Bool))) :=
  (bif (decide (s13 < (128 : Int))) then Option.bind (idx x12.1 s13) (fun x15 => Option.bind (idx a0 a1) (fun x16 => Option.bind (law03_at x16 s13) (fun x17 => (bif (x15 != x17) then some (Ctl.brk (Sum.inr false)) else some (Ctl.next (wI (s13 + (1 : Int)))))))) else some (Ctl.brk (Sum.inl ())))
/-- freeboard/freeboardlaw03.FoldBack -/
def law03_FoldBack (a0 : List (List UInt8)) (a1 : Int) : Option (Bool) :=
  Option.bind (law03_alive) (fun x1 => Option.bind (ref03_Great a0) (fun x2 => (bif ((x2 || (decide (a1 < (0 : Int)))) || (decide (a1 ≥ ((a0).length : Int)))) then some x1 else Option.bind (fold_Fold a0) (fun x3 => (bif (x3.2 != (0 : Int)) then some (x1 && (((x3.1).length : Int) == (0 : Int))) else Option.bind (loopM (fun s : Int × (List (List UInt8)) => law03_FoldBack_L1 a0 a1 s.1 s.2) FUEL ((0 : Int), ([] : List (List UInt8)))) (fun b10 => Option.bind (app b10 ([x3.1])) (fun x11 => Option.bind (fold_Fold x11) (fun x12 => (bif ((x12.2 != (0 : Int)) || (((x12.1).length : Int) != (128 : Int))) then some false else Option.bind (loopM (fun s : Int => law03_FoldBack_L3 a0 a1 x12 s) FUEL (0 : Int)) (fun b18 => Sum.elim (fun b19 => some x1) (fun b20 => some b20) b18))))))))))
set_option maxRecDepth 100000 in
theorem law03_FoldBack_c (a0 : List (List UInt8)) (a1 : Int) {r : Bool} (hm : law03_FoldBack a0 a1 = some r) : Ctr Try.prog 5 [.rep a0, .rep a1] (.rep r) false := by
  refine ctr_of_walk (T := []) 87 Try.func5 rfl rfl rfl rfl (fun w0 om => ?_)
  unfold law03_FoldBack at hm
  refine CWalk.sub (G' := [.fact 0 (Fact.rep [0] (a0 : List (List UInt8))), .fact 1 (Fact.rep [] (a1 : Int))]) (Sub.cons (Has.s rfl) (Sub.cons (Has.fl (Has.s rfl)) Sub.nil)) ?_
  refine CWalk.seq ?_
  refine CWalk.region ?_
  refine Walk.op rfl (Spec.assign Has.bool) ?_
  refine Walk.nil ?_
  refine Leaf.thenN ?_
  refine CWalk.seq ?_
  refine CWalk.region ?_
  obtain ⟨x1, hx1, hm⟩ := bind_some hm
  refine Walk.op rfl (Spec.callF [] 10 rfl en12 (law03_alive_c  hx1) HasAll.nil) ?_
  refine Walk.op rfl (Spec.assign (Has.s rfl)) ?_
  refine Walk.nil ?_
  refine Leaf.thenN ?_
  refine CWalk.seq ?_
  refine CWalk.seq ?_
  refine CWalk.region ?_
  refine Walk.op rfl (Spec.move (Has.s rfl)) ?_
  obtain ⟨x2, hx2, hm⟩ := bind_some hm
  refine Walk.op rfl (Spec.callF [0] 11 rfl en13 (ref03_Great_c a0 hx2) (HasAll.cons (Has.m (Has.s rfl) rfl) HasAll.nil)) ?_
  refine Walk.op rfl (Spec.move (Has.s rfl)) ?_
  refine Walk.opg rfl rfl rfl (fun hb => Spec.move (Has.s rfl)) ?_
  refine Walk.opg rfl rfl rfl (fun hb => Spec.lssI (Has.u rfl hb) Has.int) ?_
  refine Walk.op rfl (Spec.or (Has.s rfl) (fun h => Has.u rfl h)) ?_
  refine Walk.op rfl (Spec.move (Has.s rfl)) ?_
  refine Walk.opg rfl rfl rfl (fun hb => Spec.move (Has.s rfl)) ?_
  refine Walk.opg rfl rfl rfl (fun hb => Spec.move (Has.s rfl)) ?_
  refine Walk.opg rfl rfl rfl (fun hb => Spec.len (Has.u rfl hb) Try.underlying27) ?_
  refine Walk.opg rfl rfl rfl (fun hb => Spec.geqI (Has.u rfl hb) (Has.u rfl hb)) ?_
  refine Walk.op rfl (Spec.or (Has.s rfl) (fun h => Has.u rfl h)) ?_
  refine Walk.nil ?_
  refine Leaf.thenN ?_
  refine CWalk.cond rfl (fun hb => ?_) (fun hb => ?_)
  · have hm := cond_t hb hm
    refine CWalk.seq ?_
    refine CWalk.region ?_
    refine Walk.op rfl (Spec.move (Has.s rfl)) ?_
    refine Walk.op rfl (Spec.assign (Has.s rfl)) ?_
    refine Walk.nil ?_
    refine Leaf.thenN ?_
    refine CWalk.ret ?_
    refine Leaf.thenR ?_
    obtain rfl := Option.some.inj hm
    exact Leaf.ret1 rfl (Has.fl (Has.s rfl))
  · have hm := cond_f hb hm
    refine CWalk.skip ?_
    refine Leaf.thenN ?_
    refine CWalk.seq ?_
    refine CWalk.region ?_
    refine Walk.op rfl (Spec.move (Has.s rfl)) ?_
    obtain ⟨x3, hx3, hm⟩ := bind_some hm
    refine Walk.op rfl (Spec.callN [0] 12 rfl en10 (fold_Fold_c a0 hx3) (HasAll.cons (Has.m (Has.s rfl) rfl) HasAll.nil)) ?_
    refine Walk.op rfl (Spec.move (Has.s rfl)) ?_
    refine Walk.op rfl (Spec.ext0 (Has.s rfl)) ?_
    refine Walk.op rfl ((Spec.ext1 (Has.s rfl)).flat (T' := [])) ?_
    refine Walk.op rfl (Spec.assign (Has.s rfl)) ?_
    refine Walk.op rfl (Spec.assign (Has.s rfl)) ?_
    refine Walk.nil ?_
    refine Leaf.thenN ?_
    refine CWalk.seq ?_
    refine CWalk.seq ?_
    refine CWalk.region ?_
    refine Walk.op rfl (Spec.move (Has.s rfl)) ?_
    refine Walk.op rfl (Spec.neqI (Has.s rfl) Has.int) ?_
    refine Walk.nil ?_
    refine Leaf.thenN ?_
    refine CWalk.cond rfl (fun hb => ?_) (fun hb => ?_)
    · have hm := cond_t hb hm
      refine CWalk.seq ?_
      refine CWalk.region ?_
      refine Walk.op rfl (Spec.move (Has.s rfl)) ?_
      refine Walk.op rfl (Spec.move (Has.s rfl)) ?_
      refine Walk.opg rfl rfl rfl (fun hb => Spec.move (Has.s rfl)) ?_
      refine Walk.opg rfl rfl rfl (fun hb => Spec.len (Has.u rfl hb) Try.underlying22) ?_
      refine Walk.opg rfl rfl rfl (fun hb => Spec.eqlI (Has.u rfl hb) Has.int) ?_
      refine Walk.op rfl (Spec.and (Has.s rfl) (fun h => Has.u rfl h)) ?_
      refine Walk.op rfl (Spec.assign (Has.s rfl)) ?_
      refine Walk.nil ?_
      refine Leaf.thenN ?_
      refine CWalk.ret ?_
      refine Leaf.thenR ?_
      obtain rfl := Option.some.inj hm
      exact Leaf.ret1 rfl (Has.fl (Has.s rfl))
    · have hm := cond_f hb hm
      refine CWalk.skip ?_
      refine Leaf.thenN ?_
      refine CWalk.seq ?_
      refine CWalk.region ?_
      refine Walk.ownNil (α := List UInt8) 13 22 rfl rfl ?_
      refine Walk.nil ?_
      refine Leaf.thenN ?_
      refine CWalk.seq ?_
      refine CWalk.seq ?_
      refine CWalk.region ?_
      refine Walk.op rfl (Spec.assign Has.int) ?_
      refine Walk.nil ?_
      refine Leaf.thenN ?_
      refine CWalk.block ?_
      obtain ⟨b10, hb10, hm⟩ := bind_some hm
      refine CWalk.loop (fun s : Int × (List (List UInt8)) => [.fact 0 (Fact.rep [0] (a0 : List (List UInt8))), .fact 1 (Fact.rep [] (a1 : Int)), .fact 5 (Fact.rep [] (x1 : Bool)), .fact 6 (Fact.rep [12] (x3.1 : List UInt8)), .fact 8 (Fact.isv 13), .fact 9 (Fact.rep [] (s.1 : Int)), .fact 100013 (Fact.own 13 [0, 14] 22 (s.2 : List (List UInt8)))]) (fun b : (List (List UInt8)) => (Exit.exit 0, [.fact 0 (Fact.rep [0] (a0 : List (List UInt8))), .fact 1 (Fact.rep [] (a1 : Int)), .fact 5 (Fact.rep [] (x1 : Bool)), .fact 6 (Fact.rep [12] (x3.1 : List UInt8)), .fact 8 (Fact.isv 13), .fact 100013 (Fact.own 13 [0, 14] 22 (b : List (List UInt8)))])) hb10 (Sub.cons (Has.m (Has.s rfl) rfl) (Sub.cons ((Has.s rfl)) (Sub.cons ((Has.s rfl)) (Sub.cons (Has.m (Has.s rfl) rfl) (Sub.cons (Has.s rfl) (Sub.cons ((Has.s rfl)) (Sub.cons (Has.ownM (Has.s rfl) rfl) Sub.nil))))))) ?_ ?_
      · rintro ⟨s4, s5⟩ c6 hm
        replace hm : law03_FoldBack_L1 a0 a1 s4 s5 = some c6 := hm
        unfold law03_FoldBack_L1 at hm
        show CWalk _ [.fact 0 (Fact.rep [0] (a0 : List (List UInt8))), .fact 1 (Fact.rep [] (a1 : Int)), .fact 5 (Fact.rep [] (x1 : Bool)), .fact 6 (Fact.rep [12] (x3.1 : List UInt8)), .fact 8 (Fact.isv 13), .fact 9 (Fact.rep [] (s4 : Int)), .fact 100013 (Fact.own 13 [0, 14] 22 (s5 : List (List UInt8)))] _ _
        refine CWalk.seq ?_
        refine CWalk.seq ?_
        refine CWalk.region ?_
        refine Walk.op rfl (Spec.move (Has.s rfl)) ?_
        refine Walk.op rfl (Spec.move (Has.s rfl)) ?_
        refine Walk.op rfl (Spec.len (Has.s rfl) Try.underlying27) ?_
        refine Walk.op rfl (Spec.lssI (Has.s rfl) (Has.s rfl)) ?_
        refine Walk.nil ?_
        refine Leaf.thenN ?_
        refine CWalk.cond rfl (fun hb => ?_) (fun hb => ?_)
        · have hm := cond_t hb hm
          refine CWalk.skip ?_
          refine Leaf.thenN ?_
          refine CWalk.seqJ (fun p : (List (List UInt8)) => [.fact 0 (Fact.rep [0] (a0 : List (List UInt8))), .fact 1 (Fact.rep [] (a1 : Int)), .fact 5 (Fact.rep [] (x1 : Bool)), .fact 6 (Fact.rep [12] (x3.1 : List UInt8)), .fact 8 (Fact.isv 13), .fact 9 (Fact.rep [] (s4 : Int)), .fact 100013 (Fact.own 13 [0, 14] 22 (p : List (List UInt8)))]) (fun p : (List (List UInt8)) => law03_FoldBack_J2 s4 p = some c6) ?_ ?_
          · rintro j7 hm
            replace hm : law03_FoldBack_J2 s4 j7 = some c6 := hm
            unfold law03_FoldBack_J2 at hm
            show CWalk _ [.fact 0 (Fact.rep [0] (a0 : List (List UInt8))), .fact 1 (Fact.rep [] (a1 : Int)), .fact 5 (Fact.rep [] (x1 : Bool)), .fact 6 (Fact.rep [12] (x3.1 : List UInt8)), .fact 8 (Fact.isv 13), .fact 9 (Fact.rep [] (s4 : Int)), .fact 100013 (Fact.own 13 [0, 14] 22 (j7 : List (List UInt8)))] _ _
            refine CWalk.region ?_
            refine Walk.op rfl (Spec.move (Has.s rfl)) ?_
            refine Walk.op rfl (Spec.addI (Has.s rfl) Has.int) ?_
            refine Walk.op rfl (Spec.assign (Has.s rfl)) ?_
            refine Walk.nil ?_
            exact Leaf.next hm (Sub.cons (Has.m (Has.s rfl) rfl) (Sub.cons ((Has.s rfl)) (Sub.cons ((Has.s rfl)) (Sub.cons (Has.m (Has.s rfl) rfl) (Sub.cons (Has.s rfl) (Sub.cons ((Has.s rfl)) (Sub.cons (Has.ownM (Has.s rfl) rfl) Sub.nil)))))))
          · refine CWalk.block ?_
            refine CWalk.seq ?_
            refine CWalk.region ?_
            refine Walk.op rfl (Spec.move (Has.s rfl)) ?_
            refine Walk.op rfl (Spec.move (Has.s rfl)) ?_
            refine Walk.op rfl (Spec.neqI (Has.s rfl) (Has.s rfl)) ?_
            refine Walk.nil ?_
            refine Leaf.thenN ?_
            refine CWalk.cond rfl (fun hb => ?_) (fun hb => ?_)
            · have hm := cond_t hb hm
              refine CWalk.region ?_
              refine Walk.op rfl (Spec.move (Has.s rfl)) ?_
              refine Walk.op rfl (Spec.move (Has.s rfl)) ?_
              refine Walk.op rfl (Spec.move (Has.s rfl)) ?_
              obtain ⟨x8, hx8, hm⟩ := bind_some hm
              refine Walk.op rfl (Spec.indexAddr hx8 sl27 (Has.s rfl) (Has.s rfl)) ?_
              refine Walk.op rfl (Spec.load ty22 (Has.s rfl)) ?_
              refine Walk.op rfl (Spec.lit (xs := [.tmp 53]) (T := [0]) 14 rfl ow27 rfl rfl rfl rfl (HasEach.cons (Has.m (Has.s rfl) rfl) HasEach.nil)) ?_
              obtain ⟨x9, hx9, hm⟩ := bind_some hm
              refine Walk.append (te' := [0, 14]) 13 hx9 rfl rfl ow27 (Has.s rfl) rfl (Has.s rfl) (ElKeep.tags rfl rfl) (ElKeep.tags rfl rfl) ?_
              refine Walk.op rfl (Spec.assign (Has.s rfl)) ?_
              refine Walk.nil ?_
              refine Leaf.blockN ?_
              exact Leaf.join x9 hm (Sub.cons (Has.m (Has.s rfl) rfl) (Sub.cons ((Has.s rfl)) (Sub.cons ((Has.s rfl)) (Sub.cons (Has.m (Has.s rfl) rfl) (Sub.cons (Has.s rfl) (Sub.cons ((Has.s rfl)) (Sub.cons (Has.ownM (Has.s rfl) rfl) Sub.nil)))))))
            · have hm := cond_f hb hm
              refine CWalk.skip ?_
              refine Leaf.blockN ?_
              exact Leaf.join s5 hm (Sub.cons (Has.m (Has.s rfl) rfl) (Sub.cons ((Has.s rfl)) (Sub.cons ((Has.s rfl)) (Sub.cons (Has.m (Has.s rfl) rfl) (Sub.cons (Has.s rfl) (Sub.cons ((Has.s rfl)) (Sub.cons (Has.ownM (Has.s rfl) rfl) Sub.nil)))))))
        · have hm := cond_f hb hm
          refine CWalk.exit ?_
          refine Leaf.thenE ?_
          exact Leaf.brk hm (fun h => nomatch h) rfl (Sub.cons (Has.m (Has.s rfl) rfl) (Sub.cons ((Has.s rfl)) (Sub.cons ((Has.s rfl)) (Sub.cons (Has.m (Has.s rfl) rfl) (Sub.cons (Has.s rfl) (Sub.cons (Has.ownM (Has.s rfl) rfl) Sub.nil))))))
      · intro _
        refine Leaf.blockE ?_
        refine Leaf.thenN ?_
        refine CWalk.seq ?_
        refine CWalk.region ?_
        refine Walk.op rfl (Spec.move (Has.s rfl)) ?_
        refine Walk.op rfl (Spec.move (Has.s rfl)) ?_
        refine Walk.op rfl (Spec.lit (xs := [.tmp 58]) (T := [12]) 15 rfl ow27 rfl rfl rfl rfl (HasEach.cons (Has.m (Has.s rfl) rfl) HasEach.nil)) ?_
        obtain ⟨x11, hx11, hm⟩ := bind_some hm
        refine Walk.append (te' := [0, 12, 14, 15]) 13 hx11 rfl rfl ow27 (Has.s rfl) rfl (Has.s rfl) (ElKeep.tags rfl rfl) (ElKeep.tags rfl rfl) ?_
        obtain ⟨x12, hx12, hm⟩ := bind_some hm
        refine Walk.op rfl (Spec.callN [0, 12, 13, 14, 15] 16 rfl en10 (fold_Fold_c x11 hx12) (HasAll.cons (Has.m (Has.own (Has.s rfl) rfl) rfl) HasAll.nil)) ?_
        refine Walk.op rfl (Spec.move (Has.s rfl)) ?_
        refine Walk.op rfl (Spec.ext0 (Has.s rfl)) ?_
        refine Walk.op rfl ((Spec.ext1 (Has.s rfl)).flat (T' := [])) ?_
        refine Walk.op rfl (Spec.assign (Has.s rfl)) ?_
        refine Walk.op rfl (Spec.assign (Has.s rfl)) ?_
        refine Walk.nil ?_
        refine Leaf.thenN ?_
        refine CWalk.seq ?_
        refine CWalk.seq ?_
        refine CWalk.region ?_
        refine Walk.op rfl (Spec.move (Has.s rfl)) ?_
        refine Walk.op rfl (Spec.neqI (Has.s rfl) Has.int) ?_
        refine Walk.op rfl (Spec.move (Has.s rfl)) ?_
        refine Walk.opg rfl rfl rfl (fun hb => Spec.move (Has.s rfl)) ?_
        refine Walk.opg rfl rfl rfl (fun hb => Spec.len (Has.u rfl hb) Try.underlying22) ?_
        refine Walk.opg rfl rfl rfl (fun hb => Spec.neqI (Has.u rfl hb) Has.int) ?_
        refine Walk.op rfl (Spec.or (Has.s rfl) (fun h => Has.u rfl h)) ?_
        refine Walk.nil ?_
        refine Leaf.thenN ?_
        refine CWalk.cond rfl (fun hb => ?_) (fun hb => ?_)
        · have hm := cond_t hb hm
          refine CWalk.seq ?_
          refine CWalk.region ?_
          refine Walk.op rfl (Spec.assign Has.bool) ?_
          refine Walk.nil ?_
          refine Leaf.thenN ?_
          refine CWalk.ret ?_
          refine Leaf.thenR ?_
          obtain rfl := Option.some.inj hm
          exact Leaf.ret1 rfl (Has.fl (Has.s rfl))
        · have hm := cond_f hb hm
          refine CWalk.skip ?_
          refine Leaf.thenN ?_
          refine CWalk.seq ?_
          refine CWalk.seq ?_
          refine CWalk.region ?_
          refine Walk.op rfl (Spec.assign Has.int) ?_
          refine Walk.nil ?_
          refine Leaf.thenN ?_
          refine CWalk.block ?_
          obtain ⟨b18, hb18, hm⟩ := bind_some hm
          refine CWalk.loop (fun s : Int => [.fact 0 (Fact.rep [0] (a0 : List (List UInt8))), .fact 1 (Fact.rep [] (a1 : Int)), .fact 5 (Fact.rep [] (x1 : Bool)), .fact 10 (Fact.rep [16] (x12.1 : List UInt8)), .fact 12 (Fact.rep [] (s : Int))]) (fun b : (Unit) ⊕ (Bool) => Sum.elim (fun b => (Exit.exit 2, [.fact 5 (Fact.rep [] (x1 : Bool))])) (fun b => (Exit.ret, [.fact 4 (Fact.rep [] (b : Bool))])) b) hb18 (Sub.cons (Has.m (Has.s rfl) rfl) (Sub.cons ((Has.s rfl)) (Sub.cons ((Has.s rfl)) (Sub.cons (Has.m (Has.s rfl) rfl) (Sub.cons ((Has.s rfl)) Sub.nil))))) ?_ ?_
          · rintro s13 c14 hm
            replace hm : law03_FoldBack_L3 a0 a1 x12 s13 = some c14 := hm
            unfold law03_FoldBack_L3 at hm
            show CWalk _ [.fact 0 (Fact.rep [0] (a0 : List (List UInt8))), .fact 1 (Fact.rep [] (a1 : Int)), .fact 5 (Fact.rep [] (x1 : Bool)), .fact 10 (Fact.rep [16] (x12.1 : List UInt8)), .fact 12 (Fact.rep [] (s13 : Int))] _ _
            refine CWalk.seq ?_
            refine CWalk.seq ?_
            refine CWalk.region ?_
            refine Walk.op rfl (Spec.move (Has.s rfl)) ?_
            refine Walk.op rfl (Spec.lssI (Has.s rfl) Has.int) ?_
            refine Walk.nil ?_
            refine Leaf.thenN ?_
            refine CWalk.cond rfl (fun hb => ?_) (fun hb => ?_)
            · have hm := cond_t hb hm
              refine CWalk.skip ?_
              refine Leaf.thenN ?_
              refine CWalk.seq ?_
              refine CWalk.block ?_
              refine CWalk.seq ?_
              obtain ⟨x15, hx15, hm⟩ := bind_some hm
              obtain ⟨x16, hx16, hm⟩ := bind_some hm
              obtain ⟨x17, hx17, hm⟩ := bind_some hm
              refine CWalk.draw [([], [76, 79, 80, 81, 82, 83, 84]), ([], [75, 79, 80, 81, 82, 83, 84]), ([0, 1], [79, 80, 81, 82, 83, 84]), ([0, 1, 2], [79, 80, 81, 82, 83, 84]), ([], [75, 76, 77, 78, 80, 83]), ([], [75, 76, 77, 78, 79, 83]), ([4, 5], [75, 76, 77, 78, 83]), ([4, 5, 6], [75, 76, 77, 78, 83]), ([], [75, 76, 77, 78, 79, 80, 81, 82]), ([4, 5, 6, 7, 8], [75, 76, 77, 78]), ([0, 1, 2, 3, 4, 5, 6, 7, 8, 9], [])] [75, 76, 77, 78, 79, 80, 81, 82, 83, 84, 85] [Fact.rep [16] (x12.1 : List UInt8), Fact.rep [] (s13 : Int), Fact.ptr [16] (x15 : UInt8), Fact.rep [] (x15 : UInt8), Fact.rep [0] (a0 : List (List UInt8)), Fact.rep [] (a1 : Int), Fact.ptr [0] (x16 : List UInt8), Fact.rep [0] (x16 : List UInt8), Fact.rep [] (s13 : Int), Fact.rep [] (x17 : UInt8), Fact.rep [] ((x15 != x17) : Bool)] mixed (by kernel_rfl) rfl rfl rfl (AllOk.cons (OpOk.op (Spec.move (Has.s rfl))) (AllOk.cons (OpOk.op (Spec.move (Has.s rfl))) (AllOk.cons (OpOk.op (Spec.indexAddr hx15 sl22 (Has.s rfl) (Has.s rfl))) (AllOk.cons (OpOk.op ((Spec.load ty5 (Has.s rfl)).flat (T' := []))) (AllOk.cons (OpOk.op (Spec.move (Has.s rfl))) (AllOk.cons (OpOk.op (Spec.move (Has.s rfl))) (AllOk.cons (OpOk.op (Spec.indexAddr hx16 sl27 (Has.s rfl) (Has.s rfl))) (AllOk.cons (OpOk.op (Spec.load ty22 (Has.s rfl))) (AllOk.cons (OpOk.op (Spec.move (Has.s rfl))) (AllOk.cons (OpOk.op (Spec.callF [0] 17 rfl en17 (law03_at_c x16 s13 hx17) (HasAll.cons (Has.m (Has.s rfl) rfl) (HasAll.cons (Has.fl (Has.s rfl)) HasAll.nil)))) (AllOk.cons (OpOk.op (Spec.neqB (Has.s rfl) (Has.s rfl))) AllOk.nil))))))))))) ?_
              refine Leaf.thenN ?_
              refine CWalk.cond rfl (fun hb => ?_) (fun hb => ?_)
              · have hm := cond_t hb hm
                refine CWalk.seq ?_
                refine CWalk.region ?_
                refine Walk.op rfl (Spec.assign Has.bool) ?_
                refine Walk.nil ?_
                refine Leaf.thenN ?_
                refine CWalk.ret ?_
                refine Leaf.blockR ?_
                refine Leaf.thenR ?_
                exact Leaf.brk hm (fun h => nomatch h) rfl (Sub.cons ((Has.s rfl)) Sub.nil)
              · have hm := cond_f hb hm
                refine CWalk.skip ?_
                refine Leaf.blockN ?_
                refine Leaf.thenN ?_
                refine CWalk.region ?_
                refine Walk.op rfl (Spec.move (Has.s rfl)) ?_
                refine Walk.op rfl (Spec.addI (Has.s rfl) Has.int) ?_
                refine Walk.op rfl (Spec.assign (Has.s rfl)) ?_
                refine Walk.nil ?_
                exact Leaf.next hm (Sub.cons (Has.m (Has.s rfl) rfl) (Sub.cons ((Has.s rfl)) (Sub.cons ((Has.s rfl)) (Sub.cons (Has.m (Has.s rfl) rfl) (Sub.cons ((Has.s rfl)) Sub.nil)))))
            · have hm := cond_f hb hm
              refine CWalk.exit ?_
              refine Leaf.thenE ?_
              exact Leaf.brk hm (fun h => nomatch h) rfl (Sub.cons ((Has.s rfl)) Sub.nil)
          · intro _
            rcases b18 with b19 | b20
            · have hm := selim_l hm
              refine Leaf.blockE ?_
              refine Leaf.thenN ?_
              refine CWalk.seq ?_
              refine CWalk.region ?_
              refine Walk.op rfl (Spec.move (Has.s rfl)) ?_
              refine Walk.op rfl (Spec.assign (Has.s rfl)) ?_
              refine Walk.nil ?_
              refine Leaf.thenN ?_
              refine CWalk.ret ?_
              obtain rfl := Option.some.inj hm
              exact Leaf.ret1 rfl (Has.fl (Has.s rfl))
            · have hm := selim_r hm
              refine Leaf.blockR ?_
              refine Leaf.thenR ?_
              obtain rfl := Option.some.inj hm
              exact Leaf.ret1 rfl (Has.fl (Has.s rfl))

/-- freeboard/freeboardlaw03.FoldParts -/
def law03_FoldParts (a0 : List (List UInt8)) (a1 : List (List UInt8)) : Option (Bool) :=
  Option.bind (law03_alive) (fun x1 => Option.bind (ref03_Great a0) (fun x2 => Option.bind (gO (!x2) (ref03_Great a1)) (fun x3 => (bif (x2 || x3) then some x1 else Option.bind (fold_Fold a0) (fun x4 => Option.bind (fold_Fold a1) (fun x5 => Option.bind (app ([] : List (List UInt8)) a0) (fun x6 => Option.bind (app x6 a1) (fun x7 => Option.bind (fold_Fold x7) (fun x8 => (bif (((x4.2 != (0 : Int)) || (x5.2 != (0 : Int))) || (x8.2 != (0 : Int))) then some ((x1 && ((decide ((wI (((a0).length : Int) + ((a1).length : Int))) > (16 : Int))) || (x8.2 == (3 : Int)))) && ((x8.2 != (0 : Int)) || ((x4.2 == (0 : Int)) && (x5.2 == (0 : Int))))) else Option.bind (fold_Fold ([x4.1, x5.1])) (fun x9 => some ((x1 && (x9.2 == (0 : Int))) && ((Str.mk x9.1).s == (Str.mk x8.1).s)))))))))))))
set_option maxRecDepth 100000 in
theorem law03_FoldParts_c (a0 : List (List UInt8)) (a1 : List (List UInt8)) {r : Bool} (hm : law03_FoldParts a0 a1 = some r) : Ctr Try.prog 7 [.rep a0, .rep a1] (.rep r) false := by
  refine ctr_of_walk (T := []) 94 Try.func7 rfl rfl rfl rfl (fun w0 om => ?_)
  unfold law03_FoldParts at hm
  refine CWalk.sub (G' := [.fact 0 (Fact.rep [0] (a0 : List (List UInt8))), .fact 1 (Fact.rep [0] (a1 : List (List UInt8)))]) (Sub.cons (Has.s rfl) (Sub.cons (Has.s rfl) Sub.nil)) ?_
  refine CWalk.seq ?_
  refine CWalk.region ?_
  refine Walk.op rfl (Spec.assign Has.bool) ?_
  refine Walk.nil ?_
  refine Leaf.thenN ?_
  refine CWalk.seq ?_
  refine CWalk.region ?_
  obtain ⟨x1, hx1, hm⟩ := bind_some hm
  refine Walk.op rfl (Spec.callF [] 10 rfl en12 (law03_alive_c  hx1) HasAll.nil) ?_
  refine Walk.op rfl (Spec.assign (Has.s rfl)) ?_
  refine Walk.nil ?_
  refine Leaf.thenN ?_
  refine CWalk.seq ?_
  refine CWalk.seq ?_
  refine CWalk.region ?_
  refine Walk.op rfl (Spec.move (Has.s rfl)) ?_
  obtain ⟨x2, hx2, hm⟩ := bind_some hm
  refine Walk.op rfl (Spec.callF [0] 11 rfl en13 (ref03_Great_c a0 hx2) (HasAll.cons (Has.m (Has.s rfl) rfl) HasAll.nil)) ?_
  refine Walk.op rfl (Spec.move (Has.s rfl)) ?_
  refine Walk.opg rfl rfl rfl (fun hb => Spec.move (Has.s rfl)) ?_
  obtain ⟨x3, hx3, hm⟩ := bind_some hm
  refine Walk.opg rfl rfl rfl (fun hb => Spec.callF [0] 12 rfl en13 (ref03_Great_c a1 (gO_t hx3 (not_t hb))) (HasAll.cons (Has.m (Has.u rfl hb) rfl) HasAll.nil)) ?_
  refine Walk.op rfl (Spec.or (Has.s rfl) (fun h => Has.u rfl h)) ?_
  refine Walk.nil ?_
  refine Leaf.thenN ?_
  refine CWalk.cond rfl (fun hb => ?_) (fun hb => ?_)
  · have hm := cond_t hb hm
    refine CWalk.seq ?_
    refine CWalk.region ?_
    refine Walk.op rfl (Spec.move (Has.s rfl)) ?_
    refine Walk.op rfl (Spec.assign (Has.s rfl)) ?_
    refine Walk.nil ?_
    refine Leaf.thenN ?_
    refine CWalk.ret ?_
    refine Leaf.thenR ?_
    obtain rfl := Option.some.inj hm
    exact Leaf.ret1 rfl (Has.fl (Has.s rfl))
  · have hm := cond_f hb hm
    refine CWalk.skip ?_
    refine Leaf.thenN ?_
    refine CWalk.seq ?_
    refine CWalk.region ?_
    refine Walk.op rfl (Spec.move (Has.s rfl)) ?_
    obtain ⟨x4, hx4, hm⟩ := bind_some hm
    refine Walk.op rfl (Spec.callN [0] 13 rfl en10 (fold_Fold_c a0 hx4) (HasAll.cons (Has.m (Has.s rfl) rfl) HasAll.nil)) ?_
    refine Walk.op rfl (Spec.move (Has.s rfl)) ?_
    refine Walk.op rfl (Spec.ext0 (Has.s rfl)) ?_
    refine Walk.op rfl ((Spec.ext1 (Has.s rfl)).flat (T' := [])) ?_
    refine Walk.op rfl (Spec.assign (Has.s rfl)) ?_
    refine Walk.op rfl (Spec.assign (Has.s rfl)) ?_
    refine Walk.nil ?_
    refine Leaf.thenN ?_
    refine CWalk.seq ?_
    refine CWalk.region ?_
    refine Walk.op rfl (Spec.move (Has.s rfl)) ?_
    obtain ⟨x5, hx5, hm⟩ := bind_some hm
    refine Walk.op rfl (Spec.callN [0] 14 rfl en10 (fold_Fold_c a1 hx5) (HasAll.cons (Has.m (Has.s rfl) rfl) HasAll.nil)) ?_
    refine Walk.op rfl (Spec.move (Has.s rfl)) ?_
    refine Walk.op rfl (Spec.ext0 (Has.s rfl)) ?_
    refine Walk.op rfl ((Spec.ext1 (Has.s rfl)).flat (T' := [])) ?_
    refine Walk.op rfl (Spec.assign (Has.s rfl)) ?_
    refine Walk.op rfl (Spec.assign (Has.s rfl)) ?_
    refine Walk.nil ?_
    refine Leaf.thenN ?_
    refine CWalk.seq ?_
    refine CWalk.region ?_
    refine Walk.op rfl (Spec.move (Has.s rfl)) ?_
    obtain ⟨x6, hx6, hm⟩ := bind_some hm
    refine Walk.appendNil (te' := [0]) 15 hx6 rfl rfl ow27 (Has.s rfl) (ElKeep.tags rfl rfl) ?_
    refine Walk.op rfl (Spec.move (Has.s rfl)) ?_
    obtain ⟨x7, hx7, hm⟩ := bind_some hm
    refine Walk.append (te' := [0]) 15 hx7 rfl rfl ow27 (Has.s rfl) rfl (Has.s rfl) (ElKeep.tags rfl rfl) (ElKeep.tags rfl rfl) ?_
    obtain ⟨x8, hx8, hm⟩ := bind_some hm
    refine Walk.op rfl (Spec.callN [0, 15] 16 rfl en10 (fold_Fold_c x7 hx8) (HasAll.cons (Has.m (Has.own (Has.s rfl) rfl) rfl) HasAll.nil)) ?_
    refine Walk.op rfl (Spec.move (Has.s rfl)) ?_
    refine Walk.op rfl (Spec.ext0 (Has.s rfl)) ?_
    refine Walk.op rfl ((Spec.ext1 (Has.s rfl)).flat (T' := [])) ?_
    refine Walk.op rfl (Spec.assign (Has.s rfl)) ?_
    refine Walk.op rfl (Spec.assign (Has.s rfl)) ?_
    refine Walk.nil ?_
    refine Leaf.thenN ?_
    refine CWalk.seq ?_
    refine CWalk.seq ?_
    refine CWalk.region ?_
    refine Walk.op rfl (Spec.move (Has.s rfl)) ?_
    refine Walk.op rfl (Spec.neqI (Has.s rfl) Has.int) ?_
    refine Walk.op rfl (Spec.move (Has.s rfl)) ?_
    refine Walk.opg rfl rfl rfl (fun hb => Spec.move (Has.s rfl)) ?_
    refine Walk.opg rfl rfl rfl (fun hb => Spec.neqI (Has.u rfl hb) Has.int) ?_
    refine Walk.op rfl (Spec.or (Has.s rfl) (fun h => Has.u rfl h)) ?_
    refine Walk.op rfl (Spec.move (Has.s rfl)) ?_
    refine Walk.opg rfl rfl rfl (fun hb => Spec.move (Has.s rfl)) ?_
    refine Walk.opg rfl rfl rfl (fun hb => Spec.neqI (Has.u rfl hb) Has.int) ?_
    refine Walk.op rfl (Spec.or (Has.s rfl) (fun h => Has.u rfl h)) ?_
    refine Walk.nil ?_
    refine Leaf.thenN ?_
    refine CWalk.cond rfl (fun hb => ?_) (fun hb => ?_)
    · have hm := cond_t hb hm
      refine CWalk.seq ?_
      refine CWalk.region ?_
      refine Walk.op rfl (Spec.move (Has.s rfl)) ?_
      refine Walk.op rfl (Spec.move (Has.s rfl)) ?_
      refine Walk.opg rfl rfl rfl (fun hb => Spec.move (Has.s rfl)) ?_
      refine Walk.opg rfl rfl rfl (fun hb => Spec.len (Has.u rfl hb) Try.underlying27) ?_
      refine Walk.opg rfl rfl rfl (fun hb => Spec.move (Has.s rfl)) ?_
      refine Walk.opg rfl rfl rfl (fun hb => Spec.len (Has.u rfl hb) Try.underlying27) ?_
      refine Walk.opg rfl rfl rfl (fun hb => Spec.addI (Has.u rfl hb) (Has.u rfl hb)) ?_
      refine Walk.opg rfl rfl rfl (fun hb => Spec.gtrI (Has.u rfl hb) Has.int) ?_
      refine Walk.opg rfl rfl rfl (fun hb => Spec.move (Has.u rfl hb)) ?_
      refine Walk.opgu rfl rfl rfl (fun hb => Spec.move (Has.s rfl)) ?_
      refine Walk.opgu rfl rfl rfl (fun hb => Spec.eqlI (Has.u rfl hb) Has.int) ?_
      refine Walk.opg rfl rfl rfl (fun hb => Spec.or (Has.u rfl hb) (fun h => Has.u rfl ⟨hb, h⟩)) ?_
      refine Walk.op rfl (Spec.and (Has.s rfl) (fun h => Has.u rfl h)) ?_
      refine Walk.op rfl (Spec.move (Has.s rfl)) ?_
      refine Walk.opg rfl rfl rfl (fun hb => Spec.move (Has.s rfl)) ?_
      refine Walk.opg rfl rfl rfl (fun hb => Spec.neqI (Has.u rfl hb) Has.int) ?_
      refine Walk.opg rfl rfl rfl (fun hb => Spec.move (Has.u rfl hb)) ?_
      refine Walk.opgu rfl rfl rfl (fun hb => Spec.move (Has.s rfl)) ?_
      refine Walk.opgu rfl rfl rfl (fun hb => Spec.eqlI (Has.u rfl hb) Has.int) ?_
      refine Walk.opgu rfl rfl rfl (fun hb => Spec.move (Has.u rfl hb)) ?_
      refine Walk.opgu rfl rfl rfl (fun hb => Spec.move (Has.s rfl)) ?_
      refine Walk.opgu rfl rfl rfl (fun hb => Spec.eqlI (Has.u rfl hb) Has.int) ?_
      refine Walk.opgu rfl rfl rfl (fun hb => Spec.and (Has.u rfl hb) (fun h => Has.u rfl ⟨hb, h⟩)) ?_
      refine Walk.opg rfl rfl rfl (fun hb => Spec.or (Has.u rfl hb) (fun h => Has.u rfl ⟨hb, h⟩)) ?_
      refine Walk.op rfl (Spec.and (Has.s rfl) (fun h => Has.u rfl h)) ?_
      refine Walk.op rfl (Spec.assign (Has.s rfl)) ?_
      refine Walk.nil ?_
      refine Leaf.thenN ?_
      refine CWalk.ret ?_
      refine Leaf.thenR ?_
      obtain rfl := Option.some.inj hm
      exact Leaf.ret1 rfl (Has.fl (Has.s rfl))
    · have hm := cond_f hb hm
      refine CWalk.skip ?_
      refine Leaf.thenN ?_
      refine CWalk.seq ?_
      refine CWalk.region ?_
      refine Walk.op rfl (Spec.move (Has.s rfl)) ?_
      refine Walk.op rfl (Spec.move (Has.s rfl)) ?_
      refine Walk.op rfl (Spec.lit (xs := [.tmp 76, .tmp 77]) (T := [13, 14]) 17 rfl ow27 rfl rfl rfl rfl (HasEach.cons (Has.m (Has.s rfl) rfl) (HasEach.cons (Has.m (Has.s rfl) rfl) HasEach.nil))) ?_
      obtain ⟨x9, hx9, hm⟩ := bind_some hm
      refine Walk.op rfl (Spec.callN [13, 14, 17] 18 rfl en10 (fold_Fold_c ([x4.1, x5.1]) hx9) (HasAll.cons (Has.m (Has.s rfl) rfl) HasAll.nil)) ?_
      refine Walk.op rfl (Spec.move (Has.s rfl)) ?_
      refine Walk.op rfl (Spec.ext0 (Has.s rfl)) ?_
      refine Walk.op rfl ((Spec.ext1 (Has.s rfl)).flat (T' := [])) ?_
      refine Walk.op rfl (Spec.assign (Has.s rfl)) ?_
      refine Walk.op rfl (Spec.assign (Has.s rfl)) ?_
      refine Walk.nil ?_
      refine Leaf.thenN ?_
      refine CWalk.seq ?_
      refine CWalk.region ?_
      refine Walk.op rfl (Spec.move (Has.s rfl)) ?_
      refine Walk.op rfl (Spec.move (Has.s rfl)) ?_
      refine Walk.opg rfl rfl rfl (fun hb => Spec.move (Has.s rfl)) ?_
      refine Walk.opg rfl rfl rfl (fun hb => Spec.eqlI (Has.u rfl hb) Has.int) ?_
      refine Walk.op rfl (Spec.and (Has.s rfl) (fun h => Has.u rfl h)) ?_
      refine Walk.op rfl (Spec.move (Has.s rfl)) ?_
      refine Walk.opg rfl rfl rfl (fun hb => Spec.move (Has.s rfl)) ?_
      refine Walk.opg rfl rfl rfl (fun hb => Spec.toStr Try.underlying22 Try.underlying5 Try.underlying9 (Has.u rfl hb)) ?_
      refine Walk.opg rfl rfl rfl (fun hb => Spec.move (Has.s rfl)) ?_
      refine Walk.opg rfl rfl rfl (fun hb => Spec.toStr Try.underlying22 Try.underlying5 Try.underlying9 (Has.u rfl hb)) ?_
      refine Walk.opg rfl rfl rfl (fun hb => Spec.eqlS (Has.u rfl hb) (Has.u rfl hb)) ?_
      refine Walk.op rfl (Spec.and (Has.s rfl) (fun h => Has.u rfl h)) ?_
      refine Walk.op rfl (Spec.assign (Has.s rfl)) ?_
      refine Walk.nil ?_
      refine Leaf.thenN ?_
      refine CWalk.ret ?_
      obtain rfl := Option.some.inj hm
      exact Leaf.ret1 rfl (Has.fl (Has.s rfl))

/-- freeboard/freeboardlaw03.FoldTwice -/
def law03_FoldTwice (a0 : List (List UInt8)) (a1 : List UInt8) : Option (Bool) :=
  Option.bind (law03_alive) (fun x1 => Option.bind (ref03_Great a0) (fun x2 => (bif (x2 || (decide (((a1).length : Int) > (1000 : Int)))) then some x1 else Option.bind (fold_Fold a0) (fun x3 => Option.bind (app ([] : List (List UInt8)) a0) (fun x4 => Option.bind (app x4 ([a1, a1])) (fun x5 => Option.bind (fold_Fold x5) (fun x6 => Option.bind (app ([] : List (List UInt8)) a0) (fun x7 => Option.bind (app x7 ([([] : List UInt8)])) (fun x8 => Option.bind (fold_Fold x8) (fun x9 => (bif (x3.2 != (0 : Int)) then some ((x1 && (x6.2 != (0 : Int))) && (x9.2 != (0 : Int))) else (bif ((decide (((a0).length : Int) < (16 : Int))) && ((x9.2 != (0 : Int)) || (!((Str.mk x9.1).s == (Str.mk x3.1).s)))) then some false else (bif (x6.2 != (0 : Int)) then some (x1 && (((decide (((a0).length : Int) > (14 : Int))) && (x6.2 == (4 : Int))) || ((((decide (((a0).length : Int) ≤ (14 : Int))) && (x6.2 == (3 : Int))) && (((a1).length : Int) != (0 : Int))) && (((a1).length : Int) != (128 : Int))))) else some (x1 && ((Str.mk x6.1).s == (Str.mk x3.1).s)))))))))))))))
set_option maxRecDepth 100000 in
theorem law03_FoldTwice_c (a0 : List (List UInt8)) (a1 : List UInt8) {r : Bool} (hm : law03_FoldTwice a0 a1 = some r) : Ctr Try.prog 9 [.rep a0, .rep a1] (.rep r) false := by
  refine ctr_of_walk (T := []) 108 Try.func9 rfl rfl rfl rfl (fun w0 om => ?_)
  unfold law03_FoldTwice at hm
  refine CWalk.sub (G' := [.fact 0 (Fact.rep [0] (a0 : List (List UInt8))), .fact 1 (Fact.rep [0] (a1 : List UInt8))]) (Sub.cons (Has.s rfl) (Sub.cons (Has.s rfl) Sub.nil)) ?_
  refine CWalk.seq ?_
  refine CWalk.region ?_
  refine Walk.op rfl (Spec.assign Has.bool) ?_
  refine Walk.nil ?_
  refine Leaf.thenN ?_
  refine CWalk.seq ?_
  refine CWalk.region ?_
  obtain ⟨x1, hx1, hm⟩ := bind_some hm
  refine Walk.op rfl (Spec.callF [] 10 rfl en12 (law03_alive_c  hx1) HasAll.nil) ?_
  refine Walk.op rfl (Spec.assign (Has.s rfl)) ?_
  refine Walk.nil ?_
  refine Leaf.thenN ?_
  refine CWalk.seq ?_
  refine CWalk.seq ?_
  refine CWalk.region ?_
  refine Walk.op rfl (Spec.move (Has.s rfl)) ?_
  obtain ⟨x2, hx2, hm⟩ := bind_some hm
  refine Walk.op rfl (Spec.callF [0] 11 rfl en13 (ref03_Great_c a0 hx2) (HasAll.cons (Has.m (Has.s rfl) rfl) HasAll.nil)) ?_
  refine Walk.op rfl (Spec.move (Has.s rfl)) ?_
  refine Walk.opg rfl rfl rfl (fun hb => Spec.move (Has.s rfl)) ?_
  refine Walk.opg rfl rfl rfl (fun hb => Spec.len (Has.u rfl hb) Try.underlying22) ?_
  refine Walk.opg rfl rfl rfl (fun hb => Spec.gtrI (Has.u rfl hb) Has.int) ?_
  refine Walk.op rfl (Spec.or (Has.s rfl) (fun h => Has.u rfl h)) ?_
  refine Walk.nil ?_
  refine Leaf.thenN ?_
  refine CWalk.cond rfl (fun hb => ?_) (fun hb => ?_)
  · have hm := cond_t hb hm
    refine CWalk.seq ?_
    refine CWalk.region ?_
    refine Walk.op rfl (Spec.move (Has.s rfl)) ?_
    refine Walk.op rfl (Spec.assign (Has.s rfl)) ?_
    refine Walk.nil ?_
    refine Leaf.thenN ?_
    refine CWalk.ret ?_
    refine Leaf.thenR ?_
    obtain rfl := Option.some.inj hm
    exact Leaf.ret1 rfl (Has.fl (Has.s rfl))
  · have hm := cond_f hb hm
    refine CWalk.skip ?_
    refine Leaf.thenN ?_
    refine CWalk.seq ?_
    refine CWalk.region ?_
    refine Walk.op rfl (Spec.move (Has.s rfl)) ?_
    obtain ⟨x3, hx3, hm⟩ := bind_some hm
    refine Walk.op rfl (Spec.callN [0] 12 rfl en10 (fold_Fold_c a0 hx3) (HasAll.cons (Has.m (Has.s rfl) rfl) HasAll.nil)) ?_
    refine Walk.op rfl (Spec.move (Has.s rfl)) ?_
    refine Walk.op rfl (Spec.ext0 (Has.s rfl)) ?_
    refine Walk.op rfl ((Spec.ext1 (Has.s rfl)).flat (T' := [])) ?_
    refine Walk.op rfl (Spec.assign (Has.s rfl)) ?_
    refine Walk.op rfl (Spec.assign (Has.s rfl)) ?_
    refine Walk.nil ?_
    refine Leaf.thenN ?_
    refine CWalk.seq ?_
    refine CWalk.region ?_
    refine Walk.op rfl (Spec.move (Has.s rfl)) ?_
    obtain ⟨x4, hx4, hm⟩ := bind_some hm
    refine Walk.appendNil (te' := [0]) 13 hx4 rfl rfl ow27 (Has.s rfl) (ElKeep.tags rfl rfl) ?_
    refine Walk.op rfl (Spec.move (Has.s rfl)) ?_
    refine Walk.op rfl (Spec.move (Has.s rfl)) ?_
    refine Walk.op rfl (Spec.lit (xs := [.tmp 29, .tmp 30]) (T := [0]) 14 rfl ow27 rfl rfl rfl rfl (HasEach.cons (Has.m (Has.s rfl) rfl) (HasEach.cons (Has.m (Has.s rfl) rfl) HasEach.nil))) ?_
    obtain ⟨x5, hx5, hm⟩ := bind_some hm
    refine Walk.append (te' := [0, 14]) 13 hx5 rfl rfl ow27 (Has.s rfl) rfl (Has.s rfl) (ElKeep.tags rfl rfl) (ElKeep.tags rfl rfl) ?_
    obtain ⟨x6, hx6, hm⟩ := bind_some hm
    refine Walk.op rfl (Spec.callN [0, 13, 14] 15 rfl en10 (fold_Fold_c x5 hx6) (HasAll.cons (Has.m (Has.own (Has.s rfl) rfl) rfl) HasAll.nil)) ?_
    refine Walk.op rfl (Spec.move (Has.s rfl)) ?_
    refine Walk.op rfl (Spec.ext0 (Has.s rfl)) ?_
    refine Walk.op rfl ((Spec.ext1 (Has.s rfl)).flat (T' := [])) ?_
    refine Walk.op rfl (Spec.assign (Has.s rfl)) ?_
    refine Walk.op rfl (Spec.assign (Has.s rfl)) ?_
    refine Walk.nil ?_
    refine Leaf.thenN ?_
    refine CWalk.seq ?_
    refine CWalk.region ?_
    refine Walk.op rfl (Spec.move (Has.s rfl)) ?_
    obtain ⟨x7, hx7, hm⟩ := bind_some hm
    refine Walk.appendNil (te' := [0]) 16 hx7 rfl rfl ow27 (Has.s rfl) (ElKeep.tags rfl rfl) ?_
    refine Walk.op rfl (Spec.lit (xs := [.const (.slice none 0 0)]) (T := []) 17 rfl ow27 rfl rfl rfl rfl (HasEach.cons (Has.m (Has.nil UInt8) rfl) HasEach.nil)) ?_
    obtain ⟨x8, hx8, hm⟩ := bind_some hm
    refine Walk.append (te' := [0, 17]) 16 hx8 rfl rfl ow27 (Has.s rfl) rfl (Has.s rfl) (ElKeep.tags rfl rfl) (ElKeep.tags rfl rfl) ?_
    obtain ⟨x9, hx9, hm⟩ := bind_some hm
    refine Walk.op rfl (Spec.callN [0, 16, 17] 18 rfl en10 (fold_Fold_c x8 hx9) (HasAll.cons (Has.m (Has.own (Has.s rfl) rfl) rfl) HasAll.nil)) ?_
    refine Walk.op rfl (Spec.move (Has.s rfl)) ?_
    refine Walk.op rfl (Spec.ext0 (Has.s rfl)) ?_
    refine Walk.op rfl ((Spec.ext1 (Has.s rfl)).flat (T' := [])) ?_
    refine Walk.op rfl (Spec.assign (Has.s rfl)) ?_
    refine Walk.op rfl (Spec.assign (Has.s rfl)) ?_
    refine Walk.nil ?_
    refine Leaf.thenN ?_
    refine CWalk.seq ?_
    refine CWalk.seq ?_
    refine CWalk.region ?_
    refine Walk.op rfl (Spec.move (Has.s rfl)) ?_
    refine Walk.op rfl (Spec.neqI (Has.s rfl) Has.int) ?_
    refine Walk.nil ?_
    refine Leaf.thenN ?_
    refine CWalk.cond rfl (fun hb => ?_) (fun hb => ?_)
    · have hm := cond_t hb hm
      refine CWalk.seq ?_
      refine CWalk.region ?_
      refine Walk.op rfl (Spec.move (Has.s rfl)) ?_
      refine Walk.op rfl (Spec.move (Has.s rfl)) ?_
      refine Walk.opg rfl rfl rfl (fun hb => Spec.move (Has.s rfl)) ?_
      refine Walk.opg rfl rfl rfl (fun hb => Spec.neqI (Has.u rfl hb) Has.int) ?_
      refine Walk.op rfl (Spec.and (Has.s rfl) (fun h => Has.u rfl h)) ?_
      refine Walk.op rfl (Spec.move (Has.s rfl)) ?_
      refine Walk.opg rfl rfl rfl (fun hb => Spec.move (Has.s rfl)) ?_
      refine Walk.opg rfl rfl rfl (fun hb => Spec.neqI (Has.u rfl hb) Has.int) ?_
      refine Walk.op rfl (Spec.and (Has.s rfl) (fun h => Has.u rfl h)) ?_
      refine Walk.op rfl (Spec.assign (Has.s rfl)) ?_
      refine Walk.nil ?_
      refine Leaf.thenN ?_
      refine CWalk.ret ?_
      refine Leaf.thenR ?_
      obtain rfl := Option.some.inj hm
      exact Leaf.ret1 rfl (Has.fl (Has.s rfl))
    · have hm := cond_f hb hm
      refine CWalk.skip ?_
      refine Leaf.thenN ?_
      refine CWalk.seq ?_
      refine CWalk.seq ?_
      refine CWalk.region ?_
      refine Walk.op rfl (Spec.move (Has.s rfl)) ?_
      refine Walk.op rfl (Spec.len (Has.s rfl) Try.underlying27) ?_
      refine Walk.op rfl (Spec.lssI (Has.s rfl) Has.int) ?_
      refine Walk.op rfl (Spec.move (Has.s rfl)) ?_
      refine Walk.opg rfl rfl rfl (fun hb => Spec.move (Has.s rfl)) ?_
      refine Walk.opg rfl rfl rfl (fun hb => Spec.neqI (Has.u rfl hb) Has.int) ?_
      refine Walk.opg rfl rfl rfl (fun hb => Spec.move (Has.u rfl hb)) ?_
      refine Walk.opgu rfl rfl rfl (fun hb => Spec.move (Has.s rfl)) ?_
      refine Walk.opgu rfl rfl rfl (fun hb => Spec.toStr Try.underlying22 Try.underlying5 Try.underlying9 (Has.u rfl hb)) ?_
      refine Walk.opgu rfl rfl rfl (fun hb => Spec.move (Has.s rfl)) ?_
      refine Walk.opgu rfl rfl rfl (fun hb => Spec.toStr Try.underlying22 Try.underlying5 Try.underlying9 (Has.u rfl hb)) ?_
      refine Walk.opgu rfl rfl rfl (fun hb => Spec.neqS (Has.u rfl hb) (Has.u rfl hb)) ?_
      refine Walk.opg rfl rfl rfl (fun hb => Spec.or (Has.u rfl hb) (fun h => Has.u rfl ⟨hb, h⟩)) ?_
      refine Walk.op rfl (Spec.and (Has.s rfl) (fun h => Has.u rfl h)) ?_
      refine Walk.nil ?_
      refine Leaf.thenN ?_
      refine CWalk.cond rfl (fun hb => ?_) (fun hb => ?_)
      · have hm := cond_t hb hm
        refine CWalk.seq ?_
        refine CWalk.region ?_
        refine Walk.op rfl (Spec.assign Has.bool) ?_
        refine Walk.nil ?_
        refine Leaf.thenN ?_
        refine CWalk.ret ?_
        refine Leaf.thenR ?_
        obtain rfl := Option.some.inj hm
        exact Leaf.ret1 rfl (Has.fl (Has.s rfl))
      · have hm := cond_f hb hm
        refine CWalk.skip ?_
        refine Leaf.thenN ?_
        refine CWalk.seq ?_
        refine CWalk.seq ?_
        refine CWalk.region ?_
        refine Walk.op rfl (Spec.move (Has.s rfl)) ?_
        refine Walk.op rfl (Spec.neqI (Has.s rfl) Has.int) ?_
        refine Walk.nil ?_
        refine Leaf.thenN ?_
        refine CWalk.cond rfl (fun hb => ?_) (fun hb => ?_)
        · have hm := cond_t hb hm
          refine CWalk.seq ?_
          refine CWalk.region ?_
          refine Walk.op rfl (Spec.move (Has.s rfl)) ?_
          refine Walk.op rfl (Spec.move (Has.s rfl)) ?_
          refine Walk.opg rfl rfl rfl (fun hb => Spec.move (Has.s rfl)) ?_
          refine Walk.opg rfl rfl rfl (fun hb => Spec.len (Has.u rfl hb) Try.underlying27) ?_
          refine Walk.opg rfl rfl rfl (fun hb => Spec.gtrI (Has.u rfl hb) Has.int) ?_
          refine Walk.opg rfl rfl rfl (fun hb => Spec.move (Has.u rfl hb)) ?_
          refine Walk.opgu rfl rfl rfl (fun hb => Spec.move (Has.s rfl)) ?_
          refine Walk.opgu rfl rfl rfl (fun hb => Spec.eqlI (Has.u rfl hb) Has.int) ?_
          refine Walk.opg rfl rfl rfl (fun hb => Spec.and (Has.u rfl hb) (fun h => Has.u rfl ⟨hb, h⟩)) ?_
          refine Walk.opg rfl rfl rfl (fun hb => Spec.move (Has.u rfl hb)) ?_
          refine Walk.opgu rfl rfl rfl (fun hb => Spec.move (Has.s rfl)) ?_
          refine Walk.opgu rfl rfl rfl (fun hb => Spec.len (Has.u rfl hb) Try.underlying27) ?_
          refine Walk.opgu rfl rfl rfl (fun hb => Spec.leqI (Has.u rfl hb) Has.int) ?_
          refine Walk.opgu rfl rfl rfl (fun hb => Spec.move (Has.u rfl hb)) ?_
          refine Walk.opgu rfl rfl rfl (fun hb => Spec.move (Has.s rfl)) ?_
          refine Walk.opgu rfl rfl rfl (fun hb => Spec.eqlI (Has.u rfl hb) Has.int) ?_
          refine Walk.opgu rfl rfl rfl (fun hb => Spec.and (Has.u rfl hb) (fun h => Has.u rfl ⟨hb, h⟩)) ?_
          refine Walk.opgu rfl rfl rfl (fun hb => Spec.move (Has.u rfl hb)) ?_
          refine Walk.opgu rfl rfl rfl (fun hb => Spec.move (Has.s rfl)) ?_
          refine Walk.opgu rfl rfl rfl (fun hb => Spec.len (Has.u rfl hb) Try.underlying22) ?_
          refine Walk.opgu rfl rfl rfl (fun hb => Spec.neqI (Has.u rfl hb) Has.int) ?_
          refine Walk.opgu rfl rfl rfl (fun hb => Spec.and (Has.u rfl hb) (fun h => Has.u rfl ⟨hb, h⟩)) ?_
          refine Walk.opgu rfl rfl rfl (fun hb => Spec.move (Has.u rfl hb)) ?_
          refine Walk.opgu rfl rfl rfl (fun hb => Spec.move (Has.s rfl)) ?_
          refine Walk.opgu rfl rfl rfl (fun hb => Spec.len (Has.u rfl hb) Try.underlying22) ?_
          refine Walk.opgu rfl rfl rfl (fun hb => Spec.neqI (Has.u rfl hb) Has.int) ?_
          refine Walk.opgu rfl rfl rfl (fun hb => Spec.and (Has.u rfl hb) (fun h => Has.u rfl ⟨hb, h⟩)) ?_
          refine Walk.opg rfl rfl rfl (fun hb => Spec.or (Has.u rfl hb) (fun h => Has.u rfl ⟨hb, h⟩)) ?_
          refine Walk.op rfl (Spec.and (Has.s rfl) (fun h => Has.u rfl h)) ?_
          refine Walk.op rfl (Spec.assign (Has.s rfl)) ?_
          refine Walk.nil ?_
          refine Leaf.thenN ?_
          refine CWalk.ret ?_
          refine Leaf.thenR ?_
          obtain rfl := Option.some.inj hm
          exact Leaf.ret1 rfl (Has.fl (Has.s rfl))
        · have hm := cond_f hb hm
          refine CWalk.skip ?_
          refine Leaf.thenN ?_
          refine CWalk.seq ?_
          refine CWalk.region ?_
          refine Walk.op rfl (Spec.move (Has.s rfl)) ?_
          refine Walk.op rfl (Spec.move (Has.s rfl)) ?_
          refine Walk.opg rfl rfl rfl (fun hb => Spec.move (Has.s rfl)) ?_
          refine Walk.opg rfl rfl rfl (fun hb => Spec.toStr Try.underlying22 Try.underlying5 Try.underlying9 (Has.u rfl hb)) ?_
          refine Walk.opg rfl rfl rfl (fun hb => Spec.move (Has.s rfl)) ?_
          refine Walk.opg rfl rfl rfl (fun hb => Spec.toStr Try.underlying22 Try.underlying5 Try.underlying9 (Has.u rfl hb)) ?_
          refine Walk.opg rfl rfl rfl (fun hb => Spec.eqlS (Has.u rfl hb) (Has.u rfl hb)) ?_
          refine Walk.op rfl (Spec.and (Has.s rfl) (fun h => Has.u rfl h)) ?_
          refine Walk.op rfl (Spec.assign (Has.s rfl)) ?_
          refine Walk.nil ?_
          refine Leaf.thenN ?_
          refine CWalk.ret ?_
          obtain rfl := Option.some.inj hm
          exact Leaf.ret1 rfl (Has.fl (Has.s rfl))

end Go.Proofs.Yteadgdpeiokplaa
