/- Printed by a program of ours: models of functions, and that calls do what they say. -/
import Derived.Test.YtdkmkalddgplmaaGdr1
namespace Go.Proofs.Ytdkmkalddgplmaa
open Go GL
set_option linter.unusedVariables false

def law04_DiskReads_J2 (s4 : Int) (j17 : Int) (j18 : List (List UInt8)) (j19 : List Write) (j20 : Bool) (j21 : UInt8) (j22 : UInt8) (j23 : UInt8) (j24 : UInt8) (j25 : UInt8) (j26 : UInt8) (j27 : UInt8) (j28 : UInt8) : Option (Ctl (Int × Int × (List (List UInt8)) × (List Write) × Bool × UInt8 × UInt8 × UInt8 × UInt8 × UInt8 × UInt8 × UInt8 × UInt8) (Int × (List (List UInt8)) × (List Write) × Bool × UInt8 × UInt8 × UInt8 × UInt8 × UInt8 × UInt8 × UInt8 × UInt8)) :=
  some (Ctl.next (j17, (wI (s4 + (1 : Int))), j18, j19, j20, j21, j22, j23, j24, j25, j26, j27, j28))
def law04_DiskReads_L1 (a0 : List Op55) (s3 : Int) (s4 : Int) (s5 : List (List UInt8)) (s6 : List Write) (s7 : Bool) (s8 : UInt8) (s9 : UInt8) (s10 : UInt8) (s11 : UInt8) (s12 : UInt8) (s13 : UInt8) (s14 : UInt8) (s15 : UInt8) : Option (Ctl (Int × Int × (List (List UInt8)) × (List Write) × Bool × UInt8 × UInt8 × UInt8 × UInt8 × UInt8 × UInt8 × UInt8 × UInt8) (Int × (List (List UInt8)) × (List Write) × Bool × UInt8 × UInt8 × UInt8 × UInt8 × UInt8 × UInt8 × UInt8 × UInt8)) :=
  (bif ((decide (s4 < ((a0).length : Int))) && (s3 == (0 : Int))) then Option.bind (idx a0 s4) (fun x29 => Option.bind (remI (wI (x29.At.toNat : Int)) (4 : Int)) (fun x30 => Option.bind (idx a0 s4) (fun x31 => Option.bind (remB x31.Kind (3 : UInt8)) (fun x32 => (bif (x32 == (0 : UInt8)) then Option.bind (idx a0 s4) (fun x33 => Option.bind (law04_full x33.Byte) (fun x34 => Option.bind (disk_Write (Disk.mk s5 s6 s7) x30 x34) (fun x35 => Option.bind (idx a0 s4) (fun x36 => Option.bind (bnd 4 x30) (fun x37 => (law04_DiskReads_J2 s4 x35.2 x35.1.Blocks x35.1.Wait x35.1.Dead (bif Nat.beq x37 0 then x36.Byte else s8) (bif Nat.beq x37 1 then x36.Byte else s9) (bif Nat.beq x37 2 then x36.Byte else s10) (bif Nat.beq x37 3 then x36.Byte else s11) s12 s13 s14 s15)))))) else (bif (x32 == (1 : UInt8)) then Option.bind (idx a0 s4) (fun x38 => Option.bind (law04_full x38.Byte) (fun x39 => Option.bind (disk_Fua (Disk.mk s5 s6 s7) x30 x39) (fun x40 => Option.bind (idx a0 s4) (fun x41 => Option.bind (bnd 4 x30) (fun x42 => Option.bind (idx a0 s4) (fun x43 => Option.bind (bnd 4 x30) (fun x44 => (law04_DiskReads_J2 s4 x40.2 x40.1.Blocks x40.1.Wait x40.1.Dead (bif Nat.beq x42 0 then x41.Byte else s8) (bif Nat.beq x42 1 then x41.Byte else s9) (bif Nat.beq x42 2 then x41.Byte else s10) (bif Nat.beq x42 3 then x41.Byte else s11) (bif Nat.beq x44 0 then x43.Byte else s12) (bif Nat.beq x44 1 then x43.Byte else s13) (bif Nat.beq x44 2 then x43.Byte else s14) (bif Nat.beq x44 3 then x43.Byte else s15))))))))) else Option.bind (disk_Flush (Disk.mk s5 s6 s7)) (fun x45 => (law04_DiskReads_J2 s4 x45.2 x45.1.Blocks x45.1.Wait x45.1.Dead s8 s9 s10 s11 s8 s9 s10 s11)))))))) else some (Ctl.brk (s3, s5, s6, s7, s8, s9, s10, s11, s12, s13, s14, s15)))
def law04_DiskReads_L3 (b46 : Int × (List (List UInt8)) × (List Write) × Bool × UInt8 × UInt8 × UInt8 × UInt8 × UInt8 × UInt8 × UInt8 × UInt8) (s48 : Int) : Option (Ctl (Int) ((Unit) ⊕ (Unit))) :=
  (bif (decide (s48 < (4 : Int))) then Option.bind (bnd 4 s48) (fun x50 => Option.bind ((([b46.2.2.2.2.1, b46.2.2.2.2.2.1, b46.2.2.2.2.2.2.1, b46.2.2.2.2.2.2.2.1] : List UInt8))[x50]?) (fun x51 => Option.bind (law04_reads (Disk.mk b46.2.1 b46.2.2.1 b46.2.2.2.1) s48 x51) (fun x52 => Option.bind (gO (!(!x52)) (bnd 4 s48)) (fun x53 => Option.bind (gO (!(!x52)) ((([b46.2.2.2.2.2.2.2.2.1, b46.2.2.2.2.2.2.2.2.2.1, b46.2.2.2.2.2.2.2.2.2.2.1, b46.2.2.2.2.2.2.2.2.2.2.2] : List UInt8))[x53]?)) (fun x54 => Option.bind (gO (!(!x52)) (law04_lasts (Disk.mk b46.2.1 b46.2.2.1 b46.2.2.2.1) s48 x54)) (fun x55 => (bif ((!x52) || (!x55)) then some (Ctl.brk (Sum.inr ())) else some (Ctl.next (wI (s48 + (1 : Int))))))))))) else some (Ctl.brk (Sum.inl ())))
/-- freeboard/freeboardlaw04.DiskReads -/
def law04_DiskReads (a0 : List Op55) (a1 : Bool) : Option (Bool) :=
  Option.bind (law04_alive) (fun x1 => (bif ((decide (((a0).length : Int) > (100 : Int))) || (!x1)) then some x1 else Option.bind (disk_New (4 : Int)) (fun x2 => Option.bind (loopM (fun s : Int × Int × (List (List UInt8)) × (List Write) × Bool × UInt8 × UInt8 × UInt8 × UInt8 × UInt8 × UInt8 × UInt8 × UInt8 => law04_DiskReads_L1 a0 s.1 s.2.1 s.2.2.1 s.2.2.2.1 s.2.2.2.2.1 s.2.2.2.2.2.1 s.2.2.2.2.2.2.1 s.2.2.2.2.2.2.2.1 s.2.2.2.2.2.2.2.2.1 s.2.2.2.2.2.2.2.2.2.1 s.2.2.2.2.2.2.2.2.2.2.1 s.2.2.2.2.2.2.2.2.2.2.2.1 s.2.2.2.2.2.2.2.2.2.2.2.2) FUEL (x2.2, (0 : Int), x2.1.Blocks, x2.1.Wait, x2.1.Dead, (0 : UInt8), (0 : UInt8), (0 : UInt8), (0 : UInt8), (0 : UInt8), (0 : UInt8), (0 : UInt8), (0 : UInt8))) (fun b46 => Option.bind (gO (!(b46.1 != (0 : Int))) (disk_Check (Disk.mk b46.2.1 b46.2.2.1 b46.2.2.2.1))) (fun x47 => (bif ((b46.1 != (0 : Int)) || (x47 != (0 : Int))) then some false else Option.bind (loopM (fun s : Int => law04_DiskReads_L3 b46 s) FUEL (0 : Int)) (fun b56 => Sum.elim (fun b57 => Option.bind (gO (!(!a1)) (law04_gone (Disk.mk b46.2.1 b46.2.2.1 b46.2.2.2.1))) (fun x58 => some ((!a1) || x58))) (fun b59 => some false) b56)))))))
set_option maxRecDepth 100000 in
set_option maxHeartbeats 2000000 in
theorem law04_DiskReads_c (a0 : List Op55) (a1 : Bool) {r : Bool} (hm : law04_DiskReads a0 a1 = some r) : Ctr Try.prog 8 [.rep 0 a0, .rep 0 a1] (.fl r) [] := by
 refine ctr_of_walk [[]] 137 Try.func8 rfl rfl rfl rfl (fun w0 om => ?_)
 unfold law04_DiskReads at hm
 refine CWalk.sub (G' := [.fact 0 (.rep [0] (a0 : List Op55)), .fact 1 (.rep [] (a1 : Bool))]) (sn (Sub.cons (Has.fl (Has.s rfl)) Sub.nil)) ?_
 refine CWalk.seq ?_
 refine CWalk.region ?_
 refine wo (Spec.assign Has.bool) ?_
 refine Walk.nil ?_
 refine Leaf.thenN ?_
 refine CWalk.seq ?_
 refine CWalk.region ?_
 obtain ⟨x1, hx1, hm⟩ := bind_some hm
 refine wo (f := Fact.rep [] (x1 : Bool)) (Spec.callE [] 10 rfl en31 (law04_alive_c  hx1) HasAll.nil) ?_
 refine wo (Spec.assign (Has.s rfl)) ?_
 refine Walk.nil ?_
 refine Leaf.thenN ?_
 refine CWalk.seq ?_
 refine CWalk.seq ?_
 refine CWalk.region ?_
 refine mv ?_
 refine wo (Spec.len (Has.s rfl) Try.underlying52) ?_
 refine wo (Spec.gtrI (Has.s rfl) Has.int) ?_
 refine mv ?_
 refine wg rfl rfl (fun hb => Spec.move (Has.s rfl)) ?_
 refine wg rfl rfl (fun hb => Spec.not (Has.u rfl hb)) ?_
 refine wo (Spec.or (Has.s rfl) (fun h => Has.u rfl h)) ?_
 refine Walk.nil ?_
 refine Leaf.thenN ?_
 refine CWalk.cond rfl (fun hb => ?_) (fun hb => ?_)
 ·have hm := cond_t hb hm
  refine CWalk.seq ?_
  refine CWalk.region ?_
  refine mv ?_
  refine wo (Spec.assign (Has.s rfl)) ?_
  refine Walk.nil ?_
  refine Leaf.thenN ?_
  refine CWalk.ret ?_
  refine Leaf.thenR ?_
  obtain rfl := Option.some.inj hm
  exact Leaf.retC1 rfl (HasR.cv (HasR.tmp (Has.s rfl)) Cv.fl)
 ·have hm := cond_f hb hm
  refine CWalk.skip ?_
  refine Leaf.thenN ?_
  refine CWalk.seq ?_
  refine CWalk.region ?_
  obtain ⟨x2, hx2, hm⟩ := bind_some hm
  refine wo (f := Fact.tup2 (Fact.flds [(false, 1, Fact.ow [11] [] 28 (x2.1.Blocks : List (List UInt8))), (false, 1, Fact.ow [11] [] 59 (x2.1.Wait : List Write)), (false, 1, Fact.rep [] x2.1.Dead)]) (Fact.rep [] x2.2)) (Spec.callE [] 11 rfl en15 (disk_New_c (4 : Int) hx2) (HasAll.cons (Has.fl Has.int) HasAll.nil)) ?_
  refine mv ?_
  refine wo (Spec.ext0 (Has.s rfl)) ?_
  refine wo (Spec.ext1 (Has.s rfl)) ?_
  refine ws (Step.allocObj (ls := [(false, 1, Fact.nilv), (false, 1, Fact.nilv), (false, 1, Fact.rep [] (false : Bool))]) 12 rfl rfl rfl rfl zl25) ?_
  refine ws (Step.storeObj (ls := [(false, 1, Fact.ow [11] [] 28 (x2.1.Blocks : List (List UInt8))), (false, 1, Fact.ow [11] [] 59 (x2.1.Wait : List Write)), (false, 1, Fact.rep [] x2.1.Dead)]) rfl ty25 rfl rfl (Has.s rfl) rfl (HasL.flds (Has.s rfl)) rfl) ?_
  refine wo (Spec.assign (Has.s rfl)) ?_
  refine Walk.nil ?_
  refine Leaf.thenN ?_
  refine CWalk.seq ?_
  refine CWalk.region ?_
  refine ws (Step.allocObj (ls := [(false, 1, Fact.rep [] ((0 : UInt8) : UInt8)), (false, 1, Fact.rep [] ((0 : UInt8) : UInt8)), (false, 1, Fact.rep [] ((0 : UInt8) : UInt8)), (false, 1, Fact.rep [] ((0 : UInt8) : UInt8))]) 16 rfl rfl rfl rfl zl53) ?_
  refine ws (Step.allocObj (ls := [(false, 1, Fact.rep [] ((0 : UInt8) : UInt8)), (false, 1, Fact.rep [] ((0 : UInt8) : UInt8)), (false, 1, Fact.rep [] ((0 : UInt8) : UInt8)), (false, 1, Fact.rep [] ((0 : UInt8) : UInt8))]) 21 rfl rfl rfl rfl zl53) ?_
  refine Walk.nil ?_
  refine Leaf.thenN ?_
  refine CWalk.seq ?_
  refine CWalk.seq ?_
  refine CWalk.region ?_
  refine wo (Spec.assign Has.int) ?_
  refine Walk.nil ?_
  refine Leaf.thenN ?_
  refine CWalk.block ?_
  obtain ⟨b46, hb46, hm⟩ := bind_some hm
  refine CWalk.loop (fun s : Int × Int × (List (List UInt8)) × (List Write) × Bool × UInt8 × UInt8 × UInt8 × UInt8 × UInt8 × UInt8 × UInt8 × UInt8 => [.fact 0 (.rep [0] (a0 : List Op55)), .fact 1 (.rep [] (a1 : Bool)), .fact 6 (.isv 12), .fact 7 (.rep [] s.1), .fact 8 (.isv 16), .fact 9 (.isv 21), .fact 10 (.rep [] s.2.1), .fact 100013 (.at 13 (.ow [11, 27, 32, 36] [28, 33, 37] 28 (s.2.2.1 : List (List UInt8)))), .fact 100014 (.at 14 (.ow [11, 29, 34, 38] [30, 35, 39] 59 (s.2.2.2.1 : List Write))), .fact 100015 (.at 15 (.rep [] s.2.2.2.2.1)), .fact 100017 (.at 17 (.rep [] s.2.2.2.2.2.1)), .fact 100018 (.at 18 (.rep [] s.2.2.2.2.2.2.1)), .fact 100019 (.at 19 (.rep [] s.2.2.2.2.2.2.2.1)), .fact 100020 (.at 20 (.rep [] s.2.2.2.2.2.2.2.2.1)), .fact 100022 (.at 22 (.rep [] s.2.2.2.2.2.2.2.2.2.1)), .fact 100023 (.at 23 (.rep [] s.2.2.2.2.2.2.2.2.2.2.1)), .fact 100024 (.at 24 (.rep [] s.2.2.2.2.2.2.2.2.2.2.2.1)), .fact 100025 (.at 25 (.rep [] s.2.2.2.2.2.2.2.2.2.2.2.2)), .fact 100012 (.obj 12 [(false, 1), (false, 1), (false, 1)]), .fact 100016 (.obj 16 [(false, 1), (false, 1), (false, 1), (false, 1)]), .fact 100021 (.obj 21 [(false, 1), (false, 1), (false, 1), (false, 1)])]) (fun b : Int × (List (List UInt8)) × (List Write) × Bool × UInt8 × UInt8 × UInt8 × UInt8 × UInt8 × UInt8 × UInt8 × UInt8 => (Exit.exit 0, [.fact 1 (.rep [] (a1 : Bool)), .fact 6 (.isv 12), .fact 7 (.rep [] b.1), .fact 8 (.isv 16), .fact 9 (.isv 21), .fact 100013 (.at 13 (.ow [11, 27, 32, 36] [28, 33, 37] 28 (b.2.1 : List (List UInt8)))), .fact 100014 (.at 14 (.ow [11, 29, 34, 38] [30, 35, 39] 59 (b.2.2.1 : List Write))), .fact 100015 (.at 15 (.rep [] b.2.2.2.1)), .fact 100017 (.at 17 (.rep [] b.2.2.2.2.1)), .fact 100018 (.at 18 (.rep [] b.2.2.2.2.2.1)), .fact 100019 (.at 19 (.rep [] b.2.2.2.2.2.2.1)), .fact 100020 (.at 20 (.rep [] b.2.2.2.2.2.2.2.1)), .fact 100022 (.at 22 (.rep [] b.2.2.2.2.2.2.2.2.1)), .fact 100023 (.at 23 (.rep [] b.2.2.2.2.2.2.2.2.2.1)), .fact 100024 (.at 24 (.rep [] b.2.2.2.2.2.2.2.2.2.2.1)), .fact 100025 (.at 25 (.rep [] b.2.2.2.2.2.2.2.2.2.2.2)), .fact 100012 (.obj 12 [(false, 1), (false, 1), (false, 1)]), .fact 100016 (.obj 16 [(false, 1), (false, 1), (false, 1), (false, 1)]), .fact 100021 (.obj 21 [(false, 1), (false, 1), (false, 1), (false, 1)])])) hb46 (su (st (sn (st (sn (sn (st (Sub.cons (Has.at (HasG.cv (HasG.s rfl) (Cv.owM (T := [11]) (te := []) rfl rfl))) (Sub.cons (Has.at (HasG.cv (HasG.s rfl) (Cv.owM (T := [11]) (te := []) rfl rfl))) (sf (sf (sf (sf (sf (sf (sf (sf (sf (sn (sn (sn Sub.nil))))))))))))))))))))) ?_ ?_
  ·rintro ⟨s3, s4, s5, s6, s7, s8, s9, s10, s11, s12, s13, s14, s15⟩ c16 hm
   replace hm : law04_DiskReads_L1 a0 s3 s4 s5 s6 s7 s8 s9 s10 s11 s12 s13 s14 s15 = some c16 := hm
   unfold law04_DiskReads_L1 at hm
   show CWalk _ [.fact 0 (.rep [0] (a0 : List Op55)), .fact 1 (.rep [] (a1 : Bool)), .fact 6 (.isv 12), .fact 7 (.rep [] (s3 : Int)), .fact 8 (.isv 16), .fact 9 (.isv 21), .fact 10 (.rep [] (s4 : Int)), .fact 100013 (.at 13 (.ow [11, 27, 32, 36] [28, 33, 37] 28 (s5 : List (List UInt8)))), .fact 100014 (.at 14 (.ow [11, 29, 34, 38] [30, 35, 39] 59 (s6 : List Write))), .fact 100015 (.at 15 (.rep [] (s7 : Bool))), .fact 100017 (.at 17 (.rep [] (s8 : UInt8))), .fact 100018 (.at 18 (.rep [] (s9 : UInt8))), .fact 100019 (.at 19 (.rep [] (s10 : UInt8))), .fact 100020 (.at 20 (.rep [] (s11 : UInt8))), .fact 100022 (.at 22 (.rep [] (s12 : UInt8))), .fact 100023 (.at 23 (.rep [] (s13 : UInt8))), .fact 100024 (.at 24 (.rep [] (s14 : UInt8))), .fact 100025 (.at 25 (.rep [] (s15 : UInt8))), .fact 100012 (.obj 12 [(false, 1), (false, 1), (false, 1)]), .fact 100016 (.obj 16 [(false, 1), (false, 1), (false, 1), (false, 1)]), .fact 100021 (.obj 21 [(false, 1), (false, 1), (false, 1), (false, 1)])] _ _
   refine CWalk.seq ?_
   refine CWalk.seq ?_
   refine CWalk.region ?_
   refine mv ?_
   refine mv ?_
   refine wo (Spec.len (Has.s rfl) Try.underlying52) ?_
   refine wo (Spec.lssI (Has.s rfl) (Has.s rfl)) ?_
   refine mv ?_
   refine wg rfl rfl (fun hb => Spec.move (Has.s rfl)) ?_
   refine wg rfl rfl (fun hb => Spec.eqlI (Has.u rfl hb) Has.int) ?_
   refine wo (Spec.and (Has.s rfl) (fun h => Has.u rfl h)) ?_
   refine Walk.nil ?_
   refine Leaf.thenN ?_
   refine CWalk.cond rfl (fun hb => ?_) (fun hb => ?_)
   ·have hm := cond_t hb hm
    refine CWalk.skip ?_
    refine Leaf.thenN ?_
    refine CWalk.seqJ (fun p : Int × (List (List UInt8)) × (List Write) × Bool × UInt8 × UInt8 × UInt8 × UInt8 × UInt8 × UInt8 × UInt8 × UInt8 => [.fact 0 (.rep [0] (a0 : List Op55)), .fact 1 (.rep [] (a1 : Bool)), .fact 6 (.isv 12), .fact 7 (.rep [] p.1), .fact 8 (.isv 16), .fact 9 (.isv 21), .fact 10 (.rep [] (s4 : Int)), .fact 100013 (.at 13 (.ow [27, 32, 36] [28, 33, 37] 28 (p.2.1 : List (List UInt8)))), .fact 100014 (.at 14 (.ow [29, 34, 38] [30, 35, 39] 59 (p.2.2.1 : List Write))), .fact 100015 (.at 15 (.rep [] p.2.2.2.1)), .fact 100017 (.at 17 (.rep [] p.2.2.2.2.1)), .fact 100018 (.at 18 (.rep [] p.2.2.2.2.2.1)), .fact 100019 (.at 19 (.rep [] p.2.2.2.2.2.2.1)), .fact 100020 (.at 20 (.rep [] p.2.2.2.2.2.2.2.1)), .fact 100022 (.at 22 (.rep [] p.2.2.2.2.2.2.2.2.1)), .fact 100023 (.at 23 (.rep [] p.2.2.2.2.2.2.2.2.2.1)), .fact 100024 (.at 24 (.rep [] p.2.2.2.2.2.2.2.2.2.2.1)), .fact 100025 (.at 25 (.rep [] p.2.2.2.2.2.2.2.2.2.2.2)), .fact 100012 (.obj 12 [(false, 1), (false, 1), (false, 1)]), .fact 100016 (.obj 16 [(false, 1), (false, 1), (false, 1), (false, 1)]), .fact 100021 (.obj 21 [(false, 1), (false, 1), (false, 1), (false, 1)])]) (fun p : Int × (List (List UInt8)) × (List Write) × Bool × UInt8 × UInt8 × UInt8 × UInt8 × UInt8 × UInt8 × UInt8 × UInt8 => law04_DiskReads_J2 s4 p.1 p.2.1 p.2.2.1 p.2.2.2.1 p.2.2.2.2.1 p.2.2.2.2.2.1 p.2.2.2.2.2.2.1 p.2.2.2.2.2.2.2.1 p.2.2.2.2.2.2.2.2.1 p.2.2.2.2.2.2.2.2.2.1 p.2.2.2.2.2.2.2.2.2.2.1 p.2.2.2.2.2.2.2.2.2.2.2 = some c16) ?_ ?_
    ·rintro ⟨j17, j18, j19, j20, j21, j22, j23, j24, j25, j26, j27, j28⟩ hm
     replace hm : law04_DiskReads_J2 s4 j17 j18 j19 j20 j21 j22 j23 j24 j25 j26 j27 j28 = some c16 := hm
     unfold law04_DiskReads_J2 at hm
     show CWalk _ [.fact 0 (.rep [0] (a0 : List Op55)), .fact 1 (.rep [] (a1 : Bool)), .fact 6 (.isv 12), .fact 7 (.rep [] (j17 : Int)), .fact 8 (.isv 16), .fact 9 (.isv 21), .fact 10 (.rep [] (s4 : Int)), .fact 100013 (.at 13 (.ow [27, 32, 36] [28, 33, 37] 28 (j18 : List (List UInt8)))), .fact 100014 (.at 14 (.ow [29, 34, 38] [30, 35, 39] 59 (j19 : List Write))), .fact 100015 (.at 15 (.rep [] (j20 : Bool))), .fact 100017 (.at 17 (.rep [] (j21 : UInt8))), .fact 100018 (.at 18 (.rep [] (j22 : UInt8))), .fact 100019 (.at 19 (.rep [] (j23 : UInt8))), .fact 100020 (.at 20 (.rep [] (j24 : UInt8))), .fact 100022 (.at 22 (.rep [] (j25 : UInt8))), .fact 100023 (.at 23 (.rep [] (j26 : UInt8))), .fact 100024 (.at 24 (.rep [] (j27 : UInt8))), .fact 100025 (.at 25 (.rep [] (j28 : UInt8))), .fact 100012 (.obj 12 [(false, 1), (false, 1), (false, 1)]), .fact 100016 (.obj 16 [(false, 1), (false, 1), (false, 1), (false, 1)]), .fact 100021 (.obj 21 [(false, 1), (false, 1), (false, 1), (false, 1)])] _ _
     refine CWalk.region ?_
     refine mv ?_
     refine wo (Spec.addI (Has.s rfl) Has.int) ?_
     refine wo (Spec.assign (Has.s rfl)) ?_
     refine Walk.nil ?_
     exact Leaf.next hm (su (st (sn (st (sn (sn (st (Sub.cons (Has.at (HasG.cv (HasG.s rfl) (Cv.owM (T := [27, 32, 36]) (te := [28, 33, 37]) rfl rfl))) (Sub.cons (Has.at (HasG.cv (HasG.s rfl) (Cv.owM (T := [29, 34, 38]) (te := [30, 35, 39]) rfl rfl))) (sf (sf (sf (sf (sf (sf (sf (sf (sf (sn (sn (sn Sub.nil)))))))))))))))))))))
    ·refine CWalk.block ?_
     refine CWalk.seq ?_
     refine CWalk.region ?_
     refine mv ?_
     refine mv ?_
     obtain ⟨x29, hx29, hm⟩ := bind_some hm
     refine wo (Spec.indexAddr hx29 sl52 (Has.s rfl) (Has.s rfl)) ?_
     refine wo (Spec.fieldAddrP fd55_1 (chOp55 x29) rfl (Has.s rfl)) ?_
     refine wo ((Spec.load ty5 (Has.s rfl)).flat (T' := [])) ?_
     refine wo (Spec.conv (α := UInt8) (β := Int) Try.underlying5 Try.underlying3 (Has.s rfl)) ?_
     obtain ⟨x30, hx30, hm⟩ := bind_some hm
     refine wo (Spec.remI hx30 (Has.s rfl) Has.int) ?_
     refine wo (Spec.assign (Has.s rfl)) ?_
     refine Walk.nil ?_
     refine Leaf.thenN ?_
     refine CWalk.seq ?_
     refine CWalk.region ?_
     refine mv ?_
     refine mv ?_
     obtain ⟨x31, hx31, hm⟩ := bind_some hm
     refine wo (Spec.indexAddr hx31 sl52 (Has.s rfl) (Has.s rfl)) ?_
     refine wo (Spec.fieldAddrP fd55_0 (chOp55 x31) rfl (Has.s rfl)) ?_
     refine wo ((Spec.load ty5 (Has.s rfl)).flat (T' := [])) ?_
     obtain ⟨x32, hx32, hm⟩ := bind_some hm
     refine wo (Spec.remB hx32 (Has.s rfl) (Has.u8 3 rfl)) ?_
     refine Walk.nil ?_
     refine Leaf.thenN ?_
     refine CWalk.block ?_
     refine CWalk.seq ?_
     refine CWalk.region ?_
     refine wo (Spec.eqlB (Has.s rfl) (Has.u8 0 rfl)) ?_
     refine wo (Spec.assign (Has.s rfl)) ?_
     refine Walk.nil ?_
     refine Leaf.thenN ?_
     refine CWalk.cond rfl (fun hb => ?_) (fun hb => ?_)
     ·have hm := cond_t hb hm
      refine CWalk.seq ?_
      obtain ⟨x33, hx33, hm⟩ := bind_some hm
      obtain ⟨x34, hx34, hm⟩ := bind_some hm
      obtain ⟨x35, hx35, hm⟩ := bind_some hm
      refine CWalk.drawM [[], [], [], [], [2, 3], [2, 3, 4], [2, 3, 4, 5], [2, 3, 4, 5, 6], [0, 1, 2, 3, 4, 5, 6, 7], [0, 1, 2, 3, 4, 5, 6, 7, 8], [0, 1, 2, 3, 4, 5, 6, 7, 8, 9], [0, 1, 2, 3, 4, 5, 6, 7, 8, 9], [0, 1, 2, 3, 4, 5, 6, 7, 8, 9, 10], [0, 1, 2, 3, 4, 5, 6, 7, 8, 9, 10, 11, 12]] [[.fact 58 (.flds [(false, 1, Fact.ow [11, 27, 32, 36] [28, 33, 37] 28 (s5 : List (List UInt8))), (false, 1, Fact.ow [11, 29, 34, 38] [30, 35, 39] 59 (s6 : List Write)), (false, 1, Fact.rep [] (s7 : Bool))])], [.fact 59 (.rep [] (x30 : Int))], [.fact 60 (.rep [0] (a0 : List Op55))], [.fact 61 (.rep [] (s4 : Int))], [.fact 62 (.ptr [0] (x33 : Op55))], [.fact 63 (.ptr [0] (x33.Byte : UInt8))], [.fact 64 (.rep [] x33.Byte)], [.fact 65 (.ow [26] [] 5 (x34 : List UInt8))], [.fact 66 (.tup2 (Fact.flds [(false, 1, Fact.ow [27] [28] 28 (x35.1.Blocks : List (List UInt8))), (false, 1, Fact.ow [29] [30] 59 (x35.1.Wait : List Write)), (false, 1, Fact.rep [] x35.1.Dead)]) (Fact.rep [] x35.2))], [.fact 57 (.tup2 (Fact.flds [(false, 1, Fact.ow [27] [28] 28 (x35.1.Blocks : List (List UInt8))), (false, 1, Fact.ow [29] [30] 59 (x35.1.Wait : List Write)), (false, 1, Fact.rep [] x35.1.Dead)]) (Fact.rep [] x35.2))], [.fact 67 (.flds [(false, 1, Fact.ow [27] [28] 28 (x35.1.Blocks : List (List UInt8))), (false, 1, Fact.ow [29] [30] 59 (x35.1.Wait : List Write)), (false, 1, Fact.rep [] x35.1.Dead)])], [.fact 68 (.rep [] x35.2)], [.fact 100012 (.obj 12 [(false, 1), (false, 1), (false, 1)]), .fact 100013 (.at 13 (.ow [27] [28] 28 (x35.1.Blocks : List (List UInt8)))), .fact 100014 (.at 14 (.ow [29] [30] 59 (x35.1.Wait : List Write))), .fact 100015 (.at 15 (.rep [] x35.1.Dead)), .kill 12, .killId 13, .killId 14, .killId 15], [.fact 7 (.rep [] x35.2)]] mixed (by kernel_rfl) (ao (so (Spec.loadObj (ls := [(false, 1, Fact.ow [11, 27, 32, 36] [28, 33, 37] 28 (s5 : List (List UInt8))), (false, 1, Fact.ow [11, 29, 34, 38] [30, 35, 39] 59 (s6 : List Write)), (false, 1, Fact.rep [] (s7 : Bool))]) ty25 rfl rfl (Has.s rfl) rfl (HasGs.cons (HasG.s rfl) (HasGs.cons (HasG.s rfl) (HasGs.cons (HasG.s rfl) HasGs.nil))))) (ao (so (Spec.move (Has.s rfl))) (ao (so (Spec.move (Has.s rfl))) (ao (so (Spec.move (Has.s rfl))) (ao (so (Spec.indexAddr hx33 sl52 (Has.s rfl) (Has.s rfl))) (ao (so (Spec.fieldAddrP fd55_2 (chOp55 x33) rfl (Has.s rfl))) (ao (so ((Spec.load ty5 (Has.s rfl)).flat (T' := []))) (ao (so (Spec.callE [] 26 rfl en32 (law04_full_c x33.Byte hx34) (HasAll.cons (Has.fl (Has.s rfl)) HasAll.nil))) (ao (so (Spec.callE [11, 26, 27, 28, 29, 30, 32, 33, 34, 35, 36, 37, 38, 39] 27 rfl en23 (disk_Write_c (Disk.mk s5 s6 s7) x30 x34 hx35) (HasAll.cons (Has.m (Has.cv (Has.s rfl) (Cv.trans (Cv.flds (CvL.cons (Cv.trans (Cv.trans Cv.owSl (Cv.slRep (T' := [11, 27, 28, 32, 33, 36, 37]) rfl rfl)) (Cv.m rfl)) (CvL.cons (Cv.trans (Cv.trans Cv.owSl (Cv.slRep (T' := [11, 29, 30, 34, 35, 38, 39]) rfl rfl)) (Cv.m rfl)) (CvL.cons Cv.fl CvL.nil)))) (Cv.close (T := [11, 27, 28, 29, 30, 32, 33, 34, 35, 36, 37, 38, 39]) (chDisk (Disk.mk s5 s6 s7))))) rfl) (HasAll.cons (Has.fl (Has.s rfl)) (HasAll.cons (Has.m (Has.cv (Has.s rfl) (Cv.trans Cv.owSl (Cv.slRep (T' := [26]) rfl rfl))) rfl) HasAll.nil))))) (ao (so (Spec.move (Has.s rfl))) (ao (so (Spec.ext0 (Has.s rfl))) (ao (so (Spec.ext1 (Has.s rfl))) (ao (StepG.stE (Step.storeObj (ls := [(false, 1, Fact.ow [27] [28] 28 (x35.1.Blocks : List (List UInt8))), (false, 1, Fact.ow [29] [30] 59 (x35.1.Wait : List Write)), (false, 1, Fact.rep [] x35.1.Dead)]) rfl ty25 rfl rfl (Has.s rfl) rfl (HasL.flds (Has.s rfl)) rfl)) (ao (so (Spec.assign (Has.s rfl))) AllM.nil)))))))))))))) ?_
      refine Leaf.thenN ?_
      refine CWalk.region ?_
      refine mv ?_
      refine mv ?_
      refine mv ?_
      obtain ⟨x36, hx36, hm⟩ := bind_some hm
      refine wo (Spec.indexAddr hx36 sl52 (Has.s rfl) (Has.s rfl)) ?_
      refine wo (Spec.fieldAddrP fd55_2 (chOp55 x36) rfl (Has.s rfl)) ?_
      refine wo ((Spec.load ty5 (Has.s rfl)).flat (T' := [])) ?_
      obtain ⟨x37, hx37, hm⟩ := bind_some hm
      refine wo (Spec.idxVar hx37 sm53 (Has.cv (Has.s rfl) (Cv.isvP rfl)) (Has.s rfl)) ?_
      refine ws (Step.storeV (T := []) (n := 4) (l := ([s8, s9, s10, s11] : List UInt8)) (y := x36.Byte) hx37 rfl ty5 rfl rfl rfl rfl (Has.s rfl) rfl (Has.s rfl) (HasVs.cons (HasG.s rfl) (HasVs.cons (HasG.s rfl) (HasVs.cons (HasG.s rfl) (HasVs.cons (HasG.s rfl) HasVs.nil))))) ?_
      refine Walk.nil ?_
      refine Leaf.blockN ?_
      refine Leaf.blockN ?_
      exact Leaf.join (x35.2, x35.1.Blocks, x35.1.Wait, x35.1.Dead, (bif Nat.beq x37 0 then x36.Byte else s8), (bif Nat.beq x37 1 then x36.Byte else s9), (bif Nat.beq x37 2 then x36.Byte else s10), (bif Nat.beq x37 3 then x36.Byte else s11), s12, s13, s14, s15) hm (su (st (sn (st (sn (sn (st (Sub.cons (Has.at (HasG.cv (HasG.s rfl) (Cv.owM (T := [27]) (te := [28]) rfl rfl))) (Sub.cons (Has.at (HasG.cv (HasG.s rfl) (Cv.owM (T := [29]) (te := [30]) rfl rfl))) (sf (sf (sf (sf (sf (sf (sf (sf (sf (sn (sn (sn Sub.nil)))))))))))))))))))))
     ·have hm := cond_f hb hm
      refine CWalk.seq ?_
      refine CWalk.region ?_
      refine wo (Spec.eqlB (Has.s rfl) (Has.u8 1 rfl)) ?_
      refine wo (Spec.assign (Has.s rfl)) ?_
      refine Walk.nil ?_
      refine Leaf.thenN ?_
      refine CWalk.cond rfl (fun hb => ?_) (fun hb => ?_)
      ·have hm := cond_t hb hm
       refine CWalk.seq ?_
       obtain ⟨x38, hx38, hm⟩ := bind_some hm
       obtain ⟨x39, hx39, hm⟩ := bind_some hm
       obtain ⟨x40, hx40, hm⟩ := bind_some hm
       refine CWalk.drawM [[], [], [], [], [2, 3], [2, 3, 4], [2, 3, 4, 5], [2, 3, 4, 5, 6], [0, 1, 2, 3, 4, 5, 6, 7], [0, 1, 2, 3, 4, 5, 6, 7, 8], [0, 1, 2, 3, 4, 5, 6, 7, 8, 9], [0, 1, 2, 3, 4, 5, 6, 7, 8, 9], [0, 1, 2, 3, 4, 5, 6, 7, 8, 9, 10], [0, 1, 2, 3, 4, 5, 6, 7, 8, 9, 10, 11, 12]] [[.fact 79 (.flds [(false, 1, Fact.ow [11, 27, 32, 36] [28, 33, 37] 28 (s5 : List (List UInt8))), (false, 1, Fact.ow [11, 29, 34, 38] [30, 35, 39] 59 (s6 : List Write)), (false, 1, Fact.rep [] (s7 : Bool))])], [.fact 80 (.rep [] (x30 : Int))], [.fact 81 (.rep [0] (a0 : List Op55))], [.fact 82 (.rep [] (s4 : Int))], [.fact 83 (.ptr [0] (x38 : Op55))], [.fact 84 (.ptr [0] (x38.Byte : UInt8))], [.fact 85 (.rep [] x38.Byte)], [.fact 86 (.ow [31] [] 5 (x39 : List UInt8))], [.fact 87 (.tup2 (Fact.flds [(false, 1, Fact.ow [32] [33] 28 (x40.1.Blocks : List (List UInt8))), (false, 1, Fact.ow [34] [35] 59 (x40.1.Wait : List Write)), (false, 1, Fact.rep [] x40.1.Dead)]) (Fact.rep [] x40.2))], [.fact 78 (.tup2 (Fact.flds [(false, 1, Fact.ow [32] [33] 28 (x40.1.Blocks : List (List UInt8))), (false, 1, Fact.ow [34] [35] 59 (x40.1.Wait : List Write)), (false, 1, Fact.rep [] x40.1.Dead)]) (Fact.rep [] x40.2))], [.fact 88 (.flds [(false, 1, Fact.ow [32] [33] 28 (x40.1.Blocks : List (List UInt8))), (false, 1, Fact.ow [34] [35] 59 (x40.1.Wait : List Write)), (false, 1, Fact.rep [] x40.1.Dead)])], [.fact 89 (.rep [] x40.2)], [.fact 100012 (.obj 12 [(false, 1), (false, 1), (false, 1)]), .fact 100013 (.at 13 (.ow [32] [33] 28 (x40.1.Blocks : List (List UInt8)))), .fact 100014 (.at 14 (.ow [34] [35] 59 (x40.1.Wait : List Write))), .fact 100015 (.at 15 (.rep [] x40.1.Dead)), .kill 12, .killId 13, .killId 14, .killId 15], [.fact 7 (.rep [] x40.2)]] mixed (by kernel_rfl) (ao (so (Spec.loadObj (ls := [(false, 1, Fact.ow [11, 27, 32, 36] [28, 33, 37] 28 (s5 : List (List UInt8))), (false, 1, Fact.ow [11, 29, 34, 38] [30, 35, 39] 59 (s6 : List Write)), (false, 1, Fact.rep [] (s7 : Bool))]) ty25 rfl rfl (Has.s rfl) rfl (HasGs.cons (HasG.s rfl) (HasGs.cons (HasG.s rfl) (HasGs.cons (HasG.s rfl) HasGs.nil))))) (ao (so (Spec.move (Has.s rfl))) (ao (so (Spec.move (Has.s rfl))) (ao (so (Spec.move (Has.s rfl))) (ao (so (Spec.indexAddr hx38 sl52 (Has.s rfl) (Has.s rfl))) (ao (so (Spec.fieldAddrP fd55_2 (chOp55 x38) rfl (Has.s rfl))) (ao (so ((Spec.load ty5 (Has.s rfl)).flat (T' := []))) (ao (so (Spec.callE [] 31 rfl en32 (law04_full_c x38.Byte hx39) (HasAll.cons (Has.fl (Has.s rfl)) HasAll.nil))) (ao (so (Spec.callE [11, 27, 28, 29, 30, 31, 32, 33, 34, 35, 36, 37, 38, 39] 32 rfl en25 (disk_Fua_c (Disk.mk s5 s6 s7) x30 x39 hx40) (HasAll.cons (Has.m (Has.cv (Has.s rfl) (Cv.trans (Cv.flds (CvL.cons (Cv.trans (Cv.trans Cv.owSl (Cv.slRep (T' := [11, 27, 28, 32, 33, 36, 37]) rfl rfl)) (Cv.m rfl)) (CvL.cons (Cv.trans (Cv.trans Cv.owSl (Cv.slRep (T' := [11, 29, 30, 34, 35, 38, 39]) rfl rfl)) (Cv.m rfl)) (CvL.cons Cv.fl CvL.nil)))) (Cv.close (T := [11, 27, 28, 29, 30, 32, 33, 34, 35, 36, 37, 38, 39]) (chDisk (Disk.mk s5 s6 s7))))) rfl) (HasAll.cons (Has.fl (Has.s rfl)) (HasAll.cons (Has.m (Has.cv (Has.s rfl) (Cv.trans Cv.owSl (Cv.slRep (T' := [31]) rfl rfl))) rfl) HasAll.nil))))) (ao (so (Spec.move (Has.s rfl))) (ao (so (Spec.ext0 (Has.s rfl))) (ao (so (Spec.ext1 (Has.s rfl))) (ao (StepG.stE (Step.storeObj (ls := [(false, 1, Fact.ow [32] [33] 28 (x40.1.Blocks : List (List UInt8))), (false, 1, Fact.ow [34] [35] 59 (x40.1.Wait : List Write)), (false, 1, Fact.rep [] x40.1.Dead)]) rfl ty25 rfl rfl (Has.s rfl) rfl (HasL.flds (Has.s rfl)) rfl)) (ao (so (Spec.assign (Has.s rfl))) AllM.nil)))))))))))))) ?_
       refine Leaf.thenN ?_
       refine CWalk.seq ?_
       refine CWalk.region ?_
       refine mv ?_
       refine mv ?_
       refine mv ?_
       obtain ⟨x41, hx41, hm⟩ := bind_some hm
       refine wo (Spec.indexAddr hx41 sl52 (Has.s rfl) (Has.s rfl)) ?_
       refine wo (Spec.fieldAddrP fd55_2 (chOp55 x41) rfl (Has.s rfl)) ?_
       refine wo ((Spec.load ty5 (Has.s rfl)).flat (T' := [])) ?_
       obtain ⟨x42, hx42, hm⟩ := bind_some hm
       refine wo (Spec.idxVar hx42 sm53 (Has.cv (Has.s rfl) (Cv.isvP rfl)) (Has.s rfl)) ?_
       refine ws (Step.storeV (T := []) (n := 4) (l := ([s8, s9, s10, s11] : List UInt8)) (y := x41.Byte) hx42 rfl ty5 rfl rfl rfl rfl (Has.s rfl) rfl (Has.s rfl) (HasVs.cons (HasG.s rfl) (HasVs.cons (HasG.s rfl) (HasVs.cons (HasG.s rfl) (HasVs.cons (HasG.s rfl) HasVs.nil))))) ?_
       refine Walk.nil ?_
       refine Leaf.thenN ?_
       refine CWalk.region ?_
       refine mv ?_
       refine mv ?_
       refine mv ?_
       obtain ⟨x43, hx43, hm⟩ := bind_some hm
       refine wo (Spec.indexAddr hx43 sl52 (Has.s rfl) (Has.s rfl)) ?_
       refine wo (Spec.fieldAddrP fd55_2 (chOp55 x43) rfl (Has.s rfl)) ?_
       refine wo ((Spec.load ty5 (Has.s rfl)).flat (T' := [])) ?_
       obtain ⟨x44, hx44, hm⟩ := bind_some hm
       refine wo (Spec.idxVar hx44 sm53 (Has.cv (Has.s rfl) (Cv.isvP rfl)) (Has.s rfl)) ?_
       refine ws (Step.storeV (T := []) (n := 4) (l := ([s12, s13, s14, s15] : List UInt8)) (y := x43.Byte) hx44 rfl ty5 rfl rfl rfl rfl (Has.s rfl) rfl (Has.s rfl) (HasVs.cons (HasG.s rfl) (HasVs.cons (HasG.s rfl) (HasVs.cons (HasG.s rfl) (HasVs.cons (HasG.s rfl) HasVs.nil))))) ?_
       refine Walk.nil ?_
       refine Leaf.blockN ?_
       refine Leaf.blockN ?_
       exact Leaf.join (x40.2, x40.1.Blocks, x40.1.Wait, x40.1.Dead, (bif Nat.beq x42 0 then x41.Byte else s8), (bif Nat.beq x42 1 then x41.Byte else s9), (bif Nat.beq x42 2 then x41.Byte else s10), (bif Nat.beq x42 3 then x41.Byte else s11), (bif Nat.beq x44 0 then x43.Byte else s12), (bif Nat.beq x44 1 then x43.Byte else s13), (bif Nat.beq x44 2 then x43.Byte else s14), (bif Nat.beq x44 3 then x43.Byte else s15)) hm (su (st (sn (st (sn (sn (st (Sub.cons (Has.at (HasG.cv (HasG.s rfl) (Cv.owM (T := [32]) (te := [33]) rfl rfl))) (Sub.cons (Has.at (HasG.cv (HasG.s rfl) (Cv.owM (T := [34]) (te := [35]) rfl rfl))) (sf (sf (sf (sf (sf (sf (sf (sf (sf (sn (sn (sn Sub.nil)))))))))))))))))))))
      ·have hm := cond_f hb hm
       refine CWalk.seq ?_
       refine CWalk.region ?_
       refine wo (Spec.loadObj (ls := [(false, 1, Fact.ow [11, 27, 32, 36] [28, 33, 37] 28 (s5 : List (List UInt8))), (false, 1, Fact.ow [11, 29, 34, 38] [30, 35, 39] 59 (s6 : List Write)), (false, 1, Fact.rep [] (s7 : Bool))]) ty25 rfl rfl (Has.s rfl) rfl (HasGs.cons (HasG.s rfl) (HasGs.cons (HasG.s rfl) (HasGs.cons (HasG.s rfl) HasGs.nil)))) ?_
       obtain ⟨x45, hx45, hm⟩ := bind_some hm
       refine wo (f := Fact.tup2 (Fact.flds [(false, 1, Fact.ow [36] [37] 28 (x45.1.Blocks : List (List UInt8))), (false, 1, Fact.ow [38] [39] 59 (x45.1.Wait : List Write)), (false, 1, Fact.rep [] x45.1.Dead)]) (Fact.rep [] x45.2)) (Spec.callE [11, 27, 28, 29, 30, 32, 33, 34, 35, 36, 37, 38, 39] 36 rfl en27 (disk_Flush_c (Disk.mk s5 s6 s7) hx45) (HasAll.cons (Has.m (Has.cv (Has.s rfl) (Cv.trans (Cv.flds (CvL.cons (Cv.trans (Cv.trans Cv.owSl (Cv.slRep (T' := [11, 27, 28, 32, 33, 36, 37]) rfl rfl)) (Cv.m rfl)) (CvL.cons (Cv.trans (Cv.trans Cv.owSl (Cv.slRep (T' := [11, 29, 30, 34, 35, 38, 39]) rfl rfl)) (Cv.m rfl)) (CvL.cons Cv.fl CvL.nil)))) (Cv.close (T := [11, 27, 28, 29, 30, 32, 33, 34, 35, 36, 37, 38, 39]) (chDisk (Disk.mk s5 s6 s7))))) rfl) HasAll.nil)) ?_
       refine mv ?_
       refine wo (Spec.ext0 (Has.s rfl)) ?_
       refine wo (Spec.ext1 (Has.s rfl)) ?_
       refine ws (Step.storeObj (ls := [(false, 1, Fact.ow [36] [37] 28 (x45.1.Blocks : List (List UInt8))), (false, 1, Fact.ow [38] [39] 59 (x45.1.Wait : List Write)), (false, 1, Fact.rep [] x45.1.Dead)]) rfl ty25 rfl rfl (Has.s rfl) rfl (HasL.flds (Has.s rfl)) rfl) ?_
       refine wo (Spec.assign (Has.s rfl)) ?_
       refine Walk.nil ?_
       refine Leaf.thenN ?_
       refine CWalk.region ?_
       refine wo (Spec.loadObj (ls := [(false, 1, Fact.rep [] (s8 : UInt8)), (false, 1, Fact.rep [] (s9 : UInt8)), (false, 1, Fact.rep [] (s10 : UInt8)), (false, 1, Fact.rep [] (s11 : UInt8))]) ty53 rfl rfl (Has.s rfl) rfl (HasGs.cons (HasG.s rfl) (HasGs.cons (HasG.s rfl) (HasGs.cons (HasG.s rfl) (HasGs.cons (HasG.s rfl) HasGs.nil))))) ?_
       refine ws (Step.storeObj (ls := [(false, 1, Fact.rep [] (s8 : UInt8)), (false, 1, Fact.rep [] (s9 : UInt8)), (false, 1, Fact.rep [] (s10 : UInt8)), (false, 1, Fact.rep [] (s11 : UInt8))]) rfl ty53 rfl rfl (Has.s rfl) rfl (HasL.flds (Has.s rfl)) rfl) ?_
       refine Walk.nil ?_
       refine Leaf.blockN ?_
       refine Leaf.blockN ?_
       exact Leaf.join (x45.2, x45.1.Blocks, x45.1.Wait, x45.1.Dead, s8, s9, s10, s11, s8, s9, s10, s11) hm (su (st (sn (st (sn (sn (st (Sub.cons (Has.at (HasG.cv (HasG.s rfl) (Cv.owM (T := [36]) (te := [37]) rfl rfl))) (Sub.cons (Has.at (HasG.cv (HasG.s rfl) (Cv.owM (T := [38]) (te := [39]) rfl rfl))) (sf (sf (sf (sf (sf (sf (sf (sf (sf (sn (sn (sn Sub.nil)))))))))))))))))))))
   ·have hm := cond_f hb hm
    refine CWalk.exit ?_
    refine Leaf.thenE ?_
    exact Leaf.brk hm (fun h => nomatch h) rfl (st (sn (st (sn (sn (Sub.cons (Has.at (HasG.cv (HasG.s rfl) (Cv.owM (T := [11, 27, 32, 36]) (te := [28, 33, 37]) rfl rfl))) (Sub.cons (Has.at (HasG.cv (HasG.s rfl) (Cv.owM (T := [11, 29, 34, 38]) (te := [30, 35, 39]) rfl rfl))) (sf (sf (sf (sf (sf (sf (sf (sf (sf (sn (sn (sn Sub.nil)))))))))))))))))))
  ·intro _
   refine Leaf.blockE ?_
   refine Leaf.thenN ?_
   refine CWalk.seq ?_
   refine CWalk.seq ?_
   refine CWalk.region ?_
   refine mv ?_
   refine wo (Spec.neqI (Has.s rfl) Has.int) ?_
   refine mv ?_
   refine wg rfl rfl (fun hb => Spec.loadObj (ls := [(false, 1, Fact.ow [11, 27, 32, 36] [28, 33, 37] 28 (b46.2.1 : List (List UInt8))), (false, 1, Fact.ow [11, 29, 34, 38] [30, 35, 39] 59 (b46.2.2.1 : List Write)), (false, 1, Fact.rep [] b46.2.2.2.1)]) ty25 rfl rfl (Has.s rfl) rfl (HasGs.cons (HasG.s rfl) (HasGs.cons (HasG.s rfl) (HasGs.cons (HasG.s rfl) HasGs.nil)))) ?_
   obtain ⟨x47, hx47, hm⟩ := bind_some hm
   refine wg (f := Fact.rep [] (x47 : Int)) rfl rfl (fun hb => Spec.callE [11, 27, 28, 29, 30, 32, 33, 34, 35, 36, 37, 38, 39] 40 rfl en19 (disk_Check_c (Disk.mk b46.2.1 b46.2.2.1 b46.2.2.2.1) (gO_t hx47 (not_t hb))) (HasAll.cons (Has.m (Has.cv (Has.u rfl hb) (Cv.trans (Cv.flds (CvL.cons (Cv.trans (Cv.trans Cv.owSl (Cv.slRep (T' := [11, 27, 28, 32, 33, 36, 37]) rfl rfl)) (Cv.m rfl)) (CvL.cons (Cv.trans (Cv.trans Cv.owSl (Cv.slRep (T' := [11, 29, 30, 34, 35, 38, 39]) rfl rfl)) (Cv.m rfl)) (CvL.cons Cv.fl CvL.nil)))) (Cv.close (T := [11, 27, 28, 29, 30, 32, 33, 34, 35, 36, 37, 38, 39]) (chDisk (Disk.mk b46.2.1 b46.2.2.1 b46.2.2.2.1))))) rfl) HasAll.nil)) ?_
   refine wg rfl rfl (fun hb => Spec.neqI (Has.u rfl hb) Has.int) ?_
   refine wo (Spec.or (Has.s rfl) (fun h => Has.u rfl h)) ?_
   refine Walk.nil ?_
   refine Leaf.thenN ?_
   refine CWalk.cond rfl (fun hb => ?_) (fun hb => ?_)
   ·have hm := cond_t hb hm
    refine CWalk.seq ?_
    refine CWalk.region ?_
    refine wo (Spec.assign Has.bool) ?_
    refine Walk.nil ?_
    refine Leaf.thenN ?_
    refine CWalk.ret ?_
    refine Leaf.thenR ?_
    obtain rfl := Option.some.inj hm
    exact Leaf.retC1 rfl (HasR.cv (HasR.tmp (Has.s rfl)) Cv.fl)
   ·have hm := cond_f hb hm
    refine CWalk.skip ?_
    refine Leaf.thenN ?_
    refine CWalk.seq ?_
    refine CWalk.seq ?_
    refine CWalk.region ?_
    refine wo (Spec.assign Has.int) ?_
    refine Walk.nil ?_
    refine Leaf.thenN ?_
    refine CWalk.block ?_
    obtain ⟨b56, hb56, hm⟩ := bind_some hm
    refine CWalk.loop (fun s : Int => [.fact 1 (.rep [] (a1 : Bool)), .fact 6 (.isv 12), .fact 8 (.isv 16), .fact 9 (.isv 21), .fact 12 (.rep [] (s : Int)), .fact 100013 (.at 13 (.ow [11, 27, 32, 36] [28, 33, 37] 28 (b46.2.1 : List (List UInt8)))), .fact 100014 (.at 14 (.ow [11, 29, 34, 38] [30, 35, 39] 59 (b46.2.2.1 : List Write))), .fact 100015 (.at 15 (.rep [] b46.2.2.2.1)), .fact 100017 (.at 17 (.rep [] b46.2.2.2.2.1)), .fact 100018 (.at 18 (.rep [] b46.2.2.2.2.2.1)), .fact 100019 (.at 19 (.rep [] b46.2.2.2.2.2.2.1)), .fact 100020 (.at 20 (.rep [] b46.2.2.2.2.2.2.2.1)), .fact 100022 (.at 22 (.rep [] b46.2.2.2.2.2.2.2.2.1)), .fact 100023 (.at 23 (.rep [] b46.2.2.2.2.2.2.2.2.2.1)), .fact 100024 (.at 24 (.rep [] b46.2.2.2.2.2.2.2.2.2.2.1)), .fact 100025 (.at 25 (.rep [] b46.2.2.2.2.2.2.2.2.2.2.2)), .fact 100012 (.obj 12 [(false, 1), (false, 1), (false, 1)]), .fact 100016 (.obj 16 [(false, 1), (false, 1), (false, 1), (false, 1)]), .fact 100021 (.obj 21 [(false, 1), (false, 1), (false, 1), (false, 1)])]) (fun b : (Unit) ⊕ (Unit) => Sum.elim (fun b => (Exit.exit 3, [.fact 1 (.rep [] (a1 : Bool)), .fact 6 (.isv 12), .fact 100013 (.at 13 (.ow [11, 27, 32, 36] [28, 33, 37] 28 (b46.2.1 : List (List UInt8)))), .fact 100014 (.at 14 (.ow [11, 29, 34, 38] [30, 35, 39] 59 (b46.2.2.1 : List Write))), .fact 100015 (.at 15 (.rep [] b46.2.2.2.1)), .fact 100012 (.obj 12 [(false, 1), (false, 1), (false, 1)])])) (fun b => (Exit.ret, [.fact 4 (.rep [] (false : Bool))])) b) hb56 (st (sn (sn (sn (st (Sub.cons (Has.at (HasG.cv (HasG.s rfl) (Cv.owM (T := [11, 27, 32, 36]) (te := [28, 33, 37]) rfl rfl))) (Sub.cons (Has.at (HasG.cv (HasG.s rfl) (Cv.owM (T := [11, 29, 34, 38]) (te := [30, 35, 39]) rfl rfl))) (sf (sf (sf (sf (sf (sf (sf (sf (sf (sn (sn (sn Sub.nil))))))))))))))))))) ?_ ?_
    ·rintro s48 c49 hm
     replace hm : law04_DiskReads_L3 b46 s48 = some c49 := hm
     unfold law04_DiskReads_L3 at hm
     show CWalk _ [.fact 1 (.rep [] (a1 : Bool)), .fact 6 (.isv 12), .fact 8 (.isv 16), .fact 9 (.isv 21), .fact 12 (.rep [] (s48 : Int)), .fact 100013 (.at 13 (.ow [11, 27, 32, 36] [28, 33, 37] 28 (b46.2.1 : List (List UInt8)))), .fact 100014 (.at 14 (.ow [11, 29, 34, 38] [30, 35, 39] 59 (b46.2.2.1 : List Write))), .fact 100015 (.at 15 (.rep [] b46.2.2.2.1)), .fact 100017 (.at 17 (.rep [] b46.2.2.2.2.1)), .fact 100018 (.at 18 (.rep [] b46.2.2.2.2.2.1)), .fact 100019 (.at 19 (.rep [] b46.2.2.2.2.2.2.1)), .fact 100020 (.at 20 (.rep [] b46.2.2.2.2.2.2.2.1)), .fact 100022 (.at 22 (.rep [] b46.2.2.2.2.2.2.2.2.1)), .fact 100023 (.at 23 (.rep [] b46.2.2.2.2.2.2.2.2.2.1)), .fact 100024 (.at 24 (.rep [] b46.2.2.2.2.2.2.2.2.2.2.1)), .fact 100025 (.at 25 (.rep [] b46.2.2.2.2.2.2.2.2.2.2.2)), .fact 100012 (.obj 12 [(false, 1), (false, 1), (false, 1)]), .fact 100016 (.obj 16 [(false, 1), (false, 1), (false, 1), (false, 1)]), .fact 100021 (.obj 21 [(false, 1), (false, 1), (false, 1), (false, 1)])] _ _
     refine CWalk.seq ?_
     refine CWalk.seq ?_
     refine CWalk.region ?_
     refine mv ?_
     refine wo (Spec.lssI (Has.s rfl) Has.int) ?_
     refine Walk.nil ?_
     refine Leaf.thenN ?_
     refine CWalk.cond rfl (fun hb => ?_) (fun hb => ?_)
     ·have hm := cond_t hb hm
      refine CWalk.skip ?_
      refine Leaf.thenN ?_
      refine CWalk.seq ?_
      refine CWalk.block ?_
      refine CWalk.seq ?_
      obtain ⟨x50, hx50, hm⟩ := bind_some hm
      obtain ⟨x51, hx51, hm⟩ := bind_some hm
      obtain ⟨x52, hx52, hm⟩ := bind_some hm
      obtain ⟨x53, hx53, hm⟩ := bind_some hm
      obtain ⟨x54, hx54, hm⟩ := bind_some hm
      obtain ⟨x55, hx55, hm⟩ := bind_some hm
      refine CWalk.drawM [[], [], [], [2], [2, 3], [0, 1, 2, 3, 4], [0, 1, 2, 3, 4, 5], [0, 1, 2, 3, 4, 5, 6], [0, 1, 2, 3, 4, 5, 6, 7], [0, 1, 2, 3, 4, 5, 6, 7], [0, 1, 2, 3, 4, 5, 6, 7], [0, 1, 2, 3, 4, 5, 6, 7, 10], [0, 1, 2, 3, 4, 5, 6, 7, 10, 11], [0, 1, 2, 3, 4, 5, 6, 7, 8, 9, 10, 11, 12], [0, 1, 2, 3, 4, 5, 6, 7, 8, 9, 10, 11, 12, 13], [0, 1, 2, 3, 4, 5, 6, 7, 8, 9, 10, 11, 12, 13, 14]] [[.fact 115 (.flds [(false, 1, Fact.ow [11, 27, 32, 36] [28, 33, 37] 28 (b46.2.1 : List (List UInt8))), (false, 1, Fact.ow [11, 29, 34, 38] [30, 35, 39] 59 (b46.2.2.1 : List Write)), (false, 1, Fact.rep [] b46.2.2.2.1)])], [.fact 116 (.rep [] (s48 : Int))], [.fact 117 (.rep [] (s48 : Int))], [.fact 118 (.pto 16 x50)], [.fact 119 (.rep [] (x51 : UInt8))], [.fact 120 (.rep [] (x52 : Bool))], [.fact 121 (.rep [] ((!x52) : Bool))], [.fact 122 (.rep [] ((!x52) : Bool))], [.fact 123 (.under ((!x52) = false) (.flds [(false, 1, Fact.ow [11, 27, 32, 36] [28, 33, 37] 28 (b46.2.1 : List (List UInt8))), (false, 1, Fact.ow [11, 29, 34, 38] [30, 35, 39] 59 (b46.2.2.1 : List Write)), (false, 1, Fact.rep [] b46.2.2.2.1)]))], [.fact 124 (.under ((!x52) = false) (.rep [] (s48 : Int)))], [.fact 125 (.under ((!x52) = false) (.rep [] (s48 : Int)))], [.fact 126 (.under ((!x52) = false) (.pto 21 x53))], [.fact 127 (.under ((!x52) = false) (.rep [] (x54 : UInt8)))], [.fact 128 (.under ((!x52) = false) (.rep [] (x55 : Bool)))], [.fact 129 (.under ((!x52) = false) (.rep [] ((!x55) : Bool)))], [.fact 130 (.rep [] (((!x52) || (!x55)) : Bool))]] mixed (by kernel_rfl) (ao (so (Spec.loadObj (ls := [(false, 1, Fact.ow [11, 27, 32, 36] [28, 33, 37] 28 (b46.2.1 : List (List UInt8))), (false, 1, Fact.ow [11, 29, 34, 38] [30, 35, 39] 59 (b46.2.2.1 : List Write)), (false, 1, Fact.rep [] b46.2.2.2.1)]) ty25 rfl rfl (Has.s rfl) rfl (HasGs.cons (HasG.s rfl) (HasGs.cons (HasG.s rfl) (HasGs.cons (HasG.s rfl) HasGs.nil))))) (ao (so (Spec.move (Has.s rfl))) (ao (so (Spec.move (Has.s rfl))) (ao (so (Spec.idxVar hx50 sm53 (Has.cv (Has.s rfl) (Cv.isvP rfl)) (Has.s rfl))) (ao (so (Spec.loadV (T := []) (l := ([b46.2.2.2.2.1, b46.2.2.2.2.2.1, b46.2.2.2.2.2.2.1, b46.2.2.2.2.2.2.2.1] : List UInt8)) hx51 ty5 rfl rfl (Has.s rfl) rfl (HasVs.cons (HasG.s rfl) (HasVs.cons (HasG.s rfl) (HasVs.cons (HasG.s rfl) (HasVs.cons (HasG.s rfl) HasVs.nil)))))) (ao (so (Spec.callE [11, 27, 28, 29, 30, 32, 33, 34, 35, 36, 37, 38, 39] 41 rfl en33 (law04_reads_c (Disk.mk b46.2.1 b46.2.2.1 b46.2.2.2.1) s48 x51 hx52) (HasAll.cons (Has.m (Has.cv (Has.s rfl) (Cv.trans (Cv.flds (CvL.cons (Cv.trans (Cv.trans Cv.owSl (Cv.slRep (T' := [11, 27, 28, 32, 33, 36, 37]) rfl rfl)) (Cv.m rfl)) (CvL.cons (Cv.trans (Cv.trans Cv.owSl (Cv.slRep (T' := [11, 29, 30, 34, 35, 38, 39]) rfl rfl)) (Cv.m rfl)) (CvL.cons Cv.fl CvL.nil)))) (Cv.close (T := [11, 27, 28, 29, 30, 32, 33, 34, 35, 36, 37, 38, 39]) (chDisk (Disk.mk b46.2.1 b46.2.2.1 b46.2.2.2.1))))) rfl) (HasAll.cons (Has.fl (Has.s rfl)) (HasAll.cons (Has.fl (Has.s rfl)) HasAll.nil))))) (ao (so (Spec.not (Has.s rfl))) (ao (so (Spec.move (Has.s rfl))) (ao (StepG.opg rfl rfl rfl (fun hb => Spec.loadObj (ls := [(false, 1, Fact.ow [11, 27, 32, 36] [28, 33, 37] 28 (b46.2.1 : List (List UInt8))), (false, 1, Fact.ow [11, 29, 34, 38] [30, 35, 39] 59 (b46.2.2.1 : List Write)), (false, 1, Fact.rep [] b46.2.2.2.1)]) ty25 rfl rfl (Has.s rfl) rfl (HasGs.cons (HasG.s rfl) (HasGs.cons (HasG.s rfl) (HasGs.cons (HasG.s rfl) HasGs.nil))))) (ao (StepG.opg rfl rfl rfl (fun hb => Spec.move (Has.s rfl))) (ao (StepG.opg rfl rfl rfl (fun hb => Spec.move (Has.s rfl))) (ao (StepG.opg rfl rfl rfl (fun hb => Spec.idxVar (gO_t hx53 (not_t hb)) sm53 (Has.cv (Has.s rfl) (Cv.isvP rfl)) (Has.u rfl hb))) (ao (StepG.opg rfl rfl rfl (fun hb => Spec.loadV (T := []) (l := ([b46.2.2.2.2.2.2.2.2.1, b46.2.2.2.2.2.2.2.2.2.1, b46.2.2.2.2.2.2.2.2.2.2.1, b46.2.2.2.2.2.2.2.2.2.2.2] : List UInt8)) (gO_t hx54 (not_t hb)) ty5 rfl rfl (Has.u rfl hb) rfl (HasVs.cons (HasG.s rfl) (HasVs.cons (HasG.s rfl) (HasVs.cons (HasG.s rfl) (HasVs.cons (HasG.s rfl) HasVs.nil)))))) (ao (StepG.opg rfl rfl rfl (fun hb => Spec.callE [11, 27, 28, 29, 30, 32, 33, 34, 35, 36, 37, 38, 39] 42 rfl en34 (law04_lasts_c (Disk.mk b46.2.1 b46.2.2.1 b46.2.2.2.1) s48 x54 (gO_t hx55 (not_t hb))) (HasAll.cons (Has.m (Has.cv (Has.u rfl hb) (Cv.trans (Cv.flds (CvL.cons (Cv.trans (Cv.trans Cv.owSl (Cv.slRep (T' := [11, 27, 28, 32, 33, 36, 37]) rfl rfl)) (Cv.m rfl)) (CvL.cons (Cv.trans (Cv.trans Cv.owSl (Cv.slRep (T' := [11, 29, 30, 34, 35, 38, 39]) rfl rfl)) (Cv.m rfl)) (CvL.cons Cv.fl CvL.nil)))) (Cv.close (T := [11, 27, 28, 29, 30, 32, 33, 34, 35, 36, 37, 38, 39]) (chDisk (Disk.mk b46.2.1 b46.2.2.1 b46.2.2.2.1))))) rfl) (HasAll.cons (Has.fl (Has.u rfl hb)) (HasAll.cons (Has.fl (Has.u rfl hb)) HasAll.nil))))) (ao (StepG.opg rfl rfl rfl (fun hb => Spec.not (Has.u rfl hb))) (ao (so (Spec.or (Has.s rfl) (fun h => Has.u rfl h))) AllM.nil)))))))))))))))) ?_
      refine Leaf.thenN ?_
      refine CWalk.cond rfl (fun hb => ?_) (fun hb => ?_)
      ·have hm := cond_t hb hm
       refine CWalk.seq ?_
       refine CWalk.region ?_
       refine wo (Spec.assign Has.bool) ?_
       refine Walk.nil ?_
       refine Leaf.thenN ?_
       refine CWalk.ret ?_
       refine Leaf.blockR ?_
       refine Leaf.thenR ?_
       exact Leaf.brk hm (fun h => nomatch h) rfl (st Sub.nil)
      ·have hm := cond_f hb hm
       refine CWalk.skip ?_
       refine Leaf.blockN ?_
       refine Leaf.thenN ?_
       refine CWalk.region ?_
       refine mv ?_
       refine wo (Spec.addI (Has.s rfl) Has.int) ?_
       refine wo (Spec.assign (Has.s rfl)) ?_
       refine Walk.nil ?_
       exact Leaf.next hm (st (sn (sn (sn (st (Sub.cons (Has.at (HasG.cv (HasG.s rfl) (Cv.owM (T := [11, 27, 32, 36]) (te := [28, 33, 37]) rfl rfl))) (Sub.cons (Has.at (HasG.cv (HasG.s rfl) (Cv.owM (T := [11, 29, 34, 38]) (te := [30, 35, 39]) rfl rfl))) (sf (sf (sf (sf (sf (sf (sf (sf (sf (sn (sn (sn Sub.nil)))))))))))))))))))
     ·have hm := cond_f hb hm
      refine CWalk.exit ?_
      refine Leaf.thenE ?_
      exact Leaf.brk hm (fun h => nomatch h) rfl (st (sn (Sub.cons (Has.at (HasG.cv (HasG.s rfl) (Cv.owM (T := [11, 27, 32, 36]) (te := [28, 33, 37]) rfl rfl))) (Sub.cons (Has.at (HasG.cv (HasG.s rfl) (Cv.owM (T := [11, 29, 34, 38]) (te := [30, 35, 39]) rfl rfl))) (sf (sn Sub.nil))))))
    ·intro _
     rcases b56 with b57 | b59
     ·have hm := selim_l hm
      refine Leaf.blockE ?_
      refine Leaf.thenN ?_
      refine CWalk.seq ?_
      refine CWalk.region ?_
      refine mv ?_
      refine wo (Spec.not (Has.s rfl)) ?_
      refine mv ?_
      refine wg rfl rfl (fun hb => Spec.loadObj (ls := [(false, 1, Fact.ow [11, 27, 32, 36] [28, 33, 37] 28 (b46.2.1 : List (List UInt8))), (false, 1, Fact.ow [11, 29, 34, 38] [30, 35, 39] 59 (b46.2.2.1 : List Write)), (false, 1, Fact.rep [] b46.2.2.2.1)]) ty25 rfl rfl (Has.s rfl) rfl (HasGs.cons (HasG.s rfl) (HasGs.cons (HasG.s rfl) (HasGs.cons (HasG.s rfl) HasGs.nil)))) ?_
      obtain ⟨x58, hx58, hm⟩ := bind_some hm
      refine wg (f := Fact.rep [] (x58 : Bool)) rfl rfl (fun hb => Spec.callE [11, 27, 28, 29, 30, 32, 33, 34, 35, 36, 37, 38, 39] 43 rfl en35 (law04_gone_c (Disk.mk b46.2.1 b46.2.2.1 b46.2.2.2.1) (gO_t hx58 (not_t hb))) (HasAll.cons (Has.m (Has.cv (Has.u rfl hb) (Cv.trans (Cv.flds (CvL.cons (Cv.trans (Cv.trans Cv.owSl (Cv.slRep (T' := [11, 27, 28, 32, 33, 36, 37]) rfl rfl)) (Cv.m rfl)) (CvL.cons (Cv.trans (Cv.trans Cv.owSl (Cv.slRep (T' := [11, 29, 30, 34, 35, 38, 39]) rfl rfl)) (Cv.m rfl)) (CvL.cons Cv.fl CvL.nil)))) (Cv.close (T := [11, 27, 28, 29, 30, 32, 33, 34, 35, 36, 37, 38, 39]) (chDisk (Disk.mk b46.2.1 b46.2.2.1 b46.2.2.2.1))))) rfl) HasAll.nil)) ?_
      refine wo (Spec.or (Has.s rfl) (fun h => Has.u rfl h)) ?_
      refine wo (Spec.assign (Has.s rfl)) ?_
      refine Walk.nil ?_
      refine Leaf.thenN ?_
      refine CWalk.ret ?_
      obtain rfl := Option.some.inj hm
      exact Leaf.retC1 rfl (HasR.cv (HasR.tmp (Has.s rfl)) Cv.fl)
     ·have hm := selim_r hm
      refine Leaf.blockR ?_
      refine Leaf.thenR ?_
      obtain rfl := Option.some.inj hm
      exact Leaf.retC1 rfl (HasR.cv (HasR.tmp (Has.s rfl)) Cv.fl)

end Go.Proofs.Ytdkmkalddgplmaa
