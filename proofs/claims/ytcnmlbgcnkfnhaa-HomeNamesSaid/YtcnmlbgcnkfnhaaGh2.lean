/- Printed by a program of ours: models of functions, and that calls do what they say. -/
import Derived.Test.YtcnmlbgcnkfnhaaGh1
namespace Go.Proofs.Ytcnmlbgcnkfnhaa
open Go GL
set_option linter.unusedVariables false

/-- freeboard/freeboardlaw21.alive -/
def law21_alive : Option (Bool) :=
  Option.bind (law21_write (0 : Int) (2 : Int) (120 : UInt8)) (fun x1 => Option.bind (law21_write (1 : Int) (2 : Int) (112 : UInt8)) (fun x2 => Option.bind (law21_is (-1 : Int) ([x1, x2])) (fun x3 => Option.bind (gO (x3) (law21_write (1 : Int) (2 : Int) (112 : UInt8))) (fun x4 => Option.bind (gO (x3) (law21_is (0 : Int) ([x4]))) (fun x5 => Option.bind (gO ((x3 && x5)) (law21_write (0 : Int) (2 : Int) (120 : UInt8))) (fun x6 => Option.bind (gO ((x3 && x5)) (law21_is (1 : Int) ([x6]))) (fun x7 => some ((x3 && x5) && x7))))))))
set_option maxRecDepth 100000 in
set_option maxHeartbeats 2000000 in
theorem law21_alive_c {r : Bool} (hm : law21_alive = some r) : Ctr Try.prog 7 [] (.fl r) [] := by
 refine ctr_of_walk [[]] 15 Try.func7 rfl rfl rfl rfl (fun w0 om => ?_)
 unfold law21_alive at hm
 refine CWalk.sub (G' := []) (Sub.nil) ?_
 refine CWalk.seq ?_
 refine CWalk.region ?_
 refine wo (Spec.assign Has.bool) ?_
 refine Walk.nil ?_
 refine Leaf.thenN ?_
 refine CWalk.seq ?_
 refine CWalk.region ?_
 obtain ⟨x1, hx1, hm⟩ := bind_some hm
 refine wo (f := Fact.flds [(false, 1, Fact.rep [] (x1.Disk : Int)), (false, 1, Fact.rep [] (x1.Kind : UInt8)), (false, 1, Fact.rep [] (x1.At : Int)), (false, 1, Fact.ow [10] [] 5 (x1.Data : List UInt8))]) (Spec.callE [] 10 rfl en17 (law21_write_c (0 : Int) (2 : Int) (120 : UInt8) hx1) (HasAll.cons (Has.fl Has.int) (HasAll.cons (Has.fl Has.int) (HasAll.cons (Has.fl (Has.u8 120 rfl)) HasAll.nil)))) ?_
 obtain ⟨x2, hx2, hm⟩ := bind_some hm
 refine wo (f := Fact.flds [(false, 1, Fact.rep [] (x2.Disk : Int)), (false, 1, Fact.rep [] (x2.Kind : UInt8)), (false, 1, Fact.rep [] (x2.At : Int)), (false, 1, Fact.ow [11] [] 5 (x2.Data : List UInt8))]) (Spec.callE [] 11 rfl en17 (law21_write_c (1 : Int) (2 : Int) (112 : UInt8) hx2) (HasAll.cons (Has.fl Has.int) (HasAll.cons (Has.fl Has.int) (HasAll.cons (Has.fl (Has.u8 112 rfl)) HasAll.nil)))) ?_
 refine wo (Spec.lit (xs := [.tmp 1, .tmp 2]) (T := [10, 11]) 12 rfl ow31 rfl rfl rfl rfl (HasEach.cons (Has.m (Has.cv (Has.s rfl) (Cv.trans (Cv.flds (CvL.cons Cv.fl (CvL.cons Cv.fl (CvL.cons Cv.fl (CvL.cons (Cv.trans (Cv.trans Cv.owSl (Cv.slRep (T' := [10]) rfl rfl)) (Cv.m rfl)) CvL.nil))))) (Cv.close (T := [10]) (chAct37 x1)))) rfl) (HasEach.cons (Has.m (Has.cv (Has.s rfl) (Cv.trans (Cv.flds (CvL.cons Cv.fl (CvL.cons Cv.fl (CvL.cons Cv.fl (CvL.cons (Cv.trans (Cv.trans Cv.owSl (Cv.slRep (T' := [11]) rfl rfl)) (Cv.m rfl)) CvL.nil))))) (Cv.close (T := [11]) (chAct37 x2)))) rfl) HasEach.nil))) ?_
 obtain ⟨x3, hx3, hm⟩ := bind_some hm
 refine wo (f := Fact.rep [] (x3 : Bool)) (Spec.callE [10, 11, 12] 13 rfl en16 (law21_is_c (-1 : Int) ([x1, x2]) hx3) (HasAll.cons (Has.fl Has.int) (HasAll.cons (Has.m (Has.s rfl) rfl) HasAll.nil))) ?_
 refine mv ?_
 obtain ⟨x4, hx4, hm⟩ := bind_some hm
 refine wg (f := Fact.flds [(false, 1, Fact.rep [] (x4.Disk : Int)), (false, 1, Fact.rep [] (x4.Kind : UInt8)), (false, 1, Fact.rep [] (x4.At : Int)), (false, 1, Fact.ow [14] [] 5 (x4.Data : List UInt8))]) rfl rfl (fun hb => Spec.callE [] 14 rfl en17 (law21_write_c (1 : Int) (2 : Int) (112 : UInt8) (gO_t hx4 hb)) (HasAll.cons (Has.fl Has.int) (HasAll.cons (Has.fl Has.int) (HasAll.cons (Has.fl (Has.u8 112 rfl)) HasAll.nil)))) ?_
 refine wg rfl rfl (fun hb => Spec.lit (xs := [.tmp 6]) (T := [14]) 15 rfl ow31 rfl rfl rfl rfl (HasEach.cons (Has.m (Has.cv (Has.u rfl hb) (Cv.trans (Cv.flds (CvL.cons Cv.fl (CvL.cons Cv.fl (CvL.cons Cv.fl (CvL.cons (Cv.trans (Cv.trans Cv.owSl (Cv.slRep (T' := [14]) rfl rfl)) (Cv.m rfl)) CvL.nil))))) (Cv.close (T := [14]) (chAct37 x4)))) rfl) HasEach.nil)) ?_
 obtain ⟨x5, hx5, hm⟩ := bind_some hm
 refine wg (f := Fact.rep [] (x5 : Bool)) rfl rfl (fun hb => Spec.callE [14, 15] 16 rfl en16 (law21_is_c (0 : Int) ([x4]) (gO_t hx5 hb)) (HasAll.cons (Has.fl Has.int) (HasAll.cons (Has.m (Has.u rfl hb) rfl) HasAll.nil))) ?_
 refine wo (Spec.and (Has.s rfl) (fun h => Has.u rfl h)) ?_
 refine mv ?_
 obtain ⟨x6, hx6, hm⟩ := bind_some hm
 refine wg (f := Fact.flds [(false, 1, Fact.rep [] (x6.Disk : Int)), (false, 1, Fact.rep [] (x6.Kind : UInt8)), (false, 1, Fact.rep [] (x6.At : Int)), (false, 1, Fact.ow [17] [] 5 (x6.Data : List UInt8))]) rfl rfl (fun hb => Spec.callE [] 17 rfl en17 (law21_write_c (0 : Int) (2 : Int) (120 : UInt8) (gO_t hx6 hb)) (HasAll.cons (Has.fl Has.int) (HasAll.cons (Has.fl Has.int) (HasAll.cons (Has.fl (Has.u8 120 rfl)) HasAll.nil)))) ?_
 refine wg rfl rfl (fun hb => Spec.lit (xs := [.tmp 11]) (T := [17]) 18 rfl ow31 rfl rfl rfl rfl (HasEach.cons (Has.m (Has.cv (Has.u rfl hb) (Cv.trans (Cv.flds (CvL.cons Cv.fl (CvL.cons Cv.fl (CvL.cons Cv.fl (CvL.cons (Cv.trans (Cv.trans Cv.owSl (Cv.slRep (T' := [17]) rfl rfl)) (Cv.m rfl)) CvL.nil))))) (Cv.close (T := [17]) (chAct37 x6)))) rfl) HasEach.nil)) ?_
 obtain ⟨x7, hx7, hm⟩ := bind_some hm
 refine wg (f := Fact.rep [] (x7 : Bool)) rfl rfl (fun hb => Spec.callE [17, 18] 19 rfl en16 (law21_is_c (1 : Int) ([x6]) (gO_t hx7 hb)) (HasAll.cons (Has.fl Has.int) (HasAll.cons (Has.m (Has.u rfl hb) rfl) HasAll.nil))) ?_
 refine wo (Spec.and (Has.s rfl) (fun h => Has.u rfl h)) ?_
 refine wo (Spec.assign (Has.s rfl)) ?_
 refine Walk.nil ?_
 refine Leaf.thenN ?_
 refine CWalk.ret ?_
 obtain rfl := Option.some.inj hm
 exact Leaf.retC1 rfl (HasR.cv (HasR.tmp (Has.s rfl)) Cv.fl)

/-- freeboard/freeboardlaw21.HomeNames -/
def law21_HomeNames : Option (Bool) :=
  Option.bind (law21_one) (fun x1 => Option.bind (law21_three) (fun x2 => Option.bind (home_Again x2 (-1 : Int) (Deal.mk x1.Stripe x1.Slots x1.Blocks ([] : List UInt8))) (fun x3 => Option.bind (law21_three) (fun x4 => Option.bind (law21_one) (fun x5 => Option.bind (home_Again x4 (3 : Int) x5) (fun x6 => Option.bind (law21_three) (fun x7 => Option.bind (head_New x7 (0 : Int)) (fun x8 => Option.bind (law21_three) (fun x9 => Option.bind (home_Lay x9 (-1 : Int) x8.1) (fun x10 => Option.bind (law21_three) (fun x11 => Option.bind (home_Flush x11) (fun x12 => Option.bind (home_Flush (Config.mk (0 : UInt32) (0 : Int) (0 : Int) (0 : Int) (0 : Int) (0 : Int))) (fun x13 => Option.bind (law21_alive) (fun x14 => Option.bind (gO (x14) (law21_write (0 : Int) (2 : Int) (120 : UInt8))) (fun x15 => Option.bind (gO (x14) (law21_write (1 : Int) (2 : Int) (112 : UInt8))) (fun x16 => Option.bind (gO (x14) (law21_is (2 : Int) ([x15, x16]))) (fun x17 => Option.bind (gO ((((((x14 && x17) && (x3.2 == (6 : Int))) && (x6.2 == (2 : Int))) && (x10.2 == (6 : Int))) && (x12.2 == (0 : Int)))) (ref05_Same x12.1 ([(Act37.mk (0 : Int) (3 : UInt8) (0 : Int) ([] : List UInt8)), (Act37.mk (1 : Int) (3 : UInt8) (0 : Int) ([] : List UInt8)), (Act37.mk (2 : Int) (3 : UInt8) (0 : Int) ([] : List UInt8))]))) (fun x18 => some (((((((x14 && x17) && (x3.2 == (6 : Int))) && (x6.2 == (2 : Int))) && (x10.2 == (6 : Int))) && (x12.2 == (0 : Int))) && x18) && (x13.2 == (8 : Int)))))))))))))))))))))
set_option maxRecDepth 100000 in
set_option maxHeartbeats 2000000 in
theorem law21_HomeNames_c {r : Bool} (hm : law21_HomeNames = some r) : Ctr Try.prog 4 [] (.fl r) [] := by
 refine ctr_of_walk [[]] 86 Try.func4 rfl rfl rfl rfl (fun w0 om => ?_)
 unfold law21_HomeNames at hm
 refine CWalk.sub (G' := []) (Sub.nil) ?_
 refine CWalk.seq ?_
 refine CWalk.region ?_
 refine wo (Spec.assign Has.bool) ?_
 refine Walk.nil ?_
 refine Leaf.thenN ?_
 refine CWalk.seq ?_
 refine CWalk.region ?_
 obtain ⟨x1, hx1, hm⟩ := bind_some hm
 refine wo (f := Fact.flds [(false, 1, Fact.rep [] (x1.Stripe : Int)), (false, 1, Fact.rep [10] (x1.Slots : List Int)), (false, 1, Fact.rep [11] (x1.Blocks : List (List UInt8))), (false, 1, Fact.ow [12] [] 5 (x1.Parity : List UInt8))]) (Spec.callE [] 10 rfl en11 (law21_one_c  hx1) HasAll.nil) ?_
 refine ws (Step.allocObj (ls := [(false, 1, Fact.rep [] ((0 : Int) : Int)), (false, 1, Fact.nilv), (false, 1, Fact.nilv), (false, 1, Fact.nilv)]) 13 rfl rfl rfl rfl zl43) ?_
 refine ws (Step.storeObj (ls := [(false, 1, Fact.rep [] (x1.Stripe : Int)), (false, 1, Fact.rep [10] (x1.Slots : List Int)), (false, 1, Fact.rep [11] (x1.Blocks : List (List UInt8))), (false, 1, Fact.ow [12] [] 5 (x1.Parity : List UInt8))]) rfl ty43 rfl rfl (Has.s rfl) rfl (HasL.flds (Has.s rfl)) rfl) ?_
 refine Walk.nil ?_
 refine Leaf.thenN ?_
 refine CWalk.seq ?_
 refine CWalk.region ?_
 refine wo (Spec.fieldAddrO fd43_3 (Has.cv (Has.s rfl) (Cv.isvP rfl))) ?_
 refine ws (Step.storeF (i := 3) (f := Fact.nilv) rfl ty35 rfl (Has.s rfl) rfl (Has.cv Has.nilv (Cv.nil (T := []))) Has.nilv rfl) ?_
 refine Walk.nil ?_
 refine Leaf.thenN ?_
 refine CWalk.seq ?_
 obtain ⟨x2, hx2, hm⟩ := bind_some hm
 obtain ⟨x3, hx3, hm⟩ := bind_some hm
 refine CWalk.drawM [[], [], [0, 1], [0, 1, 2], [0, 1, 2, 3], [0, 1, 2, 3], [0, 1, 2, 3, 4], [0, 1, 2, 3, 4, 5, 6]] [[.fact 18 (Fact.rep [] (x2 : Config))], [.fact 19 (Fact.flds [(false, 1, Fact.rep [] (x1.Stripe : Int)), (false, 1, Fact.rep [10] (x1.Slots : List Int)), (false, 1, Fact.rep [11] (x1.Blocks : List (List UInt8))), (false, 1, Fact.nilv)])], [.fact 20 (Fact.tup2 (Fact.ow [19] [20] 37 (x3.1 : List Act37)) (Fact.rep [] (x3.2 : Int)))], [.fact 17 (Fact.tup2 (Fact.ow [19] [20] 37 (x3.1 : List Act37)) (Fact.rep [] (x3.2 : Int)))], [.fact 21 (Fact.ow [19] [20] 37 (x3.1 : List Act37))], [.fact 22 (Fact.rep [] (x3.2 : Int))], [.fact 2 (Fact.ow [19] [20] 37 (x3.1 : List Act37))], [.fact 3 (Fact.rep [] (x3.2 : Int))]] mixed (by kernel_rfl) (ao (so (Spec.callE [] 18 rfl en13 (law21_three_c  hx2) HasAll.nil)) (ao (so (Spec.loadObj (ls := [(false, 1, Fact.rep [] (x1.Stripe : Int)), (false, 1, Fact.rep [10] (x1.Slots : List Int)), (false, 1, Fact.rep [11] (x1.Blocks : List (List UInt8))), (false, 1, Fact.nilv)]) ty43 rfl rfl (Has.s rfl) rfl (HasGs.cons (HasG.s rfl) (HasGs.cons (HasG.s rfl) (HasGs.cons (HasG.s rfl) (HasGs.cons (HasG.s rfl) HasGs.nil)))))) (ao (so (Spec.callE [10, 11] 19 rfl en12 (home_Again_c x2 (-1 : Int) (Deal.mk x1.Stripe x1.Slots x1.Blocks ([] : List UInt8)) hx3) (HasAll.cons (Has.fl (Has.s rfl)) (HasAll.cons (Has.fl Has.int) (HasAll.cons (Has.m (Has.cv (Has.s rfl) (Cv.trans (Cv.flds (CvL.cons Cv.fl (CvL.cons (Cv.m rfl) (CvL.cons (Cv.m rfl) (CvL.cons (Cv.trans (Cv.nil (T := [])) (Cv.m rfl)) CvL.nil))))) (Cv.close (T := [10, 11]) (chDeal (Deal.mk x1.Stripe x1.Slots x1.Blocks ([] : List UInt8)))))) rfl) HasAll.nil))))) (ao (so (Spec.move (Has.s rfl))) (ao (so (Spec.ext0 (Has.s rfl))) (ao (so (Spec.ext1 (Has.s rfl))) (ao (so (Spec.assign (Has.s rfl))) (ao (so (Spec.assign (Has.s rfl))) AllM.nil)))))))) ?_
 refine Leaf.thenN ?_
 refine CWalk.seq ?_
 refine CWalk.region ?_
 obtain ⟨x4, hx4, hm⟩ := bind_some hm
 refine wo (f := Fact.rep [] (x4 : Config)) (Spec.callE [] 21 rfl en13 (law21_three_c  hx4) HasAll.nil) ?_
 obtain ⟨x5, hx5, hm⟩ := bind_some hm
 refine wo (f := Fact.flds [(false, 1, Fact.rep [] (x5.Stripe : Int)), (false, 1, Fact.rep [22] (x5.Slots : List Int)), (false, 1, Fact.rep [23] (x5.Blocks : List (List UInt8))), (false, 1, Fact.ow [24] [] 5 (x5.Parity : List UInt8))]) (Spec.callE [] 22 rfl en11 (law21_one_c  hx5) HasAll.nil) ?_
 obtain ⟨x6, hx6, hm⟩ := bind_some hm
 refine wo (f := Fact.tup2 (Fact.ow [25] [26] 37 (x6.1 : List Act37)) (Fact.rep [] (x6.2 : Int))) (Spec.callE [22, 23, 24] 25 rfl en12 (home_Again_c x4 (3 : Int) x5 hx6) (HasAll.cons (Has.fl (Has.s rfl)) (HasAll.cons (Has.fl Has.int) (HasAll.cons (Has.m (Has.cv (Has.s rfl) (Cv.trans (Cv.flds (CvL.cons Cv.fl (CvL.cons (Cv.m rfl) (CvL.cons (Cv.m rfl) (CvL.cons (Cv.trans (Cv.trans Cv.owSl (Cv.slRep (T' := [24]) rfl rfl)) (Cv.m rfl)) CvL.nil))))) (Cv.close (T := [22, 23, 24]) (chDeal x5)))) rfl) HasAll.nil)))) ?_
 refine mv ?_
 refine wo (Spec.ext0 (Has.s rfl)) ?_
 refine wo (Spec.ext1 (Has.s rfl)) ?_
 refine wo (Spec.assign (Has.s rfl)) ?_
 refine wo (Spec.assign (Has.s rfl)) ?_
 refine Walk.nil ?_
 refine Leaf.thenN ?_
 refine CWalk.seq ?_
 refine CWalk.region ?_
 obtain ⟨x7, hx7, hm⟩ := bind_some hm
 refine wo (f := Fact.rep [] (x7 : Config)) (Spec.callE [] 27 rfl en13 (law21_three_c  hx7) HasAll.nil) ?_
 obtain ⟨x8, hx8, hm⟩ := bind_some hm
 refine wo (f := Fact.tup2 (Fact.flds [(false, 1, Fact.rep [] (x8.1.Stripe : Int)), (false, 1, Fact.ow [28] [] 35 (x8.1.Blocks : List (List UInt8))), (false, 1, Fact.ow [29] [] 4 (x8.1.Dirty : List Bool)), (false, 1, Fact.rep [] (x8.1.Phase : UInt8)), (false, 1, Fact.rep [] (x8.1.Deals : Bool)), (false, 1, Fact.rep [] (x8.1.Seq : UInt32))]) (Fact.rep [] (x8.2 : Int))) (Spec.callE [] 28 rfl en14 (head_New_c x7 (0 : Int) hx8) (HasAll.cons (Has.fl (Has.s rfl)) (HasAll.cons (Has.fl Has.int) HasAll.nil))) ?_
 refine mv ?_
 refine wo (Spec.ext0 (Has.s rfl)) ?_
 refine wo (Spec.ext1 (Has.s rfl)) ?_
 refine ws (Step.allocObj (ls := [(false, 1, Fact.rep [] ((0 : Int) : Int)), (false, 1, Fact.nilv), (false, 1, Fact.nilv), (false, 1, Fact.rep [] ((0 : UInt8) : UInt8)), (false, 1, Fact.rep [] (false : Bool)), (false, 1, Fact.rep [] ((0 : UInt32) : UInt32))]) 30 rfl rfl rfl rfl zl28) ?_
 refine ws (Step.storeObj (ls := [(false, 1, Fact.rep [] (x8.1.Stripe : Int)), (false, 1, Fact.ow [28] [] 35 (x8.1.Blocks : List (List UInt8))), (false, 1, Fact.ow [29] [] 4 (x8.1.Dirty : List Bool)), (false, 1, Fact.rep [] (x8.1.Phase : UInt8)), (false, 1, Fact.rep [] (x8.1.Deals : Bool)), (false, 1, Fact.rep [] (x8.1.Seq : UInt32))]) rfl ty28 rfl rfl (Has.s rfl) rfl (HasL.flds (Has.s rfl)) rfl) ?_
 refine wo (Spec.assign (Has.s rfl)) ?_
 refine Walk.nil ?_
 refine Leaf.thenN ?_
 refine CWalk.seq ?_
 obtain ⟨x9, hx9, hm⟩ := bind_some hm
 obtain ⟨x10, hx10, hm⟩ := bind_some hm
 refine CWalk.drawM [[], [], [0, 1], [0, 1, 2], [0, 1, 2, 3], [0, 1, 2, 3], [0, 1, 2, 3, 4], [0, 1, 2, 3, 4, 5, 6]] [[.fact 35 (Fact.rep [] (x9 : Config))], [.fact 36 (Fact.flds [(false, 1, Fact.rep [] (x8.1.Stripe : Int)), (false, 1, Fact.ow [28] [] 35 (x8.1.Blocks : List (List UInt8))), (false, 1, Fact.ow [29] [] 4 (x8.1.Dirty : List Bool)), (false, 1, Fact.rep [] (x8.1.Phase : UInt8)), (false, 1, Fact.rep [] (x8.1.Deals : Bool)), (false, 1, Fact.rep [] (x8.1.Seq : UInt32))])], [.fact 37 (Fact.tup2 (Fact.ow [38] [39] 37 (x10.1 : List Act37)) (Fact.rep [] (x10.2 : Int)))], [.fact 34 (Fact.tup2 (Fact.ow [38] [39] 37 (x10.1 : List Act37)) (Fact.rep [] (x10.2 : Int)))], [.fact 38 (Fact.ow [38] [39] 37 (x10.1 : List Act37))], [.fact 39 (Fact.rep [] (x10.2 : Int))], [.fact 8 (Fact.ow [38] [39] 37 (x10.1 : List Act37))], [.fact 9 (Fact.rep [] (x10.2 : Int))]] mixed (by kernel_rfl) (ao (so (Spec.callE [] 37 rfl en13 (law21_three_c  hx9) HasAll.nil)) (ao (so (Spec.loadObj (ls := [(false, 1, Fact.rep [] (x8.1.Stripe : Int)), (false, 1, Fact.ow [28] [] 35 (x8.1.Blocks : List (List UInt8))), (false, 1, Fact.ow [29] [] 4 (x8.1.Dirty : List Bool)), (false, 1, Fact.rep [] (x8.1.Phase : UInt8)), (false, 1, Fact.rep [] (x8.1.Deals : Bool)), (false, 1, Fact.rep [] (x8.1.Seq : UInt32))]) ty28 rfl rfl (Has.s rfl) rfl (HasGs.cons (HasG.s rfl) (HasGs.cons (HasG.s rfl) (HasGs.cons (HasG.s rfl) (HasGs.cons (HasG.s rfl) (HasGs.cons (HasG.s rfl) (HasGs.cons (HasG.s rfl) HasGs.nil)))))))) (ao (so (Spec.callE [28, 29] 38 rfl en9 (home_Lay_c x9 (-1 : Int) x8.1 hx10) (HasAll.cons (Has.fl (Has.s rfl)) (HasAll.cons (Has.fl Has.int) (HasAll.cons (Has.m (Has.cv (Has.s rfl) (Cv.trans (Cv.flds (CvL.cons Cv.fl (CvL.cons (Cv.trans (Cv.trans Cv.owSl (Cv.slRep (T' := [28]) rfl rfl)) (Cv.m rfl)) (CvL.cons (Cv.trans (Cv.trans Cv.owSl (Cv.slRep (T' := [29]) rfl rfl)) (Cv.m rfl)) (CvL.cons Cv.fl (CvL.cons Cv.fl (CvL.cons Cv.fl CvL.nil))))))) (Cv.close (T := [28, 29]) (chHead x8.1)))) rfl) HasAll.nil))))) (ao (so (Spec.move (Has.s rfl))) (ao (so (Spec.ext0 (Has.s rfl))) (ao (so (Spec.ext1 (Has.s rfl))) (ao (so (Spec.assign (Has.s rfl))) (ao (so (Spec.assign (Has.s rfl))) AllM.nil)))))))) ?_
 refine Leaf.thenN ?_
 refine CWalk.seq ?_
 refine CWalk.region ?_
 obtain ⟨x11, hx11, hm⟩ := bind_some hm
 refine wo (f := Fact.rep [] (x11 : Config)) (Spec.callE [] 40 rfl en13 (law21_three_c  hx11) HasAll.nil) ?_
 obtain ⟨x12, hx12, hm⟩ := bind_some hm
 refine wo (f := Fact.tup2 (Fact.ow [41] [42] 37 (x12.1 : List Act37)) (Fact.rep [] (x12.2 : Int))) (Spec.callE [] 41 rfl en15 (home_Flush_c x11 hx12) (HasAll.cons (Has.fl (Has.s rfl)) HasAll.nil)) ?_
 refine mv ?_
 refine wo (Spec.ext0 (Has.s rfl)) ?_
 refine wo (Spec.ext1 (Has.s rfl)) ?_
 refine wo (Spec.assign (Has.s rfl)) ?_
 refine wo (Spec.assign (Has.s rfl)) ?_
 refine Walk.nil ?_
 refine Leaf.thenN ?_
 refine CWalk.seq ?_
 refine CWalk.region ?_
 refine wo (Spec.build (us := [(0, .const (.int .i64 0)), (1, .const (.int .u8 3))]) (ls' := [(false, 1, Fact.rep [] ((0 : Int) : Int)), (false, 1, Fact.rep [] ((3 : UInt8) : UInt8)), (false, 1, Fact.rep [] ((0 : Int) : Int)), (false, 1, Fact.nilv)]) bd37 rfl (BP.cons rfl rfl Has.int Has.int (BP.cons rfl rfl (Has.u8 3 rfl) (Has.u8 3 rfl) BP.nil))) ?_
 refine wo (Spec.build (us := [(0, .const (.int .i64 1)), (1, .const (.int .u8 3))]) (ls' := [(false, 1, Fact.rep [] ((1 : Int) : Int)), (false, 1, Fact.rep [] ((3 : UInt8) : UInt8)), (false, 1, Fact.rep [] ((0 : Int) : Int)), (false, 1, Fact.nilv)]) bd37 rfl (BP.cons rfl rfl Has.int Has.int (BP.cons rfl rfl (Has.u8 3 rfl) (Has.u8 3 rfl) BP.nil))) ?_
 refine wo (Spec.build (us := [(0, .const (.int .i64 2)), (1, .const (.int .u8 3))]) (ls' := [(false, 1, Fact.rep [] ((2 : Int) : Int)), (false, 1, Fact.rep [] ((3 : UInt8) : UInt8)), (false, 1, Fact.rep [] ((0 : Int) : Int)), (false, 1, Fact.nilv)]) bd37 rfl (BP.cons rfl rfl Has.int Has.int (BP.cons rfl rfl (Has.u8 3 rfl) (Has.u8 3 rfl) BP.nil))) ?_
 refine wo (Spec.lit (xs := [.tmp 45, .tmp 46, .tmp 47]) (T := []) 43 rfl ow31 rfl rfl rfl rfl (HasEach.cons (Has.m (Has.cv (Has.s rfl) (Cv.trans (Cv.flds (CvL.cons Cv.fl (CvL.cons Cv.fl (CvL.cons Cv.fl (CvL.cons (Cv.trans (Cv.nil (T := [])) (Cv.m rfl)) CvL.nil))))) (Cv.close (T := []) (chAct37 (Act37.mk (0 : Int) (3 : UInt8) (0 : Int) ([] : List UInt8)))))) rfl) (HasEach.cons (Has.m (Has.cv (Has.s rfl) (Cv.trans (Cv.flds (CvL.cons Cv.fl (CvL.cons Cv.fl (CvL.cons Cv.fl (CvL.cons (Cv.trans (Cv.nil (T := [])) (Cv.m rfl)) CvL.nil))))) (Cv.close (T := []) (chAct37 (Act37.mk (1 : Int) (3 : UInt8) (0 : Int) ([] : List UInt8)))))) rfl) (HasEach.cons (Has.m (Has.cv (Has.s rfl) (Cv.trans (Cv.flds (CvL.cons Cv.fl (CvL.cons Cv.fl (CvL.cons Cv.fl (CvL.cons (Cv.trans (Cv.nil (T := [])) (Cv.m rfl)) CvL.nil))))) (Cv.close (T := []) (chAct37 (Act37.mk (2 : Int) (3 : UInt8) (0 : Int) ([] : List UInt8)))))) rfl) HasEach.nil)))) ?_
 refine wo (Spec.assign (Has.s rfl)) ?_
 refine Walk.nil ?_
 refine Leaf.thenN ?_
 refine CWalk.seq ?_
 refine CWalk.region ?_
 refine wo (Spec.build (us := []) (ls' := [(false, 1, Fact.rep [] ((0 : UInt32) : UInt32)), (false, 1, Fact.rep [] ((0 : Int) : Int)), (false, 1, Fact.rep [] ((0 : Int) : Int)), (false, 1, Fact.rep [] ((0 : Int) : Int)), (false, 1, Fact.rep [] ((0 : Int) : Int)), (false, 1, Fact.rep [] ((0 : Int) : Int))]) bd24 rfl BP.nil) ?_
 obtain ⟨x13, hx13, hm⟩ := bind_some hm
 refine wo (f := Fact.tup2 (Fact.ow [44] [45] 37 (x13.1 : List Act37)) (Fact.rep [] (x13.2 : Int))) (Spec.callE [] 44 rfl en15 (home_Flush_c (Config.mk (0 : UInt32) (0 : Int) (0 : Int) (0 : Int) (0 : Int) (0 : Int)) hx13) (HasAll.cons (Has.fl (Has.cv (Has.s rfl) (Cv.trans (Cv.flds (CvL.cons Cv.fl (CvL.cons Cv.fl (CvL.cons Cv.fl (CvL.cons Cv.fl (CvL.cons Cv.fl (CvL.cons Cv.fl CvL.nil))))))) (Cv.close (T := []) (chConfig (Config.mk (0 : UInt32) (0 : Int) (0 : Int) (0 : Int) (0 : Int) (0 : Int))))))) HasAll.nil)) ?_
 refine mv ?_
 refine wo (Spec.ext0 (Has.s rfl)) ?_
 refine wo (Spec.ext1 (Has.s rfl)) ?_
 refine wo (Spec.assign (Has.s rfl)) ?_
 refine wo (Spec.assign (Has.s rfl)) ?_
 refine Walk.nil ?_
 refine Leaf.thenN ?_
 refine CWalk.seq ?_
 refine CWalk.region ?_
 obtain ⟨x14, hx14, hm⟩ := bind_some hm
 refine wo (f := Fact.rep [] (x14 : Bool)) (Spec.callE [] 46 rfl en7 (law21_alive_c  hx14) HasAll.nil) ?_
 refine mv ?_
 obtain ⟨x15, hx15, hm⟩ := bind_some hm
 refine wg (f := Fact.flds [(false, 1, Fact.rep [] (x15.Disk : Int)), (false, 1, Fact.rep [] (x15.Kind : UInt8)), (false, 1, Fact.rep [] (x15.At : Int)), (false, 1, Fact.ow [47] [] 5 (x15.Data : List UInt8))]) rfl rfl (fun hb => Spec.callE [] 47 rfl en17 (law21_write_c (0 : Int) (2 : Int) (120 : UInt8) (gO_t hx15 hb)) (HasAll.cons (Has.fl Has.int) (HasAll.cons (Has.fl Has.int) (HasAll.cons (Has.fl (Has.u8 120 rfl)) HasAll.nil)))) ?_
 obtain ⟨x16, hx16, hm⟩ := bind_some hm
 refine wg (f := Fact.flds [(false, 1, Fact.rep [] (x16.Disk : Int)), (false, 1, Fact.rep [] (x16.Kind : UInt8)), (false, 1, Fact.rep [] (x16.At : Int)), (false, 1, Fact.ow [48] [] 5 (x16.Data : List UInt8))]) rfl rfl (fun hb => Spec.callE [] 48 rfl en17 (law21_write_c (1 : Int) (2 : Int) (112 : UInt8) (gO_t hx16 hb)) (HasAll.cons (Has.fl Has.int) (HasAll.cons (Has.fl Has.int) (HasAll.cons (Has.fl (Has.u8 112 rfl)) HasAll.nil)))) ?_
 refine wg rfl rfl (fun hb => Spec.lit (xs := [.tmp 56, .tmp 57]) (T := [47, 48]) 49 rfl ow31 rfl rfl rfl rfl (HasEach.cons (Has.m (Has.cv (Has.u rfl hb) (Cv.trans (Cv.flds (CvL.cons Cv.fl (CvL.cons Cv.fl (CvL.cons Cv.fl (CvL.cons (Cv.trans (Cv.trans Cv.owSl (Cv.slRep (T' := [47]) rfl rfl)) (Cv.m rfl)) CvL.nil))))) (Cv.close (T := [47]) (chAct37 x15)))) rfl) (HasEach.cons (Has.m (Has.cv (Has.u rfl hb) (Cv.trans (Cv.flds (CvL.cons Cv.fl (CvL.cons Cv.fl (CvL.cons Cv.fl (CvL.cons (Cv.trans (Cv.trans Cv.owSl (Cv.slRep (T' := [48]) rfl rfl)) (Cv.m rfl)) CvL.nil))))) (Cv.close (T := [48]) (chAct37 x16)))) rfl) HasEach.nil))) ?_
 obtain ⟨x17, hx17, hm⟩ := bind_some hm
 refine wg (f := Fact.rep [] (x17 : Bool)) rfl rfl (fun hb => Spec.callE [47, 48, 49] 50 rfl en16 (law21_is_c (2 : Int) ([x15, x16]) (gO_t hx17 hb)) (HasAll.cons (Has.fl Has.int) (HasAll.cons (Has.m (Has.u rfl hb) rfl) HasAll.nil))) ?_
 refine wo (Spec.and (Has.s rfl) (fun h => Has.u rfl h)) ?_
 refine mv ?_
 refine wg rfl rfl (fun hb => Spec.move (Has.s rfl)) ?_
 refine wg rfl rfl (fun hb => Spec.eqlI (Has.u rfl hb) Has.int) ?_
 refine wo (Spec.and (Has.s rfl) (fun h => Has.u rfl h)) ?_
 refine mv ?_
 refine wg rfl rfl (fun hb => Spec.move (Has.s rfl)) ?_
 refine wg rfl rfl (fun hb => Spec.eqlI (Has.u rfl hb) Has.int) ?_
 refine wo (Spec.and (Has.s rfl) (fun h => Has.u rfl h)) ?_
 refine mv ?_
 refine wg rfl rfl (fun hb => Spec.move (Has.s rfl)) ?_
 refine wg rfl rfl (fun hb => Spec.eqlI (Has.u rfl hb) Has.int) ?_
 refine wo (Spec.and (Has.s rfl) (fun h => Has.u rfl h)) ?_
 refine mv ?_
 refine wg rfl rfl (fun hb => Spec.move (Has.s rfl)) ?_
 refine wg rfl rfl (fun hb => Spec.eqlI (Has.u rfl hb) Has.int) ?_
 refine wo (Spec.and (Has.s rfl) (fun h => Has.u rfl h)) ?_
 refine mv ?_
 refine wg rfl rfl (fun hb => Spec.move (Has.s rfl)) ?_
 refine wg rfl rfl (fun hb => Spec.move (Has.s rfl)) ?_
 obtain ⟨x18, hx18, hm⟩ := bind_some hm
 refine wg (f := Fact.rep [] (x18 : Bool)) rfl rfl (fun hb => Spec.callE [41, 42, 43] 51 rfl en18 (ref05_Same_c x12.1 ([(Act37.mk (0 : Int) (3 : UInt8) (0 : Int) ([] : List UInt8)), (Act37.mk (1 : Int) (3 : UInt8) (0 : Int) ([] : List UInt8)), (Act37.mk (2 : Int) (3 : UInt8) (0 : Int) ([] : List UInt8))]) (gO_t hx18 hb)) (HasAll.cons (Has.m (Has.cv (Has.u rfl hb) (Cv.trans Cv.owSl (Cv.slRep (T' := [41, 42]) rfl rfl))) rfl) (HasAll.cons (Has.m (Has.u rfl hb) rfl) HasAll.nil))) ?_
 refine wo (Spec.and (Has.s rfl) (fun h => Has.u rfl h)) ?_
 refine mv ?_
 refine wg rfl rfl (fun hb => Spec.move (Has.s rfl)) ?_
 refine wg rfl rfl (fun hb => Spec.eqlI (Has.u rfl hb) Has.int) ?_
 refine wo (Spec.and (Has.s rfl) (fun h => Has.u rfl h)) ?_
 refine wo (Spec.assign (Has.s rfl)) ?_
 refine Walk.nil ?_
 refine Leaf.thenN ?_
 refine CWalk.ret ?_
 obtain rfl := Option.some.inj hm
 exact Leaf.retC1 rfl (HasR.cv (HasR.tmp (Has.s rfl)) Cv.fl)

end Go.Proofs.Ytcnmlbgcnkfnhaa
