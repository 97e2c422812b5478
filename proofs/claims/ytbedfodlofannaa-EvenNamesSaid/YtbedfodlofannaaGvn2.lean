/- Printed by a program of ours: models of functions, and that calls do what they say. -/
import Derived.Test.YtbedfodlofannaaGvn1
namespace Go.Proofs.Ytbedfodlofannaa
open Go GL
set_option linter.unusedVariables false

/-- freeboard/freeboardlaw18.EvenNames -/
def law18_EvenNames : Option (Bool) :=
  Option.bind (law18_three) (fun x1 => Option.bind (law18_one) (fun x2 => Option.bind (even_Parity x1 x2 (Plan.mk (1 : UInt8) ([] : List Int)) ([] : List (List UInt8))) (fun x3 => Option.bind (law18_three) (fun x4 => Option.bind (law18_one) (fun x5 => Option.bind (even_Parity x4 x5 (Plan.mk (2 : UInt8) ([(1 : Int)])) ([] : List (List UInt8))) (fun x6 => Option.bind (law18_three) (fun x7 => Option.bind (law18_one) (fun x8 => Option.bind (even_Parity x7 x8 (Plan.mk (2 : UInt8) ([(1 : Int)])) ([[(1 : UInt8)]])) (fun x9 => Option.bind (law18_three) (fun x10 => Option.bind (head_New x10 (0 : Int)) (fun x11 => Option.bind (law18_three) (fun x12 => Option.bind (even_Parity x12 x11.1 (Plan.mk (2 : UInt8) ([(1 : Int)])) ([([] : List UInt8)])) (fun x13 => Option.bind (law18_alive) (fun x14 => some ((((x14 && (x3.2 == (2 : Int))) && (x6.2 == (4 : Int))) && (x9.2 == (3 : Int))) && (x13.2 == (6 : Int)))))))))))))))))
set_option maxRecDepth 100000 in
set_option maxHeartbeats 2000000 in
theorem law18_EvenNames_c {r : Bool} (hm : law18_EvenNames = some r) : Ctr Try.prog 4 [] (.fl r) [] := by
 refine ctr_of_walk [[]] 67 Try.func4 rfl rfl rfl rfl (fun w0 om => ?_)
 unfold law18_EvenNames at hm
 refine CWalk.sub (G' := []) (Sub.nil) ?_
 refine CWalk.seq ?_
 refine CWalk.region ?_
 refine wo (Spec.assign Has.bool) ?_
 refine Walk.nil ?_
 refine Leaf.thenN ?_
 refine CWalk.seq ?_
 refine CWalk.region ?_
 refine wo (Spec.lit (xs := [.const (.int .i64 1)]) (T := []) 10 rfl ow29 rfl rfl rfl rfl (HasEach.cons (Has.fl Has.int) HasEach.nil)) ?_
 refine wo (Spec.build (us := [(0, .const (.int .u8 2)), (1, .tmp 12)]) (ls' := [(false, 1, Fact.rep [] ((2 : UInt8) : UInt8)), (false, 1, Fact.rep [10] ([(1 : Int)] : List Int))]) bd31 rfl (BP.cons rfl rfl (Has.u8 2 rfl) (Has.u8 2 rfl) (BP.cons rfl rfl (Has.s rfl) (Has.s rfl) BP.nil))) ?_
 refine ws (Step.allocObj (ls := [(false, 1, Fact.rep [] ((0 : UInt8) : UInt8)), (false, 1, Fact.nilv)]) 11 rfl rfl rfl rfl zl31) ?_
 refine ws (Step.storeObj (ls := [(false, 1, Fact.rep [] ((2 : UInt8) : UInt8)), (false, 1, Fact.rep [10] ([(1 : Int)] : List Int))]) rfl ty31 rfl rfl (Has.s rfl) rfl (HasL.flds (Has.s rfl)) rfl) ?_
 refine Walk.nil ?_
 refine Leaf.thenN ?_
 refine CWalk.seq ?_
 refine CWalk.region ?_
 obtain ⟨x1, hx1, hm⟩ := bind_some hm
 refine wo (f := Fact.rep [] (x1 : Config)) (Spec.callE [] 14 rfl en15 (law18_three_c  hx1) HasAll.nil) ?_
 obtain ⟨x2, hx2, hm⟩ := bind_some hm
 refine wo (f := Fact.flds [(false, 1, Fact.rep [] x2.Stripe), (false, 1, Fact.ow [15] [16] 36 (x2.Blocks : List (List UInt8))), (false, 1, Fact.ow [17] [] 4 (x2.Dirty : List Bool)), (false, 1, Fact.rep [] x2.Phase), (false, 1, Fact.rep [] x2.Deals), (false, 1, Fact.rep [] x2.Seq)]) (Spec.callE [] 15 rfl en16 (law18_one_c  hx2) HasAll.nil) ?_
 refine wo (Spec.build (us := [(0, .const (.int .u8 1))]) (ls' := [(false, 1, Fact.rep [] ((1 : UInt8) : UInt8)), (false, 1, Fact.nilv)]) bd31 rfl (BP.cons rfl rfl (Has.u8 1 rfl) (Has.u8 1 rfl) BP.nil)) ?_
 obtain ⟨x3, hx3, hm⟩ := bind_some hm
 refine wo (f := Fact.tup2 (Fact.sl [18] [] (x3.1 : List UInt8)) (Fact.rep [] x3.2)) (Spec.callE [15, 16, 17] 18 rfl en11 (even_Parity_c x1 x2 (Plan.mk (1 : UInt8) ([] : List Int)) ([] : List (List UInt8)) hx3) (HasAll.cons (Has.fl (Has.s rfl)) (HasAll.cons (Has.m (Has.cv (Has.s rfl) (Cv.trans (Cv.flds (CvL.cons Cv.fl (CvL.cons (Cv.trans (Cv.trans Cv.owSl (Cv.slRep (T' := [15, 16]) rfl rfl)) (Cv.m rfl)) (CvL.cons (Cv.trans (Cv.trans Cv.owSl (Cv.slRep (T' := [17]) rfl rfl)) (Cv.m rfl)) (CvL.cons Cv.fl (CvL.cons Cv.fl (CvL.cons Cv.fl CvL.nil))))))) (Cv.close (T := [15, 16, 17]) (chHead x2)))) rfl) (HasAll.cons (Has.m (Has.cv (Has.s rfl) (Cv.trans (Cv.flds (CvL.cons Cv.fl (CvL.cons (Cv.trans (Cv.nil (T := [])) (Cv.m rfl)) CvL.nil))) (Cv.close (T := []) (chPlan (Plan.mk (1 : UInt8) ([] : List Int)))))) rfl) (HasAll.cons (Has.m (Has.nil (List UInt8)) rfl) HasAll.nil))))) ?_
 refine mv ?_
 refine wo (Spec.ext0 (Has.s rfl)) ?_
 refine wo (Spec.ext1 (Has.s rfl)) ?_
 refine wo (Spec.assign (Has.s rfl)) ?_
 refine wo (Spec.assign (Has.s rfl)) ?_
 refine Walk.nil ?_
 refine Leaf.thenN ?_
 refine CWalk.seq ?_
 obtain ⟨x4, hx4, hm⟩ := bind_some hm
 obtain ⟨x5, hx5, hm⟩ := bind_some hm
 obtain ⟨x6, hx6, hm⟩ := bind_some hm
 refine CWalk.drawM [[], [0], [], [0, 1, 2], [0, 1, 2, 3], [0, 1, 2, 3, 4], [0, 1, 2, 3, 4], [0, 1, 2, 3, 4, 5], [0, 1, 2, 3, 4, 5, 6, 7]] [[.fact 22 (.rep [] (x4 : Config))], [.fact 23 (.flds [(false, 1, Fact.rep [] x5.Stripe), (false, 1, Fact.ow [20] [21] 36 (x5.Blocks : List (List UInt8))), (false, 1, Fact.ow [22] [] 4 (x5.Dirty : List Bool)), (false, 1, Fact.rep [] x5.Phase), (false, 1, Fact.rep [] x5.Deals), (false, 1, Fact.rep [] x5.Seq)])], [.fact 24 (.flds [(false, 1, Fact.rep [] ((2 : UInt8) : UInt8)), (false, 1, Fact.rep [10] ([(1 : Int)] : List Int))])], [.fact 25 (.tup2 (Fact.sl [23] [] (x6.1 : List UInt8)) (Fact.rep [] x6.2))], [.fact 21 (.tup2 (Fact.sl [23] [] (x6.1 : List UInt8)) (Fact.rep [] x6.2))], [.fact 26 (.sl [23] [] (x6.1 : List UInt8))], [.fact 27 (.rep [] x6.2)], [.fact 4 (.sl [23] [] (x6.1 : List UInt8))], [.fact 5 (.rep [] x6.2)]] mixed (by kernel_rfl) (ao (so (Spec.callE [] 19 rfl en15 (law18_three_c  hx4) HasAll.nil)) (ao (so (Spec.callE [] 20 rfl en16 (law18_one_c  hx5) HasAll.nil)) (ao (so (Spec.loadObj (ls := [(false, 1, Fact.rep [] ((2 : UInt8) : UInt8)), (false, 1, Fact.rep [10] ([(1 : Int)] : List Int))]) ty31 rfl rfl (Has.s rfl) rfl (HasGs.cons (HasG.s rfl) (HasGs.cons (HasG.s rfl) HasGs.nil)))) (ao (so (Spec.callE [10, 20, 21, 22] 23 rfl en11 (even_Parity_c x4 x5 (Plan.mk (2 : UInt8) ([(1 : Int)])) ([] : List (List UInt8)) hx6) (HasAll.cons (Has.fl (Has.s rfl)) (HasAll.cons (Has.m (Has.cv (Has.s rfl) (Cv.trans (Cv.flds (CvL.cons Cv.fl (CvL.cons (Cv.trans (Cv.trans Cv.owSl (Cv.slRep (T' := [20, 21]) rfl rfl)) (Cv.m rfl)) (CvL.cons (Cv.trans (Cv.trans Cv.owSl (Cv.slRep (T' := [22]) rfl rfl)) (Cv.m rfl)) (CvL.cons Cv.fl (CvL.cons Cv.fl (CvL.cons Cv.fl CvL.nil))))))) (Cv.close (T := [20, 21, 22]) (chHead x5)))) rfl) (HasAll.cons (Has.m (Has.cv (Has.s rfl) (Cv.trans (Cv.flds (CvL.cons Cv.fl (CvL.cons (Cv.m rfl) CvL.nil))) (Cv.close (T := [10]) (chPlan (Plan.mk (2 : UInt8) ([(1 : Int)])))))) rfl) (HasAll.cons (Has.m (Has.nil (List UInt8)) rfl) HasAll.nil)))))) (ao (so (Spec.move (Has.s rfl))) (ao (so (Spec.ext0 (Has.s rfl))) (ao (so (Spec.ext1 (Has.s rfl))) (ao (so (Spec.assign (Has.s rfl))) (ao (so (Spec.assign (Has.s rfl))) AllM.nil))))))))) ?_
 refine Leaf.thenN ?_
 refine CWalk.seq ?_
 obtain ⟨x7, hx7, hm⟩ := bind_some hm
 obtain ⟨x8, hx8, hm⟩ := bind_some hm
 obtain ⟨x9, hx9, hm⟩ := bind_some hm
 refine CWalk.drawM [[], [0], [], [], [3], [0, 1, 2, 3, 4], [0, 1, 2, 3, 4, 5], [0, 1, 2, 3, 4, 5, 6], [0, 1, 2, 3, 4, 5, 6], [0, 1, 2, 3, 4, 5, 6, 7], [0, 1, 2, 3, 4, 5, 6, 7, 8, 9]] [[.fact 29 (.rep [] (x7 : Config))], [.fact 30 (.flds [(false, 1, Fact.rep [] x8.Stripe), (false, 1, Fact.ow [25] [26] 36 (x8.Blocks : List (List UInt8))), (false, 1, Fact.ow [27] [] 4 (x8.Dirty : List Bool)), (false, 1, Fact.rep [] x8.Phase), (false, 1, Fact.rep [] x8.Deals), (false, 1, Fact.rep [] x8.Seq)])], [.fact 31 (.flds [(false, 1, Fact.rep [] ((2 : UInt8) : UInt8)), (false, 1, Fact.rep [10] ([(1 : Int)] : List Int))])], [.fact 32 (.rep [28] ([(1 : UInt8)] : List UInt8))], [.fact 33 (.rep [29, 28] ([[(1 : UInt8)]] : List (List UInt8)))], [.fact 34 (.tup2 (Fact.sl [30] [] (x9.1 : List UInt8)) (Fact.rep [] x9.2))], [.fact 28 (.tup2 (Fact.sl [30] [] (x9.1 : List UInt8)) (Fact.rep [] x9.2))], [.fact 35 (.sl [30] [] (x9.1 : List UInt8))], [.fact 36 (.rep [] x9.2)], [.fact 6 (.sl [30] [] (x9.1 : List UInt8))], [.fact 7 (.rep [] x9.2)]] mixed (by kernel_rfl) (ao (so (Spec.callE [] 24 rfl en15 (law18_three_c  hx7) HasAll.nil)) (ao (so (Spec.callE [] 25 rfl en16 (law18_one_c  hx8) HasAll.nil)) (ao (so (Spec.loadObj (ls := [(false, 1, Fact.rep [] ((2 : UInt8) : UInt8)), (false, 1, Fact.rep [10] ([(1 : Int)] : List Int))]) ty31 rfl rfl (Has.s rfl) rfl (HasGs.cons (HasG.s rfl) (HasGs.cons (HasG.s rfl) HasGs.nil)))) (ao (so (Spec.lit (xs := [.const (.int .u8 1)]) (T := []) 28 rfl ow36 rfl rfl rfl rfl (HasEach.cons (Has.fl (Has.u8 1 rfl)) HasEach.nil))) (ao (so (Spec.lit (xs := [.tmp 32]) (T := [28]) 29 rfl ow25 rfl rfl rfl rfl (HasEach.cons (Has.m (Has.s rfl) rfl) HasEach.nil))) (ao (so (Spec.callE [10, 25, 26, 27, 28, 29] 30 rfl en11 (even_Parity_c x7 x8 (Plan.mk (2 : UInt8) ([(1 : Int)])) ([[(1 : UInt8)]]) hx9) (HasAll.cons (Has.fl (Has.s rfl)) (HasAll.cons (Has.m (Has.cv (Has.s rfl) (Cv.trans (Cv.flds (CvL.cons Cv.fl (CvL.cons (Cv.trans (Cv.trans Cv.owSl (Cv.slRep (T' := [25, 26]) rfl rfl)) (Cv.m rfl)) (CvL.cons (Cv.trans (Cv.trans Cv.owSl (Cv.slRep (T' := [27]) rfl rfl)) (Cv.m rfl)) (CvL.cons Cv.fl (CvL.cons Cv.fl (CvL.cons Cv.fl CvL.nil))))))) (Cv.close (T := [25, 26, 27]) (chHead x8)))) rfl) (HasAll.cons (Has.m (Has.cv (Has.s rfl) (Cv.trans (Cv.flds (CvL.cons Cv.fl (CvL.cons (Cv.m rfl) CvL.nil))) (Cv.close (T := [10]) (chPlan (Plan.mk (2 : UInt8) ([(1 : Int)])))))) rfl) (HasAll.cons (Has.m (Has.s rfl) rfl) HasAll.nil)))))) (ao (so (Spec.move (Has.s rfl))) (ao (so (Spec.ext0 (Has.s rfl))) (ao (so (Spec.ext1 (Has.s rfl))) (ao (so (Spec.assign (Has.s rfl))) (ao (so (Spec.assign (Has.s rfl))) AllM.nil))))))))))) ?_
 refine Leaf.thenN ?_
 refine CWalk.seq ?_
 refine CWalk.region ?_
 obtain ⟨x10, hx10, hm⟩ := bind_some hm
 refine wo (f := Fact.rep [] (x10 : Config)) (Spec.callE [] 31 rfl en15 (law18_three_c  hx10) HasAll.nil) ?_
 obtain ⟨x11, hx11, hm⟩ := bind_some hm
 refine wo (f := Fact.tup2 (Fact.flds [(false, 1, Fact.rep [] x11.1.Stripe), (false, 1, Fact.ow [32] [] 36 (x11.1.Blocks : List (List UInt8))), (false, 1, Fact.ow [33] [] 4 (x11.1.Dirty : List Bool)), (false, 1, Fact.rep [] x11.1.Phase), (false, 1, Fact.rep [] x11.1.Deals), (false, 1, Fact.rep [] x11.1.Seq)]) (Fact.rep [] x11.2)) (Spec.callE [] 32 rfl en17 (head_New_c x10 (0 : Int) hx11) (HasAll.cons (Has.fl (Has.s rfl)) (HasAll.cons (Has.fl Has.int) HasAll.nil))) ?_
 refine mv ?_
 refine wo (Spec.ext0 (Has.s rfl)) ?_
 refine wo (Spec.ext1 (Has.s rfl)) ?_
 refine ws (Step.allocObj (ls := [(false, 1, Fact.rep [] ((0 : Int) : Int)), (false, 1, Fact.nilv), (false, 1, Fact.nilv), (false, 1, Fact.rep [] ((0 : UInt8) : UInt8)), (false, 1, Fact.rep [] (false : Bool)), (false, 1, Fact.rep [] ((0 : UInt32) : UInt32))]) 34 rfl rfl rfl rfl zl28) ?_
 refine ws (Step.storeObj (ls := [(false, 1, Fact.rep [] x11.1.Stripe), (false, 1, Fact.ow [32] [] 36 (x11.1.Blocks : List (List UInt8))), (false, 1, Fact.ow [33] [] 4 (x11.1.Dirty : List Bool)), (false, 1, Fact.rep [] x11.1.Phase), (false, 1, Fact.rep [] x11.1.Deals), (false, 1, Fact.rep [] x11.1.Seq)]) rfl ty28 rfl rfl (Has.s rfl) rfl (HasL.flds (Has.s rfl)) rfl) ?_
 refine wo (Spec.assign (Has.s rfl)) ?_
 refine Walk.nil ?_
 refine Leaf.thenN ?_
 refine CWalk.seq ?_
 obtain ⟨x12, hx12, hm⟩ := bind_some hm
 obtain ⟨x13, hx13, hm⟩ := bind_some hm
 refine CWalk.drawM [[], [], [], [], [0, 1, 2, 3], [0, 1, 2, 3, 4], [0, 1, 2, 3, 4, 5], [0, 1, 2, 3, 4, 5], [0, 1, 2, 3, 4, 5, 6], [0, 1, 2, 3, 4, 5, 6, 7, 8]] [[.fact 43 (.rep [] (x12 : Config))], [.fact 44 (.flds [(false, 1, Fact.rep [] x11.1.Stripe), (false, 1, Fact.ow [32] [] 36 (x11.1.Blocks : List (List UInt8))), (false, 1, Fact.ow [33] [] 4 (x11.1.Dirty : List Bool)), (false, 1, Fact.rep [] x11.1.Phase), (false, 1, Fact.rep [] x11.1.Deals), (false, 1, Fact.rep [] x11.1.Seq)])], [.fact 45 (.flds [(false, 1, Fact.rep [] ((2 : UInt8) : UInt8)), (false, 1, Fact.rep [10] ([(1 : Int)] : List Int))])], [.fact 46 (.rep [42] ([([] : List UInt8)] : List (List UInt8)))], [.fact 47 (.tup2 (Fact.sl [43] [] (x13.1 : List UInt8)) (Fact.rep [] x13.2))], [.fact 42 (.tup2 (Fact.sl [43] [] (x13.1 : List UInt8)) (Fact.rep [] x13.2))], [.fact 48 (.sl [43] [] (x13.1 : List UInt8))], [.fact 49 (.rep [] x13.2)], [.fact 10 (.sl [43] [] (x13.1 : List UInt8))], [.fact 11 (.rep [] x13.2)]] mixed (by kernel_rfl) (ao (so (Spec.callE [] 41 rfl en15 (law18_three_c  hx12) HasAll.nil)) (ao (so (Spec.loadObj (ls := [(false, 1, Fact.rep [] x11.1.Stripe), (false, 1, Fact.ow [32] [] 36 (x11.1.Blocks : List (List UInt8))), (false, 1, Fact.ow [33] [] 4 (x11.1.Dirty : List Bool)), (false, 1, Fact.rep [] x11.1.Phase), (false, 1, Fact.rep [] x11.1.Deals), (false, 1, Fact.rep [] x11.1.Seq)]) ty28 rfl rfl (Has.s rfl) rfl (HasGs.cons (HasG.s rfl) (HasGs.cons (HasG.s rfl) (HasGs.cons (HasG.s rfl) (HasGs.cons (HasG.s rfl) (HasGs.cons (HasG.s rfl) (HasGs.cons (HasG.s rfl) HasGs.nil)))))))) (ao (so (Spec.loadObj (ls := [(false, 1, Fact.rep [] ((2 : UInt8) : UInt8)), (false, 1, Fact.rep [10] ([(1 : Int)] : List Int))]) ty31 rfl rfl (Has.s rfl) rfl (HasGs.cons (HasG.s rfl) (HasGs.cons (HasG.s rfl) HasGs.nil)))) (ao (so (Spec.lit (xs := [.const (.slice none 0 0)]) (T := []) 42 rfl ow25 rfl rfl rfl rfl (HasEach.cons (Has.m (Has.nil UInt8) rfl) HasEach.nil))) (ao (so (Spec.callE [10, 32, 33, 42] 43 rfl en11 (even_Parity_c x12 x11.1 (Plan.mk (2 : UInt8) ([(1 : Int)])) ([([] : List UInt8)]) hx13) (HasAll.cons (Has.fl (Has.s rfl)) (HasAll.cons (Has.m (Has.cv (Has.s rfl) (Cv.trans (Cv.flds (CvL.cons Cv.fl (CvL.cons (Cv.trans (Cv.trans Cv.owSl (Cv.slRep (T' := [32]) rfl rfl)) (Cv.m rfl)) (CvL.cons (Cv.trans (Cv.trans Cv.owSl (Cv.slRep (T' := [33]) rfl rfl)) (Cv.m rfl)) (CvL.cons Cv.fl (CvL.cons Cv.fl (CvL.cons Cv.fl CvL.nil))))))) (Cv.close (T := [32, 33]) (chHead x11.1)))) rfl) (HasAll.cons (Has.m (Has.cv (Has.s rfl) (Cv.trans (Cv.flds (CvL.cons Cv.fl (CvL.cons (Cv.m rfl) CvL.nil))) (Cv.close (T := [10]) (chPlan (Plan.mk (2 : UInt8) ([(1 : Int)])))))) rfl) (HasAll.cons (Has.m (Has.s rfl) rfl) HasAll.nil)))))) (ao (so (Spec.move (Has.s rfl))) (ao (so (Spec.ext0 (Has.s rfl))) (ao (so (Spec.ext1 (Has.s rfl))) (ao (so (Spec.assign (Has.s rfl))) (ao (so (Spec.assign (Has.s rfl))) AllM.nil)))))))))) ?_
 refine Leaf.thenN ?_
 refine CWalk.seq ?_
 refine CWalk.region ?_
 obtain ⟨x14, hx14, hm⟩ := bind_some hm
 refine wo (f := Fact.rep [] (x14 : Bool)) (Spec.callE [] 44 rfl en18 (law18_alive_c  hx14) HasAll.nil) ?_
 refine mv ?_
 refine wg rfl rfl (fun hb => Spec.move (Has.s rfl)) ?_
 refine wg rfl rfl (fun hb => Spec.eqlI (Has.u rfl hb) Has.int) ?_
 refine wo (Spec.and (Has.s rfl) (fun h => Has.u rfl h)) ?_
 refine mv ?_
 refine wg rfl rfl (fun hb => Spec.move (Has.s rfl)) ?_
 refine wg rfl rfl (fun hb => Spec.eqlI (Has.u rfl hb) Has.int) ?_
 refine wo (Spec.and (Has.s rfl) (fun h => Has.u rfl h)) ?_
 refine mv ?_
 refine wg rfl rfl (fun hb => Spec.move (Has.s rfl)) ?_
 refine wg rfl rfl (fun hb => Spec.eqlI (Has.u rfl hb) Has.int) ?_
 refine wo (Spec.and (Has.s rfl) (fun h => Has.u rfl h)) ?_
 refine mv ?_
 refine wg rfl rfl (fun hb => Spec.move (Has.s rfl)) ?_
 refine wg rfl rfl (fun hb => Spec.eqlI (Has.u rfl hb) Has.int) ?_
 refine wo (Spec.and (Has.s rfl) (fun h => Has.u rfl h)) ?_
 refine wo (Spec.assign (Has.s rfl)) ?_
 refine Walk.nil ?_
 refine Leaf.thenN ?_
 refine CWalk.ret ?_
 obtain rfl := Option.some.inj hm
 exact Leaf.retC1 rfl (HasR.cv (HasR.tmp (Has.s rfl)) Cv.fl)

end Go.Proofs.Ytbedfodlofannaa
