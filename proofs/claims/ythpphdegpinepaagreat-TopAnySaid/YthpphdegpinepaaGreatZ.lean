/- Proved here: the statement Rows.TopAnySaid, of the Go function freeboard/freeboardtop.TopAny. -/
import Derived.Test.YthpphdegpinepaaGreatRows
import Derived.Test.YthpphdegpinepaaGreatL2
import Derived.Test.YthpphdegpinepaaGreatW9
namespace Go.Proofs.YthpphdegpinepaaGreat.topAny
open Go GL Go.ChangeShapes Go.WideShapes Go.ChangeAt Go.RowKit
open Go.Proofs.Tryz renaming prog -> H, underlying77 -> n6, underlying3 -> qS
set_option linter.all false
theorem own:ownKnob Tryz.prog.godebug=none:=by kernel_rfl
theorem laidOut:laidOutB H=true:=by kernel_rfl
set_option maxRecDepth 100000 in
theorem WK(L:Type)(enc:TypeId×Value->L)(W:Go.World)(N:Nat)(args:Array Value)(ds gs:List (DataW L))(before:List MemPlace)
  (j:∀(K:Nat) t v,Tryz.f3.params[K]? =some t->args[K]? =some v->Value.okWide H W .any N t v)
  (E:DataW.Whole enc H Tryz.f3.params.toList Rows.topAnySpec.vars false W args.toList ds gs before):
  Calls H 3 args W λe ae=>∃v,e= .returned v/\Rows.topAnySpec.post enc H Tryz.f3 false true false false W args v ae:=by
 have Q:=E;obtain⟨p,q,O,aG,rfl,o,ar⟩:=E;have B:DataW.TrodAll enc H W 0 (λ_=>true) true Tryz.f3.params.toList args.toList ds p:=O;rw[Tryz.params3]at B j;obtain⟨G,an,aF,ag,aB,q0,e0,rfl,rfl,ad,U⟩:=trodAll_cons B;obtain⟨D,ak,az,ap,aH,q1,e1,rfl,rfl,af,Z⟩:=trodAll_cons U;obtain⟨C,al,aE,aq,p2,q2,e2,rfl,rfl,Y,V⟩:=trodAll_cons Z;obtain⟨I,am,av,ao,p3,q3,e3,rfl,rfl,aa,X⟩:=trodAll_cons V;obtain⟨rfl,rfl,rfl⟩:=trodAll_nil X;subst e3;subst e2;subst e1;obtain rfl:args=[G,D,C,I].toArray:=by cases args;simp_all
 obtain⟨w,w0,S⟩:=Ct (Ty.of (by kernel_rfl):Ty H 22 (List aU)) (OT.slice Tryz.underlying22 (by kernel_rfl) (by decide) (OT.struct (λy=>aU.mk y.1 y.2.1 y.2.2) Tryz.underlying96 (by kernel_rfl) (OF.cons (OT.slice n6 (by kernel_rfl) (by decide) (OT.slice Tryz.underlying43 (by kernel_rfl) (by decide) (OT.u8 Tryz.underlying5))) rfl (by kernel_rfl) (OF.cons (OT.slice Tryz.underlying94 (by kernel_rfl) (by decide) (OT.struct (λy=>fB.mk y.1 y.2) Tryz.underlying123 (by kernel_rfl) (OF.cons (OT.i64 qS) rfl (by kernel_rfl) (OF.one (OT.slice Tryz.underlying43 (by kernel_rfl) (by decide) (OT.u8 Tryz.underlying5)) rfl (by kernel_rfl))) (λ_=>rfl))) rfl (by kernel_rfl) (OF.one (OT.bool Tryz.underlying4) rfl (by kernel_rfl)))) (λ_=>rfl))).h (j 0 22 G rfl rfl) ad (λb off a=>o b off (by simp[a]));obtain⟨A,aA,ac⟩:=Ct (Ty.of (by kernel_rfl):Ty H 25 (J)) (OT.struct (λy=>J.mk y.1 y.2.1 y.2.2.1 y.2.2.2.1 y.2.2.2.2.1 y.2.2.2.2.2) Tryz.underlying25 (by kernel_rfl) (OF.cons (OT.u32 Tryz.underlying23) rfl (by kernel_rfl) (OF.cons (OT.i64 qS) rfl (by kernel_rfl) (OF.cons (OT.i64 qS) rfl (by kernel_rfl) (OF.cons (OT.i64 qS) rfl (by kernel_rfl) (OF.cons (OT.i64 qS) rfl (by kernel_rfl) (OF.one (OT.i64 qS) rfl (by kernel_rfl))))))) (λ_=>rfl)).h (j 1 25 D rfl rfl) af (λb off a=>o b off (by simp[a]));obtain⟨u,w2,z2⟩:=Ct (Ty.of (by kernel_rfl):Ty H 4 (Bool)) (OT.bool Tryz.underlying4).h (j 2 4 C rfl rfl) Y (λb off a=>o b off (by simp[a]));obtain⟨z,w3,z3⟩:=Ct (Ty.of (by kernel_rfl):Ty H 5 (UInt8)) (OT.u8 Tryz.underlying5).h (j 3 5 I rfl rfl) aa (λb off a=>o b off (by simp[a]));have a:zM w A u z=some true:=U8 w A u z;exact Y1 (tb:=4) laidOut (by kernel_rfl) (by kernel_rfl) (by kernel_rfl) rfl (by
  intro ds r;have r:ds.length=4:=r
  match ds,r with
  |[ay,c1,aC,aw],_=>rfl) Q (Yh (RO w A u z a) (Dm S (Dm ac (Dm z2 (Dm z3 TS)))))
set_option maxRecDepth 100000 in
theorem lifted(os:Os)(started:os.Started)(a:Type)(enc:TypeId×Value->a):
  ReturnsInHanded {} Tryz.checked os 3 .any (Rows.topAnySpec.pre6 enc H Tryz.f3 Rows.topAnyRow.domain false) (Rows.topAnySpec.post enc H Tryz.f3 false true false false):=by
 refine returnsInHanded_of_change (C:=Tryz.checked) own started (by kernel_rfl) Tryz.func3
  (ChangeSpec.witness6 (enc:=enc) (C:=Tryz.checked) false ⟨#[], #[.slice none 0 0, .agg #[.int .u32 0, .int .i64 0, .int .i64 0, .int .i64 0, .int .i64 0, .int .i64 0], .bool false, .int .u8 0],[]⟩ 8 (by kernel_rfl) (by kernel_rfl) (by kernel_rfl) (by kernel_rfl)) ?_
 intro W o args ds gs before j q _ _;exact WK a enc W o args ds gs before j q
theorem an{a b:Bool}(h:a=true)(k:b=true):(a&&b)=true:=by subst h;exact k
theorem q0:Rows.topAnyRow.wf (OpenSpec.ofChange Rows.topAnySpec)=true:=by kernel_rfl
theorem q1:laidOutB Tryz.pinned.checked.prog=true:=by kernel_rfl
theorem q2:mapsRowed Tryz.pinned.checked.prog=true:=by kernel_rfl
theorem q3:Tryz.f3.params.all (Tryz.pinned.checked.prog.readableRec ·)=true:=by kernel_rfl
theorem q4:namedTie Tryz.pinned.checked.prog Rows.topAnyRow.named Rows.topAnySpec.vars=true:=by kernel_rfl
theorem q5:(Rows.topAnyRow.stops==[])=true:=by kernel_rfl
theorem q6:(Tryz.pinned.checked.prog.stops==[])=true:=by kernel_rfl
theorem q7:(Rows.topAnyRow.knobs==[])=true:=by kernel_rfl
theorem q8:(Tryz.pinned.checked.prog.stopKnobs==[])=true:=by kernel_rfl
theorem q9:(Rows.topAnyRow.inPlace==Tryz.pinned.checked.prog.inPlace 3)=true:=by kernel_rfl
theorem Y8:(Rows.topAnyRow.unfollowed==Tryz.pinned.checked.prog.unfollowed 3)=true:=by kernel_rfl
theorem RN:(Rows.topAnyRow.recurses==Tryz.pinned.checked.prog.recurses 3)=true:=by kernel_rfl
theorem Wq:(Rows.topAnyRow.named==Tryz.pinned.checked.prog.varsNamed 3)=true:=by kernel_rfl
theorem ZA:(Rows.topAnyRow.maps==(Tryz.f3.params.toList++Rows.topAnySpec.plain.varTypes Tryz.pinned.checked.prog).any (Tryz.pinned.checked.prog.mapsRec ·))=true:=by kernel_rfl
theorem U0:(Rows.topAnyRow.ifaces==(Tryz.f3.params.toList++Rows.topAnySpec.plain.varTypes Tryz.pinned.checked.prog).any (Tryz.pinned.checked.prog.ifacesRec ·))=true:=by kernel_rfl
theorem ZB:(Rows.topAnyRow.mapsOut==Tryz.pinned.checked.prog.mapsAmong Tryz.f3.resultTypes.toList)=true:=by kernel_rfl
theorem YZ:(Rows.topAnyRow.loops==(Tryz.f3.params.toList++Rows.topAnySpec.plain.varTypes Tryz.pinned.checked.prog).any (Tryz.pinned.checked.prog.loopsFrom ·))=true:=by kernel_rfl
theorem Sd:(Rows.topAnyRow.wideKeys==(Tryz.f3.params.toList++Rows.topAnySpec.plain.varTypes Tryz.pinned.checked.prog++Tryz.f3.resultTypes.toList).any (Tryz.pinned.checked.prog.wideKeysFrom ·))=true:=by kernel_rfl
theorem Q':Rows.topAnySpec.vars.all (Tryz.pinned.checked.prog.varReadable ·)=true:=by kernel_rfl
theorem R4:Tryz.f3.resultTypes.all (λt=>Tryz.pinned.checked.prog.readableRec t&&decide (t<Tryz.pinned.checked.prog.types.size))=true:=by kernel_rfl
theorem Ua:(Rows.topAnyRow.ifacesOut==Tryz.f3.resultTypes.toList.any (Tryz.pinned.checked.prog.ifacesRec ·))=true:=by kernel_rfl
theorem SV:(Rows.topAnyRow.loopsOut==Tryz.f3.resultTypes.toList.any (Tryz.pinned.checked.prog.loopsFrom ·))=true:=by kernel_rfl
theorem XZ:(Rows.topAnyRow.plainKeys==Tryz.pinned.checked.prog.plainKeys)=true:=by kernel_rfl
theorem RD:Rows.topAnyRow.shortTexts.isNone=true:=by kernel_rfl
theorem Wm:Tryz.pinned.checked.prog.stopsHeard=true:=by kernel_rfl
theorem Uq:Tryz.pinned.checked.prog.mayEnter=true:=by kernel_rfl
theorem Zn:(Rows.topAnyRow.lifted==Tryz.pinned.checked.prog.liftsFinal)=true:=by kernel_rfl
theorem Tw:(Tryz.pinned.checked.prog.make==some Rows.topAnyRow.make)=true:=by kernel_rfl
theorem YD:(Rows.topAnyRow.kinds==(if Rows.topAnyRow.domain.isEmpty then[]else Tryz.f3.params.toList.map λt=>match Tryz.pinned.checked.prog.underlying t with|some (.int k)=>some k|_=>none))=true:=by kernel_rfl
theorem WU:(Rows.topAnyRow.pinned==Rows.topAnyRow.pinnedBy)=true:=by kernel_rfl
theorem YP:(Rows.topAnyRow.veiled==(Tryz.f3.params.toList++Rows.topAnySpec.plain.varTypes Tryz.pinned.checked.prog++Tryz.f3.resultTypes.toList).any (Tryz.pinned.checked.prog.veiledRec ·))=true:=by kernel_rfl
theorem XR:Rows.topAnyRow.veiledFits Tryz.pinned.checked.prog Tryz.f3.params.toList (Tryz.f3.params.toList++Rows.topAnySpec.plain.varTypes Tryz.pinned.checked.prog++Tryz.f3.resultTypes.toList)=true:=by kernel_rfl
set_option maxRecDepth 100000 in
theorem closed:joinedFacts Tryz.pinned.checked.prog 3 Tryz.f3 Rows.topAnySpec Rows.topAnyRow=true:=by unfold joinedFacts;exact(an (an (an (an (an (an (an (an (an (an (an (an (an (an (an (an (an (an (an (an (an (an (an (an (an (an (an (an (an (an (an q0 q1) q2) q3) q4) q5) q6) q7) q8) q9) Y8) RN) Wq) ZA) U0) ZB) YZ) Sd) Q') R4) Ua) SV) XZ) RD) Wm) Uq) Zn) Tw) YD) WU) YP) XR)
theorem Zp:Rows.topAnyRow.holds Tryz.pinned (OpenSpec.ofChange Rows.topAnySpec):=
 OpenClaim.holds_of_wide 3 Tryz.f3 rfl rfl rfl rfl rfl rfl rfl ⟨rfl,rfl,rfl,rfl,rfl⟩ rfl rfl rfl rfl rfl (by kernel_rfl) Tryz.func3 closed
  (of_decide_eq_true (by kernel_rfl)) (by unfold Func.isWrapper;first|(rw[if_pos (by decide+kernel)];kernel_rfl)|(rw[if_neg (by decide+kernel)];exact⟨rfl,rfl⟩))
  (λos started a enc _=>lifted os started a enc)
theorem proved:Rows.TopAnySaid:=
 Zp
end Go.Proofs.YthpphdegpinepaaGreat.topAny
