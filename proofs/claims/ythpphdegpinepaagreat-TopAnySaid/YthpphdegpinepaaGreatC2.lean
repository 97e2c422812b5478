/- Part of the proof of TopAny. -/
import Derived.Test.YthpphdegpinepaaGreatC1
namespace GL
open Go
open Nat renaming ble -> bx, zero_add -> dQ, blt -> bt, blt_eq -> fu, beq -> ct, eq_of_beq_eq_true -> iI, lt_of_lt_of_le -> nR, add_mul -> h_, min_eq_left -> jN, mul_le_mul_right -> iJ, le_refl -> bh, add_zero -> ja, le_trans -> m5, zero_le -> jM, mul_one -> ir, lt_or_ge -> mh
open List renaming getElem?_eq_some_iff -> cy, foldl_cons -> k9, mem_cons -> fp, mem_append_left -> gY, mem_append_right -> gh, take_append -> oZ, take_of_length_le -> fm, length_take -> cf, replicate -> dr, eq_nil_of_length_eq_zero -> y8, mem_replicate -> vm, length_append -> bY, size_toArray -> g5, length_drop -> eH, take_append_of_le_length -> iM, range -> m9, all_eq_true -> i_, mem_range -> jc, getElem?_take -> o8, mem_singleton -> dz, map_cons -> fh, length_singleton -> je, drop_drop -> qO, drop_left -> y7, cons_append -> kE, take_zero -> mi, nil_append -> gZ, toList_toArray -> kf, take_append_drop -> sM, mem_cons_of_mem -> fM, length_set -> kD, drop_of_length_le -> kb, append_nil -> jb, length_eq_one_iff -> vn, mem_cons_self -> ml, findIdx?_cons -> sN, getElem?_cons_succ -> Q6, find?_cons -> qQ, any_cons -> J4, filter_eq_self -> qR, any_eq_false -> ED, nodup_cons -> qJ, mem_map -> gm, filter_cons -> jP, map_map -> vi, map_congr_left -> vj, getElem?_eq_getElem -> ek, map_append -> mm, nodup_append -> vp, mem_append -> dx, not_mem_nil -> vl, getElem?_append_right -> oY, getElem?_append_left -> m8, ext_getElem? -> o0, getElem?_drop -> ke, getElem?_eq_none -> Ex, append_assoc -> fE, mapM_cons -> nb
open Go.Fence renaming wide -> nS
open Bool renaming and_eq_true -> gg, not_eq_true' -> m6, false_eq_true -> kY, eq_iff_iff -> nU
open Go.Deferred renaming ofValue -> nT
open Go.Instr renaming loadAt -> lE, sureAddr -> fL, sliceAt -> pd, slice -> sJ, sliceBounds -> pe, sliceBound -> sK, storeAt -> o9, indexAt -> vh, fill -> m_, findNow -> EC, lookup -> J5, checkKey -> sP, findKey -> pf, typeAssert -> J7, extract -> nV
open Go.Value renaming oneCell' -> j_, ownBlock -> kB, int -> sH, agg -> mn
open Option renaming map_some -> jd, map_none -> o_, bind_some -> bo, map_eq_some_iff -> iK
open Go.Sem renaming run_bind -> cU, run_map -> kc, run_pure -> gx
open Int renaming toNat -> qP, toNat_natCast -> Q5
open Go.Builtin renaming clear_ -> nW, zeroCells -> kF, firstCells -> J3, copy_ -> jO, delete_ -> J6
open Go.Oper renaming wp -> dy
open Go.Region renaming wanted -> gH, ready -> qN, binds -> sL
open Go.Result renaming andThen_ok -> eA
open Go renaming sizeOf -> oX
open Go.Op renaming equalIn -> nX
open Go.Calls renaming mono -> kZ
open Pure renaming pure -> vg
open Go.IntKind renaming bits -> qH, wrap -> yY, signed -> yZ
open BitVec renaming ofInt -> lD
open UInt32 renaming ofNat -> vk
open Go.MapKept renaming run_checkKey -> y_, IsKey -> vo, run_getObj_map -> nc, run_setObj_map -> zm
open UInt8 renaming ofNat -> qG
open Go.Exit renaming inBlock -> m7
set_option linter.all false
variable {α β S B γ:Type}{x p:Operand}{w w':World}{t n i off k N q d j dj d1 d2 d3 t2:Nat}{P:Program}{T' te' shc T1:List Nat}{v:Value}{b want:Bool}{a:Act}{ops:Array Oper}{ty e1 e2 t' kt et y1 y2 y3 mt:TypeId}{af a1 a2 a3:Array Edge}{cs:List Value}{c:Code}{ats:Array TypeId}{pl:List (Nat×Nat)}{Fe F':Nat->Prop}{o:Oper}{us:List (Nat×Operand)}{u1 u2 u3:Op}{p1 pos:String}{lab:Nat->Int×Nat}{ks:List FuncId}{gd:Option (Nat×Bool)}{AH:List (List Nat)}{l:List α}{y r:α}
variable {G K J H:List It}{f f1 f2 f3 f0 f4 f':aa}{g g':Gh}{X:Cx}{fs:List aa}{Is:List (List It)}
variable {pre:List bm}{out:bm}
variable {ls ls' ms:Ls}{ps:Ps}
structure fK where
 l:Nat
 D:Nat
 fn:FuncId
 tm:Array Value
 ps:Array Tmp
 as:Code
 bd:Code
def fK.rc(ρ:fK)(st:LoopState)(z:Option Code):Loop:={state:=st,pending:=z,fn:=ρ.fn,tmps:=ρ.tm,params:=ρ.ps,assign:=ρ.as,body:=ρ.bd,defers:=ρ.D}
def fK.mark(ρ:fK):Deferred:={target:= .collected ρ.D,args:= #[]}
structure fK.Ok(ρ:fK)(N:Nat)(u:Nat->Value)(ps:Array Tmp)(as bd:Code):Prop where
 sz:ρ.tm.size=N
 hu:∀s,ρ.tm.getD s undef=u s
 ps:ρ.ps=ps
 as:ρ.as=as
 bd:ρ.bd=bd
def aa.rc(t:Nat)(ρ:fK)(st:LoopState)(D:Option Code):aa where
 bj:=[t]
 ids:=[]
 p:=λg _ w=>w.heap[ρ.l]? =some (.loop (ρ.rc st D))/\g.om ρ.l=t
 aD:=λg g' v w w' I h=>by obtain⟨A,z⟩:=h;have E:=(Array.getElem?_eq_some_iff.1 A).1;have:=I.block ρ.l E (by rw[z];simp);exact⟨by rw[this.1];exact A,by rw[this.2];exact z⟩
def aa.dm(t D:Nat):aa where
 bj:=[t]
 ids:=[]
 p:=λg _ w=>w.heap[D]? =some (.deferred (some []))/\g.om D=t
 aD:=λg g' v w w' I h=>by obtain⟨A,z⟩:=h;have E:=(Array.getElem?_eq_some_iff.1 A).1;have:=I.block D E (by rw[z];simp);exact⟨by rw[this.1];exact A,by rw[this.2];exact z⟩
def aa.yv(l:Nat):aa where
 bj:=[]
 ids:=[]
 p:=λ_ v _=>v= .func (.yield l) #[] #[]
 aD:=λ_ _ _ _ _ _ h=>h
section
variable{Q:Exit->Act->World->Prop}{rest:List Oper}
def ou(X:Cx)(Q:Exit->Act->World->Prop)(u:Nat->Value)(ρ:fK):Ending->World->Prop:=λe w'=>
 (∃v,e= .returned v)/\∃st A,w'.heap[ρ.l]? =some (.loop (ρ.rc st A))/\st≠ .busy/\
  ∀z:Act,z.tmps.size=X.n->z.defers=[ρ.mark]->(∀s,z.tmps.getD s undef=u s)->
   match A with
   |none=>Q .normal z (w'.putObj ρ.l (.loop (ρ.rc .exhausted none)))
   |some c=>c.wpIn X.F 0 X.P Q z (w'.putObj ρ.l (.loop (ρ.rc .exhausted (some c))))
def mV(g:Gh)(n t1 t2:Nat):Gh:=⟨λb=>if b<n then g.om b else if b=n then t1 else t2,g.ga⟩
theorem aO.rangeFunc{s:Nat}{ps:Array Tmp}{as bd:Code}{k:FuncId}{fn:Func}{V:Nat}{cs:List aa}(t:Nat)(ak:(Nat->Value)->List It)(aR:bx 10 t=true)(an:X.rd=none)(aJ:X.ds=[])(hx:ay G s=some (.ef k [] cs))(a0:X.P.funcs[k]? =some fn)(z:fn.body=some c)(aZ:fn.ntmps=V)(aN:enters X.P k=true)(aY:bx (cs.length+1) V=true)(aw:∀u,Carry G u (ak u))(ap:∀(u:Nat->Value) (ρ:fK),ρ.Ok X.n u ps as bd->aO ⟨X.P,V,X.w0,X.C,X.dE,none,[]⟩ (pG 0 (.yv ρ.l::cs) (.ae (rs t) (.rc t ρ .ready none):: .ae (rs (t+1)) (.dm (t+1) ρ.D)::ak u)) c (bodyPost X.P fn (ou X Q u ρ))):
  aO X G (.rangeFunc (.tmp s) ps as bd) Q:=λa w env=>by
 have a5:10<=t:=by simpa using aR
 obtain⟨g,ad,al⟩:=env.facts;obtain⟨us,I,aM,aL,am⟩:=al s _ hx;obtain rfl:us=[]:=aL;rw[Cx.pZ an];refine wpIn_rangeFunc ?_;intro aU _
 let ρ:fK:=⟨w.heap.size+1,w.heap.size,aU,a.tmps,ps,as,bd⟩
 let A:World:=(w.alloc (.deferred (some []))).alloc (.loop (ρ.rc .ready none))
 have aA:A.heap[w.heap.size+1]? =some (.loop (ρ.rc .ready none)):=by have:=World.alloc_heap_new (w.alloc (.deferred (some []))) (.loop (ρ.rc .ready none));rwa [World.size_alloc]at this
 have aF:A.heap[w.heap.size]? =some (.deferred (some [])):=
  (RowKit.Below.heap_alloc _ _ _ (by simp)).trans (World.alloc_heap_new w _)
 have a9:A.heap.size=w.heap.size+2:=by simp[A]
 have Z:∀b,b<w.heap.size->A.heap[b]? =w.heap[b]? :=λb z=>
  (RowKit.Below.heap_alloc _ _ _ (by simp;omega)).trans (RowKit.Below.heap_alloc _ _ _ z)
 refine⟨w.heap.size+1,[ρ.mark],A,{target:= .fn (.func k) I.toArray,args:= #[.func (.yield (w.heap.size+1)) #[] #[]]},A,k,
  (.func (.yield (w.heap.size+1)) #[] #[]::I).toArray,A,?_,?_,?_,?_,λh=>(by cases h),?_⟩
 .exact run_enterLoop_outer _ _ _ _ _
 .have aE:a.eval (.tmp s)= .func (.func k) #[] I.toArray:=aM;simp only[resolve,aE];simp[go_sem]
 .intro f' a7;trivial
 .have:=mq (P:=X.P) aN;simp[invoke,go_sem,this]
 .refine callsIn_of_wp a0 z trivial ?_;have aG:=ap (λs=>a.tmps.getD s undef) ρ ⟨env.size,λ_=>rfl,rfl,rfl,rfl⟩;have a4:=fQ.len cs I am;have a8:cs.length+1<=V:=by simpa using aY
  have az:ff ⟨X.P,V,X.w0,X.C,X.dE,none,[]⟩ A (mV g w.heap.size (t+1) t):=by
   have a':=env.fr.size;refine⟨⟨λb z=>?_,λb z a6=>?_⟩,λb z=>?_⟩
   .have aC:b<X.w0.heap.size:=z;simp only[mV];rw[if_pos (by omega)];exact ad.ok.ec b z
   .simp only[mV];split
    .exact ad.ok.new b z (by assumption)
    .split<;>omega
   .have aC:b<X.w0.heap.size:=z;simp only[mV];rw[if_pos (by omega)];exact ad.om b z
  have aH:Fr X.C X.w0 A:=env.fr.trans (D:=fW) ⟨rfl,rfl,rfl,by omega,λb z _=>Z b z⟩ (λ_ _ h=>h.elim);have av:∀f:aa,∀v,f.p g v w->f.p (mV g w.heap.size (t+1) t) v A:=λf v h=>
   f.aD g _ v w A ⟨by omega,λb z _=>⟨Z b z,by simp[mV,z]⟩,λ_ _=>rfl⟩ h
  have ar:∀ag:Act,aQ (ak (λs=>a.tmps.getD s undef)) (mV g w.heap.size (t+1) t) ag A:=λag s f aI=>
   av f _ (aw _ a w g ag al (λ_=>rfl) s f aI)
  have aq:fQ (mV g w.heap.size (t+1) t) A (.yv ρ.l::cs) (.func (.yield (w.heap.size+1)) #[] #[]::I):=
   ⟨_,_,rfl,rfl,fQ.aD (g:=g) (w:=w) cs I ⟨by omega,λb z _=>⟨Z b z,by simp[mV,z]⟩,λ_ _=>rfl⟩ am⟩
  refine wpIn_wide.2 (wpIn_wide (n:=0).1 (wpIn_mono (aG _ A ?_) ?_))
  .subst aZ;refine⟨by simp;omega,rfl,aH,_,az,?_⟩;refine DC _ _ 0 (aQ.db (aQ.db (ar _) (λ_=>⟨aF,?_⟩)) (λ_=>⟨aA,?_⟩)) aq (λj v ao=>?_)
   .simp[mV,ρ]
   .simp only[mV,ρ];rw[if_neg (by omega),if_neg (by omega)]
   .have aB:j<(Value.func (.yield (w.heap.size+1)) #[] #[]::I).length:=(cy.1 ao).1;simp only[dQ];rw[Array.getD_eq_getD_getElem?,Array.getElem?_append_left (by simpa using aB)];simp only[List.getElem?_toArray,ao,Option.getD_some]
  .have Y:∀e w3,ou X Q (λs=>a.tmps.getD s undef) ρ e w3->rangePost nS 0 X.P (w.heap.size+1) Q {a with defers:=[ρ.mark]++a.defers} e w3:=by
    rintro e w3 ⟨⟨v,rfl⟩,st,ac,W,O,U⟩;refine⟨ac,w3.putObj ρ.l (.loop (ρ.rc .exhausted ac)),run_endLoop (P:=X.P) W O,?_⟩;have E:=U {a with defers:=[ρ.mark]++a.defers} env.size (by rw[env.defers,aJ];rfl) (λ_=>rfl);cases ac with
    |none=>exact E
    |some c=>rw[Cx.pZ an]at E;exact E
   intro e a3 w3 E;cases e with
   |normal=>obtain⟨W,v,O,U⟩:=E;exact⟨W,v,O,Y _ _ U⟩
   |ret=>obtain⟨W,v,O,U⟩:=E;exact⟨W,v,O,Y _ _ U⟩
   |panic a_=>exact⟨E.1,Y _ _ E.2⟩
   |outgrown=>exact Y _ _ E
   |exit id=>exact E
   |goto l=>exact E
theorem Has.top:Has G x .top:=λ_ _ _ _=>trivial
theorem lk{u:Nat->Value}{d:Option Nat}{s:Nat}(k:bK G u d f0 J)(h:ay G s=some f:=by rfl)(z:p_ f:=by exact λ_ _ _ _ h=>h):bK G u d f0 (.ae s f::J):=
 bK.g_ (bK.ay h z) k
def jG(G:List It)(u1:Nat->Value)(ps:List Nat)(u2:Nat->Value)(A:List It):Prop:=∀a w g z,aQ G g a w->(∀s,a.tmps.getD s undef=u2 s)->(∀s,s∉ps->z.tmps.getD s undef=u1 s)->aQ A g z w
theorem jG.nil{u1 u2:Nat->Value}{ps:List Nat}:jG G u1 ps u2 []:=λ_ _ _ _ _ _ _=>Ei
theorem jG.slot{u1 u2:Nat->Value}{ps:List Nat}{A:List It}(D s:Nat)(k:jG G u1 ps u2 A)(h:ay G s=some f:=by rfl)(U:D+s=q:=by rfl):jG G u1 ps u2 (.ae q (.da (u2 s) f)::A):=λa w g I E z O=>
 aQ.db (k a w g I E z O) (λ_=>by have:=E s f h;show f.p g (u2 s) w;rw[<-z s];exact this)
theorem jG.g_{u1 u2:Nat->Value}{ps:List Nat}{z:List It}{s:Nat}(k:jG G u1 ps u2 z)(h:ay G s=some f:=by rfl)(I:p_ f:=by exact λ_ _ _ _ h=>h):jG G u1 ps u2 (.ae s f::z):=λa w g E A D O=>
 aQ.db (k a w g E A D O) (λ_=>I _ _ _ _ (A s f h))
theorem jG.low{u1 u2:Nat->Value}{ps:List Nat}{A:List It}(q s:Nat)(k:jG G u1 ps u2 A)(h:ay G q=some (.da (u1 s) f):=by rfl)(W:ps.elem s=false:=by rfl):jG G u1 ps u2 (.ae s f::A):=λa w g O D I E V f' z=>by
 rcases kO z with⟨rfl,rfl⟩|⟨_,z⟩
 .rw[E s (by(intro U;have:ps.elem s=true:=by simpa using U);rw[W]at this;cases this)];exact D q _ h
 .exact k a w g O D I E V f' z
def CB:List Nat->List aa->List It->List It
 |p::ps,f::fs,G=> .ae p f::CB ps fs G
 |_,_,G=>G
def ye(N:Nat):List Nat->Bool
 |[]=>true
 |p::ps=>bt p N&& !ps.elem p&&ye N ps
theorem K7:∀(ps:List Nat) (z:List Value) (tm:Array Value),ye tm.size ps=true->z.length=ps.length->
  ((ps.zip z).foldl (λt (x:Nat×Value)=>t.setIfInBounds x.1 x.2) tm).size=tm.size/\
  (∀s,s∉ps->((ps.zip z).foldl (λt (x:Nat×Value)=>t.setIfInBounds x.1 x.2) tm).getD s undef=tm.getD s undef)/\
  ∀(i p:Nat) (v:Value),ps[i]? =some p->z[i]? =some v->((ps.zip z).foldl (λt (x:Nat×Value)=>t.setIfInBounds x.1 x.2) tm).getD p undef=v
 |[],_,_,_,_=>by simp
 |p::ps,[],_,_,h=>by simp at h
 |p::ps,v::z,tm,A,O=>by
  simp only[ye,gg,m6,fu]at A;obtain⟨⟨W,V⟩,A⟩:=A;have U:p∉ps:=by simpa using V
  obtain⟨Y,I,Z⟩:=K7 ps z (tm.setIfInBounds p v) (by simpa using A) (by simpa using O);simp only[List.zip_cons_cons,k9];refine⟨by rw[Y];simp,λs D=>?_,λi q x E hx=>?_⟩
  .simp only[fp,not_or]at D;rw[I s D.2];simp only[Array.getD_eq_getD_getElem?];rw[Array.getElem?_setIfInBounds_ne (Ne.symm D.1)]
  .cases i with
   |zero=>
    simp at E hx;subst E;subst hx;rw[I p U];simp[Array.getD_eq_getD_getElem?,W]
   |succ i=>exact Z i q x (by simpa using E) (by simpa using hx)
theorem NA{g:Gh}{a:Act}{w:World}:∀(ps:List Nat) (fs:List aa) (z:List Value) (G:List It),aQ G g a w->fQ g w fs z->(∀(i p:Nat) (v:Value),ps[i]? =some p->z[i]? =some v->a.tmps.getD p undef=v)->aQ (CB ps fs G) g a w
 |[],fs,z,G,h,_,_=>by cases fs<;>exact h
 |p::ps,[],z,G,h,_,_=>h
 |p::ps,f::fs,z,G,h,O,D=>by
  obtain⟨v,vr,rfl,U,E⟩:=O;intro s f' A;rcases kO A with⟨rfl,rfl⟩|⟨_,A⟩
  .rw[D 0 p v rfl rfl];exact U
  .exact NA ps fs vr G h E (λi q x I hx=>D (i+1) q x (by simpa using I) (by simpa using hx)) s f' A
def mD(X:Cx)(ops:Array Oper)(Q:Exit->Act->World->Prop)(rest:List Oper)(d:Nat)(u2:Nat->Value):Ending->World->Prop:=λe w'=>
 ∃v,e= .returned v/\∀z:Act,z.tmps.size=X.n->z.defers=X.ds->(∀s,z.tmps.getD s undef=u2 s)->wpListIn X.F 0 X.P ops Q rest (z.put (some d) v) w'
def Hq(X:Cx)(ρ:fK)(bd:Code)(R:Ending->World->Prop):Act->World->Prop:=λa1 z=>
 ∃w2,(Instr.beginRound ρ.l).run X.P z= .ok () w2/\bd.wpIn {nS with round:=some ρ.l} 0 X.P (roundPost X.P ρ.l R) a1 w2
theorem br.Xl{D:Nat}{xs:List Operand}{I:Array Operand}{ρ:fK}{u1:Nat->Value}{ps:List Nat}{pa:Array Tmp}{as bd:Code}(aa:(Nat->Value)->List It)(z:ρ.Ok N u1 pa as bd)(W:pa=ps.toArray)(aC:X.rd=none)(U:Has G (.tmp D) (.yv ρ.l))(ag:ay G (rs t)=some (.rc t ρ .ready none))(ao:I=xs.toArray)(an:cl G xs fs)(ac:ct fs.length ps.length=true)(ap:ye N ps=true)(ad:∀u2,jG G u1 ps u2 (aa u2))(h:∀u2,aO ⟨X.P,N,X.w0,X.C,X.dE,some ρ.l,[]⟩ (CB ps fs (aa u2)) as (Exit.then (Hq X ρ bd (mD X ops Q rest d u2)) (λ_ _ _=>False))):
  br X ops Q G (⟨some d, .call {callee:= .value (.tmp D),args:=I,argTypes:=ats},ty,pos,af,none⟩::rest):=λa w env=>by
 obtain⟨g,Z,A⟩:=env.facts;have am:a.eval (.tmp D)= .func (.yield ρ.l) #[] #[]:=U a w g A;obtain⟨ak,aA⟩:=A (rs t) _ ag;have V:=an.all xs fs A;have Y:=fQ.len _ _ V;have aB:fs.length=ps.length:=iI ac;refine wpListIn_plain rfl λK ar=>?_;refine⟨λ_ _=>trivial,?_⟩;rw[Oper.semAt_eq _ _ _ (λc av=>by cases av)];have ae:(execOp a.eval ⟨some d, .call {callee:= .value (.tmp D),args:=I,argTypes:=ats},ty,pos,af,none⟩).run X.P w=
   .ok (.round ρ.l ρ.fn ((ρ.ps.zip (xs.map a.eval).toArray).foldl (λtmps (t,a)=>tmps.setIfInBounds t a) ρ.tm) ρ.as ρ.bd) w:=by
  have aw:=run_yield (P:=X.P) (args:=(xs.map a.eval).toArray) ak (by show _=ρ.ps.size;rw[z.ps,W];simp;simp at Y;omega);unfold execOp;simp[resolve,nT,am,ao,invoke];simpa [fK.rc]using aw
 rw[ae];refine⟨λh=>(by cases h),?_⟩;refine RoundIn.mono (R:=mD X ops Q rest d (λs=>a.tmps.getD s undef)) ?_ ?_
 .have aq:RoundIn {nS with round:=X.rd} (0 - 1) X.P ρ.l ρ.fn ((ρ.ps.zip (xs.map a.eval).toArray).foldl (λtmps (t,a)=>tmps.setIfInBounds t a) ρ.tm) ρ.as ρ.bd w (mD X ops Q rest d (λs=>a.tmps.getD s undef)):=by
   refine roundIn_of_wpIn (F:={nS with round:=X.rd}) (n:=0) trivial ?_;rw[z.as,z.bd];have O:=K7 ps (xs.map a.eval) ρ.tm (by rw[z.sz];exact ap) (by simp at Y|-;omega);have al:(ρ.ps.zip (xs.map a.eval).toArray).foldl (λtmps (t,a)=>tmps.setIfInBounds t a) ρ.tm=(ps.zip (xs.map a.eval)).foldl (λt (x:Nat×Value)=>t.setIfInBounds x.1 x.2) ρ.tm:=by rw[z.ps,W];simp
   rw[al];refine h (λs=>a.tmps.getD s undef) _ w ⟨by rw[O.1];exact z.sz,rfl,env.fr,g,⟨Z.ok,Z.om⟩,?_⟩;exact NA ps fs (xs.map a.eval) _ (ad _ a w g _ A (λ_=>rfl) (λs U=>by rw[O.2.1 s U];exact z.hu s)) V (λi p v az E=>O.2.2 i p v az E)
  exact aq
 .rintro e w' ⟨v,rfl,E⟩;exact ar _ _ (E a env.size env.defers (λ_=>rfl))
theorem uM{l:Nat}{o:Obj}(h:aQ G g a w)(A:g.om l=t):aQ (.av t::G) g a (w.putObj l o):=
 kA h (by simp) (λb _ z=>World.putObj_heap_other (λD=>z (by rw[D];exact A)))
theorem uo{C:Nat->Prop}{l:Nat}{o:Obj}(A:Fr C X.w0 w)(E:ff X w g)(I:g.om l=t)(U:10<=t):Fr C X.w0 (w.putObj l o):=
 A.trans (D:=(·=l)) ⟨rfl,rfl,rfl,by simp,λb _ z=>World.putObj_heap_other z⟩ (λb z O=>by have:=E.ok.ec b z;rw[O,I]at this;omega)
theorem ug{D:Cx}{l:Nat}{o:Obj}(z:ff X w g)(A:D.w0=X.w0)(I:D.dE=X.dE):ff D (w.putObj l o) g:=
 ⟨⟨by rw[A];exact z.ok.ec,λb O E=>z.ok.new b (by rw[<-A];exact O) (by simpa using E)⟩,by rw[A,I];exact z.om⟩
theorem aH.oW{ρ:fK}{bd:Code}{R:Ending->World->Prop}(U:bx 10 t=true)(I:ay G (rs t)=some (.rc t ρ .ready none))(k:aO ⟨X.P,N,X.w0,X.C,X.dE,some ρ.l,[]⟩ (.ae (rs t) (.rc t ρ .busy none):: .av t::G) bd (roundPost X.P ρ.l R)):
  aH ⟨X.P,N,X.w0,X.C,X.dE,some ρ.l,[]⟩ G (Exit.then (Hq X ρ bd R) (λ_ _ _=>False)) .normal:=λa w env=>by
 obtain⟨g,D,A⟩:=env.facts;obtain⟨E,z⟩:=A (rs t) _ I;have O:10<=t:=by simpa using U
 refine⟨_,run_beginRound E rfl,?_⟩;refine k a _ ⟨env.size,env.defers,(uo env.fr D z O:),g,ug D rfl rfl,?_⟩;refine aQ.db (uM A z) (λ_=>⟨?_,z⟩);exact World.putObj_heap_same (Array.getElem?_eq_some_iff.1 E).1
theorem aH.Vh{ρ:fK}{u2:Nat->Value}(Y:bx 10 t=true)(hd:bt d X.n=true)(O:ay G (rs t)=some (.rc t ρ .busy none))(Z:bK G u2 (some d) (aa.rep [] true) J)(k:br X ops Q (.ae (rs t) (.rc t ρ .ready none):: .av t::J) rest):
  aH ⟨X.P,N,X.w0,X.C,X.dE,some ρ.l,[]⟩ G (roundPost X.P ρ.l (mD X ops Q rest d u2)) .normal:=λa w env=>by
 obtain⟨g,D,A⟩:=env.facts;obtain⟨E,z⟩:=A (rs t) _ O;have V:10<=t:=by simpa using Y
 refine⟨_,_,run_endRound none E, .bool true,rfl,λac I U hu=>?_⟩;have W:d<X.n:=by simpa [fu]using hd
 refine k _ _ ⟨by simp[Act.put,I],U,(uo env.fr D z V:),g,ug D rfl rfl,?_⟩;refine aQ.db (uM (Z a w g ac _ A (dw.2 rfl) hu (λe ad=>by cases ad;rw[I];exact W)) z) (λ_=>⟨?_,z⟩);exact World.putObj_heap_same (Array.getElem?_eq_some_iff.1 E).1
theorem PT{ρ:fK}{u2:Nat->Value}(Y:bx 10 t=true)(hd:bt d X.n=true)(O:ay G (rs t)=some (.rc t ρ .busy none))(Z:bK G u2 (some d) (aa.rep [] false) J)(k:br X ops Q (.ae (rs t) (.rc t ρ .done (some c)):: .av t::J) rest)(env:Env ⟨X.P,N,X.w0,X.C,X.dE,some ρ.l,[]⟩ G a w):
  ∃v w',(Instr.endRound ρ.l (some c)).run X.P w= .ok v w'/\mD X ops Q rest d u2 (.returned v) w':=by
 obtain⟨g,D,A⟩:=env.facts;obtain⟨E,z⟩:=A (rs t) _ O;have V:10<=t:=by simpa using Y
 refine⟨_,_,run_endRound (some c) E, .bool false,rfl,λac I U hu=>?_⟩;have W:d<X.n:=by simpa [fu]using hd
 refine k _ _ ⟨by simp[Act.put,I],U,(uo env.fr D z V:),g,ug D rfl rfl,?_⟩;refine aQ.db (uM (Z a w g ac _ A (dw.2 rfl) hu (λe ad=>by cases ad;rw[I];exact W)) z) (λ_=>⟨?_,z⟩);exact World.putObj_heap_same (Array.getElem?_eq_some_iff.1 E).1
theorem aH.UZ{ρ:fK}{u2:Nat->Value}(D:bx 10 t=true)(hd:bt d X.n=true)(z:ay G (rs t)=some (.rc t ρ .busy none))(A:bK G u2 (some d) (aa.rep [] false) J)(k:br X ops Q (.ae (rs t) (.rc t ρ .done (some .ret)):: .av t::J) rest):
 aH ⟨X.P,N,X.w0,X.C,X.dE,some ρ.l,[]⟩ G (roundPost X.P ρ.l (mD X ops Q rest d u2)) .ret:=λ_ _ env=>PT D hd z A k env
theorem aH.TF{id:Nat}{ρ:fK}{u2:Nat->Value}(D:bx 10 t=true)(hd:bt d X.n=true)(z:ay G (rs t)=some (.rc t ρ .busy none))(A:bK G u2 (some d) (aa.rep [] false) J)(k:br X ops Q (.ae (rs t) (.rc t ρ .done (some (.exit id))):: .av t::J) rest):
 aH ⟨X.P,N,X.w0,X.C,X.dE,some ρ.l,[]⟩ G (roundPost X.P ρ.l (mD X ops Q rest d u2)) (.exit id):=λ_ _ env=>PT D hd z A k env
theorem aH.Yk{W:Nat}{fn:Func}{ρ:fK}{u:Nat->Value}{st:LoopState}(ad:bx 10 t=true)(Z:fn.results= #[])(E:ay G (rs t)=some (.rc t ρ st none))(U:st≠ .busy)(V:bK G u none aa.top J)(k:aH ⟨X.P,X.n,X.w0,X.C,X.dE,X.rd,[ρ.mark]⟩ (.av t::J) Q .normal):
  aH ⟨X.P,W,X.w0,X.C,X.dE,none,[]⟩ G (bodyPost X.P fn (ou X Q u ρ)) .ret:=λa w env=>by
 obtain⟨g,A,z⟩:=env.facts;obtain⟨Y,D⟩:=z (rs t) _ E;have O:10<=t:=by simpa using ad
 refine⟨env.defers, .tuple #[],by rw[m4,Z];simp,⟨_,rfl⟩,st,none,Y,U,λac ae I hu=>?_⟩;refine k _ _ ⟨ae,I,(uo env.fr A D O:),g,ug A rfl rfl,?_⟩;exact uM (V a w g ac undef z trivial hu (λe ag=>by cases ag)) D
theorem aH.Yw{W:Nat}{fn:Func}{ρ:fK}{u:Nat->Value}{st:LoopState}(ad:bx 10 t=true)(Z:fn.results= #[])(E:ay G (rs t)=some (.rc t ρ st (some c)))(U:st≠ .busy)(V:bK G u none aa.top J)(k:aO ⟨X.P,X.n,X.w0,X.C,X.dE,X.rd,[ρ.mark]⟩ (.av t::J) c Q):
  aH ⟨X.P,W,X.w0,X.C,X.dE,none,[]⟩ G (bodyPost X.P fn (ou X Q u ρ)) .ret:=λa w env=>by
 obtain⟨g,A,z⟩:=env.facts;obtain⟨Y,D⟩:=z (rs t) _ E;have O:10<=t:=by simpa using ad
 refine⟨env.defers, .tuple #[],by rw[m4,Z];simp,⟨_,rfl⟩,st,some c,Y,U,λac ae I hu=>?_⟩;refine k _ _ ⟨ae,I,(uo env.fr A D O:),g,ug A rfl rfl,?_⟩;exact uM (V a w g ac undef z trivial hu (λe ag=>by cases ag)) D
theorem aH.nC{z:Nat}{A:List It}{fn:Func}{u:Nat->Value}{ρ:fK}(h:aH ⟨X.P,z,X.w0,X.C,X.dE,none,[]⟩ A (bodyPost X.P fn (ou X Q u ρ)) .ret):
 aH ⟨X.P,z,X.w0,X.C,X.dE,none,[]⟩ A (bodyPost X.P fn (ou X Q u ρ)) .normal:=h
def yl(P:Program)(fn:Func)(R:Ending->World->Prop):Exit->Act->World->Prop:=bodyPostM nS 0 P fn R
theorem Zr{fn:Func}{R:Ending->World->Prop}:∀(e:Exit) (a:Act) (w:World),bodyPost P fn R e a w->yl P fn R e a w
 | .normal,a,w,h=>by obtain⟨A,z⟩:=h;show LeavesInM _ _ _ _ _ _ a.defers _ _;rw[A];exact z
 | .ret,a,w,h=>by obtain⟨A,z⟩:=h;show LeavesInM _ _ _ _ _ _ a.defers _ _;rw[A];exact z
 | .panic D,a,w,h=>by obtain⟨A,z⟩:=h;show LeavesInM _ _ _ _ _ _ a.defers _ _;rw[A];exact z
 | .outgrown,_,_,h=>h
 | .exit _,_,_,h=>h
 | .goto _,_,_,h=>h
variable{w0:World}{C:Nat->Prop}{om:Nat->Nat}{fn:Func}
theorem aH.CG{R:Ending->World->Prop}{e:Exit}(h:aH ⟨P,n,w0,C,om,none,[]⟩ G (bodyPost P fn R) e):aH ⟨P,n,w0,C,om,none,[]⟩ G (yl P fn R) e:=λa w env=>Zr _ _ _ (h a w env)
theorem aH.XU{R:Ending->World->Prop}{ρ:fK}(W:bx 10 t=true)(U:ay G (rs t)=some (.dm t ρ.D))(h:aH ⟨P,n,w0,C,om,none,[]⟩ (.av t::G) (bodyPost P fn R) .ret):
  aH ⟨P,n,w0,C,om,none,[ρ.mark]⟩ G (yl P fn R) .ret:=λa w env=>by
 obtain⟨g,A,z⟩:=env.facts;obtain⟨V,E⟩:=z (rs t) _ U;have I:10<=t:=by simpa using W
 have O:=h {a with defers:=[]} (w.putObj ρ.D (.deferred none)) ⟨env.size,rfl,(uo env.fr A E I:),g,ug A rfl rfl,uM z E⟩;show LeavesInM _ _ _ _ _ _ a.defers _ _;rw[env.defers];exact⟨by simp, .inl ⟨ρ.D,_,rfl,run_takeDeferred V,O.2⟩⟩
theorem oA{k:FuncId}{fn:Func}(z:List (List Nat))(n:Nat)(A:P.funcs[k]? =some fn)(D:fn.body=some c)(E:fn.ntmps=n)(O:bx pre.length n=true)(I:uV z shc=true)(h:∀(w0:World) (om:Nat->Nat),aO ⟨P,n,w0,fW,om,none,[]⟩ (pre.zipIdx.map λx=>It.ae x.2 (x.1.f (da [0]))) c (yl P fn (kP ⟨P,n,w0,fW,om,none,[]⟩ out z))):gl P k pre out shc:=
 KR z n A D E O I (λR a w U=>callsIn_wide (n:=0).1 (callsIn_of_wp_marks A D trivial U)) h
end
variable {ρ:fK}
def aa.sk{α:Type}[R:Rp α](T te:List Nat)(x:α):aa where
 bj:=T++te
 ids:=[]
 p:=λg v w=>∃ad,v= .pointer (some ad)/\g.om ad.block∈T/\ad.block<w.heap.size/\∃es,eO w ad es/\R.rel (λb=>g.om b∈te) x es w
 aD:=λg g' v w w' A h=>by
  obtain⟨ad,I,z,E,es,U,O⟩:=h;have D:=A.block ad.block E (gY _ z);exact⟨ad,I,by rw[D.2];exact z,nR E A.size,es,U.aD D.1,
   R.aD _ _ x es w w' A.size (λb D z=>⟨(A.block b D (gh _ z)).1,by rw[(A.block b D (gh _ z)).2];exact z⟩) O⟩
theorem aR.take{α:Type}[R:Rp α]{F:Nat->Prop}{w:World}:∀(l:List α) (xs:List Value) (k:Nat),aR F l xs w->aR F (l.take k) (xs.take (k * R.n)) w
 |[],xs,k,h=>by rw[show xs=[] from h];simp[aR]
 |y::l,xs,0,h=>by simp[aR]
 |y::l,xs,k+1,h=>by obtain⟨c1,A,rfl,D,E⟩:=h;have z:=R.len _ _ _ _ D;refine⟨c1,A.take (k * R.n),?_,D,aR.take l A k E⟩;rw[oZ,show(k+1) * R.n - c1.length=k * R.n by rw[z,h_];omega,fm (by rw[z,h_];omega)]
section
variable{Q:Exit->Act->World->Prop}{d:Option Nat}
theorem ah.WX{i:Operand}[R:Rp α]{T te:List Nat}{n:Int}{t e:TypeId}(z:idx l n=some r)(A:nh X.P t e α)(hx:Has G x (aa.sl T te l))(W:Has G i (aa.rep T' n)):ah X G ⟨d, .indexAddr t x i,ty,pos,af,gd⟩ (aa.sk T te r):=by
 unfold idx at z;split at z
 case isFalse=>cases z
 rename_i Z;have U:n.toNat<l.length:=(cy.1 z).1;refine bL λa w g D=>?_;obtain⟨ad,c,Y,ak,O,E⟩:=hx a w g D;have V:=cD.1 (W a w g D);cases ad with
 |none=>have:=(O rfl).1;subst this;simp at U
 |some ad=>
  obtain⟨ac,ae,es,ag,I⟩:=E ad rfl n.toNat r z;refine⟨.pointer (some (ad.add (n.toNat * R.n))),?_,ad.add (n.toNat * R.n),rfl,?_,?_,es,ag,I⟩
  .unfold execOp;simp[Y,V,wO (R:=R) A.cE A.el Z (show n<(l.length:Int) by omega)]
  .rw[Addr.jv];exact ac
  .rw[Addr.jv];exact ae
theorem ah.Mx[R:Rp α]{T te:List Nat}{t:TypeId}(E:Ty X.P t α)(hx:Has G x (aa.sk T te r)):ah X G ⟨d, .load t x,ty,pos,af,gd⟩ (aa.rep te r):=
 bL λa w g D=>by obtain⟨ad,A,_,_,es,I,z⟩:=hx a w g D;refine⟨cL R.agg es,?_,es,z,rfl⟩;unfold execOp;simp[A,lE,fL,n8 E I z]
theorem ah.NU{s:TypeId}{T te:List Nat}[R:Rp α][Y:Rp β]{z:β}{es:List hZ}(h:mE X.P s i off n)(U:Ch y es)(ac:qC es i=some (off,⟨Y,z⟩))(hx:Has G x (aa.sk T te y)):ah X G ⟨d, .fieldAddr s x i,ty,pos,af,gd⟩ (aa.sk T te z):=
 bL λa w g W=>by obtain⟨ad,V,Z,O,cs,D,A⟩:=hx a w g W;obtain⟨c,I,E⟩:=mA.at es cs i off _ ((U.rel _ _ _).1 A) ac;refine⟨.pointer (some (ad.add off)),?_,ad.add off,rfl,by rw[Addr.jv];exact Z,by rw[Addr.jv];exact O,c,D.sub E,I⟩;unfold execOp;simp[V,I6 h]
theorem bk.zt(k:bk g w ls cs):bk g w ((false,1, .top)::ls) (.nilFunc::cs):=
 ⟨[.nilFunc],cs,rfl,rfl,by simp[j_],λ_=>rfl,trivial,k⟩
def aa.Kl(t k n:Nat):aa where
 bj:=[]
 ids:=[t]
 p:=λg v _=>(∃b z m,g.ga t= .slice (some ⟨b,0,none⟩) m z/\k<=m/\v= .slice (some (if z=k then⟨b,0,none⟩else(⟨b,0,none⟩:Addr).add (k * n))) (m - k) (z - k))\/
  (g.ga t= .slice none 0 0/\v= .slice none 0 0/\k=0)
 aD:=λg g' v w w' A h=>by rw[A.ids t (by simp)];exact h
theorem ah.Gm[R:Rp α]{lo:Operand}{te:List Nat}{r:List α}{m:Int}{ts e:TypeId}(D:GL.fy l m l.length=some r)(z:gu X.P ts e α)(hx:Has G x (.aL t))(ad:ay G (rs t)=some (.own t te e l))(ac:Has G lo (aa.rep T1 m)):ah X G ⟨d, .slice ts x (some lo) none none,ty,pos,af,gd⟩ (.Kl t m.toNat R.n):=by
 unfold GL.fy at D;split at D
 case isFalse=>cases D
 rename_i V;refine bL λa w g E=>?_;have U:a.eval x=g.ga t:=hx a w g E;obtain⟨xs,Y,_,_⟩:=E _ _ ad;have W:=cD.1 (ac a w g E);rcases Y.2 with⟨I,ao⟩|⟨b,A,cs,O,ap,an,al,am,ak,ag⟩
 .have ae:m.toNat=0:=by omega
  refine⟨.slice none 0 0,?_, .inr ⟨I,rfl,ae⟩⟩;have Z:m=0:=by omega
  unfold execOp;simp only[jd,o_,U,I,W,Z,cU,kc];unfold pd;simp[run_underlying z.cE,sJ,pe,sK,asIntOf,gD z.el]
 .refine⟨.slice (some (if A=m.toNat then⟨b,0,none⟩else(⟨b,0,none⟩:Addr).add (m.toNat * R.n))) (l.length - m.toNat) (A - m.toNat),?_, .inl ⟨b,A,l.length,O,by omega,rfl⟩⟩;unfold execOp;simp only[jd,o_,U,O,W,cU,kc];unfold pd;simp[run_underlying z.cE,sJ,pe,sK,asIntOf,V.1,V.2.1,gD z.el];split<;>rfl
theorem ah.Ho[R:Rp α]{V:Operand}{T te:List Nat}{r:List α}{n:Int}{ts e:TypeId}(D:GL.fy l 0 n=some r)(z:gu X.P ts e α)(hx:Has G x (aa.ow T te e l))(am:Has G V (aa.rep T1 n)):ah X G ⟨d, .slice ts x none (some V) none,ty,pos,af,gd⟩ (aa.ow T te e r):=by
 unfold GL.fy at D;split at D
 case isFalse=>cases D
 rename_i aB;obtain rfl:=Option.some.inj D;refine bL λa w g W=>?_;obtain⟨xs,I,ak,ag⟩:=hx a w g W;have Y:=cD.1 (am a w g W);have ad:=I.1;have ap:0<=n:=by omega
 have U:n.toNat<=l.length:=by omega
 have Z:aR (λb=>g.om b∈te) (l.take n.toNat) (xs.take (n.toNat * R.n)) w:=by exact aR.take l xs n.toNat ak
 have aq:(xs.take (n.toNat * R.n)).length=n.toNat * R.n:=by rw[cf,ad];exact jN (iJ _ U)
 rcases I.2 with⟨ae,aC⟩|⟨b,E,cs,O,az,ay,aA,ao,al,ac⟩
 .have av:n=0:=by omega
  subst av;refine⟨.slice none 0 0,?_,[],⟨by simp, .inl ⟨rfl,by simp⟩⟩,by simp[aR],by simp[kB]⟩;unfold execOp;simp only[jd,o_,ae,Y,cU,kc];unfold pd;simp[run_underlying z.cE,sJ,pe,sK,asIntOf,gD z.el]
 .have A:(List.drop (qP 0) (List.take n.toNat l)).length=n.toNat:=by simp;omega
  refine⟨.slice (some ⟨b,0,none⟩) n.toNat E,?_,xs.take (n.toNat * R.n),⟨by rw[A];exact aq, .inr ⟨b,E,cs,by rw[A],az,ay,by rw[A];omega,ao,al,?_⟩⟩,by simpa using Z,λar an=>ag ar (by rw[O];exact an)⟩
  .have aw:n<=(E:Int):=by omega
   unfold execOp;simp only[jd,o_,O,Y,cU,kc];unfold pd;simp[run_underlying z.cE,sJ,pe,sK,asIntOf,aw,ap,gD z.el];intro _;exact Go.Addr.add_zero' _
  .rw[A,<-ac,List.take_take];congr 1;exact(jN (iJ _ U)).symm
theorem au.F9[R:Rp α]{te:List Nat}{z:α}{ts e:TypeId}(ak:gu X.P ts e α)(bi:nq X.P e z)(be:bx 10 t=true)(hx:Has G x (.Kl t k R.n))(a8:ay G (rs t)=some (.own t te e l))(aE:cC (α:=α) t te te'):
  au X G ⟨none, .call {callee:= .builtin .clear,args:= #[x],argTypes:= #[ts]},ty,pos,af,none⟩ [.ae (rs t) (.own t te' e (l.take k++dr (l.length - k) z)), .av t]:=λG' aU a w env K Q ar=>by
 have a0:10<=t:=by simpa using be
 obtain⟨g,V,ag⟩:=env.facts;have aq:=aU a w g ag;obtain⟨xs,aA,aB,Z⟩:=aq _ _ a8;obtain⟨i,D,aN,aI,bq,bw,ao⟩:=ak.info;obtain⟨bv,ap,aH⟩:=bi;rw[aN]at ap;simp only[bo,aI,Option.some.injEq]at ap;subst ap;rcases aA.2 with⟨az,bn⟩|⟨b,I,cs,aa,bp,aL,aF,a5,aY,aO⟩
 .have bc:a.eval x= .slice none 0 0:=by
   rcases hx a w g aq with⟨b,I,m,A,_⟩|⟨_,E,_⟩
   .rw[az]at A;cases A
   .exact E
  have aM:l=[]:=y8 bn;have W:(execOp a.eval ⟨none, .call {callee:= .builtin .clear,args:= #[x],argTypes:= #[ts]},ty,pos,af,none⟩).run X.P w= .ok (.value (.tuple #[])) w:=by unfold execOp;simp[resolve,invoke,builtin,bc,nW,run_underlying ak.cE]
  unfold dy;rw[W];refine ar _ w ?_;refine⟨by simp[Act.put,env.size],env.defers,env.fr,g,V,?_⟩;show aQ _ g a w;refine aQ.db (kA ag (bh _) (λ_ _ _=>rfl)) (λv=>⟨[],?_,?_,Z⟩)
  .rw[az,aM];simp;exact World.ownsRow_nil w 0 e R.n
  .rw[aM];simp[aR]
 .obtain⟨a',ad⟩:k<=l.length/\a.eval x= .slice (some (if I=k then⟨b,0,none⟩else(⟨b,0,none⟩:Addr).add (k * R.n))) (l.length - k) (I - k):=by
   rcases hx a w g aq with⟨O,br,m,A,E,bm⟩|⟨A,_⟩
   .rw[aa]at A;cases A;exact⟨E,bm⟩
   .rw[aa]at A;cases A
  have a9:g.om b=t:=Z b (by rw[aa];rfl);by_cases hl0:l.length - k=0
  .have W:(execOp a.eval ⟨none, .call {callee:= .builtin .clear,args:= #[x],argTypes:= #[ts]},ty,pos,af,none⟩).run X.P w= .ok (.value (.tuple #[])) w:=by unfold execOp;simp[resolve,invoke,builtin,ad,hl0,nW,run_underlying ak.cE]
   unfold dy;rw[W];refine ar _ w ?_;refine⟨by simp[Act.put,env.size],env.defers,env.fr,g,V,?_⟩;show aQ _ g a w;have aJ:l.take k++dr (l.length - k) z=l:=by rw[hl0,fm (by omega)];simp
   refine aQ.db (kA ag (bh _) (λ_ _ _=>rfl)) (λv=>⟨xs,?_,?_,Z⟩)
   .rw[aJ];exact aA
   .rw[aJ];exact aE (λb=>g.om b∈te') g w w l xs (bh _) (λ_ _ _=>rfl) (λ_ _ h=>h) aB
  .have ba: ¬(I=k):=by omega
   rw[if_neg ba,Go.Addr.add_lit]at ad;have a6:(madeCells D.cells ((l.length - k) * R.n)).toList=(dr (l.length - k) D.cells.toList).flatten:=by have A:=Eh D.cells.toList (l.length - k);simpa [ao]using A
   have a_:∀c∈D.cells.toList,c.oneCell'=true:=R.one _ _ _ _ (aH w);have U:((dr (l.length - k) D.cells.toList).flatten).length=(l.length - k) * R.n:=by simp[ao]
   have aC:k * R.n+(l.length - k) * R.n=l.length * R.n:=by rw[<-h_];congr 1;omega
   have bs:l.length * R.n<=I * R.n:=iJ _ aF;have ac:=run_storeCells_at X.P b (0+k * R.n) e ((dr (l.length - k) D.cells.toList).flatten) 0 cs w aL (by rw[U];omega) (λc bg=>by obtain⟨y,bl,aG⟩:=List.mem_flatten.1 bg;exact a_ c (by rw[(vm.1 bl).2]at aG;exact aG))
   have aw:(kF D.cells (l.length - k)).toList=(dr (l.length - k) D.cells.toList).flatten:=by rw[<-a6,<-ao];rfl
   rw[U]at ac;simp only[dQ,ja]at ac ad
   let row:Array Value:=(cs.toList.take (k * R.n)++(dr (l.length - k) D.cells.toList).flatten++cs.toList.drop (k * R.n+(l.length - k) * R.n)).toArray
   have W:(execOp a.eval ⟨none, .call {callee:= .builtin .clear,args:= #[x],argTypes:= #[ts]},ty,pos,af,none⟩).run X.P w= .ok (.value (.tuple #[])) (w.setRow b row):=by
    unfold execOp;have a7:(zeroValue e).run X.P w= .ok D w:=by simp[zeroValue,typeInfo,aN,aI]
    have bb:(nW #[ts] ty #[.slice (some ⟨b,k * R.n,none⟩) (l.length - k) (I - k)]).run X.P w= .ok (.tuple #[]) (w.setRow b row):=by obtain⟨m,bd⟩:∃m,l.length - k=m+1:=⟨l.length - k - 1,by omega⟩;simp only[row];rw[bd]at aw ac|-;unfold nW;simp[run_underlying ak.cE,a7,aw,ac]
    simp[resolve,invoke,builtin,ad,bb]
   unfold dy;rw[W];refine ar _ _ ?_;have an:∀O,O<w.heap.size->g.om O≠t->(w.setRow b row).heap[O]? =w.heap[O]? :=λO an a4=>setRow_other w b O _ (λh=>a4 (by rw[h];exact a9));have Y:(w.setRow b row).heap.size=w.heap.size:=by simp
   refine⟨by simp[Act.put,env.size],env.defers,Fr.own env.fr V a0 (.inr trivial) rfl rfl rfl (by rw[Y];exact bh _) an,g,⟨⟨V.ok.ec,λb A E=>V.ok.new b A (by rw[Y]at E;exact E)⟩,V.om⟩,?_⟩;show aQ _ g a _;have al:(l.take k++dr (l.length - k) z).length=l.length:=by simp;omega
   have am:(cs.toList.take (k * R.n)).length=k * R.n:=by rw[cf,Array.length_toList,aY];exact jN (by omega)
   refine aQ.db (kA ag (by rw[Y];exact bh _) an) (λv=>⟨cs.toList.take (k * R.n)++(dr (l.length - k) D.cells.toList).flatten,⟨?_, .inr ⟨b,I,row,by rw[aa,al],bp,setRow_heap w b cs _ e (0,0) aL,by rw[al];exact aF,a5,?_,?_⟩⟩,?_,Z⟩)
   .rw[al,bY,am,U];exact aC
   .simp only[row,g5,bY,am,U,eH,Array.length_toList];omega
   .rw[al,<-aC];simp only[row];rw[iM (by rw[bY,am,U];exact bh _),fm (by rw[bY,am,U];exact bh _)]
   .have A:=aE (λb=>g.om b∈te') g w (w.setRow b row) l xs (by rw[Y];exact bh _) an (λ_ _ h=>h) aB;have key:∀(l:List α) (xs:List Value) (k:Nat),aR (λb=>g.om b∈te') l xs (w.setRow b row)->aR (λb=>g.om b∈te') (l.take k) (xs.take (k * R.n)) (w.setRow b row):=λl xs k h=>aR.take l xs k h;have E:=key l xs k A;have aZ:xs.take (k * R.n)=cs.toList.take (k * R.n):=by rw[<-aO,List.take_take];congr 1;exact jN (iJ _ a')
    rw[aZ]at E;exact aR.app _ _ _ _ E (aR.rep (R.aD _ _ z _ w _ (by rw[Y];exact bh _) (λ_ _ h=>h.elim) (aH w)) (l.length - k))
end
section
variable{Q:Exit->Act->World->Prop}{rest:List Oper}
def GI(G:List It)(ops:Array Oper)(o:Oper)(gp:Prop):Prop:=
 ∀a w g,aQ G g a w->(gH o (yielded ops a.tmps)=true/\gp)\/(gH o (yielded ops a.tmps)=false/\ ¬gp)
theorem dA{d:Option Nat}{op:Op}{T:List Nat}(D:(ops[j]?).bind (·.dst)=some dj)(z:ay G dj=some (aa.rep T b)):
  GI G ops ⟨d,op,ty,pos,af,some (j,want)⟩ (b=want):=λa w g A=>by
 have E:=yO D (dw.1 (A dj _ z));simp only[gH,E];by_cases hw:b=want
 .subst hw;exact .inl ⟨by simp,rfl⟩
 .exact .inr ⟨by simp[hw],hw⟩
def aa.cE:aa where
 bj:=[]
 ids:=[]
 p:=λ_ v _=>v=undef
 aD:=λ_ _ _ _ _ _ h=>h
theorem ah.Ba{dO:Option Nat}{y:Operand}{T:List Nat}{c:Bool}(z:c=true)(h:ah X G ⟨dO, .pick x y (.const (.bool false)),ty,pos,af,gd⟩ (aa.rep T (c&&b))):
 ah X G ⟨dO, .pick x y (.const (.bool false)),ty,pos,af,gd⟩ (aa.rep T b):=by rw[z]at h;exact h
theorem ah.Ab{dO:Option Nat}{y:Operand}{T:List Nat}{c:Bool}(z:c=false)(h:ah X G ⟨dO, .pick x y (.const (.bool false)),ty,pos,af,gd⟩ (aa.rep T (c&&b))):
 ah X G ⟨dO, .pick x y (.const (.bool false)),ty,pos,af,gd⟩ (aa.rep T false):=by rw[z]at h;exact h
theorem kh(h: ¬b=true):b=false:=by cases b<;>simp_all
theorem NK(h: ¬b=false):(!b)=false:=by cases b<;>simp_all
theorem dI{op:Op}{gd:Nat×Bool}{gp:Prop}(hd:bt d X.n=true)(W:GI G ops ⟨some d,op,ty,pos,af,some gd⟩ gp)(aa:gp->br X ops Q G (⟨some d,op,ty,pos,af,none⟩::rest))(Z: ¬gp->br X ops Q (.ae d .cE::G) rest):br X ops Q G (⟨some d,op,ty,pos,af,some gd⟩::rest):=λa w env=>by
 obtain⟨g,Y,O⟩:=env.facts;refine wpListIn_step λK V=>?_;rcases W a w g O with⟨E,z⟩|⟨E,z⟩
 .rw[E,if_pos rfl];have U:=aa z a w env;simp only[wpListIn,gH,if_true]at U;have mono:∀{K D:Act->World->Prop} {o:Oper},(∀a w,K a w->D a w)->o.wpIn X.F 0 X.P a w K Q->o.wpIn X.F 0 X.P a w D Q:=by
   intro K D o A h;refine⟨h.1,?_⟩;have z:=h.2;revert z
   generalize(o.semAt X.F.round a.eval).run X.P w=r
   intro z;cases r with
   |ok x w'=>
    cases x with
    |value v=>exact A _ _ z
    |skip=>exact A _ _ z
    |defer d=>exact A _ _ z
    |enter f args=>exact⟨z.1,z.2.1,λcs I=>let⟨e,w2,fr,k1,k2⟩:=z.2.2 cs I;⟨e,w2,fr,(by cases e<;>first|exact A _ _ k1|exact k1),k2⟩⟩
    |row row args=>exact⟨z.1,λc cs I=>let⟨v,w2,k1,k2⟩:=z.2 c cs I;⟨v,w2,A _ _ k1,k2⟩⟩
    |round l f tm as bd=>exact⟨z.1,RoundIn.mono z.2 (λe w2 k=>by cases e<;>first|exact A _ _ k|exact k)⟩
    |_=>exact z
   |halt ac w'=>cases ac with
    |panic v=>exact z
    |_=>exact z
  exact mono V U
 .rw[E];simp only[kY,if_false];refine⟨λ_ _=>trivial,?_⟩;exact V _ _ (Z z _ _ (Env.put (by simpa [fu]using hd) env.size env.defers env.fr O (Fr.refl _ _) Y (λ_ _=>rfl) (λ_=>rfl) rfl))
theorem br.BE{op:Op}{gd:Nat×Bool}{gp:Prop}(f:aa)(hd:bt d X.n=true)(I:GI G ops ⟨some d,op,ty,pos,af,some gd⟩ gp)(V:gp->br X ops Q G (⟨some d,op,ty,pos,af,none⟩::rest))(z: ¬gp->br X ops Q (.ae d (f.c_ gp)::G) rest):br X ops Q G (⟨some d,op,ty,pos,af,some gd⟩::rest):=
 dI hd I V (λh a w e=>z h a w (e.sub (λa w g z s f' A=>by
  rcases kO A with⟨rfl,rfl⟩|⟨E,A⟩
  .have D:ct d d=true:=by simp
   exact⟨λO=>(h O).elim,λ_=>z d .cE (by simp[ay,eh,D,dX];simp[aa.cE,dX])⟩
  .exact z s f' (by
    have:ct d s=false:=by
     cases U:ct d s with
     |true=>exact(E (iI U)).elim
     |false=>rfl
    simpa [ay,eh,this]using A))))
structure mK where
 v:Value
 one:v.oneCell'=true
instance:Rp mK where
 n:=1
 agg:=false
 na:=λ_=>rfl
 rel:=λ_ x cs _=>cs=[x.v]
 len:=λ_ _ _ _ h=>by rw[h];rfl
 one:=λ_ x _ _ h=>by rw[h];simp[x.one]
 aD:=λ_ _ _ _ _ _ _ _ h=>h
theorem au.Ph{e:TypeId}[R:Rp α](aN:bx 10 t=true)(aI:Ty X.P e α)(al:partAt ps i=some (off,R.agg,R.n))(aC:Has G p (.cJ t off))(ho:ay G (rs t)=some (.obj t ps))(aL:∀a w g,aQ G g a w->∃(F:Nat->Prop) (y:α),cX F y (a.eval x) w)(hx:Has G x f)(aA:jt t (t+1+i) 1 [(R.agg,R.n,f)]=true):
 au X G ⟨none, .store e p x,ty,pos,af,none⟩ [.ae (rs (t+1+i)) (.at (t+1+i) f), .ae (rs t) (.obj t ps), .av t, .bp (t+1+i)]:=λG' aq a w env K Q aR=>by
 have aE:10<=t:=by simpa using aN
 obtain⟨g,O,ac⟩:=env.facts;have U:=aq a w g ac;obtain⟨b,z,aJ⟩:=aC a w g U;obtain⟨A,ad,cs,aa,ao,ak,Z⟩:=U _ _ ho;rw[aa]at z;simp only[ix,Option.some.injEq]at z;subst z;obtain⟨aY,aU,a0,aM,aZ⟩:=Z.part ps (t+1) _ i off _ _ al;obtain⟨a4,y,az⟩:=aL a w g U;obtain⟨es,aw,ag,ar⟩:=pF (P:=X.P) aI ao az (show off+R.n<=cs.size by simpa using aM);have aO:=R.len _ _ _ _ ag;have V:=R.one _ _ _ _ ag;have aH:=hx a w g U;have Y:=H5 aA (l:=(R.agg,R.n,f)) (by simp);have ap:(execOp a.eval ⟨none, .store e p x,ty,pos,af,none⟩).run X.P w= .ok .skip (w.setRow A (cs.toList.take off++es++cs.toList.drop (off+R.n)).toArray):=by unfold execOp;simp only[aJ,o9,fL,cU,gx,eA];rw[ar];rfl
 unfold dy;rw[ap];refine aR undef _ ?_;have z:∀b,b<w.heap.size->g.om b≠t->(w.setRow A (cs.toList.take off++es++cs.toList.drop (off+R.n)).toArray).heap[b]? =w.heap[b]? :=λb z aG=>setRow_other w A b _ (λh=>aG (by rw[h];exact ak));have I:(w.setRow A (cs.toList.take off++es++cs.toList.drop (off+R.n)).toArray).heap.size=w.heap.size:=by simp
 let g2:Gh:=⟨g.om,λs=>if s=t+1+i then a.eval x else g.ga s⟩
 have W:g2.ga (t+1+i)=a.eval x:=if_pos rfl;have E:∀s,s≠t+1+i->g2.ga s=g.ga s:=λs D=>if_neg D;refine⟨by simp[Act.put,env.size],env.defers,Fr.own env.fr O aE (.inr trivial) rfl rfl rfl (by rw[I];exact bh _) z,g2,⟨⟨O.ok.ec,λb V am=>O.ok.new b V (by rw[I]at am;exact am)⟩,O.om⟩,?_⟩;show aQ _ g2 a _;refine aQ.db ?_ (λv=>?_)
 .refine aQ.db ?_ (λv=>⟨A,ad,_,by rw[E t (by omega)];exact aa,setRow_heap w A cs _ ad (0,0) ao,ak,?_⟩)
  .exact sD [t+1+i] ac (by rw[I];exact bh _) z (λ_ _=>rfl) (λs D=>E s (by simpa using D))
  .have:=eT.set (g:=g) (g':=g2) ps (t+1) cs.toList es i off _ _ Z al aO V (by rw[W];exact aw) E;simpa using this
 .show f.p g2 (g2.ga (t+1+i)) _;rw[W];exact f.aD g g2 _ w _ ⟨by rw[I];exact bh _,λb aB aF=>⟨z b aB (λan=>Y.2 (an▸aF)),rfl⟩,λs D=>E s (λan=>Y.1 s D (by omega))⟩ aH
theorem au.Qp{e:TypeId}(V:bx 10 t=true)(A:Ty X.P e mK)(I:partAt ps i=some (off,false,1))(z:Has G p (.cJ t off))(ho:ay G (rs t)=some (.obj t ps))(O:jJ f)(hx:Has G x f)(D:jt t (t+1+i) 1 [(false,1,f)]=true):
  au X G ⟨none, .store e p x,ty,pos,af,none⟩ [.ae (rs (t+1+i)) (.at (t+1+i) f), .ae (rs t) (.obj t ps), .av t, .bp (t+1+i)]:=
 au.Ph (α:=mK) V A I z ho (λa w g E=>by obtain⟨W,U⟩:=O _ _ _ (hx a w g E);exact⟨λ_=>True,⟨a.eval x,U⟩,[a.eval x],rfl,rfl⟩) hx D
end
section
variable{Q:Exit->Act->World->Prop}{rest:List Oper}{dO:Option Nat}
theorem ah.Jr{io:Operand}{ts e:TypeId}{T:List Nat}{z:UInt8}(U:b_ n (z.toNat:Int)=some k)(h:rl X.P ts e n 1)(hx:Has G x (.cJ t 0))(V:Has G io (aa.rep T z)):
  ah X G ⟨dO, .indexAddr ts x io,ty,pos,af,gd⟩ (.cJ t k):=
 bL λa w g E=>by
  obtain⟨b,W,O⟩:=hx a w g E;obtain⟨Z,I,D⟩:=h.sz;obtain⟨ad,ac,ae⟩:=pH U;have A:=sd.1 (V a w g E);have Y:(z.toNat:Int)=(k:Int):=by omega
  rw[Y]at A;refine⟨.pointer (some ⟨b,k,none⟩),?_,b,W,rfl⟩;unfold execOp;simp only[O,A,vh,asIntOf,cU,gx,eA,run_underlying h.cE,fL,kc];rw[if_pos (by omega)];simp only[oX,typeInfo,I,D];simp[I,D,Go.Addr.add_lit]
def kl{α:Type}[Rp α](G:List It)(T:List Nat)(i:Nat):List α->Prop
 |[]=>True
 |y::l=>dJ G i (aa.rep T y)/\kl G T (i+1) l
theorem kl.nil[Rp α]{T:List Nat}:kl (α:=α) G T i []:=trivial
theorem kl.cons[Rp α]{T:List Nat}(h:dJ G i (aa.rep T y))(k:kl G T (i+1) l):kl G T i (y::l):=⟨h,k⟩
theorem kl.get{α:Type}[Rp α]{T:List Nat}:∀{l:List α} {i k:Nat} {y:α},kl G T i l->l[k]? =some y->dJ G (i+k) (aa.rep T y)
 |[],_,_,_,_,h=>by simp at h
 |x::l,i,0,y,h,z=>by simp at z;subst z;exact h.1
 |x::l,i,k+1,y,h,z=>by have:=kl.get (k:=k) h.2 (by simpa using z);rw[show i+1+k=i+(k+1) by omega]at this;exact this
def JD(ps:Ps)(n:Nat):Bool:=(m9 n).all λj=>partAt ps j==some (j,false,1)
theorem KK(h:JD ps n=true)(z:k<n):partAt ps k=some (k,false,1):=by have:=i_.1 h k (jc.2 z);simpa using this
theorem ah.ZN{e:TypeId}[R:Rp α]{T:List Nat}(A:l[k]? =some y)(D:Ty X.P e α)(z:R.agg=false)(I:JD ps l.length=true)(hx:Has G x (.cJ t k))(ho:ay G (rs t)=some (.obj t ps))(E:kl G T (t+1) l):ah X G ⟨dO, .load e x,ty,pos,af,gd⟩ (aa.rep T y):=
 ic (i:=k) D (by rw[z,R.na z];exact KK I (cy.1 A).1) hx ho (E.get A)
end
structure bI(ks:List FuncId)where
 i:Nat
 deriving Inhabited,DecidableEq
def jl(ks:List FuncId):Nat->Option FuncId
 |0=>none
 |n+1=>ks[n]?
def qB:Option FuncId->Value
 |none=> .nilFunc
 |some k=> .func (.func k) #[] #[]
instance{ks:List FuncId}:Rp (bI ks)where
 n:=1
 agg:=false
 na:=λ_=>rfl
 rel:=λ_ x cs _=>cs=[qB (jl ks x.i)]
 len:=λ_ _ _ _ h=>by rw[h];rfl
 one:=λ_ x _ _ h=>by rw[h];cases jl ks x.i<;>simp[qB,j_]
 aD:=λ_ _ _ _ _ _ _ _ h=>h
instance{ks:List FuncId}:Flat (bI ks):=⟨λ_ _ _ _ _ _ h=>h⟩
theorem yQ{F:Nat->Prop}{x:bI ks}:cX F x v w↔v=qB (jl ks x.i):=by
 constructor
 .rintro⟨cs,h,rfl⟩;cases h;rfl
 .rintro rfl;exact⟨_,rfl,rfl⟩
section
variable{Q:Exit->Act->World->Prop}{dO:Option Nat}
theorem Has.Qm:Has G (.const .nilFunc) (aa.rep [] (⟨0⟩:bI ks)):=λ_ _ _ _=>yQ.2 rfl
theorem Cv.gb{k:FuncId}(h:jl ks n=some k):Cv G (.ef k [] []) (aa.rep [] (⟨n⟩:bI ks)):=λa w g v I A=>by
 obtain⟨us,E,rfl,D,z⟩:=A;cases us with
 |nil=>
  cases E with
  |nil=>exact yQ.2 (by rw[h];rfl)
  |cons _ _=>cases z
 |cons _ _=>cases D
theorem Yo(w:World)(d:Nat){t:TypeId}{as rs:Array TypeId}{vr:Bool}(h:P.underlying t=some (.func as rs vr))(o:Option FuncId):(nX (d+1) t (qB o) .nilFunc).run P w= .ok o.isNone w:=by cases o<;>simp[nX,run_underlying h,qB]
theorem L5(w:World){t:TypeId}{as rs:Array TypeId}{vr:Bool}(h:P.underlying t=some (.func as rs vr))(o:Option FuncId):(Op.equal t (qB o) .nilFunc).run P w= .ok o.isNone w:=Yo w 9999 h o
theorem OQ{op:BinOp}{t:TypeId}{y:Operand}(o:Option FuncId)(v:Value):eqGuard op t x y (qB o) v=pure ():=by cases o<;>cases op<;>rfl
theorem ah.P3{t:TypeId}{T:List Nat}{as rs:Array TypeId}{vr:Bool}{m:bI ks}(E:X.P.underlying t=some (.func as rs vr))(hx:Has G x (aa.rep T m)):
  ah X G ⟨dO, .binOp .eql t x (.const .nilFunc) t',ty,pos,af,gd⟩ (aa.rep [] (jl ks m.i).isNone):=
 bL λa w g z=>by have D:=yQ.1 (hx a w g z);refine⟨.bool (jl ks m.i).isNone,?_,dw.2 rfl⟩;unfold execOp;have A:=L5 (P:=X.P) w E (jl ks m.i);simp[D,eval_const,OQ,binOp,A]
theorem ah.X5{m:bI ks}{y:Operand}{d:Option Nat}{xs:List Operand}(T:List Nat)(t:Nat)(ac:bx 10 t=true){Ty':List Nat}(ak:Has G y (aa.rep Ty' m))(z:∃k,jl ks m.i=some k/\enters X.P k=true/\gl X.P k pre out shc)(hx:bX G T xs pre):
  ah X G ⟨d, .call {callee:= .value y,args:=xs.toArray,argTypes:=ats},ty,pos,af,gd⟩ (out.f (cT t T shc)):=λa w g ao V ae D K Q an=>by
 have U:10<=t:=by simpa using ac
 obtain⟨k,O,Y,z⟩:=z;have W:a.eval y= .func (.func k) #[] #[]:=by rw[yQ.1 (ak a w g D),O];rfl
 have E:=z w g T _ (hx.nz D);have I:(execOp a.eval ⟨d, .call {callee:= .value y,args:=xs.toArray,argTypes:=ats},ty,pos,af,gd⟩).run X.P w= .ok (.enter k (xs.map a.eval).toArray) w:=by unfold execOp;simp[resolve,nT,W,invoke,mq Y]
 unfold dy;rw[I];refine kZ E ?_;rintro e w' ⟨v,rfl,am,cls,Z⟩;refine an v w' ⟨am,GL.gr g w.heap.size t cls,ae.gr U V.size,λb ag=>by simp[GL.gr,ag],λ_=>rfl,?_⟩;refine Z _ _ ?_ ?_
 .intro b A _;simp only[GL.gr,cT];rw[if_neg (Nat.not_lt.2 A)];cases shc.elem (cls b)<;>simp
 .intro b c A ad al;simp only[GL.gr,cT];rw[if_pos A,show shc.elem c=true by simpa using al];simp[ad]
theorem ah.UI{m:bI ks}{y:Operand}{d:Option Nat}{xs:List Operand}(T:List Nat)(t:Nat)(E:Nat.ble 10 t=true){Ty':List Nat}(D:Has G y (aa.rep Ty' m))(z:∃k,jl ks m.i=some k/\enters X.P k=true/\gl X.P k pre out shc)(hx:bX G T xs pre)(A:out.f (cT t T shc)=f:=by rfl):
 ah X G ⟨d, .call {callee:= .value y,args:=xs.toArray,argTypes:=ats},ty,pos,af,gd⟩ f:=A▸ah.X5 T t E D z hx
end
structure Raw(n:Nat)where
 cs:List Value
 len:cs.length=n
 one:∀c∈cs,c.oneCell'=true
instance(n:Nat):Rp (Raw n)where
 n:=n
 agg:=true
 na:=λh=>by cases h
 rel:=λ_ x cs _=>cs=x.cs
 len:=λ_ x _ _ h=>by rw[h];exact x.len
 one:=λ_ x _ _ h=>by rw[h];exact x.one
 aD:=λ_ _ _ _ _ _ _ _ h=>h
theorem gu.raw{t e:TypeId}[R:Rp α](h:gu P t e α)(D:R.agg=true):gu P t e (Raw R.n):=
 ⟨h.cE,⟨by obtain⟨d,A,z⟩:=h.el.cE;exact⟨d,A,by rw[z,D];rfl⟩,h.el.sz⟩,h.pos,h.info⟩
structure BZ(α β γ:Type)[R:Rp α][B:Rp β][C:Rp γ]where
 hd:α->List β
 tl:α->γ
 n:R.n=C.n+1
 agg:R.agg=true
 split:∀F x cs w,R.rel F x cs w↔∃v c,cs=v::c/\ik F F (hd x) v w/\C.rel F (tl x) c w
theorem N1[B:Rp β](F:Nat->Prop)(l:List β)(cs:List Value)(w:World):(inferInstance:Rp (List β)).rel F l cs w↔∃v,cs=[v]/\ik F F l v w:=by
 constructor
 .rintro⟨a,c,D,z,A,E⟩;exact⟨_,D,a,c,rfl,z,A,E⟩
 .rintro⟨v,I,a,c,D,z,A,E⟩;exact⟨a,c,by rw[I,D],z,A,E⟩
def BZ.via{α β γ:Type}[B:Rp β][C:Rp γ](f:α->List β×γ): @BZ α β γ (Rp.dH (inferInstance:Rp (List β×γ)) f) B C:=
 @BZ.mk α β γ (Rp.dH (inferInstance:Rp (List β×γ)) f) B C (λx=>(f x).1) (λx=>(f x).2) (Nat.add_comm 1 C.n) rfl (λF x cs w=>by
  show(∃c1 z,cs=c1++z/\(inferInstance:Rp (List β)).rel F (f x).1 c1 w/\C.rel F (f x).2 z w)↔_;constructor
  .rintro⟨c1,z,rfl,D,A⟩;obtain⟨v,rfl,E⟩:=(N1 F _ c1 w).1 D;exact⟨v,z,rfl,E,A⟩
  .rintro⟨v,c,rfl,D,A⟩;exact⟨[v],c,rfl,(N1 F _ _ w).2 ⟨v,rfl,D⟩,A⟩)
section
variable{Q:Exit->Act->World->Prop}{rest:List Oper}{dO:Option Nat}
variable[R:Rp α][B:Rp β][C:Rp γ]{H:BZ α β γ}{u:Nat}{Tr te:List Nat}{e er:TypeId}
theorem ah.mW{u o:Nat}(hx:Has G x (.cJ u o)):ah X G ⟨dO, .nilCheck x,ty,pos,af,gd⟩ (.cJ u o):=
 bL λa w g z=>by obtain⟨b,A,D⟩:=hx a w g z;refine⟨.pointer (some ⟨b,o,none⟩),?_,b,A,rfl⟩;unfold execOp;simp[D]
end
def aa.kW{α:Type}[R:Rp α](T:List Nat)(l:List α):aa where
 bj:=T
 ids:=[]
 p:=λg v w=>cX (λb=>g.om b∈T) l v w/\∃a,v= .slice a l.length l.length
 aD:=λg g' v w w' z h=>⟨(aa.rep T l).aD g g' v w w' z h.1,h.2⟩
section
variable{dO:Option Nat}
theorem ah.Yn[R:Rp α]{hi mx:Operand}{T T2:List Nat}{r:List α}{n:Int}{t e:TypeId}(A:GL.fy l 0 n=some r)(I:nh X.P t e α)(hx:Has G x (aa.rep T l))(W:Has G hi (aa.rep T1 n))(Z:Has G mx (aa.rep T2 n)):ah X G ⟨dO, .slice t x none (some hi) (some mx),ty,pos,af,gd⟩ (aa.kW T r):=by
 unfold GL.fy at A;split at A
 case isFalse=>cases A
 rename_i ao;cases A;refine bL λa w g E=>?_;have h:=hx a w g E;obtain⟨ad,c,ae,an,V,O⟩:=jQ h;have am:=cD.1 (W a w g E);have ag:=cD.1 (Z a w g E);have ak:n<=(c:Int):=by omega
 have g2:0<=n:=by omega
 have ac:min n.toNat l.length=n.toNat:=by omega
 have z:((l.take n.toNat).drop (0:Int).toNat).length=n.toNat:=by simp;omega
 refine⟨.slice (if n.toNat=0 then ad else ad.map (·.add 0)) n.toNat n.toNat,?_,?_,(if n.toNat=0 then ad else ad.map (·.add 0)),by rw[z]⟩
 .unfold execOp;simp only[jd,o_,ae,am,ag,cU,kc];unfold pd;simp[run_underlying I.cE,sJ,pe,sK,asIntOf,ak,g2,gD I.el];intro ap;omega
 .have Y:(if n.toNat=0 then ad else ad.map (·.add 0))=ad:=by
   split
   .rfl
   .cases ad with
    |none=>rfl
    |some x=>simp[Go.Addr.add_zero']
  rw[Y];have U:(l.take n.toNat).drop (0:Int).toNat=l.take n.toNat:=by simp
  rw[U]at z|-;refine⟨[.slice ad n.toNat n.toNat],⟨ad,n.toNat,by rw[z],by rw[z];exact bh _,λal=>?_,λx hx i y D=>?_⟩,rfl⟩
  .obtain⟨e1,e2⟩:=V al;subst e1;simp at ac z|-;omega
  .refine O x hx i y ?_;rw[o8]at D;split at D
   .exact D
   .cases D
theorem UR[R:Rp α]{F:Nat->Prop}{a:Option Addr}(h:cX F l (.slice a l.length l.length) w):
  ∃D:List Value,aR F l D w/\∀w',(∀a,w'.cell? a=w.cell? a)->(J3 R.n l.length (.slice a l.length l.length)).run P w'= .ok D.toArray w':=by
 obtain⟨ad,c,aa,ae,O,I⟩:=jQ h;cases aa;cases a with
 |none=>
  obtain⟨e1,_⟩:=O rfl;subst e1;exact⟨[],rfl,λw' _=>by simp[J3]⟩
 |some ad=>
  obtain⟨z,E,A⟩:=yd (w:=w) (F:=F) (ad:=ad) l 0 (λi y W=>by obtain⟨_,_,es,ac,V⟩:=I ad rfl i y W;exact⟨es,by simpa using ac,V⟩)
  have A:eO w ad z:=by simpa [Go.Addr.add_zero']using A
  have U:=aR.len _ _ E;refine⟨z,E,λw' Y=>?_⟩;exact run_firstCells_some (P:=P) w' R.n l.length ad l.length l.length z U (λj u Z=>by rw[Y];exact(A j u Z).1)
end
def ui(P:Program){β:Type}[Rp β](m:Option (Option β))(F:Nat->Prop)(v:Value)(w:World):Prop:=
 match m with
 |none=>v= .nilFunc
 |some o=>∃k cs,v= .func (.func k) #[] cs/\enters P k=true/\∀r,o=some r->∀w':World,w.heap.size<=w'.heap.size->(∀b,b<w.heap.size->F b->w'.heap[b]? =w.heap[b]?)->
  Calls P k cs w' (λe z=>∃A,e= .returned A/\Fr fW w' z/\cX (λb=>w'.heap.size<=b/\b<z.heap.size) r A z)
theorem ui.aD[Rp β]{m:Option (Option β)}{F:Nat->Prop}(E:w.heap.size<=w'.heap.size)(A:∀b,b<w.heap.size->F b->w'.heap[b]? =w.heap[b]? /\F' b)(h:ui P m F v w):ui P m F' v w':=by
 cases m with
 |none=>exact h
 |some o=>
  obtain⟨k,cs,W,Z,V⟩:=h;refine⟨k,cs,W,Z,λr Y O U I=>V r Y O (m5 E U) (λb z D=>?_)⟩;rw[I b (nR z E) (A b z D).2];exact(A b z D).1
def aa.fz(P:Program){β:Type}[Rp β](T:List Nat)(m:Option (Option β)):aa where
 bj:=T
 ids:=[]
 p:=λg v w=>ui P m (λb=>g.om b∈T) v w
 aD:=λg g' v w w' A h=>ui.aD A.size (λb D z=>⟨(A.block b D z).1,by rw[(A.block b D z).2];exact z⟩) h
theorem jJ.fz[Rp β]{T:List Nat}{m:Option (Option β)}:jJ (.fz P T m):=λg v w h=>by
 cases m with
 |none=>rw[show v= .nilFunc from h];exact⟨rfl,rfl⟩
 |some o=>obtain⟨k,cs,rfl,_⟩:=h;exact⟨rfl,rfl⟩
theorem bk.zf[Rp β]{T:List Nat}(k:bk g w ls cs):bk g w ((false,1, .fz P T (none:Option (Option β)))::ls) (.nilFunc::cs):=
 ⟨[.nilFunc],cs,rfl,rfl,by simp[j_],λ_=>rfl,rfl,k⟩
def sZ{β:Type}[Rp β](out:β->bm):Prop:=∀r T g v w,((out r).f T).p g v w->cX (λb=>∃c,g.om b∈T c) r v w
theorem sZ.own[R:Rp α]{c:Nat}{A:Option Nat}{e:TypeId}:sZ (λr:List α=>bm.own c A e r):=λr T g v w h=>by
 have h:fx (λb=>g.om b∈T c) (λb=>g.om b∈oc T A) e r v w:=h;refine ik.rep (λb z=>⟨c,z⟩) (λb z=>?_) h.sl;cases A with
 |none=>cases z
 |some d=>exact⟨d,z⟩
section
variable{Q:Exit->Act->World->Prop}{dO:Option Nat}
theorem Cv.nF[Rp β]{T:List Nat}{m:Option (Option β)}(h:ep T T'=true):Cv G (.fz P T m) (.fz P T' m):=λ_ _ _ _ _ A=>
 ui.aD (bh _) (λ_ _ z=>⟨rfl,fH h _ z⟩) A
theorem Cv.fz[R:Rp β]{T:List Nat}{o:Option β}{k:FuncId}{cs:List aa}{pc:List bm}{out:β->bm}(ak:enters P k=true)(U:gf G cs (pc.map λs=>s.f (da T)))(O:sZ out)(al:∀r,o=some r->gl P k pc (out r) []):Cv G (.ef k [] cs) (.fz P T (some o)):=λa w g v av E=>by
 obtain⟨us,A,ad,aw,I⟩:=E;have ac:us=[]:=aw;subst ac;have I:=(gf.all av _ _ _ U I).nz;refine⟨k,A.toArray,ad,ak,λr ae w' am Z=>?_⟩
 classical
 let D:Gh:=⟨λb=>if b<w.heap.size/\g.om b∈T then 0 else 1,g.ga⟩
 have aq:ft [0] D w pc A:=ft.uz (bh _) (λ_ _ _=>rfl) (λb z ag=>by simp[D,z,ag]) pc A I;have ap:ft [0] D w' pc A:=by
  refine ft.uz (T:=[0]) (g:=D) am (λb z h=>?_) (λb z h=>h) pc A aq;simp only[D,dz]at h;split at h
  .rename_i h';exact Z b z h'.2
  .cases h
 refine(al r ae w' D [0] A ap).mono ?_;rintro e V ⟨ar,rfl,Y,cls,E⟩;refine⟨ar,rfl,Y,?_⟩;have ay:=E (da [7]) ⟨λb=>if w'.heap.size<=b/\b<V.heap.size then 7 else 8,λ_=>undef⟩ (λb ao an=>by simp[da,ao,an]) (λb c _ _ W=>by cases W);refine cX.mono (O _ _ _ _ _ ay) (λb _ z=>?_);obtain⟨c,z⟩:=z;simp only[da,dz]at z;split at z
 .assumption
 .cases z
theorem VR{m:Option (Option β)}{r:β}(h:m.bind id=some r):m=some (some r):=by
 cases m with
 |none=>cases h
 |some o=>exact congrArg some h
theorem ah.YR[R:Rp β]{m:Option (Option β)}{r:β}{y:Operand}{T:List Nat}(t:Nat)(ag:bx 10 t=true)(ae:m.bind id=some r)(z:Has G y (.fz X.P T m)):
  ah X G ⟨dO, .call {callee:= .value y,args:= #[],argTypes:= #[]},ty,pos,af,gd⟩ (aa.rep [t] r):=λa w g al U Z ac K Q ak=>by
 have O:10<=t:=by simpa using ag
 have z:=z a w g ac;rw[VR ae]at z;obtain⟨k,cs,W,Y,V⟩:=z;have E:=V r rfl w (bh _) (λ_ _ _=>rfl);have I:(execOp a.eval ⟨dO, .call {callee:= .value y,args:= #[],argTypes:= #[]},ty,pos,af,gd⟩).run X.P w= .ok (.enter k cs) w:=by unfold execOp;simp[resolve,nT,W,invoke,mq Y]
 unfold dy;rw[I];refine kZ E ?_;rintro e w' ⟨v,rfl,A,ad⟩;refine ak v w' ⟨A,GL.cM g w.heap.size t,Z.cM O A.size U.size,λb D=>by simp[GL.cM,D],λ_=>rfl,cX.mono ad (λb _ D=>?_)⟩;simp only[GL.cM];rw[if_neg (by omega)];simp
theorem Yl(w:World)(d:Nat){t:TypeId}{as rs:Array TypeId}{vr:Bool}(h:P.underlying t=some (.func as rs vr))(k:FuncId)(us cs:Array Value):(nX (d+1) t (.func (.func k) us cs) .nilFunc).run P w= .ok false w:=by simp[nX,run_underlying h]
theorem T8(w:World){t:TypeId}{as rs:Array TypeId}{vr:Bool}(h:P.underlying t=some (.func as rs vr))(k:FuncId)(us cs:Array Value):(Op.equal t (.func (.func k) us cs) .nilFunc).run P w= .ok false w:=Yl w 9999 h k us cs
theorem ah.Q_[R:Rp β]{m:Option (Option β)}{t:TypeId}{T:List Nat}{as rs:Array TypeId}{vr:Bool}(E:X.P.underlying t=some (.func as rs vr))(hx:Has G x (.fz X.P T m)):
  ah X G ⟨dO, .binOp .eql t x (.const .nilFunc) t',ty,pos,af,gd⟩ (aa.rep [] m.isNone):=
 bL λa w g I=>by
  have h:=hx a w g I;refine⟨.bool m.isNone,?_,dw.2 rfl⟩;cases m with
  |none=>
   have D:a.eval x= .nilFunc:=h;unfold execOp;have A:=L5 (P:=X.P) w E none;have z:=OQ (op:= .eql) (t:=t) (x:=x) (y:= .const .nilFunc) none .nilFunc;simp only[qB]at A z;simp[D,eval_const,z,binOp,A]
  |some o=>
   obtain⟨k,cs,D,_⟩:=h;unfold execOp;have A:=T8 (P:=X.P) w E k #[] cs;have z:eqGuard .eql t x (.const .nilFunc) (.func (.func k) #[] cs) .nilFunc=vg ():=rfl;simp[D,eval_const,z,binOp,A]
def iy{β:Type}[Rp β](P:Program)(G:List It)(T:List Nat)(i:Nat):List (Option (Option β))->Prop
 |[]=>True
 |y::l=>dJ G i (aa.fz P T y)/\iy P G T (i+1) l
theorem iy.nil[Rp β]{T:List Nat}:iy (β:=β) P G T i []:=trivial
theorem iy.cons[Rp β]{T:List Nat}{y:Option (Option β)}{l:List (Option (Option β))}(h:dJ G i (aa.fz P T y))(k:iy P G T (i+1) l):iy P G T i (y::l):=⟨h,k⟩
theorem iy.get{β:Type}[Rp β]{P:Program}{T:List Nat}:∀{l:List (Option (Option β))} {i k:Nat} {y:Option (Option β)},iy P G T i l->l[k]? =some y->dJ G (i+k) (aa.fz P T y)
 |[],_,_,_,_,h=>by simp at h
 |x::l,i,0,y,h,z=>by simp at z;subst z;exact h.1
 |x::l,i,k+1,y,h,z=>by have:=iy.get (k:=k) h.2 (by simpa using z);rw[show i+1+k=i+(k+1) by omega]at this;exact this
theorem ah.Qf{e:TypeId}[R:Rp β]{T:List Nat}{l:List (Option (Option β))}{y:Option (Option β)}(z:l[k]? =some y)(A:Ty X.P e Int)(E:JD ps l.length=true)(hx:Has G x (.cJ t k))(ho:ay G (rs t)=some (.obj t ps))(D:iy X.P G T (t+1) l):ah X G ⟨dO, .load e x,ty,pos,af,gd⟩ (aa.fz X.P T y):=
 ic (α:=Int) (i:=k) A (KK E (cy.1 z).1) hx ho (D.get z)
theorem BP.B8(W:kG ls i=some (off,false,1,f0))(Y:pl[i]? =some (off,1))(ho:jJ f)(hx:Has G x f)(k:BP G pl (ls.set i (false,1,f)) us ls'):BP G pl ls ((i,x)::us) ls':=λa w g D cs h=>by
 have z:=hx a w g D;obtain⟨V,Z⟩:=ho _ _ _ z;obtain⟨ac,aa⟩:=bk.set ls cs [a.eval x] i off _ _ f0 f h W rfl (by simpa using Z) z;obtain⟨I,U,O⟩:=k a w g D _ aa;refine⟨I,?_,O⟩;rw[<-U];simp only[fh,m_];have E:pl.toArray[i]? =some (off,1):=by simpa using Y
 simp only[E,V];rw[if_neg (by simp;omega)];have A:=yj [a.eval x] off cs.toArray 0 (by simp;omega);simp only[ja,je]at A;congr 1;apply Array.toList_inj.1;simpa using A
end
def vW{α:Type}(l:List α)(m n:Int):Option (List α):=if 0<=m/\m<n/\n<=l.length then some (l.take m.toNat++l.drop n.toNat)else none
def rr{α:Type}(l:List α)(y:α):Option (List α):=if l.length+1<4294967296 then some (y::l)else none
def Qh(P:Program)(k:FuncId)(e:TypeId)(n:Nat):Prop:=∀(z:Value) (L i j:Nat) (xs:List Value) (w:World),w.ownsRow 0 e n z L xs->i<j->j<=L->(∀v∈xs,v.oneCell'=true)->
 Calls P k #[z, .int .i64 i, .int .i64 j] w λo w'=>∃A,o= .returned A/\w'.ownsRow 0 e n A (i+(L - j)) (xs.take (i * n)++xs.drop (j * n))/\w.grownBy w' z.ownBlock/\A.ownBlock=z.ownBlock
def Qr(P:Program)(k:FuncId)(e:TypeId)(n:Nat):Prop:=∀(sv vv:Value) (L:Nat) (xs vs:List Value) (w:World),w.ownsRow 0 e n sv L xs->w.ownsRow 0 e n vv 1 vs->(∀b,sv.ownBlock=some b->vv.ownBlock≠some b)->L+1<4294967296->
 (∀v∈xs,v.oneCell'=true)->(∀v∈vs,v.oneCell'=true)->
 Calls P k #[sv, .int .i64 0,vv] w λo w'=>∃z,o= .returned z/\w'.ownsRow 0 e n z (L+1) (vs++xs)/\w.grownBy w' sv.ownBlock/\∀b,z.ownBlock=some b->sv.ownBlock=some b\/b=w.heap.size
theorem aR.drop{α:Type}[R:Rp α]{F:Nat->Prop}{w:World}:∀(l:List α) (xs:List Value) (k:Nat),aR F l xs w->aR F (l.drop k) (xs.drop (k * R.n)) w
 |[],xs,k,h=>by rw[show xs=[] from h];simp[aR]
 |y::l,xs,0,h=>by simpa using h
 |y::l,xs,k+1,h=>by obtain⟨c1,A,rfl,E,D⟩:=h;have z:=R.len _ _ _ _ E;rw[List.drop_succ_cons,show(k+1) * R.n=c1.length+k * R.n by rw[z,h_];omega,<-qO,y7];exact aR.drop l A k D
section
variable{dO:Option Nat}
theorem au.XV[R:Rp α]{i j:Operand}{T te T2:List Nat}{r:List α}{m n:Int}{e:TypeId}{k:FuncId}(E:vW l m n=some r)(Y:jV T=true)(aq:T.isEmpty=false)(hd:bt d X.n=true)(aB:enters X.P k=true)(aJ:Qh X.P k e R.n)(aF:Has G x (aa.ow T te e l))(aH:Has G i (aa.rep T1 m))(aA:Has G j (aa.rep T2 n))(av:gn (α:=α) T te te):
  au X G ⟨some d, .call {callee:= .value (.func k),args:= #[x,i,j],argTypes:=ats},ty,pos,af,none⟩ (.ae d (aa.ow T te e r)::fV T []):=λG' ap a w env K Q aI=>by
 have ay:d<X.n:=by simpa [fu]using hd
 obtain⟨g,al,ak⟩:=env.facts;have V:=ap a w g ak;obtain⟨xs,ac,ad,Z⟩:=aF a w g V;have e1:=cD.1 (aH a w g V);have e2:=cD.1 (aA a w g V);obtain⟨t,aE⟩:∃t,t∈T:=by
  cases T with
  |nil=>simp at aq
  |cons t _=>exact⟨t,by simp⟩
 have ar:10<=t:=nB Y aE;unfold vW at E;split at E
 case isFalse=>cases E
 rename_i aL;cases E;obtain⟨D,rfl⟩:∃D:Nat,m=(D:Int):=⟨m.toNat,by omega⟩;obtain⟨I,rfl⟩:∃I:Nat,n=(I:Int):=⟨n.toNat,by omega⟩;have am:=aJ (a.eval x) l.length D I xs w ac (by omega) (by omega) (aR.one l xs ad);have ag:(execOp a.eval ⟨some d, .call {callee:= .value (.func k),args:= #[x,i,j],argTypes:=ats},ty,pos,af,none⟩).run X.P w= .ok (.enter k #[a.eval x,a.eval i,a.eval j]) w:=by unfold execOp;simp[resolve,nT,Act.eval,invoke,mq aB]
 rw[e1,e2]at ag;unfold dy;rw[ag];refine kZ am ?_;rintro o w' ⟨az,rfl,an,A,ao⟩;refine aI az w' ?_;rw[kE,wv];have z:∀b,b<w.heap.size->g.om b∉T->w'.heap[b]? =w.heap[b]? :=λb z aw=>A.block b z (λaG=>aw (Z b aG.symm));have U:∀b,b<w.heap.size->(cM g w.heap.size t).om b=g.om b:=λb z=>by simp[cM,z]
 refine⟨by simp[Act.put,env.size],env.defers,Fr.Bc env.fr al Y A.os A.tape A.output A.size z,cM g w.heap.size t,al.cM ar A.size env.fr.size,?_⟩;refine aQ.put (by rw[env.size];exact ay) (z7 ak A.size z U (λ_=>rfl)) ?_;have aC:∀b,b<w.heap.size->g.om b∈te->(cM g w.heap.size t).om b∈te:=λb z h=>by rw[U b z];exact h
 have W:=av _ g w w' l xs A.size z aC ad;refine⟨_,?_,aR.app _ _ _ _ (aR.take l xs D W) (aR.drop l xs I W),?_⟩
 .simp only[Q5,bY,cf,eH,jN (show D<=l.length by omega)];exact an
 .intro b O;rw[ao]at O;rw[U b (ac.lt b O).2];exact Z b O
theorem au.Ui[R:Rp α]{z:Operand}{T te Tx tx:List Nat}{r:List α}{e:TypeId}{k:FuncId}(O:rr l y=some r)(Z:jV T=true)(az:T.isEmpty=false)(hd:bt d X.n=true)(aI:enters X.P k=true)(aL:Qr X.P k e R.n)(aN:Has G x (aa.ow T te e l))(aM:Has G z (aa.ow Tx tx e [y]))(aA:(T.all λt=> !Tx.elem t)=true)(aB:gn (α:=α) T te te')(aF:gn (α:=α) T tx te'):
  au X G ⟨some d, .call {callee:= .value (.func k),args:= #[x, .const (.int .i64 0),z],argTypes:=ats},ty,pos,af,none⟩ (.ae d (aa.ow T te' e r)::fV T []):=λG' aw a w env K Q aZ=>by
 have aG:d<X.n:=by simpa [fu]using hd
 obtain⟨g,am,ag⟩:=env.facts;have an:=aw a w g ag;obtain⟨xs,ac,ad,U⟩:=aN a w g an;obtain⟨E,ap,Y,ao⟩:=aM a w g an;obtain⟨t,al⟩:∃t,t∈T:=by
  cases T with
  |nil=>simp at az
  |cons t _=>exact⟨t,by simp⟩
 have aC:10<=t:=nB Z al;unfold rr at O;split at O
 case isFalse=>cases O
 rename_i a0;cases O;have V:∀b,(a.eval x).ownBlock=some b->(a.eval z).ownBlock≠some b:=λb I aJ=>by have aU:=U b I;have aY:=ao b aJ;have:=i_.1 aA _ aU;simp at this;exact this aY
 have aq:=aL (a.eval x) (a.eval z) l.length xs E w ac ap V (by omega) (aR.one l xs ad) (aR.one _ E Y);have ay:(execOp a.eval ⟨some d, .call {callee:= .value (.func k),args:= #[x, .const (.int .i64 0),z],argTypes:=ats},ty,pos,af,none⟩).run X.P w= .ok (.enter k #[a.eval x, .int .i64 0,a.eval z]) w:=by unfold execOp;simp[resolve,nT,Act.eval,invoke,mq aI]
 unfold dy;rw[ay];refine kZ aq ?_;rintro o w' ⟨aH,rfl,ar,D,av⟩;refine aZ aH w' ?_;rw[kE,wv];have A:∀b,b<w.heap.size->g.om b∉T->w'.heap[b]? =w.heap[b]? :=λb A V=>D.block b A (λaO=>V (U b aO.symm));have W:∀b,b<w.heap.size->(cM g w.heap.size t).om b=g.om b:=λb A=>by simp[cM,A]
 refine⟨by simp[Act.put,env.size],env.defers,Fr.Bc env.fr am Z D.os D.tape D.output D.size A,cM g w.heap.size t,am.cM aC D.size env.fr.size,?_⟩;refine aQ.put (by rw[env.size];exact aG) (z7 ag D.size A W (λ_=>rfl)) ?_;have ak:∀b,b<w.heap.size->g.om b∈te'->(cM g w.heap.size t).om b∈te':=λb A h=>by rw[W b A];exact h
 refine⟨E++xs,ar,aR.app [y] l E xs (aF _ g w w' _ E D.size A ak Y) (aB _ g w w' l xs D.size A ak ad),?_⟩;intro b aE;rcases av b aE with I|I
 .rw[W b (ac.lt b I).2];exact U b I
 .show(cM g w.heap.size t).om b∈T;simp only[cM];rw[if_neg (by omega)];exact al
theorem ah.uI[R:Rp α]{xs:List Operand}{ys:List α}{T:List Nat}{ts e:TypeId}{pt:Array (Nat×Operand)}(t:Nat)(aq:bx 10 t=true)(A:gu X.P ts e α)(al:pt=(parts 0 xs).toArray)(W:xs.length=n)(ag:bx (n * R.n) 16777216=true)(ad:bx 1 n=true)(hx:fX G T xs ys):ah X G ⟨dO, .buildSlice ts n pt,ty,pos,af,gd⟩ (aa.ow [t] T e ys):=λa w g aH ao av ay=>by
 have ak:10<=t:=by simpa using aq
 obtain⟨E,Z⟩:=hx.rep ay;obtain⟨i,D,aw,an,aB,aF,aE⟩:=A.info;have aC:n * R.n<=16777216:=by simpa using ag
 have aA:1<=n:=by simpa using ad
 have ae:n * R.n≠0:=by have:=A.pos;exact Nat.mul_ne_zero (by omega) (by omega)
 have aG:n<=n * R.n:=Nat.le_mul_of_pos_right n A.pos;have Y:∀(xs:List Operand) (k:Nat),(parts k xs).map (λx=>(x.1,a.eval x.2))=((xs.map a.eval).zipIdx k).map λx=>(x.2,x.1):=by
  intro xs;induction xs with
  |nil=>intro k;rfl
  |cons x xs ar=>intro k;simp[parts,ar]
 obtain⟨es,U,I⟩:=Hd ys (xs.map a.eval) 0 ((Array.range (n * R.n)).map (D.cells[·%D.cells.size]!)) (by simp[E]) Z (by simp[E,W]);simp only[Nat.zero_mul,mi,gZ]at I;have V:=aR.len _ _ U;have O:ys.length=n:=by rw[E,W]
 have az:((Array.range (n * R.n)).map (D.cells[·%D.cells.size]!)).toList.length=n * R.n:=by simp
 have ac:(execOp a.eval ⟨dO, .buildSlice ts n pt,ty,pos,af,gd⟩).run X.P w= .ok (.value (.slice (some ⟨w.heap.size,0,none⟩) n n)) (w.alloc (.cells es.toArray e)):=by
  unfold execOp;simp only[al,cU,kc];unfold Instr.buildSlice;have ap:((parts 0 xs).toArray.map λ(i,x)=>(i,a.eval x)).toList=((xs.map a.eval).zipIdx 0).map λx=>(x.2,x.1):=by rw[<-Y];simp
  simp only[ap];have am: ¬(n * R.n>2^24):=by omega
  simp[run_underlying A.cE,gD A.el,am,ae,zeroValue,typeInfo,aw,an,I,newRow]
 refine Yields.val ac ⟨Fr.alloc w _,cM g w.heap.size t,av.cM ak (by simp) ao.size,λb z=>by simp[cM,z],λ_=>rfl,?_⟩;refine⟨es,⟨V, .inr ⟨w.heap.size,n,es.toArray,by rw[O],jM _,heap_alloc_new w _,by omega,by simp only[maxLen];omega,?_,?_⟩⟩,aR.aD (by simp) (λb z h=>⟨RowKit.Below.heap_alloc w _ b z,by simp[cM,z,h]⟩) ys es U,λb z=>?_⟩
 .rw[g5,V,O]
 .rw[kf,fm (by omega)]
 .simp only[kB,Option.some.injEq]at z;subst z;simp[cM]
end
def pM{α:Type}[R:Rp α](F0 F1:Nat->Prop)(k:Nat)(l:List α)(xs:List Value)(w:World):Prop:=aR F1 (l.take k) (xs.take (k * R.n)) w/\aR F0 (l.drop k) (xs.drop (k * R.n)) w
theorem pM.aD[R:Rp α]{F0 F1 F0' F1':Nat->Prop}{xs:List Value}(z:w.heap.size<=w'.heap.size)(D:∀b,b<w.heap.size->F0 b->w'.heap[b]? =w.heap[b]? /\F0' b)(A:∀b,b<w.heap.size->F1 b->w'.heap[b]? =w.heap[b]? /\F1' b)(h:pM F0 F1 k l xs w):pM F0' F1' k l xs w':=⟨aR.aD z A _ _ h.1,aR.aD z D _ _ h.2⟩
theorem pM.all[R:Rp α]{F0 F1 F:Nat->Prop}{xs:List Value}(h:pM F0 F1 k l xs w)(D:∀b,F0 b->F b)(A:∀b,F1 b->F b):aR F l xs w:=by have:=aR.app _ _ _ _ (aR.aD (F':=F) (bh _) (λb _ z=>⟨rfl,A b z⟩) _ _ h.1) (aR.aD (F':=F) (bh _) (λb _ z=>⟨rfl,D b z⟩) _ _ h.2);rwa [sM,sM]at this
def aa.np{α:Type}[R:Rp α](t:Nat)(te0 te1:List Nat)(e:TypeId)(l:List α)(f:Int)(N:Nat):aa where
 bj:=t::(te0++te1)
 ids:=[t]
 p:=λg _ w=>∃xs,w.ownsRow 0 e R.n (g.ga t) l.length xs/\pM (λb=>g.om b∈te0) (λb=>g.om b∈te1) f.toNat l xs w/\l.length=N/\∀b,(g.ga t).ownBlock=some b->g.om b=t
 aD:=λg g' v w w' A h=>by
  obtain⟨xs,O,Z,ae,I⟩:=h;have U:=A.ids t (by simp);refine⟨xs,?_,pM.aD A.size (λb z D=>⟨(A.block b z (fM _ (gY _ D))).1,by rw[(A.block b z (fM _ (gY _ D))).2];exact D⟩)
   (λb z D=>⟨(A.block b z (fM _ (gh _ D))).1,by rw[(A.block b z (fM _ (gh _ D))).2];exact D⟩) Z,ae,?_⟩
  .rw[U];refine⟨O.1,?_⟩;rcases O.2 with ac|⟨b,Y,W,V,ad,z,rest⟩
   .exact .inl ac
   .refine .inr ⟨b,Y,W,V,ad,?_,rest⟩;have E:b<w.heap.size:=(Array.getElem?_eq_some_iff.1 z).1;rw[(A.block b E (by rw[I b (by rw[V];rfl)];simp)).1];exact z
  .rw[U];intro b z;have E:=(O.lt b z).2;rw[(A.block b E (by rw[I b z];simp)).2];exact I b z
theorem Ur[R:Rp α]{te0 te1:List Nat}{e:TypeId}{f:Int}(h:(aa.np t te0 te1 e l f N).p g v w):(aa.own t (te0++te1) e l).p g v w:=by obtain⟨xs,D,A,_,E⟩:=h;exact⟨xs,D,A.all (λb z=>gY _ z) (λb z=>gh _ z),E⟩
section
variable{d dO:Option Nat}
theorem Ad.aag[R:Rp α]{te:List Nat}{e:TypeId}(A:ay G (rs t)=some (.own t te e l))(O:l.length=N):Ad X G (.ae (rs t) (.np t te [] e l 0 N)::G):=λa w env=>by obtain⟨g,I,z⟩:=env.facts;refine⟨env.size,env.defers,env.fr,g,I,aQ.db z (λv=>?_)⟩;obtain⟨xs,U,D,E⟩:=z _ _ A;exact⟨xs,U,⟨by simp[aR],by simpa using D⟩,O,E⟩
theorem Ad.SO[R:Rp α]{te0 te1:List Nat}{e:TypeId}{f:Int}(E:ay G (rs t)=some (.np t te0 te1 e l f N))(Y:decide (f<(N:Int))=false):Ad X G (.ae (rs t) (.own t te1 e l)::G):=λa w env=>by
 obtain⟨g,V,z⟩:=env.facts;refine⟨env.size,env.defers,env.fr,g,V,aQ.db z (λv=>?_)⟩;obtain⟨xs,A,O,W,U⟩:=z _ _ E;have I:N<=f.toNat:=by have:=of_decide_eq_false Y;omega
 refine⟨xs,A,?_,U⟩;have D:=O.1;rw[fm (by omega),fm (by rw[A.1,W];exact iJ _ I)]at D;exact D
theorem Has.Hy[R:Rp α]{te0 te1 te0' te1':List Nat}{e:TypeId}{f:Int}(h:Has G x (.np t te0 te1 e l f N))(E:ep te0 te0'=true)(O:ep te1 te1'=true):Has G x (.np t te0' te1' e l f N):=λa w g I=>by obtain⟨xs,D,U,A⟩:=h a w g I;exact⟨xs,D,pM.aD (bh _) (λb _ z=>⟨rfl,fH E _ z⟩) (λb _ z=>⟨rfl,fH O _ z⟩) U,A⟩
theorem ah.Mm[R:Rp α]{i:Operand}{T te0 te1:List Nat}{n f:Int}{ts e:TypeId}(Y:b_ l.length n=some k)(D:gu X.P ts e α)(hx:Has G x (.aL t))(I:ay G (rs t)=some (.np t te0 te1 e l f N))(U:Has G i (aa.rep T n)):ah X G ⟨dO, .indexAddr ts x i,ty,pos,af,gd⟩ (aa.cJ t (k * R.n)):=by
 obtain⟨W,Z,rfl⟩:=pH Y;refine bL λa w g z=>?_;have V:a.eval x=g.ga t:=hx a w g z;obtain⟨xs,E,_⟩:=z _ _ I;have O:=cD.1 (U a w g z);rcases E.2 with⟨_,ae⟩|⟨b,ad,ac,A,_⟩
 .omega
 .refine⟨.pointer (some ⟨b,n.toNat * R.n,none⟩),?_,b,by rw[A];rfl,rfl⟩;unfold execOp;simp only[V,O,A,cU,kc];rw[wO (R:=R) D.cE D.el W Z];simp[Go.Addr.add_lit]
theorem ah.UH[R:Rp α]{te0 te1:List Nat}{f:Int}{e e':TypeId}(O:l[k]? =some r)(D:Ty X.P e α)(hx:Has G x (.cJ t (k * R.n)))(E:ay G (rs t)=some (.np t te0 te1 e' l f N)):ah X G ⟨dO, .load e x,ty,pos,af,gd⟩ (aa.rep (te0++te1) r):=
 bL λa w g A=>by obtain⟨b,U,I⟩:=hx a w g A;obtain⟨es,V,z⟩:=Hu (Ur (A _ _ E)) U O;refine⟨cL R.agg es,?_,es,z,rfl⟩;unfold execOp;simp[I,lE,fL,n8 D V z]
theorem au.SW[R:Rp α]{T te0 te1 te1':List Nat}{f:Int}{e e':TypeId}(a':bx 10 t=true)(a8:b_ l.length f=some k)(a0:Ty X.P e α)(a9:Has G p (.cJ t (k * R.n)))(a5:ay G (rs t)=some (.np t te0 te1 e' l f N))(hx:Has G x (aa.rep T y))(aJ:te0.elem t=false)(aM:te1'.elem t=false)(U:ep te1 te1'=true)(W:ep T te1'=true):
 au X G ⟨none, .store e p x,ty,pos,af,none⟩ [.ae (rs t) (.np t te0 te1' e' (l.set k y) (wI (f+1)) N), .av t]:=λG' aH a w env K Q bb=>by
 obtain⟨bd,ad,rfl⟩:=pH a8;have ad:f.toNat<l.length:=by omega
 have aU:10<=t:=by simpa using a'
 obtain⟨g,Z,aq⟩:=env.facts;have ak:=aH a w g aq;obtain⟨b,z,a7⟩:=a9 a w g ak;obtain⟨xs,am,ap,a_,an⟩:=ak _ _ a5;rcases am.2 with⟨aF,be⟩|⟨D,a4,cs,ac,ba,aB,ar,aw,aL,aC⟩
 .rw[aF]at z;cases z
 rw[ac]at z;simp only[ix,Option.some.injEq]at z;subst z;have a6:g.om D=t:=an D (by rw[ac];rfl);have al:=am.1
 generalize hkk:f.toNat=k at *
 have aO:(wI (f+1)).toNat=k+1:=by rw[bg (by omega) (by simp only[maxLen]at aw;omega)];omega
 have aN:k * R.n+R.n<=l.length * R.n:=by
  have U:k * R.n+R.n=(k+1) * R.n:=by rw[h_];omega
  rw[U];exact iJ _ ad
 have aY:l.length * R.n<=cs.size:=by rw[aL];exact iJ _ ar
 obtain⟨es,bc,aA,aI⟩:=pF (P:=X.P) a0 aB (hx a w g ak) (show k * R.n+R.n<=cs.size by omega);have I:=R.len _ _ _ _ aA;have aE:(execOp a.eval ⟨none, .store e p x,ty,pos,af,none⟩).run X.P w= .ok .skip (w.setRow D (cs.toList.take (k * R.n)++es++cs.toList.drop (k * R.n+R.n)).toArray):=by unfold execOp;simp only[a7,o9,fL,cU,gx,eA];rw[aI];rfl
 unfold dy;rw[aE];refine bb undef _ ?_;have z:∀b,b<w.heap.size->g.om b≠t->(w.setRow D (cs.toList.take (k * R.n)++es++cs.toList.drop (k * R.n+R.n)).toArray).heap[b]? =w.heap[b]? :=λb z aZ=>setRow_other w D b _ (λh=>aZ (by rw[h];exact a6));have O:(w.setRow D (cs.toList.take (k * R.n)++es++cs.toList.drop (k * R.n+R.n)).toArray).heap.size=w.heap.size:=by simp
 refine⟨by simp[Act.put,env.size],env.defers,Fr.own env.fr Z aU (.inr trivial) rfl rfl rfl (by rw[O];exact bh _) z,g,⟨⟨Z.ok.ec,λb U W=>Z.ok.new b U (by rw[O]at W;exact W)⟩,Z.om⟩,?_⟩;show aQ _ g a _;refine aQ.db ?_ (λv=>⟨xs.take (k * R.n)++es++xs.drop (k * R.n+R.n),⟨?_, .inr ⟨D,a4,_,by rw[ac,kD],ba,setRow_heap w D cs _ e' (0,0) aB,by rw[kD];exact ar,aw,?_,?_⟩⟩,?_,by rw[kD];exact a_,an⟩)
 .exact kA aq (by rw[O];exact bh _) z
 .simp only[bY,cf,eH,kD,al,I];omega
 .simp only[g5,bY,cf,eH,Array.length_toList,I];omega
 .rw[<-aC,kD];exact Fg cs.toList es (k * R.n) R.n (l.length * R.n) I aN (by rw[Array.length_toList];exact aY)
 .have aG:∀b,g.om b∈te0->g.om b≠t:=λb z ag=>by
   rw[ag]at z;have E:te0.elem t=true:=by simpa using z
   rw[aJ]at E;cases E
  have ao:∀b,g.om b∈te1'->g.om b≠t:=λb z ag=>by
   rw[ag]at z;have E:te1'.elem t=true:=by simpa using z
   rw[aM]at E;cases E
  have Y:(xs.take (k * R.n)).length=k * R.n:=by rw[cf,al];omega
  have az:(k+1) * R.n=k * R.n+R.n:=by rw[h_];omega
  rw[aO];refine⟨?_,?_⟩
  .have e1:(l.set k y).take (k+1)=l.take k++[y]:=by rw[List.set_eq_take_append_cons_drop,if_pos ad,oZ,cf,jN (by omega),fm (by rw[cf];omega),show k+1 - k=1 by omega];rfl
   have e2:(xs.take (k * R.n)++es++xs.drop (k * R.n+R.n)).take ((k+1) * R.n)=xs.take (k * R.n)++es:=by rw[az,iM (by rw[bY,Y,I];exact bh _),fm (by rw[bY,Y,I];exact bh _)]
   rw[e1,e2];refine aR.app _ _ _ _ (aR.aD (by rw[O];exact bh _) (λb V A=>⟨z b V (ao b (fH U _ A)),fH U _ A⟩) _ _ ap.1) ⟨es,[],by simp,R.aD _ _ y es w _ (by rw[O];exact bh _) (λb V A=>⟨z b V (ao b (fH W _ A)),fH W _ A⟩) aA,rfl⟩
  .have e1:(l.set k y).drop (k+1)=l.drop (k+1):=List.drop_set_of_lt (by omega);have e2:(xs.take (k * R.n)++es++xs.drop (k * R.n+R.n)).drop ((k+1) * R.n)=xs.drop (k * R.n+R.n):=by rw[az,List.drop_append_of_le_length (by rw[bY,Y,I];exact bh _),kb (by rw[bY,Y,I];exact bh _),gZ]
   rw[e1,e2];have E:=aR.drop _ _ 1 ap.2;rw[qO,qO,Nat.one_mul]at E;exact aR.aD (by rw[O];exact bh _) (λb V A=>⟨z b V (aG b A),A⟩) _ _ E
end
structure cm(N:Nat)(α:Type)where
 l:List α
instance{N:Nat} {α:Type}:Inhabited (cm N α):=⟨⟨[]⟩⟩
instance{N:Nat} {α:Type} [R:Rp α]:Rp (cm N α)where
 n:=N * R.n
 agg:=true
 na:=λh=>by cases h
 rel:=λF x cs w=>x.l.length=N/\aR F x.l cs w
 len:=λF x cs w h=>by rw[aR.len _ _ h.2,h.1]
 one:=λF x cs w h=>aR.one _ _ h.2
 aD:=λF F' x cs w w' z A h=>⟨h.1,aR.aD z A _ _ h.2⟩
instance{N:Nat} {α:Type} [R:Rp α] [z:Flat α]:Flat (cm N α):=⟨λ_ _ x cs _ _ h=>⟨h.1,aR.flat x.l cs h.2⟩⟩
section
variable{dO:Option Nat}
theorem ah.Y5[R:Rp α]{te:List Nat}{e:TypeId}(O:Ty X.P e (cm N α))(hx:Has G x (.aL t))(U:ay G (rs t)=some (.arr t te N l)):
  ah X G ⟨dO, .load e x,ty,pos,af,gd⟩ (aa.rep te (cm.mk l:cm N α)):=
 bL λa w g A=>by
  have Z:a.eval x=g.ga t:=hx a w g A;obtain⟨b,z,cs,ac,E,I,ad,W⟩:=A _ _ U;have V:eO w ⟨b,0,none⟩ cs.toList:=λj u Y=>by rw[Go.Addr.add_lit,dQ];refine⟨?_,frozen_of_row w b _ cs z E⟩;rw[cell_of_row w b _ cs z (0,0) E,<-Array.getElem?_toList];exact Y
  have D:(inferInstance:Rp (cm N α)).rel (λb=>g.om b∈te) (cm.mk l) cs.toList w:=⟨W,I⟩;refine⟨cL true cs.toList,?_,cs.toList,D,rfl⟩;unfold execOp;simp[Z,ac,lE,fL,n8 O V D];rfl
theorem au.uq[R:Rp α][aH:Flat α]{T te:List Nat}{y:cm N α}{e:TypeId}(aC:bx 10 t=true)(ar:Ty X.P e (cm N α))(aA:Has G p (.aL t))(aw:ay G (rs t)=some (.arr t te N l))(hx:Has G x (aa.rep T y)):
 au X G ⟨none, .store e p x,ty,pos,af,none⟩ [.ae (rs t) (.arr t [] N y.l), .av t]:=λG' am a w env K Q aF=>by
 have ap:10<=t:=by simpa using aC
 obtain⟨g,A,W⟩:=env.facts;have O:=am a w g W;have az:a.eval p=g.ga t:=aA a w g O;obtain⟨z,Y,cs,U,ag,ao,Z,aB⟩:=O _ _ aw;have D:=aR.len l _ ao;rw[aB,Array.length_toList]at D;have V:(inferInstance:Rp (cm N α)).n=N * R.n:=rfl;obtain⟨es,aG,ac,an⟩:=pF (P:=X.P) (o:=0) ar ag (hx a w g O) (by rw[V,D];omega);have ak:(execOp a.eval ⟨none, .store e p x,ty,pos,af,none⟩).run X.P w= .ok .skip (w.setRow z (cs.toList.take 0++es++cs.toList.drop (0+(inferInstance:Rp (cm N α)).n)).toArray):=by unfold execOp;simp only[az,U,o9,fL,cU,gx,eA];rw[an];rfl
 unfold dy;rw[ak];refine aF undef _ ?_;have al:(cs.toList.take 0++es++cs.toList.drop (0+(inferInstance:Rp (cm N α)).n)).toArray=es.toArray:=by rw[V,mi,gZ,dQ,kb (by rw[Array.length_toList,D];exact bh _),jb]
 rw[al];have I:∀b,b<w.heap.size->g.om b≠t->(w.setRow z es.toArray).heap[b]? =w.heap[b]? :=λb I aq=>setRow_other w z b _ (λh=>aq (by rw[h];exact Z));have E:(w.setRow z es.toArray).heap.size=w.heap.size:=by simp
 refine⟨by simp[Act.put,env.size],env.defers,Fr.own env.fr A ap (.inr trivial) rfl rfl rfl (by rw[E];exact bh _) I,g,⟨⟨A.ok.ec,λb aE ad=>A.ok.new b aE (by rw[E]at ad;exact ad)⟩,A.om⟩,?_⟩;show aQ _ g a _;refine aQ.db ?_ (λv=>⟨z,Y,_,U,setRow_heap w z cs _ Y (0,0) ag,?_,Z,ac.1⟩)
 .exact kA W (by rw[E];exact bh _) I
 .simpa using aR.flat y.l es ac.2
def aa.Ox(t N:Nat):aa where
 bj:=[]
 ids:=[t]
 p:=λg v _=>∃b,g.ga t= .pointer (some ⟨b,0,none⟩)/\v= .slice (some ⟨b,0,none⟩) N N
 aD:=λg g' v w w' z h=>by rw[z.ids t (by simp)];exact h
theorem ah.Wv[R:Rp α]{te:List Nat}{ts e:TypeId}{z:α}(A:jh X.P ts e N α z)(hx:Has G x (.aL t))(O:ay G (rs t)=some (.arr t te N l)):ah X G ⟨dO, .slice ts x none none none,ty,pos,af,gd⟩ (aa.Ox t N):=
 bL λa w g D=>by
  have U:a.eval x=g.ga t:=hx a w g D;obtain⟨b,W,cs,E,ac,V,Y,Z⟩:=D _ _ O;have I: ¬(N=0):=by have:=A.yD;simp at this;omega
  refine⟨.slice (some ⟨b,0,none⟩) N N,?_,b,E,rfl⟩;unfold execOp;simp only[U,E,cU,o_];unfold pd;simp[run_underlying A.cE,fL,pe,gD A.el,I,Go.Addr.add_zero']
def ob{α:Type}(l m:List α):List α:=m.take l.length++l.drop (m.length)
theorem se(l m:List α):(ob l m).length=l.length:=by unfold ob;rw[bY,cf,eH];omega
theorem OW[R:Rp α]{F:Nat->Prop}{ad:Option Addr}{c:Nat}(h:cX F l (.slice ad l.length c) w):∀k,k<=l.length->∃es,aR F (l.take k) es w/\∀j u,es[j]? =some u->∃a,ad=some a/\w.cell? (a.add j)=some u:=by
 obtain⟨Z,ae,W,aa,I,E⟩:=jQ h;cases W;cases ad with
 |none=>
  have:=(I rfl).1;subst this;intro k _;exact⟨[],by simp[aR],λj u z=>by simp at z⟩
 |some a=>
  intro k ac;obtain⟨A,O,D⟩:=yd (w:=w) (F:=F) (ad:=a) l 0 (λi y V=>by obtain⟨_,_,es,Y,U⟩:=E a rfl i y V;exact⟨es,by simpa using Y,U⟩)
  have D:eO w a A:=by simpa [Go.Addr.add_zero']using D
  refine⟨A.take (k * R.n),aR.take l A k O,λj u z=>⟨a,rfl,(D j u ?_).1⟩⟩;rw[o8]at z;split at z
  .exact z
  .cases z
theorem au.Tc[R:Rp α][a':Flat α]{T te:List Nat}{m:List α}{ts ts' e:TypeId}(aY:bx 10 t=true)(hd:bt d X.n=true)(ap:gu X.P ts e α)(aU:Has G p (.Ox t N))(aM:ay G (rs t)=some (.arr t te N l))(hx:Has G x (aa.rep T m)):
 au X G ⟨some d, .call {callee:= .builtin .copy,args:= #[p,x],argTypes:= #[ts,ts']},ty,pos,af,none⟩ [.ae d (aa.rep [] ((min m.length N:Nat):Int)), .ae (rs t) (.arr t [] N (ob l m)), .av t]:=λG' aB a w env K Q a4=>by
 have aG:10<=t:=by simpa using aY
 have aE:d<X.n:=by simpa [fu]using hd
 obtain⟨g,I,ao⟩:=env.facts;have Z:=aB a w g ao;obtain⟨z,ak,aN⟩:=aU a w g Z;obtain⟨b,U,cs,am,aw,al,aq,W⟩:=Z _ _ aM;have aH:z=b:=by rw[am]at ak;simpa using ak.symm
 subst aH;have ag:=aR.len l _ al;rw[W,Array.length_toList]at ag;have O:=hx a w g Z;obtain⟨ad,c,ar,_⟩:=jQ O;rw[ar]at O;obtain⟨i,a_,aZ,a8,aA,a7,a6⟩:=ap.info;obtain⟨es,A,ac⟩:=OW O (min m.length N) (Nat.min_le_left _ _);have D:=aR.len _ _ A;have aJ:(m.take (min m.length N)).length=min m.length N:=by rw[cf];omega
 rw[aJ]at D;have aF:(J3 R.n (min m.length N) (.slice ad m.length c)).run X.P w= .ok es.toArray w:=by
  cases ad with
  |none=>
   have:es=[]:=by
    cases es with
    |nil=>rfl
    |cons u es=>
     obtain⟨a,h,_⟩:=ac 0 u rfl;cases h
   subst this;exact run_firstCells_none w _ _ _ _
  |some ad=>exact run_firstCells_some w R.n (min m.length N) ad m.length c es D (λj u aO=>by obtain⟨a,h,E⟩:=ac j u aO;cases h;exact E)
 have a9:(min m.length N) * R.n<=N * R.n:=iJ _ (Nat.min_le_right _ _);have an:=run_storeCells_at X.P z 0 U es 0 cs w aw (by rw[D,ag];omega) (aR.one _ es A);simp only[ja,mi,gZ,dQ]at an;have az:(execOp a.eval ⟨some d, .call {callee:= .builtin .copy,args:= #[p,x],argTypes:= #[ts,ts']},ty,pos,af,none⟩).run X.P w= .ok (.value (.int .i64 ((min m.length N:Nat):Int))) (w.setRow z (es++cs.toList.drop es.length).toArray):=by have aC:Nat.min m.length N=min m.length N:=rfl;unfold execOp;simp[resolve,invoke,builtin,aN,ar,jO,run_underlying ap.cE,Builtin.lenOf,oX,typeInfo,aZ,aA,aC,aF,an,goInt]
 unfold dy;rw[az];refine a4 _ _ ?_;have Y:∀b,b<w.heap.size->g.om b≠t->(w.setRow z (es++cs.toList.drop es.length).toArray).heap[b]? =w.heap[b]? :=λb Y aI=>setRow_other w z b _ (λh=>aI (by rw[h];exact aq));have V:(w.setRow z (es++cs.toList.drop es.length).toArray).heap.size=w.heap.size:=by simp
 refine⟨by simp[Act.put,env.size],env.defers,Fr.own env.fr I aG (.inr trivial) rfl rfl rfl (by rw[V];exact bh _) Y,g,⟨⟨I.ok.ec,λb a0 E=>I.ok.new b a0 (by rw[V]at E;exact E)⟩,I.om⟩,?_⟩;refine aQ.put (by rw[env.size];exact aE) (aQ.db (kA ao (by rw[V];exact bh _) Y) (λv=>⟨z,U,_,am,setRow_heap w z cs _ U (0,0) aw,?_,aq,by rw[se];exact W⟩)) (cD.2 rfl);have a5:aR (λ_=>False) (m.take (min m.length N)) es (w.setRow z (es++cs.toList.drop es.length).toArray):=aR.flat _ _ A;have e1:m.take l.length=m.take (min m.length N):=by rw[W,List.take_eq_take_iff];omega
 unfold ob;rw[e1];have aL:aR (λb=>g.om b∈te) (l.drop (min m.length N)) (cs.toList.drop ((min m.length N) * R.n)) w:=aR.drop l _ _ al;have e2:l.drop m.length=l.drop (min m.length N):=by
  by_cases h:m.length<=N
  .rw[jN h]
  .rw[Nat.min_eq_right (by omega),kb (by omega),kb (by omega)]
 rw[e2,<-D]at *;have:=aR.app _ _ _ _ (aR.flat (F':=λb=>g.om b∈([]:List Nat)) (w':=w.setRow z (es++cs.toList.drop es.length).toArray) _ _ A) (aR.flat (F':=λb=>g.om b∈([]:List Nat)) (w':=w.setRow z (es++cs.toList.drop es.length).toArray) _ _ aL);simpa using this
def oP(m n:Int):Option Int:=if n<0 then none else some (m.fdiv (2^(min n.toNat 64)))
def sg(m n:Int):Option Int:=if n<0 then none else some (wI (m * 2^(min n.toNat 64)))
theorem ah.oP{y:Operand}{t:TypeId}{T:List Nat}{m n r:Int}(z:GL.oP m n=some r)(hx:Has G x (aa.rep T m))(A:Has G y (aa.rep T' n)):ah X G ⟨dO, .binOp .shr t x y t',ty,pos,af,gd⟩ (aa.rep [] r):=by
 unfold GL.oP at z;split at z
 case isTrue=>cases z
 rename_i h;cases z;exact ah.kU hx A (λw=>by simp[binOp,Op.shift,h,qH];try rfl) (λ_ _=>cD.2 rfl)
theorem ah.sg{y:Operand}{t:TypeId}{T:List Nat}{m n r:Int}(z:GL.sg m n=some r)(hx:Has G x (aa.rep T m))(A:Has G y (aa.rep T' n)):ah X G ⟨dO, .binOp .shl t x y t',ty,pos,af,gd⟩ (aa.rep [] r):=by
 unfold GL.sg at z;split at z
 case isTrue=>cases z
 rename_i h;cases z;exact ah.kU hx A (λw=>by simp[binOp,Op.shift,h,qH];try rfl) (λ_ _=>cD.2 rfl)
def Ao(m n:Int):Int:=wI ((lD 64 m|||lD 64 n).toNat)
theorem ah.Ao{y:Operand}{t:TypeId}{T:List Nat}{m n:Int}(hx:Has G x (aa.rep T m))(z:Has G y (aa.rep T' n)):ah X G ⟨dO, .binOp .or t x y t',ty,pos,af,gd⟩ (aa.rep [] (GL.Ao m n)):=
 ah.kU hx z (λw=>by simp[binOp,Op.intBits,qH];try rfl) (λ_ _=>cD.2 rfl)
theorem wy(m:UInt32):lD 32 (m.toNat:Int)=m.toBitVec:=by apply BitVec.eq_of_toNat_eq;simp[BitVec.ofInt_natCast]
theorem Jl(n:Nat)(h:n<4294967296):IntKind.u32.wrap (n:Int)=(n:Int):=by simp[yY,yZ,qH];omega
theorem ah.Jt{y:Operand}{t:TypeId}{T:List Nat}{m n:UInt32}(hx:Has G x (aa.rep T m))(A:Has G y (aa.rep T' n)):ah X G ⟨dO, .binOp .xor t x y t',ty,pos,af,gd⟩ (aa.rep [] (m^^^n)):=
 ah.nM (v:= .int .u32 ((m^^^n).toNat:Int)) hx A (λw=>by
  show(binOp .xor t (.int .u32 (m.toNat:Int)) (.int .u32 (n.toNat:Int))).run X.P w=_;have h:IntKind.u32.wrap (((lD 32 (m.toNat:Int))^^^(lD 32 (n.toNat:Int))).toNat:Int)=((m^^^n).toNat:Int):=by rw[wy,wy,Jl _ (BitVec.isLt _)];rfl
  simp only[binOp,Op.intBits,ne_eq,not_true_eq_false,if_false,gx];exact congrArg (λz=>Result.ok (sH .u32 z) w) h) (λ_ _=>pV.2 rfl)
theorem ah.Pb{y:Operand}{t:TypeId}{T:List Nat}{m n:UInt32}(hx:Has G x (aa.rep T m))(A:Has G y (aa.rep T' n)):ah X G ⟨dO, .binOp .and t x y t',ty,pos,af,gd⟩ (aa.rep [] (m&&&n)):=
 ah.nM (v:= .int .u32 ((m&&&n).toNat:Int)) hx A (λw=>by
  show(binOp .and t (.int .u32 (m.toNat:Int)) (.int .u32 (n.toNat:Int))).run X.P w=_;have h:IntKind.u32.wrap (((lD 32 (m.toNat:Int))&&&(lD 32 (n.toNat:Int))).toNat:Int)=((m&&&n).toNat:Int):=by rw[wy,wy,Jl _ (BitVec.isLt _)];rfl
  simp only[binOp,Op.intBits,ne_eq,not_true_eq_false,if_false,gx];exact congrArg (λz=>Result.ok (sH .u32 z) w) h) (λ_ _=>pV.2 rfl)
theorem ah.QS{t:TypeId}{T:List Nat}{m:UInt32}(hx:Has G x (aa.rep T m)):ah X G ⟨dO, .unOp .xor t x,ty,pos,af,gd⟩ (aa.rep [] (4294967295^^^m)):=
 bL λa w g A=>by
  have D:=pV.1 (hx a w g A);refine⟨.int .u32 ((4294967295^^^m:UInt32).toNat:Int),?_,pV.2 rfl⟩;have h:IntKind.u32.wrap (((lD 32 (4294967295:Int))^^^(lD 32 (m.toNat:Int))).toNat:Int)=((4294967295^^^m:UInt32).toNat:Int):=by rw[wy,Jl _ (BitVec.isLt _)];rfl
  unfold execOp;simp only[D,Op.unary,Op.intBits,cU,gx,eA];exact congrArg (λz=>Result.ok (Next.value (sH .u32 z)) w) h
def nI(m:UInt32)(k:Nat):UInt32:=vk (m.toNat/2^(min k 32))
theorem ah.nI{t:TypeId}{T:List Nat}{m:UInt32}{I:IntKind}(hx:Has G x (aa.rep T m)):ah X G ⟨dO, .binOp .shr t x (.const (.int I (k:Int))) t',ty,pos,af,gd⟩ (aa.rep [] (GL.nI m k)):=
 bL λa w g D=>by
  have E:=pV.1 (hx a w g D);refine⟨.int .u32 ((GL.nI m k).toNat:Int),?_,pV.2 rfl⟩;have A:m.toNat/2^(min k 32)<4294967296:=Nat.lt_of_le_of_lt (Nat.div_le_self _ _) m.toNat_lt;have h:((m.toNat:Int)).fdiv (2^(min k 32))=((GL.nI m k).toNat:Int):=by
   unfold GL.nI;rw[UInt32.toNat_ofNat_of_lt' A,Int.fdiv_eq_ediv_of_nonneg _ (Int.pow_nonneg (by omega))]
   norm_cast
  unfold execOp;simp only[E,eval_const,eqGuard_at_int,binOp,Op.shift,cU,gx,eA,Q5];rw[if_neg (by omega)];simp only[gx,eA];exact congrArg (λz=>Result.ok (Next.value (sH .u32 z)) w) h
theorem ah.Jq[R:Rp α][B:Rp β][S:Sc β]{i:Operand}{T te:List Nat}{n:β}{ts e:TypeId}{z:α}(Y:b_ N (S.val n)=some k)(A:jh X.P ts e N α z)(hx:Has G x (.aL t))(I:ay G (rs t)=some (.arr t te N l))(U:Has G i (aa.rep T n)):ah X G ⟨dO, .indexAddr ts x i,ty,pos,af,gd⟩ (aa.cJ t (k * R.n)):=by
 obtain⟨W,Z,rfl⟩:=pH Y;refine bL λa w g D=>?_;have V:a.eval x=g.ga t:=hx a w g D;obtain⟨b,ad,cs,E,_⟩:=D _ _ I;have O:=(S.rel _ _ _ _).1 (U a w g D);refine⟨.pointer (some ⟨b,(S.val n).toNat * R.n,none⟩),?_,b,by rw[E];rfl,rfl⟩;have ac: ¬(N<=1):=by have:=A.yD;simp at this;omega
 unfold execOp;simp only[V,O,E,cU,kc];unfold vh;simp[asIntOf,run_underlying A.cE,fL,W,Z,gD A.el,Go.Addr.add_lit]
end
def GZ(P:Program)(k:FuncId)(γ:Type)[Rp γ](F:Int->Int->Int->γ):Prop:=∀(z:Nat) (n s a:Int) (ty:TypeId) (w:World),w.heap[z]? =some (.cells #[.int .i64 a] ty (0,0))->
 Calls P k #[.int .i64 n, .int .i64 s, .pointer (some ⟨z,0,none⟩)] w λo w'=>∃A,o= .returned A/\(∀H w,cX H (F n s a) A w)/\w'.heap[z]? =some (.cells #[.int .i64 (wI (a+s))] ty (0,0))/\w.grownBy w' (some z)
section
theorem au.mN[R:Rp γ]{F:Int->Int->Int->γ}{op:Op}{k:FuncId}{T2 Ta:List Nat}{m n z:Int}(a0:bx 10 t=true)(hd:bt d X.n=true)(aZ:GZ X.P k γ F)(I:fe X G ⟨some d,op,ty,pos,af,none⟩ k [aa.rep T1 m,aa.rep T2 n, .aL t])(ho:ay G (rs t)=some (.obj t [(false,1)]))(aU:dJ G (t+1) (aa.rep Ta z)):
 au X G ⟨some d,op,ty,pos,af,none⟩ [.ae d (aa.rep [] (F m n z)), .ae (rs (t+1)) (.at (t+1) (aa.rep [] (wI (z+n)))), .ae (rs t) (.obj t [(false,1)]), .av t, .bp (t+1)]:=λG' aB a w env K Q a'=>by
 have ag:10<=t:=by simpa using a0
 have aR:d<X.n:=by simpa [fu]using hd
 obtain⟨g,an,ak⟩:=env.facts;have V:=aB a w g ak;obtain⟨bb,ac,az⟩:=I a w g V;obtain⟨E,al,cs,ad,ao,am,aC⟩:=V _ _ ho;have aJ:=cD.1 (aU a w g V);obtain⟨bd,bg,rfl,p1,a5⟩:=az;obtain⟨bc,be,rfl,p2,a9⟩:=a5;obtain⟨a8,a4,rfl,p3,a_⟩:=a9;have aI:a4=[]:=a_;subst aI;have e1:=cD.1 p1;have e2:=cD.1 p2;have e3:a8=g.ga t:=p3;subst e1 e2 e3;obtain⟨c1,a7,aE,aO,ba,_,aG,aF⟩:=aC;have aq:a7=[]:=aF;subst aq;obtain⟨c,rfl⟩:=vn.1 aO;have aN:c= .int .i64 z:=by have:g.ga (t+1)=c:=aG;rw[<-this];exact aJ
 have aw:cs= #[.int .i64 z]:=by apply Array.toList_inj.1;rw[aE,aN];rfl
 subst aw;have ap:=aZ E m n z al w ao;rw[ad]at ac;unfold dy;rw[ac];refine kZ ap ?_;rintro o w' ⟨aY,rfl,ar,aA,A⟩;refine a' aY w' ?_;have D:∀b,b<w.heap.size->g.om b≠t->w'.heap[b]? =w.heap[b]? :=λb D aM=>A.block b D (λa6=>aM (by rw[Option.some.inj a6];exact am));have aH:E<w.heap.size:=(Array.getElem?_eq_some_iff.1 ao).1
 let g2:Gh:=⟨(cM g w.heap.size t).om,λs=>if s=t+1 then .int .i64 (wI (z+n))else g.ga s⟩
 have W:∀b,b<w.heap.size->g2.om b=g.om b:=λb D=>by simp[g2,cM,D]
 have Y:g2.ga (t+1)= .int .i64 (wI (z+n)):=if_pos rfl;have Z:∀s,s≠t+1->g2.ga s=g.ga s:=λs U=>if_neg U;have O:=an.cM (w':=w') ag A.size env.fr.size;refine⟨by simp[Act.put,env.size],env.defers,Fr.own env.fr an ag (.inr trivial) A.os A.tape A.output A.size D,g2,⟨⟨O.ok.ec,O.ok.new⟩,O.om⟩,?_⟩;refine aQ.put (by rw[env.size];exact aR) ?_ (ar _ _);refine aQ.db ?_ (λv=>?_)
 .refine aQ.db ?_ (λv=>⟨E,al,_,by rw[Z t (by omega)];exact ad,aA,by rw[W E aH];exact am,?_⟩)
  .exact sD [t+1] ak A.size D W (λs U=>Z s (by simpa using U))
  .exact⟨[.int .i64 (wI (z+n))],[],rfl,rfl,λc I=>by simp only[dz]at I;rw[I];rfl,λ_=>rfl,Y,rfl⟩
 .show(aa.rep [] (wI (z+n))).p g2 (g2.ga (t+1)) _;rw[Y];exact cD.2 rfl
end
theorem bW.arr{p:Nat}{e:TypeId}[R:Rp α]{te:List Nat}(O:Ty P e (cm N α))(hx:Has G (.tmp p) (.aL t))(ho:ay G (rs t)=some (.arr t te N l)):
  bW P G (.cell p e) (aa.rep te (cm.mk l:cm N α)):=λa w g A=>by
 have Y:a.tmps.getD p undef=g.ga t:=hx a w g A;obtain⟨b,z,cs,Z,E,I,ac,V⟩:=A _ _ ho;have U:eO w ⟨b,0,none⟩ cs.toList:=λj u W=>by rw[Go.Addr.add_lit,dQ];refine⟨?_,frozen_of_row w b _ cs z E⟩;rw[cell_of_row w b _ cs z (0,0) E,<-Array.getElem?_toList];exact W
 have D:(inferInstance:Rp (cm N α)).rel (λb=>g.om b∈te) (cm.mk l) cs.toList w:=⟨V,I⟩;refine⟨cL true cs.toList,?_,cs.toList,D,rfl⟩;unfold yw;simp only[Y,Z,asAddr,cU,gx,eA];exact n8 O U D
def ew{α:Type}[R:Rp α]:Ls->List α->Prop
 |[],[]=>True
 |l::ls,x::xs=>l.1=false/\l.2.1=1/\(∃T,l.2.2=aa.rep T x)/\ew ls xs
 |_,_=>False
theorem ew.nil[R:Rp α]:ew [] ([]:List α):=trivial
theorem ew.cons[R:Rp α]{T:List Nat}{x:α}{xs:List α}(k:ew ls xs):ew ((false,1,aa.rep T x)::ls) (x::xs):=⟨rfl,rfl,⟨T,rfl⟩,k⟩
theorem ew.rel{α:Type}[R:Rp α][ag:Flat α](I:R.agg=false)(E:R.n=1){g:Gh}{w:World}{F:Nat->Prop}:∀(ls:Ls) (xs:List α) (cs:List Value),ew ls xs->bk g w ls cs->aR F xs cs w
 |[],[],cs,_,h=>h
 |[],_::_,_,h,_=>h.elim
 |_::_,[],_,h,_=>h.elim
 |l::ls,x::xs,cs,⟨ad,Z,⟨T,aa⟩,ae⟩,⟨c1,V,W,D,_,_,O,ac⟩=>by rw[Z]at D;obtain⟨c,rfl⟩:=vn.1 D;rw[aa,ad]at O;obtain⟨es,z,U⟩:=O;have A:=R.len _ _ _ _ z;rw[E]at A;obtain⟨d,rfl⟩:=vn.1 A;rw[I]at U;have Y:c=d:=U;subst Y;exact⟨[c],V,W,Flat.flat _ _ _ _ _ _ z,ew.rel I E ls xs V ae ac⟩
theorem Cv.Le[R:Rp α][U:Flat α]{xs:List α}(D:R.agg=false)(z:R.n=1)(h:ew ls xs)(E:xs.length=N):Cv G (.aK ls) (aa.rep [] (cm.mk xs:cm N α)):=λa w g v _ I=>by obtain⟨cs,A,O⟩:=I;exact⟨cs,⟨E,ew.rel D z ls xs cs h O⟩,A⟩
abbrev cW:=Int×List Int×List (List UInt8)
def pL(F Fe:Nat->Prop)(lab:Nat->Int×Nat)(e1 e2:TypeId)(m:MapEntry)(d:cW)(w:World):Prop:=
 m.key= .int .i64 d.1/\∃p ty z A,m.val= .pointer (some ⟨p,0,none⟩)/\w.heap[p]? =some (.cells #[.int .i64 d.1,z,A, .slice none 0 0] ty (0,0))/\F p/\lab p=(d.1,0)/\
  fx (λb=>F b/\lab b=(d.1,1)) (λ_=>False) e1 d.2.1 z w/\fx (λb=>F b/\lab b=(d.1,2)) Fe e2 d.2.2 A w
def gW(F Fe:Nat->Prop)(lab:Nat->Int×Nat)(e1 e2:TypeId)(w:World):List MapEntry->List cW->Prop
 |[],[]=>True
 |m::es,d::L=>pL F Fe lab e1 e2 m d w/\gW F Fe lab e1 e2 w es L
 |_,_=>False
theorem pL.aD{F Fe':Nat->Prop}{I:Nat->Int×Nat}{m:MapEntry}{d:cW}(O:w.heap.size<=w'.heap.size)(A:∀b,b<w.heap.size->F b->(lab b).1=d.1->(lab b).2<=2->w'.heap[b]? =w.heap[b]? /\F' b/\I b=lab b)(V:∀b,b<w.heap.size->Fe b->w'.heap[b]? =w.heap[b]? /\Fe' b)(h:pL F Fe lab e1 e2 m d w):pL F' Fe' I e1 e2 m d w':=by
 obtain⟨al,p,ty,Z,aa,ad,U,am,E,ak,ae⟩:=h;have W:p<w.heap.size:=(Array.getElem?_eq_some_iff.1 U).1;obtain⟨Y,ag,ac⟩:=A p W am (by rw[E]) (by rw[E];exact jM _);refine⟨al,p,ty,Z,aa,ad,by rw[Y];exact U,ag,by rw[ac];exact E,ak.aD O (λb D z=>?_) (λ_ _ h=>h.elim),ae.aD O (λb D z=>?_) V⟩
 .obtain⟨q1,q2,q3⟩:=A b D z.1 (by rw[z.2]) (by rw[z.2];exact Nat.le_succ _);exact⟨q1,q2,by rw[q3];exact z.2⟩
 .obtain⟨q1,q2,q3⟩:=A b D z.1 (by rw[z.2]) (by rw[z.2];exact bh _);exact⟨q1,q2,by rw[q3];exact z.2⟩
theorem gW.aD{F Fe F' Fe':Nat->Prop}{lab lab':Nat->Int×Nat}{e1 e2:TypeId}{w w':World}(A:w.heap.size<=w'.heap.size):
  ∀(es:List MapEntry) (L:List cW),(∀d∈L,∀b,b<w.heap.size->F b->(lab b).1=d.1->(lab b).2<=2->w'.heap[b]? =w.heap[b]? /\F' b/\lab' b=lab b)->(∀b,b<w.heap.size->Fe b->w'.heap[b]? =w.heap[b]? /\Fe' b)->
  gW F Fe lab e1 e2 w es L->gW F' Fe' lab' e1 e2 w' es L
 |[],[],_,_,_=>trivial
 |m::es,d::L,D,z,h=>⟨h.1.aD A (D d (ml ..)) z,gW.aD A es L (λd hd=>D d (fM _ hd)) z h.2⟩
 |[],_::_,_,_,h=>h.elim
 |_::_,[],_,_,h=>h.elim
def gy(s:Int)(m:MapEntry):Bool:=match m.key with
 | .int .i64 a=>a==s
 |_=>false
def ez(L:List cW)(s:Int):Bool:=L.any λd=>d.1==s
def jz(L:List cW)(s:Int):cW:=(L.find? λd=>d.1==s).getD (s,[],[])
def ly(L:List cW)(s:Int):List cW:=L.filter λd=> !(d.1==s)
def pD(L:List cW)(s:Int)(d:cW):List cW:=L.map λx=>bif x.1==s then d else x
theorem AZ{F:Nat->Prop}{m:MapEntry}{d:cW}(h:pL F Fe lab e1 e2 m d w)(s:Int):gy s m=(d.1==s):=by unfold gy;rw[h.1]
def lu(s:Int)(es:List MapEntry):Value:=((es.find? (gy s)).map (·.val)).getD (.pointer none)
theorem Bt{F Fe:Nat->Prop}{lab:Nat->Int×Nat}{e1 e2:TypeId}{w:World}(s:Int):∀(es:List MapEntry) (L:List cW) (i:Nat),gW F Fe lab e1 e2 w es L->
  EC (.int .i64) (.int .i64 s) es i=some ((es.findIdx? (gy s)).bind λj=>(es[j]?).map λe=>(i+j,e.val))
 |[],[],_,_=>rfl
 |m::es,d::L,i,h=>by
  have A:=h.1.1;unfold EC;rw[A];simp only[Instr.sameNow,if_true];rw[sN,AZ h.1 s];have z:(s==d.1)=(d.1==s):=by rw[nU];simp;exact eq_comm
  rw[z];cases D:(d.1==s)with
  |true=>simp
  |false=>
   simp only[kY,if_false];rw[Bt s es L (i+1) h.2];cases es.findIdx? (gy s)with
   |none=>rfl
   |some j=>
    simp only[bo,jd];rw[Q6];congr 1;cases es[j]? with
    |none=>rfl
    |some e=>simp;omega
 |[],_::_,_,h=>h.elim
 |_::_,[],_,h=>h.elim
theorem Jg{α:Type}(p:α->Bool):∀(l:List α),(l.findIdx? p).bind (λj=>l[j]?)=l.find? p
 |[]=>rfl
 |x::l=>by
  rw[sN,qQ];cases h:p x with
  |true=>simp
  |false=>
   simp only[kY,if_false];rw[<-Jg p l];cases l.findIdx? p<;>rfl
theorem gW.find{F Fe:Nat->Prop}{lab:Nat->Int×Nat}{e1 e2:TypeId}{w:World}(s:Int):∀(es:List MapEntry) (L:List cW),gW F Fe lab e1 e2 w es L->
  (ez L s=false/\es.find? (gy s)=none/\es.findIdx? (gy s)=none)\/(ez L s=true/\(jz L s).1=s/\∃m,es.find? (gy s)=some m/\pL F Fe lab e1 e2 m (jz L s) w)
 |[],[],_=> .inl ⟨rfl,rfl,rfl⟩
 |m::es,d::L,h=>by
  have E:=AZ h.1 s;unfold ez jz;rw[J4,qQ,qQ,sN,E];cases I:(d.1==s)with
  |true=>exact .inr ⟨rfl,by simpa using I,m,rfl,h.1⟩
  |false=>
   rcases gW.find s es L h.2 with⟨z,A,D⟩|z
   .exact .inl ⟨z,A,by rw[D];rfl⟩
   .exact .inr z
 |[],_::_,h=>h.elim
 |_::_,[],h=>h.elim
def wE(F Fe:Nat->Prop)(e1 e2:TypeId)(L:List cW)(v:Value)(w:World):Prop:=
 ∃m es c lab,v= .map (some m)/\w.heap[m]? =some (.map es c)/\F m/\(lab m).2=3/\gW F Fe lab e1 e2 w es.toList L/\(L.map (·.1)).Nodup/\∀e∈es.toList,e.born<c
theorem wE.aD{F Fe':Nat->Prop}{L:List cW}(ac:w.heap.size<=w'.heap.size)(z:∀b,b<w.heap.size->F b->w'.heap[b]? =w.heap[b]? /\F' b)(U:∀b,b<w.heap.size->Fe b->w'.heap[b]? =w.heap[b]? /\Fe' b)(h:wE F Fe e1 e2 L v w):wE F' Fe' e1 e2 L v w':=by obtain⟨m,es,c,lab,Z,D,E,aa,W,V,Y⟩:=h;have A:m<w.heap.size:=(Array.getElem?_eq_some_iff.1 D).1;exact⟨m,es,c,lab,Z,by rw[(z m A E).1];exact D,(z m A E).2,aa,W.aD ac _ _ (λd _ b O I _ _=>⟨(z b O I).1,(z b O I).2,rfl⟩) U,V,Y⟩
def aa.gJ(q:Nat)(te:List Nat)(e1 e2:TypeId)(L:List cW):aa where
 bj:=q::te
 ids:=[q]
 p:=λg _ w=>wE (λb=>g.om b=q) (λb=>g.om b∈te) e1 e2 L (g.ga q) w
 aD:=λg g' v w w' A h=>by
  rw[A.ids q (by simp)];exact h.aD A.size (λb I z=>by
   obtain⟨D,E⟩:=A.block b I (by rw[z];simp);exact⟨D,by rw[E];exact z⟩) (λb I z=>by
   obtain⟨D,E⟩:=A.block b I (fM _ z);exact⟨D,by rw[E];exact z⟩)
def aa.p9(q:Nat)(s:Int):aa where
 bj:=[q]
 ids:=[q]
 p:=λg v w=>∃m es c,g.ga q= .map (some m)/\w.heap[m]? =some (.map es c)/\g.om m=q/\v=lu s es.toList
 aD:=λg g' v w w' D h=>by obtain⟨m,es,c,O,z,A,U⟩:=h;have E:m<w.heap.size:=(Array.getElem?_eq_some_iff.1 z).1;obtain⟨I,V⟩:=D.block m E (by rw[A];simp);exact⟨m,es,c,by rw[D.ids q (by simp)];exact O,by rw[I];exact z,by rw[V];exact A,U⟩
theorem Has.GD{te:List Nat}{L:List cW}(h:Has G x (.gJ q te e1 e2 L))(A:ep te te'=true):Has G x (.gJ q te' e1 e2 L):=λa w g z=>
 wE.aD (bh _) (λ_ _ h=>⟨rfl,h⟩) (λ_ _ h=>⟨rfl,fH A _ h⟩) (h a w g z)
theorem Bg{te:List Nat}{L:List cW}{s:Int}{u:Value}(h:(aa.p9 q s).p g v w)(k:(aa.gJ q te e1 e2 L).p g u w):
  (ez L s=false/\v= .pointer none)\/(ez L s=true/\∃p ty z A,v= .pointer (some ⟨p,0,none⟩)/\w.heap[p]? =some (.cells #[.int .i64 s,z,A, .slice none 0 0] ty (0,0))/\g.om p=q/\
   fx (λb=>g.om b=q) (λ_=>False) e1 (jz L s).2.1 z w/\fx (λb=>g.om b=q) (λb=>g.om b∈te) e2 (jz L s).2.2 A w):=by
 obtain⟨m,es,c,Z,U,an,rfl⟩:=h;obtain⟨ak,ad,aq,lab,D,I,ae,ag,V,am,al⟩:=k;rw[Z]at D;cases D;rw[U]at I;cases I;unfold lu;rcases V.find s with⟨q1,q2,_⟩|⟨q1,q3,ap,q2,_,p,ty,z,A,Y,E,O,ao,W,ac⟩
 .rw[q2];exact .inl ⟨q1,rfl⟩
 .rw[q2];rw[q3]at E;exact .inr ⟨q1,p,ty,z,A,Y,E,O,W.aD (bh _) (λb _ h=>⟨rfl,h.1⟩) (λ_ _ h=>h.elim),ac.aD (bh _) (λb _ h=>⟨rfl,h.1⟩) (λ_ _ h=>⟨rfl,h⟩)⟩
structure pq(P:Program)(t kt et:TypeId):Prop where
 cE:P.underlying t=some (.map kt et)
 key:P.underlying kt=some (.int .i64)
 zero:∃i,P.info? et=some i/\i.zero=some (.pointer none)
section
variable{dO:Option Nat}
theorem WI{t:TypeId}(z:pq P t kt et){m c:Nat}{es:Array MapEntry}(U:w.heap[m]? =some (.map es c)){F:Nat->Prop}{L:List cW}(h:gW F Fe lab e1 e2 w es.toList L)(s:Int):
  (J5 t (.map (some m)) (.int .i64 s) false).run P w= .ok (lu s es.toList) w:=by
 obtain⟨i,I,V⟩:=z.zero;have D:∀b,(sP b 10000 kt (.int .i64 s)).run P w= .ok () w:=λb=>y_ z.key (by simp[vo]) b 9999;have E:(pf kt (.int .i64 s) es.toList).run P w= .ok ((es.toList.findIdx? (gy s)).bind λj=>(es.toList[j]?).map λe=>(0+j,e.val)) w:=by unfold pf;simp only[cU,run_underlying z.key,eA];rw[Bt s es.toList L 0 h];rfl
 have O:=Jg (gy s) es.toList;have A:(zeroValue et).run P w= .ok (.pointer none) w:=by simp[zeroValue,typeInfo,I,V]
 unfold J5;simp only[cU,run_underlying z.cE,eA,nc U,gx,D,E];unfold lu;rw[<-O];cases es.toList.findIdx? (gy s)with
 |none=>simp[A]
 |some j=>
  simp only[bo];cases es.toList[j]? with
  |none=>simp[A]
  |some e=>simp
theorem ah.Jj{k:Operand}{t:TypeId}{te:List Nat}{L:List cW}{s:Int}{T:List Nat}(Y:pq X.P t kt et)(hx:Has G x (.aL q))(V:ay G (rs q)=some (.gJ q te e1 e2 L))(U:Has G k (aa.rep T s)):
  ah X G ⟨dO, .lookup t x k false,ty,pos,af,gd⟩ (.p9 q s):=
 bL λa w g z=>by have O:a.eval x=g.ga q:=hx a w g z;have W:=cD.1 (U a w g z);obtain⟨m,es,c,lab,A,D,I,Z,E,ac,ad⟩:=z _ _ V;refine⟨lu s es.toList,?_,m,es,c,A,D,I,rfl⟩;have:=WI (P:=X.P) Y D E s;unfold execOp;simp[O,A,W,this]
theorem Xz(w:World)(n:Nat){t e:TypeId}(h:P.underlying t=some (.pointer e))(a:Option Addr):(nX (n+1) t (.pointer a) (.pointer none)).run P w= .ok a.isNone w:=by cases a<;>simp[nX,run_underlying h]
theorem uc(w:World){t e:TypeId}(h:P.underlying t=some (.pointer e))(a:Option Addr):(Op.equal t (.pointer a) (.pointer none)).run P w= .ok a.isNone w:=Xz w 9999 h a
theorem ah.Sj{t e:TypeId}{te:List Nat}{L:List cW}{s:Int}(I:X.P.underlying t=some (.pointer e))(hx:Has G x (.p9 q s))(O:ay G (rs q)=some (.gJ q te e1 e2 L)):
  ah X G ⟨dO, .binOp .eql t x (.const (.pointer none)) t',ty,pos,af,gd⟩ (aa.rep [] (!ez L s)):=
 bL λa w g E=>by
  refine⟨.bool (!ez L s),?_,dw.2 rfl⟩;rcases Bg (hx a w g E) (E _ _ O)with⟨D,z⟩|⟨D,p,_,_,_,z,_⟩
  .have A:eqGuard .eql t x (.const (.pointer none)) (.pointer none) (.pointer none)=vg ():=rfl;unfold execOp;simp[z,eval_const,A,binOp,uc w I,D]
  .have A:eqGuard .eql t x (.const (.pointer none)) (.pointer (some ⟨p,0,none⟩)) (.pointer none)=vg ():=rfl;unfold execOp;simp[z,eval_const,A,binOp,uc w I,D]
theorem ah.X_{t e:TypeId}{te:List Nat}{L:List cW}{s:Int}(I:X.P.underlying t=some (.pointer e))(hx:Has G x (.p9 q s))(O:ay G (rs q)=some (.gJ q te e1 e2 L)):
  ah X G ⟨dO, .binOp .neq t x (.const (.pointer none)) t',ty,pos,af,gd⟩ (aa.rep [] (ez L s)):=
 bL λa w g E=>by
  refine⟨.bool (ez L s),?_,dw.2 rfl⟩;rcases Bg (hx a w g E) (E _ _ O)with⟨D,z⟩|⟨D,p,_,_,_,z,_⟩
  .have A:eqGuard .neq t x (.const (.pointer none)) (.pointer none) (.pointer none)=vg ():=rfl;unfold execOp;simp[z,eval_const,A,binOp,uc w I,D]
  .have A:eqGuard .neq t x (.const (.pointer none)) (.pointer (some ⟨p,0,none⟩)) (.pointer none)=vg ():=rfl;unfold execOp;simp[z,eval_const,A,binOp,uc w I,D]
end
variable {L:List cW}
def pE(L:List cW)(s:Int):Option (List cW):=if ez L s=true then none else some (L++[(s,[],[])])
def rO(L:List cW)(s:Int):Option cW:=if ez L s=true then some (jz L s)else none
theorem NG{s:Int}(h:ez L s=false):ly L s=L:=by unfold ly;rw[qR];intro d hd;unfold ez at h;have:=ED.1 h d hd;simpa using this
theorem gW.erase{F Fe:Nat->Prop}{lab:Nat->Int×Nat}{e1 e2:TypeId}{w:World}(s:Int):∀(es:List MapEntry) (L:List cW) (j:Nat),gW F Fe lab e1 e2 w es L->(L.map (·.1)).Nodup->es.findIdx? (gy s)=some j->
  gW F Fe lab e1 e2 w (es.eraseIdx j) (ly L s)/\j<es.length
 |[],_,j,_,_,z=>by cases z
 |m::es,[],_,h,_,_=>h.elim
 |m::es,d::L,j,h,D,z=>by
  rw[sN,AZ h.1 s]at z;rw[fh,qJ]at D;cases A:(d.1==s)with
  |true=>
   rw[A]at z;simp only[if_true,Option.some.injEq]at z;subst z;have hd:d.1=s:=by simpa using A
   have V:ez L s=false:=by
    unfold ez;rw[ED];intro x hx Y;have I:x.1=s:=by simpa using Y
    exact D.1 (gm.2 ⟨x,hx,by rw[I,hd]⟩)
   have:ly (d::L) s=L:=by show List.filter _ (d::L)=L;rw[jP,A];exact NG V
   rw[this];exact⟨h.2,by simp⟩
  |false=>
   rw[A]at z;simp only[kY,if_false,iK]at z;obtain⟨U,E,rfl⟩:=z;obtain⟨W,O⟩:=gW.erase s es L U h.2 D.2 E;have:ly (d::L) s=d::ly L s:=by show List.filter _ (d::L)=_;rw[jP,A];rfl
   rw[this,List.eraseIdx_cons_succ];exact⟨⟨h.1,W⟩,by simpa using O⟩
theorem S4{s:Int}(h:(L.map (·.1)).Nodup):((ly L s).map (·.1)).Nodup:=by unfold ly;exact(List.Sublist.map _ List.filter_sublist).nodup h
def jB(F Fe:Nat->Prop)(lab:Nat->Int×Nat)(e1 e2:TypeId)(w:World)(s:Int)(pv:Value):List MapEntry->List cW->Prop
 |[],[]=>True
 |m::es,d::L=>(d.1≠s->pL F Fe lab e1 e2 m d w)/\(d.1=s->m.key= .int .i64 s/\m.val=pv)/\jB F Fe lab e1 e2 w s pv es L
 |_,_=>False
theorem jB.aD{F Fe F' Fe':Nat->Prop}{lab lab':Nat->Int×Nat}{e1 e2:TypeId}{w w':World}{s:Int}{pv:Value}(A:w.heap.size<=w'.heap.size):
  ∀(es:List MapEntry) (L:List cW),(∀d∈L,d.1≠s->∀b,b<w.heap.size->F b->(lab b).1=d.1->(lab b).2<=2->w'.heap[b]? =w.heap[b]? /\F' b/\lab' b=lab b)->(∀b,b<w.heap.size->Fe b->w'.heap[b]? =w.heap[b]? /\Fe' b)->
  jB F Fe lab e1 e2 w s pv es L->jB F' Fe' lab' e1 e2 w' s pv es L
 |[],[],_,_,_=>trivial
 |m::es,d::L,D,z,h=>⟨λhd=>(h.1 hd).aD A (D d (ml ..) hd) z,h.2.1,jB.aD A es L (λd hd=>D d (fM _ hd)) z h.2.2⟩
 |[],_::_,_,_,h=>h.elim
 |_::_,[],_,_,h=>h.elim
theorem gW.Ij{F Fe:Nat->Prop}{lab:Nat->Int×Nat}{e1 e2:TypeId}{w:World}{s:Int}{pv:Value}:∀(es:List MapEntry) (L:List cW),gW F Fe lab e1 e2 w es L->(L.map (·.1)).Nodup->(ez L s=true->lu s es=pv)->jB F Fe lab e1 e2 w s pv es L
 |[],[],_,_,_=>trivial
 |m::es,d::L,h,E,I=>by
  rw[fh,qJ]at E;have O:=AZ h.1 s;refine⟨λ_=>h.1,λhd=>?_,?_⟩
  .have A:(d.1==s)=true:=by simpa using hd
   have z:lu s (m::es)=pv:=I (by unfold ez;rw[J4,A];rfl);unfold lu at z;rw[qQ,O,A]at z;exact⟨by rw[h.1.1,hd],z⟩
  .refine gW.Ij es L h.2 E.2 (λD=>?_);have A:(d.1==s)=false:=by
    cases A:(d.1==s)with
    |false=>rfl
    |true=>
     unfold ez at D;obtain⟨x,hx,V⟩:=List.any_eq_true.1 D;exact absurd (gm.2 ⟨x,hx,by(have z:x.1=s:=by simpa using V);(have U:d.1=s:=by simpa using A);rw[z,U]⟩) E.1
   have z:lu s (m::es)=pv:=I (by unfold ez at D|-;rw[J4,A,D];rfl);unfold lu at z|-;rw[qQ,O,A]at z;exact z
 |[],_::_,h,_,_=>h.elim
 |_::_,[],h,_,_=>h.elim
theorem jB.back{F Fe:Nat->Prop}{lab:Nat->Int×Nat}{e1 e2:TypeId}{w:World}{s:Int}{pv:Value}{dn:cW}(D:dn.1=s)(z:∀m:MapEntry,m.key= .int .i64 s->m.val=pv->pL F Fe lab e1 e2 m dn w):
  ∀(es:List MapEntry) (L:List cW),jB F Fe lab e1 e2 w s pv es L->gW F Fe lab e1 e2 w es (pD L s dn)
 |[],[],_=>trivial
 |m::es,d::L,h=>by
  show gW F Fe lab e1 e2 w (m::es) ((bif d.1==s then dn else d)::pD L s dn);refine⟨?_,jB.back D z es L h.2.2⟩;cases A:(d.1==s)with
  |true=>obtain⟨E,I⟩:=h.2.1 (by simpa using A);exact z m E I
  |false=>exact h.1 (by simpa using A)
 |[],_::_,h=>h.elim
 |_::_,[],h=>h.elim
theorem Rs{s:Int}{dn:cW}(h:dn.1=s):(pD L s dn).map (·.1)=L.map (·.1):=by
 unfold pD;rw[vi];refine vj (λd _=>?_);show(bif d.1==s then dn else d).1=d.1;cases z:(d.1==s)with
 |true=>rw[cond_true,h];exact(by simpa using z:d.1=s).symm
 |false=>rfl
def WT(F Fe:Nat->Prop)(e1 e2:TypeId)(L:List cW)(s:Int)(pv v:Value)(w:World):Prop:=
 ∃m es c lab,v= .map (some m)/\w.heap[m]? =some (.map es c)/\F m/\(lab m).2=3/\jB F Fe lab e1 e2 w s pv es.toList L/\(L.map (·.1)).Nodup/\∀e∈es.toList,e.born<c
def aa.sa(q:Nat)(te:List Nat)(e1 e2:TypeId)(L:List cW)(s:Int)(u:Nat):aa where
 bj:=q::te
 ids:=[q,u]
 p:=λg _ w=>WT (λb=>g.om b=q) (λb=>g.om b∈te) e1 e2 L s (g.ga u) (g.ga q) w
 aD:=λg g' v w w' z h=>by
  rw[z.ids q (by simp),z.ids u (by simp)];obtain⟨m,es,c,lab,ac,O,U,ad,Y,W,Z⟩:=h;have V:m<w.heap.size:=(Array.getElem?_eq_some_iff.1 O).1;obtain⟨A,E⟩:=z.block m V (by rw[U];simp);exact⟨m,es,c,lab,ac,by rw[A];exact O,by show g'.om m=q;rw[E];exact U,ad,Y.aD z.size _ _ (λd _ _ b I D _ _=>by
   obtain⟨A,E⟩:=z.block b I (by rw[D];simp);exact⟨A,by show g'.om b=q;rw[E];exact D,rfl⟩) (λb I D=>by
   obtain⟨A,E⟩:=z.block b I (fM _ D);exact⟨A,by rw[E];exact D⟩),W,Z⟩
def aa.Pe(q:Nat)(te:List Nat)(e1 e2:TypeId)(L:List cW)(s:Int):aa where
 bj:=q::te
 ids:=[q]
 p:=λg _ w=>∃(m:Nat) (es:Array MapEntry) (c:Nat) (lab:Nat->Int×Nat),g.ga q= .map (some m)/\w.heap[m]? =some (.map (es.push ⟨.int .i64 s, .pointer none,c⟩) (c+1))/\g.om m=q/\(lab m).2=3/\gW (λb=>g.om b=q) (λb=>g.om b∈te) lab e1 e2 w es.toList L/\(L.map (·.1)).Nodup/\(∀e∈es.toList,e.born<c)/\ez L s=false
 aD:=λg g' v w w' A h=>by
  rw[A.ids q (by simp)];obtain⟨m,es,c,lab,ac,O,U,ad,Y,W,Z⟩:=h;have V:m<w.heap.size:=(Array.getElem?_eq_some_iff.1 O).1;obtain⟨z,E⟩:=A.block m V (by rw[U];simp);exact⟨m,es,c,lab,ac,by rw[z];exact O,by rw[E];exact U,ad,Y.aD A.size _ _ (λd _ b I D _ _=>by
   obtain⟨z,E⟩:=A.block b I (by rw[D];simp);exact⟨z,by show g'.om b=q;rw[E];exact D,rfl⟩) (λb I D=>by
   obtain⟨z,E⟩:=A.block b I (fM _ D);exact⟨z,by rw[E];exact D⟩),W,Z⟩
def aa.qy(q:Nat):aa where
 bj:=[q]
 ids:=[q]
 p:=λg v w=>∃m es c,g.ga q= .map (some m)/\w.heap[m]? =some (.map es (c+1))/\g.om m=q/\v=goInt c
 aD:=λg g' v w w' D h=>by obtain⟨m,es,c,O,z,A,U⟩:=h;have E:m<w.heap.size:=(Array.getElem?_eq_some_iff.1 z).1;obtain⟨I,V⟩:=D.block m E (by rw[A];simp);exact⟨m,es,c,by rw[D.ids q (by simp)];exact O,by rw[I];exact z,by rw[V];exact A,U⟩
theorem Has.Mi{u:Nat}{te:List Nat}{s:Int}(h:Has G x (.sa q te e1 e2 L s u))(E:ep te te'=true):Has G x (.sa q te' e1 e2 L s u):=λa w g U=>by obtain⟨m,es,c,lab,W,A,O,Y,I,D,V⟩:=h a w g U;exact⟨m,es,c,lab,W,A,O,Y,I.aD (bh _) _ _ (λd _ _ b Z z _ _=>⟨rfl,z,rfl⟩) (λb Z z=>⟨rfl,fH E _ z⟩),D,V⟩
def gX(w:World)(m:Nat)(o:Obj):World:={w with heap:=w.heap.setIfInBounds m o}
theorem CY(w:World)(m:Nat)(o:Obj):(gX w m o).heap.size=w.heap.size:=by simp[gX]
theorem pY{m:Nat}{o o':Obj}(h:w.heap[m]? =some o):(gX w m o').heap[m]? =some o':=by have:=(Array.getElem?_eq_some_iff.1 h).1;simp[gX,this]
theorem pP(w:World)(m:Nat)(o:Obj)(k:Nat)(h:k≠m):(gX w m o).heap[k]? =w.heap[k]? :=by show(w.heap.setIfInBounds m o)[k]? =_;rw[Array.getElem?_setIfInBounds];rw[if_neg (λe=>h e.symm)]
section
variable{dO:Option Nat}
theorem au.XH{t:TypeId}(q:Nat)(e1 e2:TypeId)(Z:bx 10 q=true)(hd:bt d X.n=true):
  au X G ⟨some d, .makeMap t none,ty,pos,af,none⟩ [.ae d (.aL q), .ae (rs q) (.gJ q [] e1 e2 []), .bp q]:=λG' _ a w env K Q W=>by
 have A:10<=q:=by simpa using Z
 have U:d<X.n:=by simpa [fu]using hd
 obtain⟨g,D,V⟩:=env.facts;have E:(execOp a.eval ⟨some d, .makeMap t none,ty,pos,af,none⟩).run X.P w= .ok (.value (.map (some w.heap.size))) (w.alloc (.map #[] 0)):=by have I:(Instr.makeMap t none).run X.P w= .ok (.map (some w.heap.size)) (w.alloc (.map #[] 0)):=rfl;unfold execOp;simp[I]
 unfold dy;rw[E];refine W (.map (some w.heap.size)) _ ?_;have z:∀b,b<w.heap.size->(w.alloc (.map #[] 0)).heap[b]? =w.heap[b]? :=λb z=>RowKit.Below.heap_alloc w _ b z;refine⟨by simp[Act.put,env.size],env.defers,Fr.own env.fr D A (.inr trivial) rfl rfl rfl (by simp) (λb O _=>z b O),cR g w.heap.size q (.map (some w.heap.size)),D.own A env.fr.size,?_⟩;refine aQ.put (by rw[env.size];exact U) ?_ (by simp[aa.aL,cR]);refine aQ.db ?_ (λv=>⟨w.heap.size, #[],0,λ_=>(0,3),by simp[cR],heap_alloc_new w _,by simp[cR],rfl,trivial,List.nodup_nil,by simp⟩);exact si V (by simp) z (λb z=>by simp[cR,z]) (λs Y=>by simp[cR,Y])
theorem Fv{m b:Nat}{te:List Nat}(A:te.elem q=false)(D:g.om m=q)(z:g.om b∈te):b≠m:=λE=>by
 subst E;rw[D]at z;have:te.elem q=true:=by simpa using z
 rw[A]at this;cases this
theorem GH{m b:Nat}(D:(lab m).2=3)(A:(lab b).2<=2):b≠m:=λz=>by subst z;omega
theorem rV{G':List It}{m:Nat}{o:Obj}{z:Option Nat}{fd:List It}(env:Env X G' a w)(A:ff X w g)(U:aQ G' g a w)(O:10<=q)(Z:g.om m=q)(W:∀H,aQ H g a (gX w m o)->aQ (fd++H) g (a.put z v) (gX w m o))(Y:∀v,f.p g v (gX w m o)):Env X (fd++ .ae (rs q) f:: .av q::G') (a.put z v) (gX w m o):=by
 have I:∀b,b<w.heap.size->g.om b≠q->(gX w m o).heap[b]? =w.heap[b]? :=λb _ V=>pP w m o b (λh=>V (by rw[h];exact Z));have D:=CY w m o;refine⟨?_,?_,Fr.own env.fr A O (.inr trivial) rfl rfl rfl (by rw[D];exact bh _) I,g,⟨⟨A.ok.ec,λb aa E=>A.ok.new b aa (by rw[D]at E;exact E)⟩,A.om⟩,?_⟩
 .cases z<;>simp[Act.put,env.size]
 .cases z<;>exact env.defers
 .exact W _ (aQ.db (kA U (by rw[D];exact bh _) I) Y)
theorem au.Yr{k:Operand}{ad:TypeId}{te:List Nat}{s:Int}{T:List Nat}(I:pq X.P mt kt et)(aG:bx 10 q=true)(aA:te.elem q=false)(hx:Has G x (.aL q))(aF:ay G (rs q)=some (.gJ q te e1 e2 L))(aE:Has G k (aa.rep T s)):
  au X G ⟨none, .call {callee:= .builtin .delete,args:= #[x,k],argTypes:= #[mt,ad]},ty,pos,af,none⟩ [.ae (rs q) (.gJ q te e1 e2 (ly L s)), .av q]:=λG' aw a w env K Q aQ=>by
 have aB:10<=q:=by simpa using aG
 obtain⟨g,aH,ag⟩:=env.facts;have Z:=aw a w g ag;have al:a.eval x=g.ga q:=hx a w g Z;have aq:=cD.1 (aE a w g Z);obtain⟨m,es,c,lab,V,U,W,am,O,ap,an⟩:=Z _ _ aF;have ak:∀b,(sP b 10000 kt (.int .i64 s)).run X.P w= .ok () w:=λb=>y_ I.key (by simp[vo]) b 9999;have z:(pf kt (.int .i64 s) es.toList).run X.P w= .ok ((es.toList.findIdx? (gy s)).bind λj=>(es.toList[j]?).map λe=>(0+j,e.val)) w:=by unfold pf;simp only[cU,run_underlying I.key,eA];rw[Bt s es.toList L 0 O];rfl
 have ac:∀o,(setObj m o).run X.P w= .ok () (gX w m o):=λo=>zm o U;obtain⟨A,ar,aN⟩:∃A:Array MapEntry,(execOp a.eval ⟨none, .call {callee:= .builtin .delete,args:= #[x,k],argTypes:= #[mt,ad]},ty,pos,af,none⟩).run X.P w= .ok (.value (.tuple #[])) (gX w m (.map A c))/\
   gW (λb=>g.om b=q) (λb=>g.om b∈te) lab e1 e2 w A.toList (ly L s)/\(∀e∈A.toList,e.born<c):=by
  cases D:es.toList.findIdx? (gy s)with
  |none=>
   refine⟨es,?_,?_,an⟩
   .rw[D]at z;unfold execOp;simp[resolve,invoke,builtin,al,V,aq,J6,run_underlying I.cE,nc U,ak,z,ac]
   .rcases O.find s with⟨q1,_⟩|⟨q1,_,aR,q2,_⟩
    .rw[NG q1];exact O
    .have:=Jg (gy s) es.toList;rw[D,q2]at this;cases this
  |some j=>
   obtain⟨aM,Y⟩:=gW.erase s es.toList L j O ap D;refine⟨es.eraseIdxIfInBounds j,?_,?_,?_⟩
   .rw[D]at z;simp only[bo,dQ]at z;rw[ek Y,jd]at z;unfold execOp;simp[resolve,invoke,builtin,al,V,aq,J6,run_underlying I.cE,nc U,ak,z,ac]
   .have:(es.eraseIdxIfInBounds j).toList=es.toList.eraseIdx j:=by unfold Array.eraseIdxIfInBounds;rw[dif_pos (by simpa using Y),Array.toList_eraseIdx]
    rw[this];exact aM
   .intro e ao;have:(es.eraseIdxIfInBounds j).toList=es.toList.eraseIdx j:=by unfold Array.eraseIdxIfInBounds;rw[dif_pos (by simpa using Y),Array.toList_eraseIdx]
    rw[this]at ao;exact an e (List.mem_of_mem_eraseIdx ao)
 obtain⟨aC,az⟩:=aN;unfold dy;rw[ar];refine aQ _ _ ?_;refine rV (fd:=[]) env aH ag aB W (λH aJ=>aJ) (λv=>⟨m,A,c,lab,V,pY U,W,am,?_,S4 ap,az⟩);refine aC.aD (by rw[CY];exact bh _) _ _ (λd _ b aI E _ aO=>⟨pP w m _ b (GH am aO),E,rfl⟩) (λb aI E=>⟨pP w m _ b (Fv aA W E),E⟩)
theorem au.Ue{k:Operand}{te:List Nat}{aM:List cW}{s:Int}{T:List Nat}(O:pE L s=some aM)(D:pq X.P mt kt et)(hd:bt d X.n=true)(aA:bx 10 q=true)(am:te.elem q=false)(hx:Has G x (.aL q))(az:ay G (rs q)=some (.gJ q te e1 e2 L))(aw:Has G k (aa.rep T s)):
  au X G ⟨some d, .mapEntry mt x k,ty,pos,af,none⟩ [.ae d (.cP .top (.qy q)), .ae (rs q) (.Pe q te e1 e2 L s), .av q]:=λG' ad a w env K Q aO=>by
 have an:10<=q:=by simpa using aA
 have aq:d<X.n:=by simpa [fu]using hd
 obtain⟨g,aB,W⟩:=env.facts;have V:=ad a w g W;have ar:a.eval x=g.ga q:=hx a w g V;have aN:=cD.1 (aw a w g V);obtain⟨m,es,c,lab,I,E,z,Y,U,aH,aC⟩:=V _ _ az;have Z:ez L s=false:=by
  unfold pE at O;cases h:ez L s with
  |false=>rfl
  |true=>rw[h]at O;cases O
 obtain⟨i,aJ,aE⟩:=D.zero;have ap:∀b,(sP b 10000 kt (.int .i64 s)).run X.P w= .ok () w:=λb=>y_ D.key (by simp[vo]) b 9999;have ak:es.toList.findIdx? (gy s)=none:=by
  rcases U.find s with⟨_,_,q3⟩|⟨q1,_⟩
  .exact q3
  .rw[Z]at q1;cases q1
 have ao:(pf kt (.int .i64 s) es.toList).run X.P w= .ok none w:=by unfold pf;simp only[cU,run_underlying D.key,eA];rw[Bt s es.toList L 0 U,ak];rfl
 have ac:∀o,(setObj m o).run X.P w= .ok () (gX w m o):=λo=>zm o E;have al:(zeroValue et).run X.P w= .ok (.pointer none) w:=by simp[zeroValue,typeInfo,aJ,aE]
 have ag:(execOp a.eval ⟨some d, .mapEntry mt x k,ty,pos,af,none⟩).run X.P w= .ok (.value (.tuple #[.pointer none,goInt c])) (gX w m (.map (es.push ⟨.int .i64 s, .pointer none,c⟩) (c+1))):=by unfold execOp Instr.mapEntry;simp[ar,I,aN,run_underlying D.cE,nc E,ap,ao,ac,al]
 unfold dy;rw[ag];refine aO _ _ ?_;refine rV (fd:=[.ae d (.cP .top (.qy q))]) env aB W an z (λH aG=>aQ.put (by rw[env.size];exact aq) aG ⟨_,_,rfl,trivial,m,_,c,I,pY E,z,rfl⟩) (λv=>⟨m,es,c,lab,I,pY E,z,Y,?_,aH,aC,Z⟩);exact U.aD (by rw[CY];exact bh _) _ _ (λd _ b aF A _ aI=>⟨pP w m _ b (GH Y aI),A,rfl⟩) (λb aF A=>⟨pP w m _ b (Fv am z A),A⟩)
theorem Rb{es:Array MapEntry}{e:MapEntry}{c:Nat}(h:∀x∈es.toList,x.born<c)(z:e.born=c):(es.push e).findIdx? (λx=>(x.born:Int)==(c:Int))=some es.size:=by
 rw[Array.findIdx?_push];have:es.findIdx? (λx=>(x.born:Int)==(c:Int))=none:=by rw[Array.findIdx?_eq_none_iff];intro x hx;have:=h x (by simpa using hx);simp;omega
 rw[this,z];simp
theorem XT{z:List cW}{s:Int}(h:pE L s=some z):z=L++[(s,[],[])]/\ez L s=false:=by
 unfold pE at h;cases A:ez L s with
 |true=>rw[A]at h;cases h
 |false=>rw[A]at h;cases h;exact⟨rfl,rfl⟩
theorem Vv{s:Int}(h:ez L s=false):s∉L.map (·.1):=λz=>by obtain⟨x,hx,rfl⟩:=gm.1 z;unfold ez at h;have:=ED.1 h x hx;simp at this
theorem jB.oI{F Fe:Nat->Prop}{lab:Nat->Int×Nat}{e1 e2:TypeId}{w:World}{s:Int}{pv:Value}{m:MapEntry}(A:m.key= .int .i64 s)(z:m.val=pv)(r:List Int×List (List UInt8)):∀(es:List MapEntry) (L:List cW),jB F Fe lab e1 e2 w s pv es L->jB F Fe lab e1 e2 w s pv (es++[m]) (L++[(s,r)])
 |[],[],_=>⟨λh=>(h rfl).elim,λ_=>⟨A,z⟩,trivial⟩
 |_::es,_::L,h=>⟨h.1,h.2.1,jB.oI A z r es L h.2.2⟩
 |[],_::_,h=>h.elim
 |_::_,[],h=>h.elim
theorem au.Ys{y z:Operand}{u:Nat}{te:List Nat}{ak:List cW}{s:Int}(aB:pE L s=some ak)(aE:bx 10 q=true)(ar:te.elem q=false)(hx:Has G x (.aL q))(aC:ay G (rs q)=some (.Pe q te e1 e2 L s))(aN:Has G y (.qy q))(aJ:Has G z (.aL u)):
  au X G ⟨none, .entryStore mt x y z,ty,pos,af,none⟩ [.ae (rs q) (.sa q te e1 e2 ak s u), .av q]:=λG' an a w env K Q aR=>by
 have aw:10<=q:=by simpa using aE
 obtain⟨g,aI,Y⟩:=env.facts;have O:=an a w g Y;have az:a.eval x=g.ga q:=hx a w g O;have ap:a.eval z=g.ga u:=aJ a w g O;obtain⟨m,es,c,lab,U,I,V,aa,aH,ad,ac,Z⟩:=O _ _ aC;obtain⟨aY,aU,a4,ag,W,aZ,aF⟩:=aN a w g O;rw[U]at ag;cases ag;rw[I]at W;simp only[Option.some.injEq,Obj.map.injEq,Nat.add_right_cancel_iff]at W;obtain⟨rfl,rfl⟩:=W;obtain⟨rfl,_⟩:=XT aB;have al:∀o,(setObj m o).run X.P w= .ok () (gX w m o):=λo=>zm o I;have am:(es.push ⟨.int .i64 s, .pointer none,c⟩).modify es.size (λe=>{e with val:=g.ga u})=es.push ⟨.int .i64 s,g.ga u,c⟩:=by
  apply Array.ext
  .simp
  .intro i a0 aG;rw[Array.getElem_modify];by_cases hi:es.size=i
   .subst hi;simp
   .rw[if_neg hi,Array.getElem_push,Array.getElem_push];have:i<es.size:=by simp at aG;omega
    simp[this]
 have ao:(execOp a.eval ⟨none, .entryStore mt x y z,ty,pos,af,none⟩).run X.P w= .ok .skip (gX w m (.map (es.push ⟨.int .i64 s,g.ga u,c⟩) (c+1))):=by have aq:=Rb (e:=⟨.int .i64 s, .pointer none,c⟩) ac rfl;unfold execOp Instr.entryStore;simp[az,ap,aF,U,goInt,asInt,asIntOf,nc I,aq,al,am]
 unfold dy;rw[ao];refine aR undef _ ?_;refine rV (fd:=[]) env aI Y aw V (λH aM=>aM) (λv=>⟨m,_,c+1,lab,U,pY I,V,aa,?_,?_,?_⟩)
 .rw[Array.toList_push];have aQ:=aH.Ij (s:=s) (pv:=g.ga u) _ _ ad (λh=>by rw[Z]at h;cases h);exact jB.oI (m:=⟨.int .i64 s,g.ga u,c⟩) rfl rfl ([],[]) es.toList L<|aQ.aD (by rw[CY];exact bh _) _ _ (λd _ _ b D E _ aO=>⟨pP w m _ b (GH aa aO),E,rfl⟩) (λb D E=>⟨pP w m _ b (Fv ar V E),E⟩)
 .rw[mm,vp];refine⟨ad,by simp,λa aA b D=>?_⟩;have D:b=s:=by simpa using D
  subst D;exact λh=>Vv Z (by rw[<-h];exact aA)
 .intro e A;rw[Array.toList_push]at A;rcases dx.1 A with A|A
  .exact Nat.lt_succ_of_lt (ac e A)
  .rw[dz.1 A];exact Nat.lt_succ_self _
end
theorem JL{T:List Nat}(ts:List Nat)(h:aQ G g a w)(O:∀b,g.om b∉T->g'.om b=g.om b)(I:∀s,s∉ts->g'.ga s=g.ga s):aQ (ia ts (fV T G)) g' a w:=λs f Z=>by obtain⟨z,_,U,Y⟩:=AL ts (fV T G) [] [] s f Z;obtain⟨A,_,aa,D⟩:=Ds T G [] z s f Y;have hd:=mH G A z s f D;refine f.aD g g' _ w w ⟨bh _,λb _ W=>⟨rfl,O b (λV=>ju hd.1 (aa _ V) W)⟩,λac E=>I ac (λad=>ju hd.2 (U _ ad) E)⟩ (h s f (kz G A [] z [] s f (by simp) (by simp) D))
def jD(om:Nat->Nat)(lab:Nat->Int×Nat)(q u:Nat)(s:Int):Nat->Nat:=λb=>
 if om b=q/\lab b=(s,0)then u else if om b=q/\lab b=(s,1)then u+5 else if om b=q/\lab b=(s,2)then u+6 else om b
def mu(ga:Nat->Value)(u:Nat)(p:Value)(s:Int)(sv bv:Value):Nat->Value:=λi=>
 if i=u then p else if i=u+1 then .int .i64 s else if i=u+2 then sv else if i=u+3 then bv else if i=u+4 then .slice none 0 0 else ga i
theorem Fm{om:Nat->Nat}{u b:Nat}{s:Int}(h:om b≠q):jD om lab q u s b=om b:=by unfold jD;rw[if_neg (λe=>h e.1),if_neg (λe=>h e.1),if_neg (λe=>h e.1)]
theorem LV{om:Nat->Nat}{u b:Nat}{s:Int}(h:(lab b).1≠s\/(lab b).2=3):jD om lab q u s b=om b:=by
 unfold jD;have k:∀n,n<=2-> ¬(om b=q/\lab b=(s,n)):=λn z e=>by
  rw[e.2]at h;rcases h with h|h
  .exact h rfl
  .simp only at h;omega
 rw[if_neg (k 0 (by omega)),if_neg (k 1 (by omega)),if_neg (k 2 (by omega))]
theorem U5(om:Nat->Nat)(lab:Nat->Int×Nat)(q u:Nat)(s:Int)(b:Nat):jD om lab q u s b=om b\/(om b=q/\u<=jD om lab q u s b):=by
 unfold jD;split
 .rename_i h;exact .inr ⟨h.1,bh _⟩
 .split
  .rename_i h;exact .inr ⟨h.1,by omega⟩
  .split
   .rename_i h;exact .inr ⟨h.1,by omega⟩
   .exact .inl rfl
section
variable{dO:Option Nat}
theorem Ad.SN{sl:Nat}{te:List Nat}{s:Int}(u:Nat)(hu:bx 10 u=true)(a0:bx 10 q=true)(aM:bt q u=true)(aJ:te.elem q=false)(a6:ay G sl=some (.p9 q s))(aZ:ay G (rs q)=some (.gJ q te e1 e2 L))(z:ez L s=true):
  Ad X G (.ae sl (.aL u):: .ae (rs u) (.obj u [(false,1),(false,1),(false,1),(false,1)]):: .ae (rs (u+1)) (.at (u+1) (aa.rep [] s)):: .ae (rs (u+2)) (.at (u+2) (aa.ow [u+5] [] e1 (jz L s).2.1))::
   .ae (rs (u+3)) (.at (u+3) (aa.ow [u+6] te e2 (jz L s).2.2)):: .ae (rs (u+4)) (.at (u+4) .dM):: .ae (rs q) (.sa q te e1 e2 L s u)::ia [u,u+1,u+2,u+3,u+4] (fV [q] G)):=λa w env=>by
 have be:10<=u:=by simpa using hu
 have ba:10<=q:=by simpa using a0
 have a':q<u:=by simpa [fu]using aM
 obtain⟨g,I,Z⟩:=env.facts;obtain⟨m,es,c,V,U,a8,a_⟩:∃m es c,g.ga q= .map (some m)/\w.heap[m]? =some (.map es c)/\g.om m=q/\a.tmps.getD sl undef=lu s es.toList:=Z _ _ a6;obtain⟨bl,bc,bn,lab,ap,az,bi,av,aw,aA,a5⟩:=Z _ _ aZ;rw[V]at ap;cases ap;rw[U]at az;cases az;rcases aw.find s with⟨q1,_⟩|⟨_,q3,bm,q2,_,p,aN,O,E,a7,ar,a4,aC,W,ac⟩
 .rw[z]at q1;cases q1
 rw[q3]at ar aC W ac;have an:lu s es.toList= .pointer (some ⟨p,0,none⟩):=by unfold lu;rw[q2];exact a7
 let g':Gh:=⟨jD g.om lab q u s,mu g.ga u (.pointer (some ⟨p,0,none⟩)) s O E⟩
 have e0:g'.ga u= .pointer (some ⟨p,0,none⟩):=if_pos rfl;have ao:g'.ga (u+1)= .int .i64 s:=by show mu _ _ _ _ _ _ (u+1)=_;unfold mu;rw[if_neg (by omega),if_pos rfl]
 have ak:g'.ga (u+2)=O:=by show mu _ _ _ _ _ _ (u+2)=_;unfold mu;rw[if_neg (by omega),if_neg (by omega),if_pos rfl]
 have al:g'.ga (u+3)=E:=by show mu _ _ _ _ _ _ (u+3)=_;unfold mu;rw[if_neg (by omega),if_neg (by omega),if_neg (by omega),if_pos rfl]
 have am:g'.ga (u+4)= .slice none 0 0:=by show mu _ _ _ _ _ _ (u+4)=_;unfold mu;rw[if_neg (by omega),if_neg (by omega),if_neg (by omega),if_neg (by omega),if_pos rfl]
 have aB:∀i,i∉[u,u+1,u+2,u+3,u+4]->g'.ga i=g.ga i:=λi D=>by simp only[fp,vl,or_false,not_or]at D;show mu _ _ _ _ _ _ i=_;unfold mu;rw[if_neg D.1,if_neg D.2.1,if_neg D.2.2.1,if_neg D.2.2.2.1,if_neg D.2.2.2.2]
 have aI:g'.ga q=g.ga q:=aB q (by simp;omega);have aU:∀b,g.om b∉[q]->g'.om b=g.om b:=λb z=>Fm (by simpa using z);have ad:∀b,g.om b<10->g'.om b=g.om b:=λb z=>Fm (by omega);refine⟨env.size,env.defers,env.fr,g',⟨⟨λb z=>by rw[ad b (I.ok.ec b z)];exact I.ok.ec b z,λb V U=>?_⟩,λb z=>by rw[ad b (I.ok.ec b z)];exact I.om b z⟩,?_⟩
 .rcases U5 g.om lab q u s b with h|⟨_,h⟩
  .show 10<=jD g.om lab q u s b;rw[h];exact I.ok.new b V U
  .show 10<=jD g.om lab q u s b;omega
 have aE:=JL (g':=g') [u,u+1,u+2,u+3,u+4] Z aU aB;have ag:∀b,g.om b∈te->g'.om b∈te:=λb z=>by
  have:g'.om b=g.om b:=Fm (λe=>by
   rw[e]at z;have:te.elem q=true:=by simpa using z
   rw[aJ]at this;cases this)
  rw[this];exact z
 have aO:g'.om m=q:=by have:g'.om m=g.om m:=LV (.inr av);rw[this];exact a8
 have aF:aQ (.ae (rs u) (.obj u [(false,1),(false,1),(false,1),(false,1)]):: .ae (rs (u+1)) (.at (u+1) (aa.rep [] s)):: .ae (rs (u+2)) (.at (u+2) (aa.ow [u+5] [] e1 (jz L s).2.1))::
   .ae (rs (u+3)) (.at (u+3) (aa.ow [u+6] te e2 (jz L s).2.2)):: .ae (rs (u+4)) (.at (u+4) .dM):: .ae (rs q) (.sa q te e1 e2 L s u)::ia [u,u+1,u+2,u+3,u+4] (fV [q] G)) g' a w:=by
  refine aQ.db (aQ.db (aQ.db (aQ.db (aQ.db (aQ.db aE ?_) ?_) ?_) ?_) ?_) ?_
  .intro v;refine⟨m,es,c,lab,by rw[aI];exact V,U,aO,av,?_,aA,a5⟩;have a9:=aw.Ij (s:=s) (pv:=g'.ga u) _ _ aA (λ_=>by rw[an,e0]);refine a9.aD (bh _) _ _ (λdd _ aR b z A aH bb=>⟨rfl,?_,rfl⟩) (λb z A=>⟨rfl,ag b A⟩);show jD g.om lab q u s b=q;rw[LV (.inl (by rw[aH];exact aR))];exact A
  .intro v;exact am
  .intro v;show(aa.ow [u+6] te e2 (jz L s).2.2).p g' (g'.ga (u+3)) w;rw[al];exact ac.aD (bh _) (λb _ A=>⟨rfl,by show jD g.om lab q u s b∈[u+6];unfold jD;rw[if_neg (by rw[A.2];simp),if_neg (by rw[A.2];simp),if_pos ⟨A.1,A.2⟩];simp⟩) (λb _ A=>⟨rfl,ag b A⟩)
  .intro v;show(aa.ow [u+5] [] e1 (jz L s).2.1).p g' (g'.ga (u+2)) w;rw[ak];exact W.aD (bh _) (λb _ A=>⟨rfl,by show jD g.om lab q u s b∈[u+5];unfold jD;rw[if_neg (by rw[A.2];simp),if_pos ⟨A.1,A.2⟩];simp⟩) (λ_ _ h=>h.elim)
  .intro v;show(aa.rep [] s).p g' (g'.ga (u+1)) w;rw[ao];exact cD.2 rfl
  .intro v;refine⟨p,aN,_,e0,ar,?_,?_⟩
   .show jD g.om lab q u s p=u;unfold jD;rw[if_pos ⟨a4,aC⟩]
   .have oV:∀{α:Type} [Rp α] {F Fe:Nat->Prop} {e:TypeId} {l:List α} {v:Value},fx F Fe e l v w->v.oneCell'=true:=λh=>by obtain⟨xs,aG,_⟩:=h;rcases aG.2 with⟨aq,_⟩|⟨b,bg,bd,aq,_⟩<;>rw[aq]<;>rfl
    refine⟨[.int .i64 s],[O,E, .slice none 0 0],rfl,rfl,by simp[j_],λ_=>rfl,ao,[O],[E, .slice none 0 0],rfl,rfl,by simpa using oV W,λ_=>rfl,ak,[E],[.slice none 0 0],rfl,rfl,by simpa using oV ac,λ_=>rfl,al,[.slice none 0 0],[],rfl,rfl,by simp[j_],λ_=>rfl,am,rfl⟩
 intro aY f' Y;rcases kO Y with⟨rfl,rfl⟩|⟨_,Y⟩
 .show a.tmps.getD _ undef=g'.ga u;rw[a_,an,e0]
 .exact aF aY f' Y
def JB(l:List (List Nat)):Bool:=match l with
 |[]=>true
 |x::ls=>(ls.all λy=>dX x y)&&JB ls
theorem Ad.Vu{u:Nat}{te T2 t1:List Nat}{s:Int}{l1:List Int}{l2:List (List UInt8)}{teO:List Nat}(a6:bx 10 q=true)(aU:jV (u::(T1++T2))=true)(ak:JB [[q],[u],T1,T2,teO]=true)(aF:ep te teO=true)(az:ep te' teO=true)(a4:ay G (rs q)=some (.sa q te e1 e2 L s u))(ho:ay G (rs u)=some (.obj u [(false,1),(false,1),(false,1),(false,1)]))(Z:dJ G (u+1) (aa.rep [] s))(Y:dJ G (u+2) (aa.ow T1 t1 e1 l1))(bm:dJ G (u+3) (aa.ow T2 te' e2 l2))(bp:dJ G (u+4) .dM):
  Ad X G (.ae (rs q) (.gJ q teO e1 e2 (pD L s (s,l1,l2)))::fV (q::u::(T1++T2)) G):=λa w env=>by
 have al:10<=q:=by simpa using a6
 obtain⟨g,I,E⟩:=env.facts;obtain⟨m,es,c,lab,aM,bb,an,a9,a_,bg,ba⟩:=E _ _ a4;obtain⟨p,aH,cs,bi,aZ,aq,a7⟩:=E _ _ ho;have f1:g.ga (u+1)= .int .i64 s:=cD.1 (Z a w g E);have f2:=Y a w g E;have f3:=bm a w g E;have f4:g.ga (u+4)= .slice none 0 0:=bp a w g E;simp only[JB,List.all_cons,List.all_nil,Bool.and_true,gg]at ak;obtain⟨⟨a1,a2,a3,a'⟩,⟨aY,a8,aN⟩,⟨c1,bd⟩,aL⟩:=ak;have dj:∀{x y:List Nat} {n:Nat},dX x y=true->n∈x->n∉y:=λh hx bl=>ju h bl hx
 let K:List Nat:=q::u::(T1++T2)
 let D:Nat->Nat:=λb=>if g.om b∈K then q else g.om b
 let O:Nat->Int×Nat:=λb=>if g.om b=u then(s,0)else if g.om b∈T1 then(s,1)else if g.om b∈T2 then(s,2)else lab b
 let g':Gh:=⟨D,g.ga⟩
 have aG:∀b,g.om b∈K->10<=g.om b:=λb z=>by
  rcases fp.1 z with h|h
  .rw[h];exact al
  .exact nB aU h
 have ag:∀b,g.om b<10->D b=g.om b:=λb z=>if_neg (λh=>by have:=aG b h;omega);have av:cs= #[.int .i64 s,g.ga (u+2),g.ga (u+3), .slice none 0 0]:=by apply Array.toList_inj.1;obtain⟨ap,y1,bn,aA,_,_,W,ao,y2,z2,aw,_,_,w2,V,y3,z3,aI,_,_,w3,bq,aO,z4,aC,_,_,w4,z5⟩:=a7;have one:∀{x:List Value},x.length=1->∃v,x=[v]:=λh=>vn.1 h;obtain⟨a5,rfl⟩:=one aA;obtain⟨a0,rfl⟩:=one aw;obtain⟨be,rfl⟩:=one aI;obtain⟨bc,rfl⟩:=one aC;have z5:aO=[]:=z5;subst z5;have W:g.ga (u+1)=a5:=W;have w2:g.ga (u+2)=a0:=w2;have w3:g.ga (u+3)=be:=w3;have w4:g.ga (u+4)=bc:=w4;rw[bn,z2,z3,z4,<-W,<-w2,<-w3,<-w4,f1,f4];rfl
 have ar:∀b,g.om b∉K->D b=g.om b:=λb z=>if_neg z;have ad:∀b,g.om b∈teO->D b∈teO:=λb z=>by
  have:g.om b∉K:=λh=>by
   rcases fp.1 h with h|h
   .exact dj a' (show g.om b∈[q] by simp[h]) z
   .rcases fp.1 h with h|h
    .exact dj aN (show g.om b∈[u] by simp[h]) z
    .rcases dx.1 h with h|h
     .exact dj bd h z
     .exact dj aL h z
  rw[ar b this];exact z
 have ac:∀b,g.om b=q->O b=lab b:=λb z=>by
  show(if g.om b=u then _ else if g.om b∈T1 then _ else if g.om b∈T2 then _ else _)=_;have U:g.om b∈[q]:=by simp[z]
  rw[if_neg (λh=>dj a1 U (by simp[h])),if_neg (dj a2 U),if_neg (dj a3 U)]
 refine⟨env.size,env.defers,env.fr,g',⟨⟨λb z=>by show D b<10;rw[ag b (I.ok.ec b z)];exact I.ok.ec b z,λb Z Y=>?_⟩,λb z=>by show D b=_;rw[ag b (I.ok.ec b z)];exact I.om b z⟩,?_⟩
 .show 10<=D b;show 10<=(if g.om b∈K then q else g.om b);split
  .exact al
  .exact I.ok.new b Z Y
 refine aQ.db (JL (T:=K) [] E ar (λ_ _=>rfl)) (λv=>?_);have am:q∈K:=ml ..;refine⟨m,es,c,O,aM,bb,if_pos (by rw[an];exact am),by rw[ac m an];exact a9,?_,by rw[Rs (dn:=(s,l1,l2)) rfl];exact bg,ba⟩;have aB:jB (λb=>D b=q) (λb=>D b∈teO) O e1 e2 w s (g.ga u) es.toList L:=a_.aD (bh _) _ _ (λdd _ _ b z A _ _=>by have A:g.om b=q:=A;exact⟨rfl,if_pos (by rw[A];exact am),ac b A⟩) (λb z A=>⟨rfl,ad b (fH aF _ A)⟩)
 refine jB.back (dn:=(s,l1,l2)) rfl (λbr aE aJ=>⟨aE,p,aH,g.ga (u+2),g.ga (u+3),by rw[aJ,bi],by rw[aZ,av],?_,?_,?_,?_⟩) _ _ aB
 .exact if_pos (by rw[aq];simp[K])
 .exact if_pos aq
 .obtain⟨xs,ap,ao,V⟩:=f2;refine⟨xs,ap,aR.flat l1 xs ao,λb z=>⟨?_,?_⟩⟩
  .have A:g.om b∈T1:=V b z;exact if_pos (by simp[K,A])
  .have A:g.om b∈T1:=V b z;show(if g.om b=u then _ else if g.om b∈T1 then _ else if g.om b∈T2 then _ else _)=_;rw[if_neg (λh=>dj aY (show g.om b∈[u] by simp[h]) A),if_pos A]
 .refine f3.aD (bh _) (λb _ A=>⟨rfl,?_,?_⟩) (λb _ A=>⟨rfl,ad b (fH az _ A)⟩)
  .have A:g.om b∈T2:=A;exact if_pos (by simp[K,A])
  .have A:g.om b∈T2:=A;show(if g.om b=u then _ else if g.om b∈T1 then _ else if g.om b∈T2 then _ else _)=_;rw[if_neg (λh=>dj a8 (show g.om b∈[u] by simp[h]) A),if_neg (λh=>dj c1 h A),if_pos A]
end
section
variable{dO:Option Nat}
theorem Oc{s:Int}{r:cW}(h:rO L s=some r):ez L s=true/\jz L s=r:=by
 unfold rO at h;cases z:ez L s with
 |true=>rw[z]at h;exact⟨rfl,Option.some.inj h⟩
 |false=>rw[z]at h;cases h
theorem ah.Un{te:List Nat}{s:Int}{r:cW}(E:rO L s=some r)(hx:Has G x (.p9 q s))(D:ay G (rs q)=some (.gJ q te e1 e2 L)):
  ah X G ⟨dO, .nilCheck x,ty,pos,af,gd⟩ (.p9 q s):=
 bL λa w g A=>by
  have h:=hx a w g A;obtain⟨I,_⟩:=Oc E;rcases Bg h (A _ _ D)with⟨z,_⟩|⟨_,p,_,_,_,z,_⟩
  .rw[I]at z;cases z
  .refine⟨.pointer (some ⟨p,0,none⟩),?_,by rw[<-z];exact h⟩;unfold execOp;simp[z]
def VB(q:Nat)(te:List Nat)(s:Int)(r:cW):Ls:=[(false,1,aa.rep [] s),(false,1,aa.rep [q] r.2.1),(false,1,aa.rep (q::te) r.2.2),(false,1, .dM)]
theorem ah.VU{e:TypeId}[R:Rp α]{te:List Nat}{s:Int}{r:cW}(ae:rO L s=some r)(ac:Ty X.P e α)(ad:R.agg=true)(am:R.n=4)(hx:Has G x (.p9 q s))(ak:ay G (rs q)=some (.gJ q te e1 e2 L)):
  ah X G ⟨dO, .load e x,ty,pos,af,gd⟩ (.aK (VB q te s r)):=
 bL λa w g Y=>by
  have h:=hx a w g Y;obtain⟨an,rfl⟩:=Oc ae;rcases Bg h (Y _ _ ak)with⟨E,_⟩|⟨_,p,I,A,z,E,W,aq,V,U⟩
  .rw[an]at E;cases E
  .have aa:eO w ⟨p,0,none⟩ [.int .i64 s,A,z, .slice none 0 0]:=λj v ag=>by rw[Go.Addr.add_lit,dQ];refine⟨?_,frozen_of_row w p _ _ I W⟩;rw[cell_of_row w p _ _ I (0,0) W,<-Array.getElem?_toList];exact ag
   have al:=po (P:=X.P) ac aa (by rw[am];rfl);have c1:∀{α:Type} [Rp α] {F Fe:Nat->Prop} {e:TypeId} {l:List α} {v:Value},fx F Fe e l v w->v.oneCell'=true:=λh=>by obtain⟨xs,Z,_⟩:=h;rcases Z.2 with⟨O,_⟩|⟨b,ap,ao,O,_⟩<;>rw[O]<;>rfl
   refine⟨cL R.agg [.int .i64 s,A,z, .slice none 0 0],?_,[.int .i64 s,A,z, .slice none 0 0],by rw[ad];rfl,?_⟩
   .unfold execOp;simp[E,lE,fL,al]
   .refine⟨[.int .i64 s],[A,z, .slice none 0 0],rfl,rfl,by simp[j_],λ_=>rfl,cD.2 rfl,[A],[z, .slice none 0 0],rfl,rfl,by simpa using c1 V,λ_=>rfl,?_,[z],[.slice none 0 0],rfl,rfl,by simpa using c1 U,λ_=>rfl,?_,[.slice none 0 0],[],rfl,rfl,by simp[j_],λ_=>rfl,rfl,rfl⟩
    .exact ik.rep (λb D=>by show g.om b∈[q];rw[D];simp) (λ_ h=>h.elim) V.sl
    .exact ik.rep (λb D=>by show g.om b∈q::te;rw[D];simp) (λb D=>fM _ D) U.sl
def One(G:List It)(x:Operand):Prop:=∀a w g,aQ G g a w->(a.eval x).cells= #[a.eval x]/\(a.eval x).oneCell'=true
theorem One.obj(hx:Has G x (.aL t))(ho:ay G (rs t)=some (.obj t ps)):One G x:=λa w g z=>by obtain⟨b,_,_,h,_⟩:=z _ _ ho;rw[show a.eval x=g.ga t from hx a w g z,h];exact⟨rfl,rfl⟩
theorem One.gJ{te:List Nat}(hx:Has G x (.aL q))(A:ay G (rs q)=some (.gJ q te e1 e2 L)):One G x:=λa w g z=>by obtain⟨m,_,_,_,h,_⟩:=z _ _ A;rw[show a.eval x=g.ga q from hx a w g z,h];exact⟨rfl,rfl⟩
theorem au.tZ{e:TypeId}(V:bx 10 t=true)(A:Ty X.P e mK)(I:partAt ps i=some (off,false,1))(z:Has G p (.cJ t off))(ho:ay G (rs t)=some (.obj t ps))(O:One G x)(hx:Has G x f)(D:jt t (t+1+i) 1 [(false,1,f)]=true):
  au X G ⟨none, .store e p x,ty,pos,af,none⟩ [.ae (rs (t+1+i)) (.at (t+1+i) f), .ae (rs t) (.obj t ps), .av t, .bp (t+1+i)]:=
 au.Ph (α:=mK) V A I z ho (λa w g E=>by obtain⟨W,U⟩:=O a w g E;exact⟨λ_=>True,⟨a.eval x,U⟩,[a.eval x],rfl,rfl⟩) hx D
theorem BP.T_(W:kG ls i=some (off,false,1,f0))(Y:pl[i]? =some (off,1))(ho:One G x)(hx:Has G x f)(k:BP G pl (ls.set i (false,1,f)) us ls'):BP G pl ls ((i,x)::us) ls':=λa w g z cs h=>by
 have D:=hx a w g z;obtain⟨V,Z⟩:=ho a w g z;obtain⟨ac,aa⟩:=bk.set ls cs [a.eval x] i off _ _ f0 f h W rfl (by simpa using Z) D;obtain⟨I,U,O⟩:=k a w g z _ aa;refine⟨I,?_,O⟩;rw[<-U];simp only[fh,m_];have E:pl.toArray[i]? =some (off,1):=by simpa using Y
 simp only[E,V];rw[if_neg (by simp;omega)];have A:=yj [a.eval x] off cs.toArray 0 (by simp;omega);simp only[ja,je]at A;congr 1;apply Array.toList_inj.1;simpa using A
theorem bk.zp(z:v.oneCell'=true)(k:bk g w ls cs):bk g w ((false,1, .top)::ls) (v::cs):=
 ⟨[v],cs,rfl,rfl,by simpa using z,λ_=>rfl,trivial,k⟩
def rL{α:Type}(l:List α)(i:Int)(y:α):Option (List α):=if 0<=i/\i<=l.length/\l.length+1<4294967296 then some (l.take i.toNat++y::l.drop i.toNat)else none
def Fw(P:Program)(k:FuncId)(e:TypeId):Prop:=∀(sv vv:Value) (L i:Nat) (xs:List Value) (v:Value) (w:World),w.ownsRow 0 e 1 sv L xs->w.ownsRow 0 e 1 vv 1 [v]->(∀b,sv.ownBlock=some b->vv.ownBlock≠some b)->L+1<4294967296->i<=L->
 (∀u∈xs,u.oneCell'=true)->v.oneCell'=true->
 Calls P k #[sv, .int .i64 i,vv] w λo w'=>∃z,o= .returned z/\w'.ownsRow 0 e 1 z (L+1) (xs.take i++v::xs.drop i)/\w.grownBy w' sv.ownBlock/\∀b,z.ownBlock=some b->sv.ownBlock=some b\/b=w.heap.size
theorem au.J0[R:Rp α]{y z:Operand}{T te Tx tx Ty':List Nat}{r:List α}{m:Int}{E:α}{e:TypeId}{k:FuncId}(O:rL l m E=some r)(U:R.n=1)(ak:jV T=true)(aE:T.isEmpty=false)(hd:bt d X.n=true)(aO:enters X.P k=true)(a0:Fw X.P k e)(a5:Has G x (aa.ow T te e l))(a7:Has G y (aa.rep Ty' m))(a4:Has G z (aa.ow Tx tx e [E]))(aF:(T.all λt=> !Tx.elem t)=true)(aG:gn (α:=α) T te te')(aL:gn (α:=α) T tx te'):
  au X G ⟨some d, .call {callee:= .value (.func k),args:= #[x,y,z],argTypes:=ats},ty,pos,af,none⟩ (.ae d (aa.ow T te' e r)::fV T []):=λG' aC a w env K Q a_=>by
 have aM:d<X.n:=by simpa [fu]using hd
 obtain⟨g,ar,an⟩:=env.facts;have ad:=aC a w g an;obtain⟨xs,W,al,Y⟩:=a5 a w g ad;obtain⟨aU,ag,V,ay⟩:=a4 a w g ad;have e1:=cD.1 (a7 a w g ad);rw[U]at W ag;obtain⟨t,ap⟩:∃t,t∈T:=by
  cases T with
  |nil=>simp at aE
  |cons t _=>exact⟨t,by simp⟩
 have aH:10<=t:=nB ak ap;unfold rL at O;split at O
 case isFalse=>cases O
 rename_i a';cases O;obtain⟨i,rfl⟩:∃i:Nat,m=(i:Int):=⟨m.toNat,by omega⟩;have aJ:aU.length=1:=by have:=aR.len _ _ V;rw[U]at this;simpa using this
 obtain⟨v,rfl⟩:=vn.1 aJ;have Z:∀b,(a.eval x).ownBlock=some b->(a.eval z).ownBlock≠some b:=λb I aZ=>by have a8:=Y b I;have a9:=ay b aZ;have:=i_.1 aF _ a8;simp at this;exact this a9
 have az:=a0 (a.eval x) (a.eval z) l.length i xs v w W ag Z (by omega) (by omega) (aR.one l xs al) (aR.one _ _ V v (by simp));have am:(execOp a.eval ⟨some d, .call {callee:= .value (.func k),args:= #[x,y,z],argTypes:=ats},ty,pos,af,none⟩).run X.P w= .ok (.enter k #[a.eval x,a.eval y,a.eval z]) w:=by unfold execOp;simp[resolve,nT,Act.eval,invoke,mq aO]
 rw[e1]at am;unfold dy;rw[am];refine kZ az ?_;rintro o w' ⟨aN,rfl,aA,D,aB⟩;refine a_ aN w' ?_;rw[kE,wv];have A:∀b,b<w.heap.size->g.om b∉T->w'.heap[b]? =w.heap[b]? :=λb A Z=>D.block b A (λa6=>Z (Y b a6.symm));have ac:∀b,b<w.heap.size->(cM g w.heap.size t).om b=g.om b:=λb A=>by simp[cM,A]
 refine⟨by simp[Act.put,env.size],env.defers,Fr.Bc env.fr ar ak D.os D.tape D.output D.size A,cM g w.heap.size t,ar.cM aH D.size env.fr.size,?_⟩;refine aQ.put (by rw[env.size];exact aM) (z7 an D.size A ac (λ_=>rfl)) ?_;have ao:∀b,b<w.heap.size->g.om b∈te'->(cM g w.heap.size t).om b∈te':=λb A h=>by rw[ac b A];exact h
 have av:=aG _ g w w' l xs D.size A ao al;have aY:=aL _ g w w' _ [v] D.size A ao V;have aq:=aR.take l xs i av;have aw:=aR.drop l xs i av;rw[U,ir]at aq aw;refine⟨xs.take i++v::xs.drop i,?_,?_,?_⟩
 .rw[U];have:((l.take (i:Int).toNat++E::l.drop (i:Int).toNat)).length=l.length+1:=by simp;omega
  rw[this];exact aA
 .exact aR.app (l.take i) (E::l.drop i) _ _ aq (aR.app [E] (l.drop i) [v] _ aY aw)
 .intro b aI;rcases aB b aI with I|I
  .rw[ac b (W.lt b I).2];exact Y b I
  .show(cM g w.heap.size t).om b∈T;simp only[cM];rw[if_neg (by omega)];exact ap
end
instance:Rp UInt64 where
 n:=1
 agg:=false
 na:=λ_=>rfl
 rel:=λ_ x cs _=>cs=[.int .u64 (x.toNat:Int)]
 len:=λ_ _ _ _ h=>by rw[h];rfl
 one:=λ_ _ _ _ h=>by rw[h];simp[j_]
 aD:=λ_ _ _ _ _ _ _ _ h=>h
instance:Flat UInt64:=⟨λ_ _ _ _ _ _ h=>h⟩
theorem IP{F:Nat->Prop}{x:UInt64}:cX F x v w↔v= .int .u64 (x.toNat:Int):=by
 constructor
 .rintro⟨cs,h,rfl⟩;cases h;rfl
 .rintro rfl;exact⟨_,rfl,rfl⟩
def oJ.of(n:Int):UInt64:=UInt64.ofNat (n%18446744073709551616).toNat
instance:Sc UInt64:=⟨.u64,λx=>(x.toNat:Int),oJ.of,λ_ _ _ _=>IP,λn=>by
 have h:IntKind.u64.wrap n=n%18446744073709551616:=by simp[yY,yZ,qH]
 rw[h];unfold oJ.of;simp;omega⟩
def lL(m:UInt64)(k:Nat):UInt64:=UInt64.ofNat (m.toNat/2^(min k 64))
theorem ah.lL{dO:Option Nat}{t:TypeId}{T:List Nat}{m:UInt64}{I:IntKind}(hx:Has G x (aa.rep T m)):ah X G ⟨dO, .binOp .shr t x (.const (.int I (k:Int))) t',ty,pos,af,gd⟩ (aa.rep [] (GL.lL m k)):=
 bL λa w g D=>by
  have E:=IP.1 (hx a w g D);refine⟨.int .u64 ((GL.lL m k).toNat:Int),?_,IP.2 rfl⟩;have A:m.toNat/2^(min k 64)<18446744073709551616:=Nat.lt_of_le_of_lt (Nat.div_le_self _ _) m.toNat_lt;have h:((m.toNat:Int)).fdiv (2^(min k 64))=((GL.lL m k).toNat:Int):=by
   unfold GL.lL;rw[UInt64.toNat_ofNat_of_lt' A,Int.fdiv_eq_ediv_of_nonneg _ (Int.pow_nonneg (by omega))]
   norm_cast
  unfold execOp;simp only[E,eval_const,eqGuard_at_int,binOp,Op.shift,cU,gx,eA,Q5];rw[if_neg (by omega)];simp only[gx,eA];exact congrArg (λz=>Result.ok (Next.value (sH .u64 z)) w) h
theorem pq.of{t:TypeId}(E:P.underlying t=some (.map kt et))(D:P.underlying kt=some (.int .i64))(z:(P.info? et).bind (·.zero)=some (.pointer none)):pq P t kt et:=⟨E,D,by
 cases A:P.info? et with
 |none=>rw[A]at z;cases z
 |some i=>rw[A]at z;exact⟨i,rfl,z⟩⟩
theorem Za(h:(!b)=false):b=true:=by cases b<;>first|rfl|cases h
section
variable{d:Option Nat}
theorem MB(h: ¬b=false):b=true:=by cases b<;>simp_all
theorem ah.RT{c y:Operand}{T:List Nat}(D:Has G c (aa.rep T b))(E:b=true)(hx:Has G x f):ah X G ⟨d, .pick c x y,ty,pos,af,gd⟩ f:=
 bL λa w g z=>by have A:=dw.1 (D a w g z);rw[E]at A;exact⟨a.eval x,by unfold execOp;simp[A,asBool],hx a w g z⟩
theorem ah.Re{c y:Operand}{T:List Nat}(D:Has G c (aa.rep T b))(E:b=false)(hx:Has G y f):ah X G ⟨d, .pick c x y,ty,pos,af,gd⟩ f:=
 bL λa w g z=>by have A:=dw.1 (D a w g z);rw[E]at A;exact⟨a.eval y,by unfold execOp;simp[A,asBool],hx a w g z⟩
end
section
variable{dO:Option Nat}
def aa.yT:aa where
 bj:=[]
 ids:=[]
 p:=λ_ v _=>v= .pointer none
 aD:=λ_ _ _ _ _ _ h=>h
theorem Has.yT:Has G (.const (.pointer none)) .yT:=λ_ _ _ _=>rfl
theorem VK{t e:TypeId}(z:P.underlying t=some (.pointer e)){v:Option Addr}(D:a.eval x= .pointer v){dO:Option Nat}:
  (execOp a.eval ⟨dO, .binOp .eql t x (.const (.pointer none)) t',ty,pos,af,gd⟩).run P w= .ok (.value (.bool v.isNone)) w/\(execOp a.eval ⟨dO, .binOp .neq t x (.const (.pointer none)) t',ty,pos,af,gd⟩).run P w= .ok (.value (.bool v.isSome)) w:=by
 have A:∀o,(o= .eql\/o= .neq)->eqGuard o t x (.const (.pointer none)) (.pointer v) (.pointer none)=vg ():=by intro o ho;rcases ho with rfl|rfl<;>cases v<;>rfl
 constructor
 .unfold execOp;simp[D,eval_const,A _ (.inl rfl),binOp,uc w z]
 .unfold execOp;simp[D,eval_const,A _ (.inr rfl),binOp,uc w z]
theorem ah.U2{t e:TypeId}(A:X.P.underlying t=some (.pointer e))(hx:Has G x .yT):ah X G ⟨dO, .binOp .neq t x (.const (.pointer none)) t',ty,pos,af,gd⟩ (aa.rep [] false):=
 bL λa w g z=>⟨_,(VK A (hx a w g z)).2,dw.2 rfl⟩
end
section
variable{d:Option Nat}
theorem ah.SY{y:Operand}{T:List Nat}{m n:Int}{ts:Array TypeId}(hx:Has G x (aa.rep T m))(D:Has G y (aa.rep T' n)):
  ah X G ⟨d, .call {callee:= .builtin .max,args:= #[x,y],argTypes:=ts},ty,pos,af,gd⟩ (aa.rep [] (max m n)):=
 bL λa w g z=>by
  have E:=cD.1 (hx a w g z);have A:=cD.1 (D a w g z);refine⟨.int .i64 (max m n),?_,cD.2 rfl⟩;unfold execOp;have:(if n>m then n else m)=max m n:=by omega
  simp[resolve,invoke,builtin,E,A,Builtin.max_,Builtin.max2];omega
end
class ot(β:Type)[Rp β]where
 val:β->Value
 rep:∀(F:Nat->Prop) (x:β) (v:Value) (w:World),cX F x v w↔v=val x
instance:ot Int:=⟨λx=> .int .i64 x,λ_ _ _ _=>cD⟩
instance:ot UInt8:=⟨λx=> .int .u8 (x.toNat:Int),λ_ _ _ _=>sd⟩
instance:ot Bool:=⟨λx=> .bool x,λ_ _ _ _=>dw⟩
section
def iN(L:List (Int×β))(s:Int):Bool:=L.any λd=>d.1==s
def fU(L:List (Int×β))(s:Int):Option β:=(L.find? λd=>d.1==s).map (·.2)
def kI(L:List (Int×β))(s:Int):List (Int×β):=L.filter λd=> !(d.1==s)
def ko(L:List (Int×β))(s:Int)(x:β):List (Int×β):=bif iN L s then L.map (λd=>bif d.1==s then(s,x)else d)else L++[(s,x)]
end
def fP{β:Type}[Rp β][S:ot β]:List MapEntry->List (Int×β)->Prop
 |[],[]=>True
 |m::es,d::L=>(m.key= .int .i64 d.1/\m.val=S.val d.2)/\fP es L
 |_,_=>False
theorem QD{α:Type}(f:α->α):∀{l:List α} {j:Nat} {m:α},l[j]? =some m->l.modify j f=l.set j (f m)
 |[],j,m,h=>by simp at h
 |x::l,0,m,h=>by simp at h;subst h;rfl
 |x::l,j+1,m,h=>by simp only[Q6]at h;rw[List.modify_succ_cons,List.set_cons_succ,QD f h]
section
variable[Rp β][S:ot β]
theorem fP.len:∀(es:List MapEntry) (L:List (Int×β)),fP es L->es.length=L.length
 |[],[],_=>rfl
 |_::es,_::L,h=>by simp[fP.len es L h.2]
 |[],_::_,h=>h.elim
 |_::_,[],h=>h.elim
theorem DU{m:MapEntry}{k:Int}(h:m.key= .int .i64 k)(s:Int):gy s m=(k==s):=by unfold gy;rw[h]
theorem fP.findNow(s:Int):∀(es:List MapEntry) (L:List (Int×β)) (i:Nat),fP es L->
  EC (.int .i64) (.int .i64 s) es i=some ((es.findIdx? (gy s)).bind λj=>(es[j]?).map λe=>(i+j,e.val))
 |[],[],_,_=>rfl
 |m::es,d::L,i,h=>by
  have z:=h.1.1;unfold EC;rw[z];simp only[Instr.sameNow,if_true];rw[sN,DU z s];have A:(s==d.1)=(d.1==s):=by rw[nU];simp;exact eq_comm
  rw[A];cases D:(d.1==s)with
  |true=>simp
  |false=>
   simp only[kY,if_false];rw[fP.findNow s es L (i+1) h.2];cases es.findIdx? (gy s)with
   |none=>rfl
   |some j=>
    simp only[bo,jd];rw[Q6];congr 1;cases es[j]? with
    |none=>rfl
    |some e=>simp;omega
 |[],_::_,_,h=>h.elim
 |_::_,[],_,h=>h.elim
theorem fP.find(s:Int):∀(es:List MapEntry) (L:List (Int×β)),fP es L->
  (iN L s=false/\fU L s=none/\es.findIdx? (gy s)=none)\/
   (iN L s=true/\∃j x m,fU L s=some x/\es.findIdx? (gy s)=some j/\es[j]? =some m/\m.key= .int .i64 s/\m.val=S.val x)
 |[],[],_=> .inl ⟨rfl,rfl,rfl⟩
 |m::es,d::L,h=>by
  have O:=DU h.1.1 s;unfold iN fU;rw[J4,qQ,sN,O];cases V:(d.1==s)with
  |true=>
   have hd:d.1=s:=by simpa using V
   exact .inr ⟨rfl,0,d.2,m,rfl,rfl,rfl,by rw[h.1.1,hd],h.1.2⟩
  |false=>
   rcases fP.find s es L h.2 with⟨D,z,A⟩|⟨D,j,x,E,z,A,U,I⟩
   .exact .inl ⟨D,z,by rw[A];rfl⟩
   .exact .inr ⟨D,j+1,x,E,z,by rw[A];rfl,by simpa using U,I⟩
 |[],_::_,h=>h.elim
 |_::_,[],h=>h.elim
theorem fP.app{es:List MapEntry}{L:List (Int×β)}(h:fP es L){m:MapEntry}{s:Int}{x:β}(D:m.key= .int .i64 s)(z:m.val=S.val x):fP (es++[m]) (L++[(s,x)]):=by
 induction es generalizing L with
 |nil=>cases L with
  |nil=>exact⟨⟨D,z⟩,trivial⟩
  |cons d L=>exact h.elim
 |cons e es A=>cases L with
  |nil=>exact h.elim
  |cons d L=>exact⟨h.1,A h.2⟩
theorem Xb{L:List (Int×β)}{s:Int}(h:iN L s=false):s∉L.map (·.1):=λz=>by obtain⟨d,hd,rfl⟩:=gm.1 z;have:=ED.1 h d hd;simp at this
theorem fP.set(s:Int)(x:β){m:MapEntry}(I:m.key= .int .i64 s)(E:m.val=S.val x):∀(es:List MapEntry) (L:List (Int×β)) (j:Nat),fP es L->(L.map (·.1)).Nodup->es.findIdx? (gy s)=some j->
  fP (es.set j m) (L.map λd=>bif d.1==s then(s,x)else d)
 |[],_,j,_,_,z=>by cases z
 |e::es,[],_,h,_,_=>h.elim
 |e::es,d::L,j,h,D,z=>by
  rw[sN,DU h.1.1 s]at z;rw[fh,qJ]at D;cases A:(d.1==s)with
  |true=>
   rw[A]at z;simp only[if_true,Option.some.injEq]at z;subst z;have hd:d.1=s:=by simpa using A
   have O:(L.map λd=>bif d.1==s then(s,x)else d)=L:=by
    conv=>rhs;rw[<-List.map_id L]
    refine vj (λy W=>?_);have:(y.1==s)=false:=by
     cases Z:(y.1==s)with
     |false=>rfl
     |true=>
      have V:y.1=s:=by simpa using Z
      exact absurd (gm.2 ⟨y,W,by rw[V,hd]⟩) D.1
    rw[this];rfl
   rw[fh,A,O];exact⟨⟨I,E⟩,h.2⟩
  |false=>
   rw[A]at z;simp only[kY,if_false,iK]at z;obtain⟨Y,U,rfl⟩:=z;rw[fh,A,List.set_cons_succ];exact⟨h.1,fP.set s x I E es L Y h.2 D.2 U⟩
theorem fP.erase(s:Int):∀(es:List MapEntry) (L:List (Int×β)) (j:Nat),fP es L->(L.map (·.1)).Nodup->es.findIdx? (gy s)=some j->fP (es.eraseIdx j) (kI L s)/\j<es.length
 |[],_,j,_,_,z=>by cases z
 |m::es,[],_,h,_,_=>h.elim
 |m::es,d::L,j,h,D,z=>by
  rw[sN,DU h.1.1 s]at z;rw[fh,qJ]at D;cases A:(d.1==s)with
  |true=>
   rw[A]at z;simp only[if_true,Option.some.injEq]at z;subst z;have hd:d.1=s:=by simpa using A
   have:kI (d::L) s=L:=by
    unfold kI;rw[jP,A];simp only[Bool.not_true,kY,if_false];rw[qR];intro y O;cases V:(y.1==s)with
    |false=>rfl
    |true=>
     have I:y.1=s:=by simpa using V
     exact absurd (gm.2 ⟨y,O,by rw[I,hd]⟩) D.1
   rw[this];exact⟨h.2,by simp⟩
  |false=>
   rw[A]at z;simp only[kY,if_false,iK]at z;obtain⟨U,E,rfl⟩:=z;obtain⟨q1,q2⟩:=fP.erase s es L U h.2 D.2 E;have:kI (d::L) s=d::kI L s:=by unfold kI;rw[jP,A];rfl
   rw[this,List.eraseIdx_cons_succ];exact⟨⟨h.1,q1⟩,by simpa using q2⟩
theorem Ra{L:List (Int×β)}{s:Int}(h:iN L s=false):kI L s=L:=by unfold kI;rw[qR];intro d hd;have:=ED.1 h d hd;simpa using this
theorem Rn{L:List (Int×β)}{s:Int}(h:(L.map (·.1)).Nodup):((kI L s).map (·.1)).Nodup:=(List.Sublist.map _ List.filter_sublist).nodup h
theorem Ry{L:List (Int×β)}{s:Int}{x:β}(h:(L.map (·.1)).Nodup):((ko L s x).map (·.1)).Nodup:=by
 unfold ko;cases E:iN L s with
 |true=>
  rw[cond_true,vi];have:((λd:Int×β=>d.1)∘λd=>bif d.1==s then(s,x)else d)=λd=>d.1:=by
   funext d;show(bif d.1==s then(s,x)else d).1=d.1;cases z:(d.1==s)with
   |true=>rw[cond_true];exact(by simpa using z:d.1=s).symm
   |false=>rfl
  rw[this];exact h
 |false=>
  rw[cond_false,mm,vp];refine⟨h,by simp,λa A b z D=>?_⟩;simp only[fh,List.map_nil,dz]at z;rw[D,z]at A;exact Xb E A
def aa.gP(q:Nat)(L:List (Int×β)):aa where
 bj:=[q]
 ids:=[q]
 p:=λg _ w=>∃m es c,g.ga q= .map (some m)/\w.heap[m]? =some (.map es c)/\g.om m=q/\fP es.toList L/\(L.map (·.1)).Nodup
 aD:=λg g' v w w' D h=>by obtain⟨m,es,c,O,z,A,U⟩:=h;have E:m<w.heap.size:=(Array.getElem?_eq_some_iff.1 z).1;obtain⟨I,V⟩:=D.block m E (by rw[A];simp);exact⟨m,es,c,by rw[D.ids q (by simp)];exact O,by rw[I];exact z,by rw[V];exact A,U⟩
structure kL(P:Program)(t kt et:TypeId)(z:β):Prop where
 cE:P.underlying t=some (.map kt et)
 key:P.underlying kt=some (.int .i64)
 zero:∃i,P.info? et=some i/\i.zero=some (S.val z)
end
section
variable{dO:Option Nat}[Rp β][S:ot β]
theorem au.Bo{t:TypeId}(q:Nat)(Z:bx 10 q=true)(hd:bt d X.n=true):
  au X G ⟨some d, .makeMap t none,ty,pos,af,none⟩ [.ae d (.aL q), .ae (rs q) (.gP q ([]:List (Int×β))), .bp q]:=λG' _ a w env K Q W=>by
 have A:10<=q:=by simpa using Z
 have U:d<X.n:=by simpa [fu]using hd
 obtain⟨g,D,V⟩:=env.facts;have E:(execOp a.eval ⟨some d, .makeMap t none,ty,pos,af,none⟩).run X.P w= .ok (.value (.map (some w.heap.size))) (w.alloc (.map #[] 0)):=by have I:(Instr.makeMap t none).run X.P w= .ok (.map (some w.heap.size)) (w.alloc (.map #[] 0)):=rfl;unfold execOp;simp[I]
 unfold dy;rw[E];refine W (.map (some w.heap.size)) _ ?_;have z:∀b,b<w.heap.size->(w.alloc (.map #[] 0)).heap[b]? =w.heap[b]? :=λb z=>RowKit.Below.heap_alloc w _ b z;refine⟨by simp[Act.put,env.size],env.defers,Fr.own env.fr D A (.inr trivial) rfl rfl rfl (by simp) (λb O _=>z b O),cR g w.heap.size q (.map (some w.heap.size)),D.own A env.fr.size,?_⟩;refine aQ.put (by rw[env.size];exact U) ?_ (by simp[aa.aL,cR]);refine aQ.db ?_ (λv=>⟨w.heap.size, #[],0,by simp[cR],heap_alloc_new w _,by simp[cR],trivial,List.nodup_nil⟩);exact si V (by simp) z (λb z=>by simp[cR,z]) (λs Y=>by simp[cR,Y])
theorem GO(z:P.underlying kt=some (.int .i64)){es:List MapEntry}{L:List (Int×β)}(h:fP es L)(s:Int):
  (pf kt (.int .i64 s) es).run P w= .ok ((es.findIdx? (gy s)).bind λj=>(es[j]?).map λe=>(j,e.val)) w:=by
 unfold pf;simp only[cU,run_underlying z,eA];rw[fP.findNow s es L 0 h];simp only[dQ];rfl
theorem au.BW{k y:Operand}{L:List (Int×β)}{s:Int}{r z:β}{T:List Nat}(E:kL X.P mt kt et z)(aB:bx 10 q=true)(hx:Has G x (.aL q))(aA:ay G (rs q)=some (.gP q L))(az:Has G k (aa.rep T s))(aF:Has G y (aa.rep T' r)):
  au X G ⟨none, .mapUpdate mt x k y,ty,pos,af,none⟩ [.ae (rs q) (.gP q (ko L s r)), .av q]:=λG' ap a w env K Q aH=>by
 have ar:10<=q:=by simpa using aB
 obtain⟨g,aC,Z⟩:=env.facts;have U:=ap a w g Z;have ad:a.eval x=g.ga q:=hx a w g U;have an:=cD.1 (az a w g U);have ak:a.eval y=S.val r:=(S.rep _ _ _ _).1 (aF a w g U);obtain⟨m,es,c,V,O,ag,I,am⟩:=U _ _ aA;have ac:∀b,(sP b 10000 kt (.int .i64 s)).run X.P w= .ok () w:=λb=>y_ E.key (by simp[vo]) b 9999;have A:=GO (P:=X.P) (w:=w) E.key I s;have Y:∀o,(setObj m o).run X.P w= .ok () (gX w m o):=λo=>zm o O;obtain⟨D,W,ao,aG⟩:∃(D:Array MapEntry) (W:Nat),(execOp a.eval ⟨none, .mapUpdate mt x k y,ty,pos,af,none⟩).run X.P w= .ok .skip (gX w m (.map D W))/\fP D.toList (ko L s r):=by
  rcases I.find s with⟨q1,_,q3⟩|⟨q1,j,aI,al,q2,q3,q4,q5,q6⟩
  .refine⟨es.push ⟨.int .i64 s,S.val r,c⟩,c+1,?_,?_⟩
   .rw[q3]at A;unfold execOp;simp[ad,V,an,ak,Instr.mapUpdate,run_underlying E.cE,nc O,ac,A,Y]
   .unfold ko;rw[q1,cond_false,Array.toList_push];exact I.app rfl rfl
  .refine⟨es.modify j λe=>{e with key:= .int .i64 s,val:=S.val r},c,?_,?_⟩
   .rw[q3]at A;simp only[bo,q4,jd]at A;have aw:es[j]? =some al:=by simpa using q4
    have aq:(Instr.keyThatStays (.int .i64 s) (.int .i64 s)).run X.P w= .ok (.int .i64 s) w:=MapKept.run_keyThatStays (d:= .int .i64) (by simp[vo]);unfold execOp;simp[ad,V,an,ak,Instr.mapUpdate,run_underlying E.cE,nc O,ac,A,aw,q5,aq,Y]
   .unfold ko;rw[q1,cond_true];have:(es.modify j λe=>{e with key:= .int .i64 s,val:=S.val r}).toList=es.toList.set j ⟨.int .i64 s,S.val r,al.born⟩:=by rw[Array.toList_modify,QD _ q4]
    rw[this];exact fP.set s r rfl rfl es.toList L j I am q3
 unfold dy;rw[ao];refine aH (.tuple #[]) _ ?_;exact rV (fd:=[]) env aC Z ar ag (λH aE=>aE) (λv=>⟨m,D,W,V,pY O,ag,aG,Ry am⟩)
theorem au.XY{k:Operand}{Y:TypeId}{L:List (Int×β)}{s:Int}{z:β}{T:List Nat}(E:kL X.P mt kt et z)(aw:bx 10 q=true)(hx:Has G x (.aL q))(aq:ay G (rs q)=some (.gP q L))(ap:Has G k (aa.rep T s)):
  au X G ⟨none, .call {callee:= .builtin .delete,args:= #[x,k],argTypes:= #[mt,Y]},ty,pos,af,none⟩ [.ae (rs q) (.gP q (kI L s)), .av q]:=λG' an a w env K Q aE=>by
 have ao:10<=q:=by simpa using aw
 obtain⟨g,az,Z⟩:=env.facts;have V:=an a w g Z;have ad:a.eval x=g.ga q:=hx a w g V;have al:=cD.1 (ap a w g V);obtain⟨m,es,c,U,O,ag,I,ak⟩:=V _ _ aq;have ac:∀b,(sP b 10000 kt (.int .i64 s)).run X.P w= .ok () w:=λb=>y_ E.key (by simp[vo]) b 9999;have A:=GO (P:=X.P) (w:=w) E.key I s;have W:∀o,(setObj m o).run X.P w= .ok () (gX w m o):=λo=>zm o O;obtain⟨D,am,aC⟩:∃(D:Array MapEntry),(execOp a.eval ⟨none, .call {callee:= .builtin .delete,args:= #[x,k],argTypes:= #[mt,Y]},ty,pos,af,none⟩).run X.P w= .ok (.value (.tuple #[])) (gX w m (.map D c))/\fP D.toList (kI L s):=by
  rcases I.find s with⟨q1,_,q3⟩|⟨q1,j,aG,aF,q2,q3,q4,q5,q6⟩
  .refine⟨es,?_,by rw[Ra q1];exact I⟩;rw[q3]at A;unfold execOp;simp[resolve,invoke,builtin,ad,U,al,J6,run_underlying E.cE,nc O,ac,A,W]
  .obtain⟨aB,ar⟩:=fP.erase s es.toList L j I ak q3;refine⟨es.eraseIdxIfInBounds j,?_,?_⟩
   .rw[q3]at A;simp only[bo,q4,jd]at A;unfold execOp;simp[resolve,invoke,builtin,ad,U,al,J6,run_underlying E.cE,nc O,ac,A,W]
   .have:(es.eraseIdxIfInBounds j).toList=es.toList.eraseIdx j:=by unfold Array.eraseIdxIfInBounds;rw[dif_pos (by simpa using ar),Array.toList_eraseIdx]
    rw[this];exact aB
 unfold dy;rw[am];refine aE _ _ ?_;exact rV (fd:=[]) env az Z ao ag (λH aA=>aA) (λv=>⟨m,D,c,U,pY O,ag,aC,Rn ak⟩)
theorem KE{t:TypeId}{z:β}(A:kL P t kt et z){m c:Nat}{es:Array MapEntry}(U:w.heap[m]? =some (.map es c)){L:List (Int×β)}(h:fP es.toList L)(s:Int)(ok:Bool):
  (J5 t (.map (some m)) (.int .i64 s) ok).run P w= .ok (bif ok then .tuple #[S.val ((fU L s).getD z), .bool (fU L s).isSome]else S.val ((fU L s).getD z)) w:=by
 obtain⟨i,O,V⟩:=A.zero;have D:∀b,(sP b 10000 kt (.int .i64 s)).run P w= .ok () w:=λb=>y_ A.key (by simp[vo]) b 9999;have E:=GO (P:=P) (w:=w) A.key h s;have I:(zeroValue et).run P w= .ok (S.val z) w:=by simp[zeroValue,typeInfo,O,V]
 unfold J5;simp only[cU,run_underlying A.cE,eA,nc U,gx,D,E];rcases h.find s with⟨_,q2,q3⟩|⟨_,j,W,Y,q2,q3,q4,q5,q6⟩
 .rw[q3,q2];cases ok<;>simp[I]
 .rw[q3,q2];simp only[bo,q4,jd,q6];cases ok<;>simp
theorem ah.NW{k:Operand}{t:TypeId}{L:List (Int×β)}{s:Int}{z:β}{T:List Nat}(Y:kL X.P t kt et z)(hx:Has G x (.aL q))(U:ay G (rs q)=some (.gP q L))(O:Has G k (aa.rep T s)):
  ah X G ⟨dO, .lookup t x k false,ty,pos,af,gd⟩ (aa.rep [] ((fU L s).getD z)):=
 bL λa w g A=>by have I:a.eval x=g.ga q:=hx a w g A;have V:=cD.1 (O a w g A);obtain⟨m,es,c,E,W,ac,D,Z⟩:=A _ _ U;refine⟨S.val ((fU L s).getD z),?_,(S.rep _ _ _ _).2 rfl⟩;have:=KE (P:=X.P) Y W D s false;unfold execOp;simp[I,E,V,this]
theorem ah.ZQ{k:Operand}{t:TypeId}{L:List (Int×β)}{s:Int}{z:β}{T:List Nat}(Y:kL X.P t kt et z)(hx:Has G x (.aL q))(U:ay G (rs q)=some (.gP q L))(O:Has G k (aa.rep T s)):
  ah X G ⟨dO, .lookup t x k true,ty,pos,af,gd⟩ (.cP (aa.rep [] ((fU L s).getD z)) (aa.rep [] ((fU L s).isSome))):=
 bL λa w g A=>by have I:a.eval x=g.ga q:=hx a w g A;have V:=cD.1 (O a w g A);obtain⟨m,es,c,E,W,ac,D,Z⟩:=A _ _ U;refine⟨.tuple #[S.val ((fU L s).getD z), .bool (fU L s).isSome],?_,⟨_,_,rfl,(S.rep _ _ _ _).2 rfl,dw.2 rfl⟩⟩;have:=KE (P:=X.P) Y W D s true;unfold execOp;simp[I,E,V,this]
theorem ah.YA{t:TypeId}{L:List (Int×β)}{z:β}(Y:kL X.P t kt et z)(hx:Has G x (.aL q))(V:ay G (rs q)=some (.gP q L)):
  ah X G ⟨dO, .call {callee:= .builtin .len,args:= #[x],argTypes:= #[t]},ty,pos,af,gd⟩ (aa.rep [] ((L.length:Nat):Int)):=
 bL λa w g A=>by
  have U:a.eval x=g.ga q:=hx a w g A;obtain⟨m,es,c,I,W,ac,E,Z⟩:=A _ _ V;have O:=fP.len _ _ E;refine⟨.int .i64 (L.length:Nat),?_,cD.2 rfl⟩;have D:es.size=L.length:=by simpa using O
  unfold execOp;simp[resolve,invoke,builtin,U,I,Builtin.len_,run_underlying Y.cE,nc W,D,goInt]
end
theorem kL.of[Rp β][S:ot β]{t:TypeId}{z:β}(I:P.underlying t=some (.map kt et))(E:P.underlying kt=some (.int .i64))(A:(P.info? et).bind (·.zero)=some (S.val z)):kL P t kt et z:=⟨I,E,by
 cases D:P.info? et with
 |none=>rw[D]at A;cases A
 |some i=>rw[D]at A;exact⟨i,rfl,A⟩⟩
theorem One.gP[Rp β][S:ot β]{L:List (Int×β)}(hx:Has G x (.aL q))(A:ay G (rs q)=some (.gP q L)):One G x:=λa w g z=>by obtain⟨m,_,_,h,_⟩:=z _ _ A;rw[show a.eval x=g.ga q from hx a w g z,h];exact⟨rfl,rfl⟩
theorem Has.GC[Rp β][S:ot β]{L:List (Int×β)}(h:Has G x (.gP q L)):Has G x (.gP q L):=h
structure dN(α β:Type)[A:Rp α][B:Rp β](off:Nat)(get:α->β)(set:α->β->α):Prop where
 ux:∀F x cs w,A.rel F x cs w->∃a c b,cs=a++(c++b)/\a.length=off/\B.rel F (get x) c w/\∀y c',B.rel F y c' w->A.rel F (set x y) (a++(c'++b)) w
theorem dN.Ew[A:Rp α]:dN α α 0 (λx=>x) (λ_ y=>y):=⟨λF x cs w h=>⟨[],cs,[],by simp,rfl,h,λy z h'=>by simpa using h'⟩⟩
theorem dN.inl[A:Rp α][B:Rp β][C:Rp γ]{g:α->γ}{s:α->γ->α}(h:dN α γ off g s):dN (α×β) γ off (λx=>g x.1) (λx y=>(s x.1 y,x.2)):=⟨λF x cs w W=>by obtain⟨c1,z,rfl,V,E⟩:=W;obtain⟨a,c,b,rfl,U,O,Y⟩:=h.ux F x.1 c1 w V;exact⟨a,c,b++z,by simp,U,O,λy D I=>⟨a++(D++b),z,by simp,Y y D I,E⟩⟩⟩
theorem dN.inr[A:Rp α][B:Rp β][C:Rp γ]{g:β->γ}{s:β->γ->β}(h:dN β γ off g s):dN (α×β) γ (A.n+off) (λx=>g x.2) (λx y=>(x.1,s x.2 y)):=⟨λF x cs w V=>by obtain⟨c1,Y,rfl,z,E⟩:=V;obtain⟨a,c,b,rfl,U,O,W⟩:=h.ux F x.2 Y w E;exact⟨c1++a,c,b,by simp,by rw[bY,A.len _ _ _ _ z,U],O,λy D I=>⟨c1,a++(D++b),by simp,z,W y D I⟩⟩⟩
theorem dN.Et[A:Rp α][B:Rp β]{z:Nat}{g g':α->β}{s s':α->β->α}(h:dN α β off g s)(ho:off=z)(E:∀x,g x=g' x)(D:∀x y,s x y=s' x y):dN α β z g' s':=by subst ho;have e1:g=g':=funext E;have e2:s=s':=funext λx=>funext λy=>D x y;subst e1 e2;exact h
theorem dN.Eu{z:Type}(B:Rp z)[C:Rp γ](f:S->z){g:z->γ}{s:z->γ->z}(h: @dN z γ B C off g s)(get:S->γ)(set:S->γ->S)(I:∀x,get x=g (f x))(W:∀x y,f (set x y)=s (f x) y):
  @dN S γ (Rp.dH B f) C off get set:= @dN.mk S γ (Rp.dH B f) C off get set (λF x cs w U=>by
 obtain⟨a,c,b,O,A,E,V⟩:=h.ux F (f x) cs w U;exact⟨a,c,b,O,A,by rw[I];exact E,λy Y D=>by show B.rel F (f (set x y)) _ w;rw[W];exact V y Y D⟩)
theorem eO.part{a:Addr}{p c b:List Value}(h:eO w a (p++(c++b))):eO w (a.add p.length) c:=λj u z=>by have A:j<c.length:=(cy.1 z).1;have:=h (p.length+j) u (by rw[oY (by omega),Nat.add_sub_cancel_left,m8 A];exact z);rw[Addr.nQ];exact this
theorem Wh(A p c q D es:List α):(A++((p++(c++q))++D)).take (A.length+p.length)++es++(A++((p++(c++q))++D)).drop (A.length+p.length+c.length)=A++(p++(es++q))++D:=by
 have e1:A++((p++(c++q))++D)=(A++p)++(c++(q++D)):=by simp
 have e2:A++((p++(c++q))++D)=((A++p)++c)++(q++D):=by simp
 have E:(A++((p++(c++q))++D)).take (A.length+p.length)=A++p:=by rw[e1,<-bY,List.take_left]
 have z:(A++((p++(c++q))++D)).drop (A.length+p.length+c.length)=q++D:=by rw[e2,<-bY,<-bY,y7]
 rw[E,z];simp
section
variable{dO:Option Nat}
theorem ah.w5[R:Rp α][B:Rp β]{get:α->β}{set:α->β->α}{te:List Nat}{e e':TypeId}(I:dN α β off get set)(Z:l[k]? =some r)(O:Ty X.P e β)(hx:Has G x (.cJ t (k * R.n+off)))(U:ay G (rs t)=some (.own t te e' l)):ah X G ⟨dO, .load e x,ty,pos,af,gd⟩ (aa.rep te (get r)):=
 bL λa w g D=>by
  obtain⟨b,ac,W⟩:=hx a w g D;obtain⟨es,ad,E⟩:=Hu (D _ _ U) ac Z;obtain⟨p,c,q,rfl,Y,A,_⟩:=I.ux _ _ _ _ E;have z:=ad.part;rw[Y]at z;have V:((⟨b,k * R.n,none⟩:Addr).add off)=⟨b,k * R.n+off,none⟩:=by rw[Go.Addr.add_lit]
  rw[V]at z;refine⟨cL B.agg c,?_,c,A,rfl⟩;unfold execOp;simp[W,lE,fL,n8 O z A]
theorem au.Nd[R:Rp α][B:Rp β]{get:α->β}{set:α->β->α}{T te:List Nat}{z:β}{e e':TypeId}(aG:dN α β off get set)(bI:bx 10 t=true)(am:l[k]? =some y)(bB:Ty X.P e β)(bM:Has G p (.cJ t (k * R.n+off)))(bp:ay G (rs t)=some (.own t te e' l))(hx:Has G x (aa.rep T z))(bl:cC (α:=α) t te te')(bE:cC (α:=β) t T te'):
 au X G ⟨none, .store e p x,ty,pos,af,none⟩ [.ae (rs t) (.own t te' e' (l.set k (set y z))), .av t]:=λG' be a w env K Q bO=>by
 have bs:10<=t:=by simpa using bI
 obtain⟨g,Z,aI⟩:=env.facts;have ao:=be a w g aI;obtain⟨b,A,bL⟩:=bM a w g ao;obtain⟨xs,a_,ad,aq⟩:=ao _ _ bp;rcases a_.2 with⟨bd,bT⟩|⟨D,bn,cs,ak,bN,aY,az,bm,bz,a0⟩
 .rw[bd]at A;cases A
 rw[ak]at A;simp only[ix,Option.some.injEq]at A;subst A;have bC:g.om D=t:=aq D (by rw[ak];rfl);have ar:=aR.len l _ ad;have aH:k<l.length:=(cy.1 am).1;have bQ:k * R.n+R.n<=l.length * R.n:=by
  have E:k * R.n+R.n=(k+1) * R.n:=by rw[h_];omega
  rw[E];exact iJ _ aH
 have bv:l.length * R.n<=cs.size:=by rw[bz];exact iJ _ az
 obtain⟨U,aJ,aA⟩:=aR.get l xs ad k y am;have I:=R.len _ _ _ _ aJ;obtain⟨W,an,q0,ag,aF,a7,_⟩:=aG.ux _ _ _ _ aJ;have ap:=B.len _ _ _ _ a7;have bP:W.length+(an.length+q0.length)=R.n:=by rw[<-I,ag];simp
 obtain⟨es,bR,aM,ba⟩:=pF (P:=X.P) bB aY (hx a w g ao) (show(k * R.n+off)+B.n<=cs.size by omega);have al:=B.len _ _ _ _ aM;have a5:(execOp a.eval ⟨none, .store e p x,ty,pos,af,none⟩).run X.P w= .ok .skip (w.setRow D (cs.toList.take (k * R.n+off)++es++cs.toList.drop (k * R.n+off+B.n)).toArray):=by unfold execOp;simp only[bL,o9,fL,cU,gx,eA];rw[ba];rfl
 unfold dy;rw[a5];refine bO undef _ ?_;have A:∀b,b<w.heap.size->g.om b≠t->(w.setRow D (cs.toList.take (k * R.n+off)++es++cs.toList.drop (k * R.n+off+B.n)).toArray).heap[b]? =w.heap[b]? :=λb A bA=>setRow_other w D b _ (λh=>bA (by rw[h];exact bC));have O:(w.setRow D (cs.toList.take (k * R.n+off)++es++cs.toList.drop (k * R.n+off+B.n)).toArray).heap.size=w.heap.size:=by simp
 refine⟨by simp[Act.put,env.size],env.defers,Fr.own env.fr Z bs (.inr trivial) rfl rfl rfl (by rw[O];exact bh _) A,g,⟨⟨Z.ok.ec,λb E Y=>Z.ok.new b E (by rw[O]at Y;exact Y)⟩,Z.om⟩,?_⟩;show aQ _ g a _;have bS:xs.length=l.length * R.n:=ar;have bb:(xs.drop (k * R.n)).take R.n=U:=by
  refine o0 (λj=>?_);rw[o8];by_cases hj:j<R.n
  .rw[if_pos hj,ke];have V:j<U.length:=by rw[I];exact hj
   exact(aA j _ (ek V)).trans (ek V).symm
  .rw[if_neg hj,Ex (by rw[I];omega)]
 have aZ:xs=xs.take (k * R.n)++(U++xs.drop (k * R.n+R.n)):=by
  conv=>lhs;rw[<-sM (k * R.n) xs]
  congr 1
  conv=>lhs;rw[<-sM R.n (xs.drop (k * R.n)),bb]
  rw[qO]
 have bw:(xs.take (k * R.n)).length=k * R.n:=by rw[cf];omega
 have bi:xs.take (k * R.n+off)++es++xs.drop (k * R.n+off+B.n)=xs.take (k * R.n)++(W++(es++q0))++xs.drop (k * R.n+R.n):=by have E:=Wh (xs.take (k * R.n)) W an q0 (xs.drop (k * R.n+R.n)) es;rw[<-ag,<-aZ,bw,aF,ap]at E;exact E
 refine aQ.db ?_ (λv=>⟨xs.take (k * R.n+off)++es++xs.drop (k * R.n+off+B.n),⟨?_, .inr ⟨D,bn,_,by rw[ak,kD],bN,setRow_heap w D cs _ e' (0,0) aY,by rw[kD];exact az,bm,?_,?_⟩⟩,?_,aq⟩)
 .exact kA aI (by rw[O];exact bh _) A
 .simp only[bY,cf,eH,kD,ar,al];omega
 .simp only[g5,bY,cf,eH,Array.length_toList,al];omega
 .rw[<-a0,kD];exact Fg cs.toList es (k * R.n+off) B.n (l.length * R.n) al (by omega) (by rw[Array.length_toList];exact bv)
 .have aN:∀b,b<w.heap.size->g.om b∈te'->g.om b∈te':=λ_ _ h=>h;have E:=bl (λb=>g.om b∈te') g w (w.setRow D (cs.toList.take (k * R.n+off)++es++cs.toList.drop (k * R.n+off+B.n)).toArray) l xs (by rw[O];exact bh _) A aN ad;have Y:=bE (λb=>g.om b∈te') g w (w.setRow D (cs.toList.take (k * R.n+off)++es++cs.toList.drop (k * R.n+off+B.n)).toArray) [z] es (by rw[O];exact bh _) A aN ⟨es,[],by simp,aM,rfl⟩;obtain⟨c1,bG,aO,bq,bg⟩:=Y;have a8:bG=[]:=bg;subst a8;simp only[jb]at aO;subst aO;rw[bi];obtain⟨aL,aC,bc⟩:=aR.get l xs E k y am;have ac:aL=U:=by
   refine o0 (λj=>?_);have aw:=R.len _ _ _ _ aC;by_cases hj:j<R.n
   .have aE:j<aL.length:=by rw[aw];exact hj
    have V:j<U.length:=by rw[I];exact hj
    have q1:=bc j _ (ek aE);have q0:=aA j _ (ek V);rw[q1]at q0;rw[ek aE,ek V,q0]
   .rw[Ex (by rw[aw];omega),Ex (by rw[I];omega)]
  subst ac;obtain⟨p1,br,q1,ac,bD,a',a4⟩:=aG.ux _ _ _ _ aC;have a6:=B.len _ _ _ _ a';have aB:p1=W/\q1=q0:=by have bH:p1++(br++q1)=W++(an++q0):=ac.symm.trans ag;have aU:=List.append_inj bH (by rw[bD,aF]);have bJ:=List.append_inj aU.2 (by rw[a6,ap]);exact⟨aU.1,bJ.2⟩
  rw[<-aB.1,<-aB.2];have a9:=a4 z es bq;exact aR.set l xs E k (set y z) _ aH a9
end
def tB{α:Type}(l m:List α):Option (List α):=bif ct l.length 0 then none else some (ob l m)
section
theorem au.VH[R:Rp α][bp:Flat α]{T te:List Nat}{m r:List α}{ts ts' e:TypeId}(A:tB l m=some r)(a_:bx 10 t=true)(hd:bt d X.n=true)(ao:gu X.P ts e α)(a9:Has G p (.aL t))(a0:ay G (rs t)=some (.own t te e l))(hx:Has G x (aa.rep T m)):
 au X G ⟨some d, .call {callee:= .builtin .copy,args:= #[p,x],argTypes:= #[ts,ts']},ty,pos,af,none⟩ [.ae d (aa.rep [] ((min m.length l.length:Nat):Int)), .ae (rs t) (.own t [] e r), .av t]:=λG' aF a w env K Q bc=>by
 have aM:10<=t:=by simpa using a_
 have a6:d<X.n:=by simpa [fu]using hd
 obtain⟨g,I,am⟩:=env.facts;have Z:=aF a w g am;have a7:a.eval p=g.ga t:=a9 a w g Z;obtain⟨xs,aE,ak,ag⟩:=Z _ _ a0;have bm:0<l.length:=by
  unfold tB at A;cases h:l.length with
  |zero=>rw[h]at A;cases A
  |succ n=>omega
 have aJ:ob l m=r:=by
  unfold tB at A;have:ct l.length 0=false:=by
   cases h:l.length with
   |zero=>omega
   |succ n=>rfl
  rw[this]at A;exact Option.some.inj A
 subst aJ;rcases aE.2 with⟨bd,bq⟩|⟨z,aZ,cs,W,ba,aq,an,aO,aH,ar⟩
 .omega
 have a4:g.om z=t:=ag z (by rw[W];rfl);have aB:=aR.len l _ ak;have O:=hx a w g Z;obtain⟨ad,c,ap,_⟩:=jQ O;rw[ap]at O;obtain⟨i,bn,a',bl,aA,bi,be⟩:=ao.info;obtain⟨es,V,ac⟩:=OW O (min m.length l.length) (Nat.min_le_left _ _);have D:=aR.len _ _ V;have aU:(m.take (min m.length l.length)).length=min m.length l.length:=by rw[cf];omega
 rw[aU]at D;have aI:(J3 R.n (min m.length l.length) (.slice ad m.length c)).run X.P w= .ok es.toArray w:=by
  cases ad with
  |none=>
   have:es=[]:=by
    cases es with
    |nil=>rfl
    |cons u es=>
     obtain⟨a,h,_⟩:=ac 0 u rfl;cases h
   subst this;exact run_firstCells_none w _ _ _ _
  |some ad=>exact run_firstCells_some w R.n (min m.length l.length) ad m.length c es D (λj u a8=>by obtain⟨a,h,E⟩:=ac j u a8;cases h;exact E)
 have a5:(min m.length l.length) * R.n<=l.length * R.n:=iJ _ (Nat.min_le_right _ _);have bg:l.length * R.n<=cs.size:=by rw[aH];exact iJ _ an
 have al:=run_storeCells_at X.P z 0 e es 0 cs w aq (by rw[D];omega) (aR.one _ es V);simp only[ja,mi,gZ,dQ]at al;have az:(execOp a.eval ⟨some d, .call {callee:= .builtin .copy,args:= #[p,x],argTypes:= #[ts,ts']},ty,pos,af,none⟩).run X.P w= .ok (.value (.int .i64 ((min m.length l.length:Nat):Int))) (w.setRow z (es++cs.toList.drop es.length).toArray):=by have aG:Nat.min m.length l.length=min m.length l.length:=rfl;have aw:Nat.min l.length m.length=min m.length l.length:=Nat.min_comm ..;unfold execOp;simp[resolve,invoke,builtin,a7,W,ap,jO,run_underlying ao.cE,Builtin.lenOf,oX,typeInfo,a',aA,aG,aw,aI,al,goInt]
 unfold dy;rw[az];refine bc _ _ ?_;have Y:∀b,b<w.heap.size->g.om b≠t->(w.setRow z (es++cs.toList.drop es.length).toArray).heap[b]? =w.heap[b]? :=λb Y aN=>setRow_other w z b _ (λh=>aN (by rw[h];exact a4));have U:(w.setRow z (es++cs.toList.drop es.length).toArray).heap.size=w.heap.size:=by simp
 refine⟨by simp[Act.put,env.size],env.defers,Fr.own env.fr I aM (.inr trivial) rfl rfl rfl (by rw[U];exact bh _) Y,g,⟨⟨I.ok.ec,λb bb E=>I.ok.new b bb (by rw[U]at E;exact E)⟩,I.om⟩,?_⟩;have aC:es.length<=l.length * R.n:=by rw[D];exact a5
 refine aQ.put (by rw[env.size];exact a6) (aQ.db (kA am (by rw[U];exact bh _) Y) (λv=>⟨es++xs.drop es.length,⟨?_, .inr ⟨z,aZ,_,by rw[W,se],ba,setRow_heap w z cs _ e (0,0) aq,by rw[se];exact an,aO,?_,?_⟩⟩,?_,ag⟩)) (cD.2 rfl)
 .rw[se,bY,eH,aB];omega
 .simp only[g5,bY,eH,Array.length_toList];omega
 .rw[se,<-ar];show(es++cs.toList.drop es.length).take (l.length * R.n)=es++(cs.toList.take (l.length * R.n)).drop es.length;rw[oZ,fm aC,List.drop_take]
 .have e1:m.take l.length=m.take (min m.length l.length):=by rw[List.take_eq_take_iff];omega
  unfold ob;rw[e1];have aY:aR (λb=>g.om b∈te) (l.drop (min m.length l.length)) (xs.drop ((min m.length l.length) * R.n)) w:=aR.drop l _ _ ak;have e2:l.drop m.length=l.drop (min m.length l.length):=by
   by_cases h:m.length<=l.length
   .rw[jN h]
   .rw[Nat.min_eq_right (by omega),kb (by omega),kb (by omega)]
  rw[e2,<-D]at *;exact aR.app _ _ _ _ (aR.flat (F':=λb=>g.om b∈([]:List Nat)) (w':=w.setRow z (es++cs.toList.drop es.length).toArray) _ _ V) (aR.flat (F':=λb=>g.om b∈([]:List Nat)) (w':=w.setRow z (es++cs.toList.drop es.length).toArray) _ _ aY)
end
def ll(g:Gh)(t t2:Nat):Gh:=⟨λb=>if g.om b=t then t2 else g.om b,g.ga⟩
theorem ff.rt(h:ff X w g)(E:10<=t)(D:10<=t2):ff X w (ll g t t2):=by
 refine⟨⟨λb z=>?_,λb z A=>?_⟩,λb z=>?_⟩
 .have:=h.ok.ec b z;simp only[ll];rw[if_neg (by omega)];exact this
 .simp only[ll];split
  .exact D
  .exact h.ok.new b z A
 .have:=h.ok.ec b z;simp only[ll];rw[if_neg (by omega)];exact h.om b z
section
variable[R:Rp α]{te:List Nat}{e:TypeId}
theorem WS(A:te.elem t=false)(h:(aa.ow [t] te e l).p g v w):(aa.ow [t2] te e l).p (ll g t t2) v w:=by
 have h':fx (λb=>g.om b∈[t]) (λb=>g.om b∈te) e l v w:=h;show fx (λb=>(ll g t t2).om b∈[t2]) (λb=>(ll g t t2).om b∈te) e l v w;refine fx.aD (w':=w) (bh _) (λb _ z=>⟨rfl,?_⟩) (λb _ z=>⟨rfl,?_⟩) h'
 .have:g.om b=t:=by simpa using z
  simp[ll,this]
 .have D:g.om b≠t:=λE=>by(rw[E]at z;have:te.elem t=true:=by simpa using z);rw[A]at this;cases this
  simp only[ll];rw[if_neg D];exact z
theorem Yc(h:aQ G g a w):aQ (.bp t::fV [t] G) (ll g t t2) a w:=
 Aw h (λb z=>by simp only[ll];rw[if_neg (by simpa using z)]) (λ_ _=>rfl)
theorem Ad.T7{s:Nat}(I:bx 10 t=true)(E:bx 10 t2=true)(Y:ay G s=some f)(U:∀a w g,aQ G g a w->f.p g (a.tmps.getD s undef) w->f'.p (ll g t t2) (a.tmps.getD s undef) w):
  Ad X G (.ae s f':: .bp t::fV [t] G):=λa w env=>by
 obtain⟨g,O,A⟩:=env.facts;refine⟨env.size,env.defers,env.fr,ll g t t2,O.rt (by simpa using I) (by simpa using E),?_⟩;have V:=Yc (t:=t) (t2:=t2) A;intro W D z;rcases kO z with⟨rfl,rfl⟩|⟨_,z⟩
 .exact U a w g A (A _ _ Y)
 .exact V W D z
theorem Ad.ON(t t2:Nat)(I:bx 10 t=true)(A:bx 10 t2=true)(z:te.elem t=false)(O:ay G (rs i)=some (.at i f))(D:Cv G f (aa.ow [t] te e l)):
 Ad X G (.ae (rs i) (.at i (.ow [t2] te e l)):: .bp t::fV [t] G):=Ad.T7 I A O (λa w g E h=>WS (g:=g) z (D a w g (g.ga i) E h))
end
def yV{α:Type}(l m:List α):Option (List α):=bif ct m.length 0 then none else app l m
section
variable{dO:Option Nat}
theorem ah.yV[R:Rp α]{s:Operand}{T:List Nat}{m r:List α}(t:Nat){ts e:TypeId}(E:GL.yV l m=some r)(aQ:bx 10 t=true)(ac:gu X.P ts e α)(a4:Has G s (aa.kW T l))(hx:Has G x (aa.rep T1 m)):
  ah X G ⟨dO, .call {callee:= .builtin .append,args:= #[s,x],argTypes:= #[ts,ts]},ty,pos,af,gd⟩ (aa.rep (t::(T++T1)) r):=λa w g bb aL aZ av=>by
 have aG:10<=t:=by simpa using aQ
 unfold GL.yV at E;cases U:ct m.length 0 with
 |true=>rw[U]at E;cases E
 |false=>
 rw[U,cond_false]at E;have U:m.length≠0:=λh=>by rw[h]at U;cases U
 unfold GL.app at E;split at E
 case isFalse=>cases E
 rename_i a8;cases E;obtain⟨V,ad,ap⟩:=a4 a w g av;rw[ap]at V;have aH:=hx a w g av;obtain⟨O,ar,aM,a9,aN,aw⟩:=jQ aH;obtain⟨i,Y,a7,aJ,an,aI,a_⟩:=ac.info;have bc:=ac.pos;have ay:(l.length+m.length) * i.bytes<=140737488355328:=by have:(l.length+m.length) * i.bytes<=4294967296 * 32768:=Nat.mul_le_mul (by omega) aI;omega
 cases O with
 |none=>have:=(aN rfl).1;rw[this]at U;exact(U rfl).elim
 |some O=>
  obtain⟨A,ak,ag⟩:=yd (w:=w) (F:=λb=>g.om b∈T1) (ad:=O) m 0 (λi y a6=>by obtain⟨_,_,es,V,aU⟩:=aw O rfl i y a6;exact⟨es,by simpa using V,aU⟩)
  have ag:eO w O A:=by simpa [Go.Addr.add_zero']using ag
  have aE:=aR.len _ _ ak;obtain⟨D,ao,aO⟩:=UR (P:=X.P) V;have a':=aR.len _ _ ao;have aC:Builtin.nextslicecap (l.length+m.length) l.length * i.bytes<=281474976710656:=growslice_fits (by omega) ay;have az:=run_append_grow_src (P:=X.P) w ts ts ty e i Y ac.cE a7 aJ ad l.length l.length D (by rw[an];exact aO _ (λ_=>rfl)) (.slice (some O) m.length ar) m.length A
   (by rw[an];exact Src.ofSlice w ac.cE O m.length ar A aE (λj u al=>(ag j u al).1) (aR.one _ _ ak)) (by omega) (by omega) aC
  have aB:(execOp a.eval ⟨dO, .call {callee:= .builtin .append,args:= #[s,x],argTypes:= #[ts,ts]},ty,pos,af,gd⟩).run X.P w= .ok (.value (.slice (some ⟨w.heap.size,0,none⟩) (l.length+m.length) (grownCap w (l.length+m.length) l.length e)))
    (w.drew.alloc (.cells ((D++A).toArray++kF Y.cells (grownCap w (l.length+m.length) l.length e - (l.length+m.length))) e)):=by
   unfold execOp;simp[resolve,invoke,builtin,ap,aM,az]
  have am:=grownCap_ge w (l.length+m.length) l.length e;have W:Fr fW w (w.drew.alloc (.cells ((D++A).toArray++kF Y.cells (grownCap w (l.length+m.length) l.length e - (l.length+m.length))) e)):=(Fr.refl _ w).drew.trans (Fr.alloc w.drew _) (λ_ _ h=>h);refine Yields.val aB ⟨W,cM g w.heap.size t,aZ.cM aG (by simp) aL.size,λb Z=>by simp[cM,Z],λ_=>rfl,?_⟩
  generalize hcap:grownCap w (l.length+m.length) l.length e=cap at am W
  refine⟨_,⟨some ⟨w.heap.size,0,none⟩,cap,rfl,by rw[bY];exact am,λh=>(by cases h),?_⟩,by rw[bY];rfl⟩;intro ba aF aq z a0;cases aF;have aA:aR (λb=>(cM g w.heap.size t).om b∈t::(T++T1)) (l++m) (D++A) (w.drew.alloc (.cells ((D++A).toArray++kF Y.cells (cap - (l.length+m.length))) e)):=by
   refine aR.app _ _ _ _ (aR.aD W.size (λb I Z=>⟨W.block b I id,?_⟩) l D ao) (aR.aD W.size (λb I Z=>⟨W.block b I id,?_⟩) m A ak)
   .simp only[cM];rw[if_pos I];exact fM _ (gY _ Z)
   .simp only[cM];rw[if_pos I];exact fM _ (gh _ Z)
  obtain⟨es,a5,aY⟩:=aR.get _ _ aA aq z a0;have ae:(w.drew.alloc (.cells ((D++A).toArray++kF Y.cells (cap - (l.length+m.length))) e)).heap[w.heap.size]? =some (.cells ((D++A).toArray++kF Y.cells (cap - (l.length+m.length))) e (0,0)):=heap_alloc_new w.drew _;refine⟨by simp[cM],(Array.getElem?_eq_some_iff.1 ae).1,es,λj u al=>?_,a5⟩;have V:=aY j u al;rw[Addr.nQ,Go.Addr.add_lit];simp only[dQ];refine⟨?_,frozen_of_row _ _ _ _ e ae⟩;rw[cell_of_row _ _ _ _ e (0,0) ae];have I:aq * R.n+j<(D++A).length:=(cy.1 V).1;rw[Array.getElem?_append_left (by simpa using I)];simpa using V
end
section
theorem au.Wu{e:TypeId}[R:Rp α]{a0 b0:Ps}(aZ:bx 10 t=true)(aO:Ty X.P e α)(ar:a0++fk ls++b0=ps)(a7:a0.length=i)(aU:kH a0=off)(aC:g7 ls=R.n)(aL:Has G p (.cJ t off))(ho:ay G (rs t)=some (.obj t ps))(hx:eY G x ls)(aJ:jt t (t+1+i) ls.length ls=true):
 au X G ⟨none, .store e p x,ty,pos,af,none⟩ ([.ae (rs t) (.obj t ps)]++ki (t+1+i) ls (.av t::ia (iX (t+1+i) (fk ls)) [])):=λG' aG a w env K Q a8=>by
 have aM:10<=t:=by simpa using aZ
 obtain⟨g,W,ao⟩:=env.facts;have ag:=aG a w g ao;subst a7 aU;obtain⟨ba,Z,D⟩:=aL a w g ag;obtain⟨z,ac,cs,am,aB,aq,al⟩:=ag _ _ ho;rw[am]at Z;simp only[ix,Option.some.injEq]at Z;subst Z;obtain⟨es,aH,ad⟩:=hx a w g ag;have ap:es.length=R.n:=by rw[ad.len,aC]
 rw[<-ar,fE]at al;obtain⟨c1,bb,e1,az,a5⟩:=(eT.append _ _ _ _).1 al;obtain⟨aw,A,e2,aY,a4⟩:=(eT.append _ _ _ _).1 a5;have aI:=az.len;have aR:=aY.len;have aF:aw.length=R.n:=by rw[aR,ER];exact aC
 have ak:=bk.one ls es ad;obtain⟨U,aa⟩:=ad.pv ls es;have a':=PV.len ls es U aa;have an:(fk ls).length=ls.length:=by simp[fk]
 have a9:cs.size=c1.length+(aw.length+A.length):=by rw[<-Array.length_toList,e1,e2];simp
 have aE:(execOp a.eval ⟨none, .store e p x,ty,pos,af,none⟩).run X.P w= .ok .skip (w.setRow z (c1++(es++A)).toArray):=by
  have E:=run_storeCells_at X.P z (kH a0) ac es 0 cs w aB (by omega) ak;simp only[ja,ap]at E;have a6:cs.toList.take (kH a0)++es++cs.toList.drop (kH a0+R.n)=c1++(es++A):=by rw[e1,e2,<-aI,List.take_left,<-aF,<-fE c1,<-bY,y7,fE]
  rw[a6]at E;unfold execOp;simp only[D,o9,fL,cU,gx,eA];unfold storeVar;simp[gD aO,aH,ap,E]
 unfold dy;rw[aE];refine a8 undef _ ?_;rw[fE,CZ];simp only[kE,gZ,D6];have Y:∀b,b<w.heap.size->g.om b≠t->(w.setRow z (c1++(es++A)).toArray).heap[b]? =w.heap[b]? :=λb Y aN=>setRow_other w z b _ (λh=>aN (by rw[h];exact aq));have V:(w.setRow z (c1++(es++A)).toArray).heap.size=w.heap.size:=by simp
 let g2:Gh:=⟨g.om,mP g.ga (t+1+a0.length) U⟩
 have O:∀s, ¬(t+1+a0.length<=s/\s<t+1+a0.length+ls.length)->g2.ga s=g.ga s:=λs I=>tp _ _ _ _ (by omega);refine⟨by simp[Act.put,env.size],env.defers,Fr.own env.fr W aM (.inr trivial) rfl rfl rfl (by rw[V];exact bh _) Y,g2,⟨⟨W.ok.ec,λb ak E=>W.ok.new b ak (by rw[V]at E;exact E)⟩,W.om⟩,?_⟩;show aQ _ g2 a _;refine aQ.db ?_ (λv=>⟨z,ac,_,by rw[O t (by omega)];exact am,setRow_heap w z cs _ ac (0,0) aB,aq,?_⟩)
 .refine vC ls (t+1+a0.length) ?_ (λj l aA=>?_)
  .refine sD _ ao (by rw[V];exact bh _) Y (λ_ _=>rfl) (λs I=>O s (λhx=>I ?_));rw[qq,an];exact hx
  .have a_:j<ls.length:=(cy.1 aA).1;obtain⟨v,D⟩:∃v,U[j]? =some v:=⟨_,ek (by omega)⟩;rw[show g2.ga (t+1+a0.length+j)=v from pw _ _ _ _ _ D];exact PV.facts (g':=g2) ls es U aa aJ (by rw[V];exact bh _) Y (λ_ _=>rfl) O j l v aA D
 .rw[<-ar,fE];refine(eT.append _ _ _ _).2 ⟨c1,es++A,rfl,az.aD _ _ _ (λs I=>O s ?_),(eT.append _ _ _ _).2 ⟨es,A,rfl,PV.vA ls es U (t+1+a0.length) aa (λj v D=>pw _ _ _ _ _ D),a4.aD _ _ _ (λs I=>O s ?_)⟩⟩
  .rw[qq]at I;omega
  .rw[qq,an]at I;omega
end
def bm.kW{α:Type}[Rp α](c:Nat)(x:List α):bm where
 f:=λT=>aa.kW (T c) x
 tg:=λ_ _ h=>⟨c,h⟩
 gK:=λ_=>rfl
 re:=λT T' g g' v w z h=>⟨cX.mono h.1 (z c),h.2⟩
theorem Cv.Px[R:Rp α]{T:List Nat}(A:ep T T'=true):Cv G (aa.kW T l) (aa.kW T' l):=λ_ _ _ _ _ h=>⟨cX.mono h.1 (λ_ _ z=>fH A _ z),h.2⟩
def mf(g:Gh)(T:List Nat)(t2:Nat):Gh:=⟨λb=>if T.elem (g.om b)=true then t2 else g.om b,g.ga⟩
theorem ff.rT(h:ff X w g){T:List Nat}(E:jV T=true)(D:10<=t2):ff X w (mf g T t2):=by
 have key:∀b,g.om b<10-> ¬T.elem (g.om b)=true:=λb z I=>by have:=nB E (by simpa using I:g.om b∈T);omega
 refine⟨⟨λb z=>?_,λb z A=>?_⟩,λb z=>?_⟩
 .have:=h.ok.ec b z;simp only[mf];rw[if_neg (key b this)];exact this
 .simp only[mf];split
  .exact D
  .exact h.ok.new b z A
 .have:=h.ok.ec b z;simp only[mf];rw[if_neg (key b this)];exact h.om b z
section
variable[R:Rp α]{T te:List Nat}{e:TypeId}
theorem TX{b:Nat}(z:g.om b∈T):(mf g T t2).om b∈[t2]:=by
 have h:T.elem (g.om b)=true:=by simpa using z
 show(if T.elem (g.om b)=true then t2 else g.om b)∈[t2];rw[if_pos h];exact dz.2 rfl
theorem Ud{b:Nat}(A:dX te T=true)(z:g.om b∈te):(mf g T t2).om b∈te:=by have h: ¬T.elem (g.om b)=true:=λD=>ju A (by simpa using D:g.om b∈T) z;show(if T.elem (g.om b)=true then t2 else g.om b)∈te;rw[if_neg h];exact z
theorem Ad.S8{s:Nat}(O:jV T=true)(I:bx 10 t2=true)(Y:ay G s=some f)(V:∀a w g,aQ G g a w->f.p g (a.tmps.getD s undef) w->f'.p (mf g T t2) (a.tmps.getD s undef) w):
  Ad X G (.ae s f':: .bp t2::fV T G):=λa w env=>by
 obtain⟨g,U,A⟩:=env.facts;refine⟨env.size,env.defers,env.fr,mf g T t2,U.rT O (by simpa using I),?_⟩;have D:aQ (.bp t2::fV T G) (mf g T t2) a w:=Aw A (λb D=>by show(if T.elem (g.om b)=true then t2 else g.om b)=g.om b;rw[if_neg (by simpa using D)]) (λ_ _=>rfl)
 intro W E z;rcases kO z with⟨rfl,rfl⟩|⟨_,z⟩
 .exact V a w g A (A _ _ Y)
 .exact D W E z
theorem VQ(A:dX te T=true)(h:(aa.ow T te e l).p g v w):(aa.ow [t2] te e l).p (mf g T t2) v w:=by have h':fx (λb=>g.om b∈T) (λb=>g.om b∈te) e l v w:=h;show fx (λb=>(mf g T t2).om b∈[t2]) (λb=>(mf g T t2).om b∈te) e l v w;exact fx.aD (w':=w) (bh _) (λb _ z=>⟨rfl,TX z⟩) (λb _ z=>⟨rfl,Ud A z⟩) h'
theorem Ad.BT{s:Nat}(t2:Nat)(D:jV T=true)(A:bx 10 t2=true)(z:dX te T=true)(O:ay G s=some f)(E:Cv G f (aa.ow T te e l)):
 Ad X G (.ae s (.ow [t2] te e l):: .bp t2::fV T G):=Ad.S8 D A O (λa w g I h=>VQ z (E a w g _ I h))
theorem eY.WY(ho:One G x)(hx:Has G x f):eY G x [(false,1,f)]:=λa w g z=>by have h:=hx a w g z;obtain⟨D,A⟩:=ho _ _ _ z;exact⟨[a.eval x],by rw[D],[a.eval x],[],rfl,rfl,by simpa using A,λ_=>rfl,h,rfl⟩
end
structure gQ(ts:List TypeId)(α:Type)where
 i:Nat
 x:α
 deriving Inhabited,DecidableEq
def um{ts:List TypeId}{α:Type}[R:Rp α](F:Nat->Prop)(y:gQ ts α)(cs:List Value)(w:World):Prop:=
 match ts[y.i]? with
 |some t=>∃es,R.rel F y.x es w/\cs=[.iface t (cL R.agg es)]
 |none=>cs=[.nilIface]
theorem r8{ts:List TypeId}[R:Rp α]{F:Nat->Prop}{y:gQ ts α}{t:TypeId}(h:ts[y.i]? =some t):um F y cs w↔∃es,R.rel F y.x es w/\cs=[.iface t (cL R.agg es)]:=by unfold um;rw[h]
theorem rD{ts:List TypeId}[R:Rp α]{F:Nat->Prop}{y:gQ ts α}(h:ts[y.i]? =none):um F y cs w↔cs=[.nilIface]:=by unfold um;rw[h]
theorem Nr{ts:List TypeId}[R:Rp α]{F:Nat->Prop}{y:gQ ts α}(h:um F y cs w):∃v,cs=[v]/\v.oneCell'=true:=by
 cases z:ts[y.i]? with
 |some t=>obtain⟨es,_,rfl⟩:=(r8 z).1 h;exact⟨_,rfl,rfl⟩
 |none=>exact⟨_,(rD z).1 h,rfl⟩
instance{ts:List TypeId} {α:Type} [R:Rp α]:Rp (gQ ts α)where
 n:=1
 agg:=false
 na:=λ_=>rfl
 rel:=um
 len:=λ_ _ _ _ h=>by obtain⟨_,rfl,_⟩:=Nr h;rfl
 one:=λ_ _ _ _ h=>by obtain⟨_,rfl,A⟩:=Nr h;simpa using A
 aD:=λF F' y cs w w' I E h=>by
  cases z:ts[y.i]? with
  |some t=>obtain⟨es,A,D⟩:=(r8 z).1 h;exact(r8 z).2 ⟨es,R.aD F F' y.x es w w' I E A,D⟩
  |none=>exact(rD z).2 ((rD z).1 h)
instance{ts:List TypeId} {α:Type} [R:Rp α] [E:Flat α]:Flat (gQ ts α):=⟨λF F' y cs w w' h=>by
 cases z:ts[y.i]? with
 |some t=>obtain⟨es,A,D⟩:=(r8 z).1 h;exact(r8 z).2 ⟨es,E.flat _ _ _ _ _ _ A,D⟩
 |none=>exact(rD z).2 ((rD z).1 h)⟩
theorem QA{ts:List TypeId}[R:Rp α]{F:Nat->Prop}{y:gQ ts α}(h:cX F y v w):(∃t u,ts[y.i]? =some t/\v= .iface t u/\cX F y.x u w)\/ts[y.i]? =none/\v= .nilIface:=by
 obtain⟨cs,z,rfl⟩:=h;cases A:ts[y.i]? with
 |some t=>obtain⟨es,D,rfl⟩:=(r8 A).1 z;exact .inl ⟨t,_,rfl,rfl,es,D,rfl⟩
 |none=>rw[(rD A).1 z];exact .inr ⟨rfl,rfl⟩
theorem Xs{ts:List TypeId}[R:Rp α]{x:α}{F:Nat->Prop}:Rp.rel F (⟨ts.length,x⟩:gQ ts α) [.nilIface] w:=(rD (by simp)).2 rfl
def tI(ts:List TypeId)(n a:Nat):Bool:=bt n ts.length&&ts.zipIdx.all λp=>ct p.1 a==ct p.2 n
theorem M'{ts:List TypeId}{a:Nat}(h:tI ts n a=true)(z:ts[j]? =some t):ct t a=ct j n:=by unfold tI at h;rw[gg]at h;have:=i_.1 h.2 (t,j) (by rw[List.mem_zipIdx_iff_getElem?];exact z);exact eq_of_beq this
theorem QC{ts:List TypeId}{a:Nat}(h:tI ts n a=true):ts[n]? =some a:=by
 have h':=h;unfold tI at h;rw[gg]at h;have z:n<ts.length:=by simpa [fu]using h.1
 have A:=M' h' (ek z);have:ts[n]=a:=iI (by rw[A];simp);rw[ek z,this]
def Vj:TypeDesc->Bool
 | .interface _=>false
 |_=>true
structure wW(P:Program)(t:TypeId):Prop where
 h:∃d,P.underlying t=some d/\Vj d=true
structure zY{α:Type}[R:Rp α](P:Program)(t:TypeId)(z:α):Prop where
 h:∃zs:Array Value,(P.info? t).bind (·.zero)=some (.agg zs)/\R.agg=true/\∀w,R.rel (λ_=>False) z zs.toList w
structure GU(P:Program)(ts:List TypeId)(name:String)(ks:List FuncId):Prop where
 len:ts.length=ks.length
 h:∀(j:Nat) (t:TypeId),ts[j]? =some t->∃k:FuncId,ks[j]? =some k/\∀(v:Value) (args:Array Value) (w:World),(callMethod (.iface t v) name args).run P w= .ok (.enter k (#[v]++args)) w
section
variable{dO:Option Nat}
theorem ah.EN{ts:List TypeId}[R:Rp α]{t:TypeId}{T:List Nat}(O:tI ts n t=true)(U:wW X.P t)(hx:Has G x (aa.rep T y)):
  ah X G ⟨dO, .makeInterface t x,ty,pos,af,gd⟩ (aa.rep T (⟨n,y⟩:gQ ts α)):=
 bL λa w g D=>by
  obtain⟨es,E,z⟩:=hx a w g D;obtain⟨d,hd,A⟩:=U.h;refine⟨.iface t (a.eval x),?_,[.iface t (a.eval x)],(r8 (QC O)).2 ⟨es,E,by rw[z]⟩,rfl⟩;unfold execOp;have I:(Instr.makeInterface t (a.eval x)).run X.P w= .ok (.iface t (a.eval x)) w:=by unfold Instr.makeInterface;simp only[cU,run_underlying hd,eA];cases d<;>first|rfl|(cases A)
  simp[I]
theorem ah.Gf{ts:List TypeId}[R:Rp α][ae:Flat α]{A it:TypeId}{T:List Nat}{y:gQ ts α}{z:α}(ag:tI ts n A=true)(am:wW X.P A)(an:zY X.P A z)(hx:Has G x (aa.rep T y)):
  ah X G ⟨dO, .typeAssert x it A true,ty,pos,af,gd⟩ (.cP (aa.rep [] (bif ct y.i n then y.x else z)) (aa.rep [] (ct y.i n))):=
 bL λa w g aq=>by
  obtain⟨d,hd,V⟩:=am.h;obtain⟨zs,D,al,ak⟩:=an.h;have Y:(zeroValue A).run X.P w= .ok (.agg zs) w:=by
   cases W:X.P.info? A with
   |none=>rw[W]at D;cases D
   |some i=>rw[W]at D;simp at D;simp[zeroValue,typeInfo,W,D]
  have ad:cX (λb=>g.om b∈([]:List Nat)) z (.agg zs) w:=by refine⟨zs.toList,ae.flat _ _ _ _ _ _ (ak w),?_⟩;show mn zs=cL R.agg zs.toList;rw[al];simp[cL]
  rcases QA (hx a w g aq)with⟨t,u,E,U,es,ap,ar⟩|⟨E,U⟩
  case inr=>
   have ac:ct y.i n=false:=by
    cases O:ct y.i n with
    |false=>rfl
    |true=>
     have ao:=iI O;rw[ao,QC ag]at E;cases E
   have I:(J7 .nilIface it A true).run X.P w= .ok (.tuple #[.agg zs, .bool false]) w:=by unfold J7;simp only[cU,run_underlying hd,eA];cases d<;>first|(cases V;done)|simp[Y]
   refine⟨.tuple #[.agg zs, .bool false],by unfold execOp;simp[U,I],_,_,rfl,?_,dw.2 (by rw[ac])⟩;rw[ac];exact ad
  have Z:=M' ag E;have I:(J7 (.iface t u) it A true).run X.P w= .ok (.tuple #[bif ct y.i n then u else .agg zs, .bool (ct y.i n)]) w:=by
   unfold J7;simp only[cU,run_underlying hd,eA];by_cases hta:t=A
   .have:ct y.i n=true:=by rw[<-Z,hta];simp
    cases d<;>first|(cases V;done)|simp[hta,this]
   .have:ct y.i n=false:=by
     rw[<-Z];cases O:ct t A with
     |false=>rfl
     |true=>exact(hta (iI O)).elim
    cases d<;>first|(cases V;done)|simp[hta,this,Y]
  refine⟨.tuple #[bif ct y.i n then u else .agg zs, .bool (ct y.i n)],by unfold execOp;simp[U,I],_,_,rfl,?_,dw.2 rfl⟩;cases ct y.i n with
  |true=>exact⟨es,ae.flat _ _ _ _ _ _ ap,ar⟩
  |false=>exact ad
theorem ah.FW{ts:List TypeId}[R:Rp α][an:Flat α]{m:gQ ts α}{y:Operand}{D:String}{d:Option Nat}{xs:List Operand}(T:List Nat)(t:Nat)(am:Nat.ble 10 t=true)(W:GU X.P ts D ks){Ty':List Nat}(ar:Has G y (aa.rep Ty' m))(I:∃k,ks[m.i]? =some k/\enters X.P k=true/\gl X.P k (.rep 0 m.x::pre) out shc)(hx:bX G T xs pre)(A:out.f (cT t T shc)=f:=by rfl):
  ah X G ⟨d, .call {callee:= .invoke y D,args:=xs.toArray,argTypes:=ats},ty,pos,af,gd⟩ f:=A▸λa w g aC ak ao A K Q az=>by
 have ac:10<=t:=by simpa using am
 obtain⟨k,V,aB,I⟩:=I;have ag:m.i<ts.length:=by rw[W.len];exact(List.getElem?_eq_some_iff.1 V).1
 rcases QA (ar a w g A)with⟨aA,u,z,E,es,O,ay⟩|⟨z,_⟩
 case inr=>rw[List.getElem?_eq_getElem ag]at z;cases z
 obtain⟨k',U,ae⟩:=W.h _ _ z;have ad:k'=k:=by rw[V]at U;exact(Option.some.inj U).symm
 subst ad;have Y:=I w g T (u::xs.map a.eval) ⟨⟨es,an.flat _ _ _ _ _ _ O,ay⟩,hx.nz A⟩;have Z:(execOp a.eval ⟨d, .call {callee:= .invoke y D,args:=xs.toArray,argTypes:=ats},ty,pos,af,gd⟩).run X.P w= .ok (.enter k' (u::xs.map a.eval).toArray) w:=by have av:=ae u (xs.map a.eval).toArray w;have aq:(List.map a.eval xs).take xs.length=List.map a.eval xs:=List.take_of_length_le (by simp);unfold execOp;simp[resolve,E,invoke,aq];simpa using av
 unfold Oper.wp;rw[Z];refine Calls.mono Y ?_;rintro e w' ⟨v,rfl,aw,cls,al⟩;refine az v w' ⟨aw,GL.gr g w.heap.size t cls,ao.gr ac ak.size,λb ap=>by simp[GL.gr,ap],λ_=>rfl,?_⟩;refine al _ _ ?_ ?_
 .intro b z _;simp only[GL.gr,cT];rw[if_neg (Nat.not_lt.2 z)];cases shc.elem (cls b)<;>simp
 .intro b c z E O;simp only[GL.gr,cT];rw[if_pos z,show shc.elem c=true by simpa using O];simp[E]
end
def aa.gE(f1 f2 f3 f4:aa):aa where
 bj:=f1.bj++(f2.bj++(f3.bj++f4.bj))
 ids:=f1.ids++(f2.ids++(f3.ids++f4.ids))
 p:=λg v w=>∃U I E O,v= .tuple #[U,I,E,O]/\f1.p g U w/\f2.p g I w/\f3.p g E w/\f4.p g O w
 aD:=λg g' v w w' z h=>by
  obtain⟨U,I,E,O,Y,Z,V,W,ac⟩:=h;refine⟨U,I,E,O,Y,f1.aD g g' U w w' ⟨z.size,λb D A=>z.block b D ?_,λt A=>z.ids t ?_⟩ Z,f2.aD g g' I w w' ⟨z.size,λb D A=>z.block b D ?_,λt A=>z.ids t ?_⟩ V,
   f3.aD g g' E w w' ⟨z.size,λb D A=>z.block b D ?_,λt A=>z.ids t ?_⟩ W,f4.aD g g' O w w' ⟨z.size,λb D A=>z.block b D ?_,λt A=>z.ids t ?_⟩ ac⟩<;>simp[A]
def bm.gE(s1 s2 s3 s4:bm):bm where
 f:=λT=>aa.gE (s1.f T) (s2.f T) (s3.f T) (s4.f T)
 tg:=λT t h=>(dx.1 h).elim (s1.tg T t) (λh=>(dx.1 h).elim (s2.tg T t) (λh=>(dx.1 h).elim (s3.tg T t) (s4.tg T t)))
 gK:=λT=>by show(s1.f T).ids++((s2.f T).ids++((s3.f T).ids++(s4.f T).ids))=[];rw[s1.gK,s2.gK,s3.gK,s4.gK];rfl
 re:=λT T' g g' v w z h=>by obtain⟨I,D,A,E,V,W,O,U,Y⟩:=h;exact⟨I,D,A,E,V,s1.re T T' g g' I w z W,s2.re T T' g g' D w z O,s3.re T T' g g' A w z U,s4.re T T' g g' E w z Y⟩
section
variable{d:Option Nat}
theorem ah.WR(hx:Has G x (aa.gE f1 f2 f3 f4)):ah X G ⟨d, .extract x 0,ty,pos,af,gd⟩ f1:=
 bL λa w g A=>by obtain⟨E,O,I,U,z,D,_⟩:=hx a w g A;exact⟨E,by unfold execOp;simp[z,nV],D⟩
theorem ah.Th(hx:Has G x (aa.gE f1 f2 f3 f4)):ah X G ⟨d, .extract x 1,ty,pos,af,gd⟩ f2:=
 bL λa w g D=>by obtain⟨U,z,I,O,A,_,E,_⟩:=hx a w g D;exact⟨z,by unfold execOp;simp[A,nV],E⟩
theorem ah.V0(hx:Has G x (aa.gE f1 f2 f3 f4)):ah X G ⟨d, .extract x 2,ty,pos,af,gd⟩ f3:=
 bL λa w g D=>by obtain⟨U,I,z,O,A,_,_,E,_⟩:=hx a w g D;exact⟨z,by unfold execOp;simp[A,nV],E⟩
theorem ah.Vz(hx:Has G x (aa.gE f1 f2 f3 f4)):ah X G ⟨d, .extract x 3,ty,pos,af,gd⟩ f4:=
 bL λa w g A=>by obtain⟨U,O,I,E,z,_,_,_,D⟩:=hx a w g A;exact⟨E,by unfold execOp;simp[z,nV],D⟩
end
section
variable{fn:Func}{w0:World}{C:Nat->Prop}{om:Nat->Nat}{T:List (List Nat)}
theorem aH.RC{s1 s2 s3 s4:bm}{r1 r2 r3 r4:ResultVar}(U:fn.results= #[r1,r2,r3,r4])(al:bW P G r1 (s1.f (λc=>T.getD c [])))(Z:bW P G r2 (s2.f (λc=>T.getD c [])))(ak:bW P G r3 (s3.f (λc=>T.getD c [])))(am:bW P G r4 (s4.f (λc=>T.getD c []))):
  aH ⟨P,n,w0,C,om,none,[]⟩ G (bodyPost P fn (kP ⟨P,n,w0,C,om,none,[]⟩ (.gE s1 s2 s3 s4) T)) .ret:=λa w e=>by
 obtain⟨g,ac,z⟩:=e.facts;obtain⟨Y,O,D⟩:=al a w g z;obtain⟨W,ad,E⟩:=Z a w g z;obtain⟨ag,V,I⟩:=ak a w g z;obtain⟨ae,aa,A⟩:=am a w g z;refine⟨e.defers, .tuple #[Y,W,ag,ae],?_,_,rfl,e.fr,g,ac,_,_,_,_,rfl,D,E,I,A⟩;rw[m4,U];simp[Array.mapM_eq_mapM_toList,nb,O,ad,V,aa]
end
section
variable{J:S->List It}{F:S->Prop}{d:Option Nat}{u:Nat->Value}{fn:Func}
theorem aH.WZ{r1 r2 r3 r4:ResultVar}(p:S)(ad:F p)(hd:mg d X.n=true)(aa:fn.results= #[r1,r2,r3,r4])(aq:bW X.P G r1 f1)(ag:bW X.P G r2 f2)(ao:bW X.P G r3 f3)(ar:bW X.P G r4 f4)(ap:bK G u d (.gE f1 f2 f3 f4) (J p)):
  aH ⟨X.P,n,X.w0,X.C,X.dE,none,[]⟩ G (bodyPost X.P fn (jj X J F d u)) .ret:=λa w e=>by
 obtain⟨g,al,z⟩:=e.facts;obtain⟨D,Z,U⟩:=aq a w g z;obtain⟨A,am,V⟩:=ag a w g z;obtain⟨I,ac,Y⟩:=ao a w g z;obtain⟨E,ak,O⟩:=ar a w g z;refine⟨e.defers, .tuple #[D,A,I,E],?_,_,rfl,p,ad,λae an W hu=>yH (f0:= .gE f1 f2 f3 f4) (yR hd) e al z ⟨D,A,I,E,rfl,U,V,Y,O⟩ ap ae an W hu⟩;rw[m4,aa];simp[Array.mapM_eq_mapM_toList,nb,Z,am,ac,ak]
end
structure Er(P:Program)(t e:TypeId)(n:Nat):Prop where
 h:P.underlying t=some (.array n e)
section
variable{d:Option Nat}
theorem OA{α:Type}[R:Rp α]{g:Gh}{w:World}:∀(l:List α) (cs:List Value),bk g w (l.map λy=>(false,1,aa.rep [] y)) cs->cs.length=l.length/\∀(i:Nat) (y:α),l[i]? =some y->∃u,cs[i]? =some u/\cX (λb=>g.om b∈([]:List Nat)) y u w
 |[],cs,h=>by have:cs=[]:=h;subst this;exact⟨rfl,λi y z=>by simp at z⟩
 |x::l,cs,h=>by
  obtain⟨c1,U,rfl,E,V,W,I,A⟩:=h;obtain⟨D,O⟩:=OA l U A
  match c1,E with
  |[u],_=>
   refine⟨by simp[D],λi y z=>?_⟩;cases i with
   |zero=>simp at z;subst z;exact⟨u,rfl,I⟩
   |succ i=>simpa using O i y (by simpa using z)
theorem ah.O6[R:Rp α]{i:Operand}{n:Int}{T:List Nat}{t e:TypeId}(z:idx l n=some r)(ac:Er X.P t e N)(an:l.length=N)(D:Ty X.P e α)(E:R.agg=false)(hx:Has G x (.aK (l.map λy=>(false,1,aa.rep [] y))))(ak:Has G i (aa.rep T n)):ah X G ⟨d, .index t x i,ty,pos,af,gd⟩ (aa.rep [] r):=
 bL λa w g I=>by
  obtain⟨cs,Z,W⟩:=hx a w g I;have ad:=cD.1 (ak a w g I);obtain⟨am,ae⟩:=OA l cs W;have U:0<=n/\n<N/\l[n.toNat]? =some r:=by
   unfold idx at z;split at z
   .rename_i A;have O:=(cy.1 z).1;exact⟨A,by omega,z⟩
   .cases z
  obtain⟨A,O,Y⟩:=U;obtain⟨u,hu,V⟩:=ae _ _ Y;refine⟨u,?_,V⟩;have ag:(oX e).run X.P w= .ok 1 w:=by rw[gD D,R.na E]
  have al:cs.toArray[n.toNat]? =some u:=by simpa using hu
  unfold execOp;simp[Z,ad,cL,Instr.index,asIntOf,run_underlying ac.h,A,O,ag,part,wq D,E,hu]
end
structure kM(ks:List FuncId)(β:Type)where
 i:Nat
 x:β
 deriving Inhabited,DecidableEq
instance{ks:List FuncId} {β:Type} [R:Rp β]:Rp (kM ks β)where
 n:=1
 agg:=false
 na:=λ_=>rfl
 rel:=λF y cs w=>∃k es,jl ks y.i=some k/\R.rel F y.x es w/\cs=[.func (.func k) #[cL R.agg es] #[]]
 len:=λ_ _ _ _ h=>by obtain⟨_,_,_,_,h⟩:=h;rw[h];rfl
 one:=λ_ _ _ _ h=>by obtain⟨_,_,_,_,h⟩:=h;rw[h];simp[j_]
 aD:=λF F' y cs w w' I D h=>by obtain⟨k,es,E,z,A⟩:=h;exact⟨k,es,E,R.aD F F' y.x es w w' I D z,A⟩
theorem Cv.zP[R:Rp β]{k:FuncId}{T:List Nat}{y:β}(h:jl ks n=some k)(U:Cv G f (aa.rep T y)):Cv G (.ef k [f] []) (aa.rep T (⟨n,y⟩:kM ks β)):=λa w g v W Y=>by
 obtain⟨us,z,rfl,Z,D⟩:=Y;have V:z=[]:=by cases z with
  |nil=>rfl
  |cons _ _=>cases D
 subst V;obtain⟨u,A,rfl,O,ac⟩:=Z;have I:A=[]:=ac;subst I;obtain⟨es,E,rfl⟩:=U a w g u W O;exact⟨_,⟨k,es,h,E,rfl⟩,rfl⟩
theorem ah.Xx[R:Rp β]{m:kM ks β}{y:Operand}{d:Option Nat}{xs:List Operand}{Ty':List Nat}(T:List Nat)(t:Nat)(al:Nat.ble 10 t=true)(an:Has G y (aa.rep Ty' m))(ae:ep Ty' T=true)(E:∃k,jl ks m.i=some k/\enters X.P k=true/\gl X.P k (.rep 0 m.x::pre) out shc)(hx:bX G T xs pre)(A:out.f (cT t T shc)=f:=by rfl):
  ah X G ⟨d, .call {callee:= .value y,args:=xs.toArray,argTypes:=ats},ty,pos,af,gd⟩ f:=A▸λa w g ar ac am A K Q aq=>by
 have W:10<=t:=by simpa using al
 obtain⟨k,V,ag,E⟩:=E;obtain⟨cs,⟨k',es,z,D,rfl⟩,ad⟩:=an a w g A;have Y:k'=k:=by rw[V]at z;exact(Option.some.inj z).symm
 subst Y;have Z:a.eval y= .func (.func k') #[cL R.agg es] #[]:=ad;have O:=E w g T (cL R.agg es::xs.map a.eval) ⟨⟨es,R.aD _ _ _ _ w w (Nat.le_refl _) (λb _ I=>⟨rfl,fH ae _ I⟩) D,rfl⟩,hx.nz A⟩;have U:(execOp a.eval ⟨d, .call {callee:= .value y,args:=xs.toArray,argTypes:=ats},ty,pos,af,gd⟩).run X.P w= .ok (.enter k' (cL R.agg es::xs.map a.eval).toArray) w:=by unfold execOp;simp[resolve,Deferred.ofValue,Z,invoke,mq ag]
 unfold Oper.wp;rw[U];refine Calls.mono O ?_;rintro e w' ⟨v,rfl,ap,cls,ak⟩;refine aq v w' ⟨ap,GL.gr g w.heap.size t cls,am.gr W ac.size,λb I=>by simp[GL.gr,I],λ_=>rfl,?_⟩;refine ak _ _ ?_ ?_
 .intro b z _;simp only[GL.gr,cT];rw[if_neg (Nat.not_lt.2 z)];cases shc.elem (cls b)<;>simp
 .intro b c z D ao;simp only[GL.gr,cT];rw[if_pos z,show shc.elem c=true by simpa using ao];simp[D]
theorem Ad.JU{s:Nat}{k:FuncId}{T:List Nat}{m:bI ks}(A:ay G s=some (aa.rep T m))(z:ct m.i n=true)(D:jl ks n=some k):Ad X G (.ae s (.ef k [] [])::G):=
 Ad.cv A (λa w g v _ h=>by rw[yQ.1 h,iI z,D];exact⟨[],[],rfl,rfl,rfl⟩)
section
variable{Q:Exit->Act->World->Prop}
theorem R_(I:Co ops AH Is)(ag:∀(i:Nat) (o:Oper),ops[i]? =some o->cI X ops (cB AH Is G i ops.size) o (gG Is i)/\eC o.op=true)(aA:∀L a w,BL X ops AH Is G L a w->iV ops L=0->Q .normal a w):
  ∀(fuel:Nat) (L:Array Bool) (a:Act) (w:World),BL X ops AH Is G L a w->iV ops L=fuel->wpAnyIn {nS with round:=X.rd} 0 X.P .any ops Q fuel L a w:=by
 intro fuel;induction fuel with
 |zero=>
  intro L a w A hu;refine⟨?_,aA L a w A hu⟩;cases az:qN .any ops L with
  |nil=>rfl
  |cons x l=>
   have hx:x∈qN .any ops L:=by rw[az];exact ml
   obtain⟨E,o,ho,_⟩:=mem_ready.1 hx;have:=rB hu x (Array.getElem?_eq_some_iff.1 ho).1;rw[this]at E;cases E
 |succ fuel aB=>
  intro L a w A hu;refine⟨λh=>(IB I A.im (by omega) h).elim,λi aC=>?_⟩;obtain⟨E,o,ho,ap⟩:=mem_ready.1 aC;have U:i<ops.size:=(Array.getElem?_eq_some_iff.1 ho).1;have ae:i<L.size:=by rw[A.im];exact U
  have ak:L.getD i false=false:=by rw[mY ae false true];exact E
  have aa:∀j,j∈ij AH i->L.getD j true=true:=by
   intro j z;obtain⟨aE,e,D,an,aw⟩:=I.mr i o ho j z;have av:=ap e D an;have V:=I.after i o ho e D an;have ac:L.getD e.on true=true:=LR (by rw[A.im];omega) av;rcases aw with rfl|W
   .exact ac
   .exact A.mr e.on (by omega) ac j W
  have V:∀j,L.getD j false=true->j<ops.size:=λj z=>by
   rcases mh j L.size with h|h
   .rw[<-A.im];exact h
   .rw[Array.getD_eq_getD_getElem?,Array.getElem?_eq_none h]at z;cases z
  have ad:∀j,L.getD j false=true->i∉ij AH j:=λj z W=>by have O:=V j z;have:=A.mr j O (by rw[mY (by rw[A.im];exact O) true false];exact z) i W;rw[this]at E;cases E
  have aq:Sub (gz Is L G ops.size) (cB AH Is G i ops.size):=(HV ak (λj z=>by
   have O:j<ops.size:=by have:=(I.mr i o ho j z).1;omega
   rw[mY (by rw[A.im];exact O) false true];exact aa j z) ad ops.size).sub
  have Z:=(ag i o ho).1 _ aq a w A.env;have ay:=(ag i o ho).2;have Y:∀v w',Env X (gG Is i++gz Is L G ops.size) (a.put o.dst v) w'->wpAnyIn {nS with round:=X.rd} 0 X.P .any ops Q fuel (L.setIfInBounds i true) (a.put o.dst v) w':=by
   intro v w' D;refine aB _ _ _ ⟨D.sub (Hn ae ak (λj ar z=>?_) ops.size U).sub,by simp[A.im],?_⟩ ?_
   .rcases I.pair j i (V j z) ar with h|h
    .exact(ad j z h).elim
    .exact h
   .intro j z al k am;by_cases D:i=j
    .subst D;have:=aa k am;by_cases hik:i=k
     .subst hik;rw[E]at this;cases this
     .rw[getD_set_ne true hik];exact this
    .rw[getD_set_ne true D]at al;have:=A.mr j z al k am;by_cases hik:i=k
     .subst hik;rw[E]at this;cases this
     .rw[getD_set_ne true hik];exact this
   .have:=yF U A.im E;omega
  unfold wpOpIn;rw[ho];simp only[];cases ao:gH o (yielded ops a.tmps)with
  |true=>
   simp only[if_true];exact sB ay (Z.1 ao _ _ (λv w' D=>Y v w' D))
  |false=>
   simp only[kY,if_false];exact⟨λ_ _=>trivial,Y undef w (Z.2 ao)⟩
theorem aO.Iy{id:Nat}{l:List Oper}(AH:List (List Nat))(Is:List (List It))(ad:X.P.follows .mixedOrders=true)(aa:vw l.toArray AH Is=true)(Z:jR X l.toArray AH Is G l.length l 0)(h:aH X (p8 Is G) Q .normal)(V:l.all (λo=>eC o.op)=true:=by rfl):aO X G (.region id l.toArray true) Q:=λa w env=>by
 have E:=Lv aa;refine wpIn_region_any ad ?_;refine R_ (X:=X) (AH:=AH) (Is:=Is) (G:=G) E ?_ ?_ l.toArray.size (Array.replicate l.toArray.size false) a _ ?_ ?_
 .intro i o ho;have U:l[i]? =some o:=by simpa using ho
  have:=jR.get l 0 Z i o U;exact⟨by simpa using this,List.all_eq_true.1 V o (List.mem_of_getElem? U)⟩
 .intro L Y w' O hu;have I:=O.env;rw[H9 _ (by rw[E.Fz];exact Nat.le_refl _) (λi z=>by rw[mY (by rw[O.im];exact z) false true];exact rB hu i z)]at I;rw[<-E.Fz,List.take_length]at I;exact h Y w' I
 .refine⟨?_,by simp,?_⟩
  .rw[HC _ (λi z=>by rw[mY (by simpa using z) false true];exact pB z)];obtain⟨g,D,ac⟩:=env.facts;refine⟨env.size,env.defers,env.fr.drew,g,⟨⟨D.ok.ec,λb ae W=>D.ok.new b ae W⟩,D.om⟩,λs f A=>?_⟩;exact f.aD g g _ w _ ⟨Nat.le_refl _,λb _ _=>⟨rfl,rfl⟩,λ_ _=>rfl⟩ (ac s f A)
  .intro i z A;rw[pB z]at A;cases A
 .unfold iV;rw[List.countP_eq_length.2]
  .simp
  .intro i z;rw[pB (List.mem_range.1 z)];rfl
def N6{S:Type}(X:Cx)(z:S->fK->List It)(R:S->Prop):Act->World->Prop:=λa w=>∃p ρ,R p/\Env ⟨X.P,X.n,X.w0,X.C,X.dE,none,[ρ.mark]⟩ (z p ρ) a w
theorem aO.Ns(A:S->fK->List It)(R:S->Prop){x y:Code}(V:∀p ρ,R p->aO ⟨X.P,X.n,X.w0,X.C,X.dE,none,[ρ.mark]⟩ (A p ρ) y Q)(h:aO X G x (Exit.then (N6 X A R) Q))(E:X.rd=none:=by rfl):aO X G (.seq x y) Q:=λa w e=>
 wpIn_seq (Code.wpIn_mono (λI O w' z=>by
  cases I with
  |normal=>
   obtain⟨p,ρ,U,D⟩:=z;have:=V p ρ U O w' D;rw[Cx.pZ E];rw[Cx.pZ rfl]at this;exact this
  |exit id=>exact z
  |goto l=>exact z
  |ret=>exact z
  |panic W=>exact z
  |outgrown=>exact z) (h a w e))
theorem jJ.yv{l:Nat}:jJ (.yv l):=λg v w h=>by subst h;exact⟨rfl,rfl⟩
theorem aH.Ce{w0:World}{C:Nat->Prop}{om:Nat->Nat}{rd:Option Nat}{ds:List Deferred}{z:S->fK->List It}{R:S->Prop}(p:S)(ρ:fK)(A:R p)(h:Sub G (z p ρ)):
 aH ⟨P,n,w0,C,om,none,[ρ.mark]⟩ G (Exit.then (N6 ⟨P,n,w0,C,om,rd,ds⟩ z R) Q) .normal:=λ_ _ e=>⟨p,ρ,A,e.sub h⟩
end
class cj(P:Program)(e:TypeId)(α:outParam Type)(R:outParam (Rp α)):Prop where
 h: @Ty P e α R
class aY(P:Program)(s:TypeId)(i:Nat)(off n:outParam Nat):Prop where
 h:mE P s i off n
class dh(P:Program)(t:TypeId)(d:outParam TypeDesc):Prop where
 h:P.underlying t=some d
class dg{α:Type}(R:Rp α)(es:outParam (α->List hZ)):Prop where
 h:∀y,Ch y (es y)
theorem Has.c8{k:Int}(h:((qG k.toNat).toNat:Int)=k):Has G (.const (.int .u8 k)) (aa.rep [] (qG k.toNat)):=Has.u8 _ h
theorem Has.UA{k:Int}(h:((vk k.toNat).toNat:Int)=k):Has G (.const (.int .u32 k)) (aa.rep [] (vk k.toNat)):=Has.u32 _ h
theorem HH(h:Has G x f:=by first|exact ai rfl|exact e_|exact Has.bool|exact Has.dM|exact Has.yT|exact dD rfl (by assumption)|exact Has.c8 rfl|exact Has.UA rfl):Has G x f:=h
theorem UF{x:Nat}(h:ay G x=some (.aL t):=by rfl)(ho:ay G (rs t)=some (.obj t ps):=by rfl):Has G (.tmp x) (.cJ t 0):=aV (ai h) (Cv.eG ho)
theorem Vd{x:Nat}{c:Prop}(z:c)(h:ay G x=some (aa.c_ c (.aL t)):=by rfl)(ho:ay G (rs t)=some (.obj t ps):=by rfl):Has G (.tmp x) (.cJ t 0):=aV (dD h z) (Cv.eG ho)
theorem HP{o:Nat}(h:Has G x (.cJ t o):=by first|exact ai rfl|exact UF|exact dD rfl (by assumption)|exact Vd (by assumption)):Has G x (.cJ t o):=h
theorem Dw(l m:List Nat)(h:∀t,t∈l->t∈m):ep l m=true:=by
 induction l with
 |nil=>rfl
 |cons a l A=>
  simp only[ep,gg];exact⟨by simpa using h a (by simp),A λt z=>h t (by simp[z])⟩
theorem Cv.wm[R:Rp α]{T te:List Nat}{e:TypeId}:Cv G (aa.ow T te e l) (aa.rep (T++te) l):=bq Cv.iS (Cv.iR (Dw _ _ λ_ h=>gY _ h) (Dw _ _ λ_ h=>gh _ h))
theorem HL[Rp α]{T:List Nat}(h:Has G x (aa.rep T l):=by first|exact ai rfl|exact dD rfl (by assumption)|exact aV (ai rfl) Cv.wm|exact aV (dD rfl (by assumption)) Cv.wm|exact aV (ai rfl) (Cv.own rfl)):Has G x (aa.rep T l):=h
section
variable{Q:Exit->Act->World->Prop}{d:Option Nat}{y:Operand}{t:TypeId}
theorem I(h:Has G x f:=by exact HH):ah X G ⟨d, .assign x,ty,pos,af,gd⟩ f:=ah.assign h
theorem E(h:Has G x f:=by exact HH):ah X G ⟨d, .move x,ty,pos,af,gd⟩ f:=ah.move h
theorem xM{c:Prop}{s:Nat}(z:c:=by assumption)(h:ay G s=some (f.c_ c):=by rfl):ah X G ⟨d, .move (.tmp s),ty,pos,af,gd⟩ f:=ah.move (dD h z)
theorem xf{s:TypeId}{o o':Nat}[h:aY X.P s i off n](hx:Has G x (.cJ q o):=by exact HP)(ho:o+off=o':=by first|(simp only[Nat.reduceAdd,Nat.reduceMul];rfl)|rfl):ah X G ⟨d, .fieldAddr s x i,ty,pos,af,gd⟩ (.cJ q o'):=ah.nm h.h hx ho
theorem xp{s:TypeId}{T:List Nat}[R:Rp α][D:Rp β]{y:α}{z:β}{es:α->List hZ}[h:aY X.P s i off n](hx:Has G x (aa.ptr T y):=by exact HH)(A:dg R es:=by infer_instance)(E:qC (es y) i=some (off,⟨D,z⟩):=by rfl):
 ah X G ⟨d, .fieldAddr s x i,ty,pos,af,gd⟩ (aa.ptr T z):=ah.WQ h.h (A.h y) E hx
theorem xl{e:TypeId}{R:Rp α}{t:Nat}[z:cj X.P e α R](hx:Has G x (.cJ t off):=by exact HP)(ho:ay G (rs t)=some (.obj t ps):=by rfl)(E:partAt ps off=some (off,R.agg,R.n):=by rfl)(A:t+1+off=i:=by first|(simp only[Nat.reduceAdd,Nat.reduceMul];rfl)|rfl)(I:100000+i=q:=by first|(simp only[Nat.reduceAdd,Nat.reduceMul];rfl)|rfl)(D:ay G q=some (.at i f):=by rfl):ah X G ⟨d, .load e x,ty,pos,af,gd⟩ f:=by subst A;subst I;exact ic z.h E hx ho (aW D)
theorem xd{R:Rp α}{T:List Nat}[z:cj X.P t α R](hx:Has G x (aa.ptr T r):=by exact HH):ah X G ⟨d, .load t x,ty,pos,af,gd⟩ (aa.rep T r):=ah.load z.h hx
theorem xD{R:Rp α}{T:List Nat}[z:cj X.P t α R][Flat α](hx:Has G x (aa.ptr T r):=by exact HH):ah X G ⟨d, .load t x,ty,pos,af,gd⟩ (aa.rep [] r):=(ah.load z.h hx).flat
theorem xs{R:Rp α}{T te:List Nat}[z:cj X.P t α R](hx:Has G x (aa.sk T te r):=by exact HH):ah X G ⟨d, .load t x,ty,pos,af,gd⟩ (aa.rep te r):=ah.Mx z.h hx
theorem xS{R:Rp α}{T te:List Nat}[z:cj X.P t α R][Flat α](hx:Has G x (aa.sk T te r):=by exact HH):ah X G ⟨d, .load t x,ty,pos,af,gd⟩ (aa.rep [] r):=(ah.Mx z.h hx).flat
theorem xn[Rp α]{T:List Nat}{e:TypeId}[z:dh X.P t (.slice e)](h:Has G x (aa.rep T l):=by exact HL):ah X G ⟨d, .call {callee:= .builtin .len,args:= #[x],argTypes:= #[t]},ty,pos,af,gd⟩ (aa.rep [] (l.length:Int)):=ah.len h z.h
theorem xc{t:Nat}(hx:Has G x (.aL t):=by exact HH)(ho:ay G (rs t)=some (.obj t ps):=by rfl):ah X G ⟨d, .nilCheck x,ty,pos,af,gd⟩ (.aL t):=ah.Wy hx ho
theorem xC[Rp α]{T:List Nat}{y:α}(hx:Has G x (aa.ptr T y):=by exact HH):ah X G ⟨d, .nilCheck x,ty,pos,af,gd⟩ (aa.ptr T y):=ah.Ya hx
theorem xE[Rp α]{T:List Nat}{e:TypeId}[z:dh X.P t (.slice e)](hx:Has G x (aa.rep T l):=by exact HH):ah X G ⟨d, .binOp .eql t x (.const (.slice none 0 0)) t',ty,pos,af,gd⟩ (.H6 l):=ah.YQ z.h hx
theorem xN{T:List Nat}{m:Bool}(hx:Has G x (aa.rep T m):=by exact HH):ah X G ⟨d, .unOp .not t x,ty,pos,af,gd⟩ (aa.rep [] (!m)):=ah.not hx
theorem xo{T:List Nat}{m n:Bool}(z:Has G x (aa.rep T m):=by exact HH)(A:m=false->Has G y (aa.rep T' n):=by intro h;exact HH):ah X G ⟨d, .pick x (.const (.bool true)) y,ty,pos,af,gd⟩ (aa.rep [] (m||n)):=ah.or z A
theorem xO{c:Prop}{s:Nat}{T:List Nat}{m n:Bool}(z:c:=by assumption)(h:ay G s=some ((aa.rep T m).c_ c):=by rfl)(A:m=false->Has G y (aa.rep T' n):=by intro h;exact dD rfl ⟨by assumption,h⟩):ah X G ⟨d, .pick (.tmp s) (.const (.bool true)) y,ty,pos,af,gd⟩ (aa.rep [] (m||n)):=ah.or (dD h z) A
theorem xw{T:List Nat}{m n:Bool}(z:Has G x (aa.rep T m):=by exact HH)(A:m=true->Has G y (aa.rep T' n):=by intro h;exact HH):ah X G ⟨d, .pick x y (.const (.bool false)),ty,pos,af,gd⟩ (aa.rep [] (m&&n)):=ah.and z A
theorem xW{c:Prop}{s:Nat}{T:List Nat}{m n:Bool}(z:c:=by assumption)(h:ay G s=some ((aa.rep T m).c_ c):=by rfl)(A:m=true->Has G y (aa.rep T' n):=by intro h;exact dD rfl ⟨by assumption,h⟩):ah X G ⟨d, .pick (.tmp s) y (.const (.bool false)),ty,pos,af,gd⟩ (aa.rep [] (m&&n)):=ah.and (dD h z) A
theorem aC(h:Has G x (aa.cP f1 f2):=by exact HH):ah X G ⟨d, .extract x 0,ty,pos,af,gd⟩ f1:=ah.W5 h
theorem aB(h:Has G x (aa.cP f1 f2):=by exact HH):ah X G ⟨d, .extract x 1,ty,pos,af,gd⟩ f2:=ah.Zo h
theorem eJ(h:Has G x (aa.eV f1 f2 f3):=by exact HH):ah X G ⟨d, .extract x 0,ty,pos,af,gd⟩ f1:=ah.ZT h
theorem eI(h:Has G x (aa.eV f1 f2 f3):=by exact HH):ah X G ⟨d, .extract x 1,ty,pos,af,gd⟩ f2:=ah.ZS h
theorem eL(h:Has G x (aa.eV f1 f2 f3):=by exact HH):ah X G ⟨d, .extract x 2,ty,pos,af,gd⟩ f3:=ah.Ug h
theorem we(h:Has G x (aa.gE f1 f2 f3 f4):=by exact HH):ah X G ⟨d, .extract x 0,ty,pos,af,gd⟩ f1:=ah.WR h
theorem x_(h:Has G x (aa.gE f1 f2 f3 f4):=by exact HH):ah X G ⟨d, .extract x 1,ty,pos,af,gd⟩ f2:=ah.Th h
theorem yU(h:Has G x (aa.gE f1 f2 f3 f4):=by exact HH):ah X G ⟨d, .extract x 2,ty,pos,af,gd⟩ f3:=ah.V0 h
theorem wa(h:Has G x (aa.gE f1 f2 f3 f4):=by exact HH):ah X G ⟨d, .extract x 3,ty,pos,af,gd⟩ f4:=ah.Vz h
theorem xq{T:List Nat}{m n:Int}(hx:Has G x (aa.rep T m):=by exact HH)(z:Has G y (aa.rep T' n):=by exact HH):ah X G ⟨d, .binOp .neq t x y t',ty,pos,af,gd⟩ (aa.rep [] (m !=n)):=ah.Zf hx z
theorem xe{T:List Nat}{m n:Int}(hx:Has G x (aa.rep T m):=by exact HH)(z:Has G y (aa.rep T' n):=by exact HH):ah X G ⟨d, .binOp .eql t x y t',ty,pos,af,gd⟩ (aa.rep [] (m==n)):=ah.SR hx z
theorem xi{T:List Nat}{m n:Int}(hx:Has G x (aa.rep T m):=by exact HH)(z:Has G y (aa.rep T' n):=by exact HH):ah X G ⟨d, .binOp .lss t x y t',ty,pos,af,gd⟩ (aa.rep [] (decide (m<n))):=ah.Zj hx z
theorem xj{T:List Nat}{m n:Int}(hx:Has G x (aa.rep T m):=by exact HH)(z:Has G y (aa.rep T' n):=by exact HH):ah X G ⟨d, .binOp .leq t x y t',ty,pos,af,gd⟩ (aa.rep [] (decide (m<=n))):=ah.UC hx z
theorem xg{T:List Nat}{m n:Int}(hx:Has G x (aa.rep T m):=by exact HH)(z:Has G y (aa.rep T' n):=by exact HH):ah X G ⟨d, .binOp .gtr t x y t',ty,pos,af,gd⟩ (aa.rep [] (decide (m>n))):=ah.Ws hx z
theorem xh{T:List Nat}{m n:Int}(hx:Has G x (aa.rep T m):=by exact HH)(z:Has G y (aa.rep T' n):=by exact HH):ah X G ⟨d, .binOp .geq t x y t',ty,pos,af,gd⟩ (aa.rep [] (decide (m>=n))):=ah.Q7 hx z
theorem xy{T:List Nat}{m n:Int}(hx:Has G x (aa.rep T m):=by exact HH)(z:Has G y (aa.rep T' n):=by exact HH):ah X G ⟨d, .binOp .add t x y t',ty,pos,af,gd⟩ (aa.rep [] (wI (m+n))):=ah.MI hx z
theorem xz{T:List Nat}{m n:Int}(hx:Has G x (aa.rep T m):=by exact HH)(z:Has G y (aa.rep T' n):=by exact HH):ah X G ⟨d, .binOp .sub t x y t',ty,pos,af,gd⟩ (aa.rep [] (wI (m - n))):=ah.Vs hx z
theorem xk{T:List Nat}{m n:Int}(hx:Has G x (aa.rep T m):=by exact HH)(z:Has G y (aa.rep T' n):=by exact HH):ah X G ⟨d, .binOp .mul t x y t',ty,pos,af,gd⟩ (aa.rep [] (wI (m * n))):=ah.Js hx z
theorem xb{T:List Nat}{m n:UInt8}(hx:Has G x (aa.rep T m):=by exact HH)(z:Has G y (aa.rep T' n):=by exact HH):ah X G ⟨d, .binOp .eql t x y t',ty,pos,af,gd⟩ (aa.rep [] (m==n)):=ah.US hx z
theorem xB{T:List Nat}{m n:UInt8}(hx:Has G x (aa.rep T m):=by exact HH)(z:Has G y (aa.rep T' n):=by exact HH):ah X G ⟨d, .binOp .neq t x y t',ty,pos,af,gd⟩ (aa.rep [] (m !=n)):=ah.TR hx z
theorem za{x y:Code}(h:aO X G x (Exit.then (y.wpIn X.F 0 X.P Q) Q)):aO X G (.seq x y) Q:=aO.seq h
theorem zb{id:Nat}{l:List Oper}(h:br X l.toArray Q G l):aO X G (.region id l.toArray false) Q:=aO.region h
theorem U{id:Nat}{l:List Oper}{y:Code}(h:br X l.toArray (Exit.then (y.wpIn X.F 0 X.P Q) Q) G l):aO X G (.seq (.region id l.toArray false) y) Q:=aO.seq (aO.region h)
theorem M{y:Code}(h:aO X G y Q):br X ops (Exit.then (y.wpIn X.F 0 X.P Q) Q) G []:=h
theorem zz{id:Nat}{l:List Oper}{y:Code}(h:br X l.toArray (Exit.then (y.wpIn X.F 0 X.P Q) Q) G l):br X ops (Exit.then ((Code.seq (.region id l.toArray false) y).wpIn X.F 0 X.P Q) Q) G []:=M (U h)
theorem zt{y:Code}(h:aO X G y Q):aH X G (Exit.then (y.wpIn X.F 0 X.P Q) Q) .normal:=h
theorem zw(h:aH X G Q .normal):br X ops Q G []:=h
theorem zk(h:aH X G Q .normal):aO X G .skip Q:=aO.skip h
theorem ze{id:Nat}(h:aH X G Q (.exit id)):aO X G (.exit id) Q:=aO.exit h
theorem zr(h:aH X G Q .ret):aO X G .ret Q:=aO.ret h
theorem zR{K:Act->World->Prop}(h:aH X G Q .ret):aH X G (Exit.then K Q) .ret:=h
theorem zE{id:Nat}{K:Act->World->Prop}(h:aH X G Q (.exit id)):aH X G (Exit.then K Q) (.exit id):=h
theorem zl{id:Nat}(h:aO X G c (m7 id Q)):aO X G (.block id c) Q:=aO.block h
theorem zh{id:Nat}(h:aH X G Q .normal):aH X G (m7 id Q) .normal:=h
theorem zi{id:Nat}(h:aH X G Q .ret):aH X G (m7 id Q) .ret:=h
theorem zj{id:Nat}(h:aH X G Q .normal):aH X G (m7 id Q) (.exit id):=aH.WV h
end
section
variable{Q:Exit->Act->World->Prop}{rest:List Oper}{op:Op}
theorem zo(h:ah X G ⟨some d,op,ty,pos,af,none⟩ f)(k:br X ops Q (.ae d f::G) rest)(hd:Nat.blt d X.n=true:=by rfl)(z:eC op=true:=by rfl):br X ops Q G (⟨some d,op,ty,pos,af,none⟩::rest):=br.op hd h k z
theorem zg{T:List Nat}(A:(ops[j]?).bind (·.dst)=some dj)(D:ay G dj=some (aa.rep T b))(h:b=want->ah X G ⟨some d,op,ty,pos,af,some (j,want)⟩ f)(k:br X ops Q (.ae d (f.c_ (b=want))::G) rest)(hd:Nat.blt d X.n=true:=by rfl)(z:eC op=true:=by rfl):br X ops Q G (⟨some d,op,ty,pos,af,some (j,want)⟩::rest):=br.mX hd A D h k z
theorem zu{c:Prop}{T:List Nat}(A:(ops[j]?).bind (·.dst)=some dj)(D:ay G dj=some ((aa.rep T b).c_ c))(h:c/\b=want->ah X G ⟨d,op,ty,pos,af,some (j,want)⟩ f)(k:br X ops Q (.ae d (f.c_ (c/\b=want))::G) rest)(hd:Nat.blt d X.n=true:=by rfl)(z:eC op=true:=by rfl):br X ops Q G (⟨some d,op,ty,pos,af,some (j,want)⟩::rest):=br.jY hd A D h k z
end
def fC(G:List It):Nat->Ps->Ls->Prop
 |_,[],ls=>ls=[]
 |i,p::ps,ls=>∃f l,ls=(p.1,p.2,f)::l/\ay G (rs i)=some (.at i f)/\fC G (i+1) ps l
theorem fC.nil:fC G i [] []:=rfl
theorem fC.cons(h:ay G (rs i)=some (.at i f))(k:fC G (i+1) ps ls):fC G i ((b,n)::ps) ((b,n,f)::ls):=⟨f,ls,rfl,h,k⟩
theorem fC.gs:∀{i:Nat} {ps:Ps} {ls:Ls},fC G i ps ls->bJ G i ls/\fk ls=ps
 |_,[],_,h=>by rw[show _=[] from h];exact⟨trivial,rfl⟩
 |i,p::ps,_,⟨f,l,D,A,z⟩=>by subst D;exact⟨bJ.cons (aW A) z.gs.1,by simp only[fk,fh];rw[show l.map (λl=>(l.1,l.2.1))=ps from z.gs.2]⟩
theorem cK.refl:cK ls ls:=λ_ _ _=>Iff.rfl
theorem cK.aaa{inner fl:Ls}(h:cK (inner++ls) fl)(z:g7 inner=n:=by rfl):cK ((true,n, .aK inner)::ls) fl:=λg w cs=>(cK.sub cK.refl z cK.refl g w cs).trans (h g w cs)
class lP(e:TypeId)(f:outParam (Ls->Ls)):Prop where
 t:True
class dF(P:Program)(e:TypeId)(ls:outParam Ls):Prop where
 h:B2 P e ls
class uQ{α:Type}(R:Rp α)(l:outParam (List Nat->α->Ls)):Prop where
 h:∀(G:List It) (T:List Nat) (y:α),Cv G (aa.rep T y) (.aK (l T y))
theorem Sb{R:Rp α}{T:List Nat}{l:List Nat->α->Ls}(z:uQ R l)(k:aX G ls ms):aX G ((true,n,aa.rep T y)::ls) ((true,n, .aK (l T y))::ms):=aX.cons (z.h G T y) k
theorem Rc{a:Bool×Nat×aa}(k:aX G ls ms):aX G (a::ls) (a::ms):=by obtain⟨b,n,f⟩:=a;exact aX.cons Cv.refl k
theorem Zd{l l':Ls}(h:aX G ls ms)(k:aX G l l'):aX G ((b,n, .aK ls)::l) ((b,n, .aK ms)::l'):=aX.cons (di h) k
theorem Xv(h:aX G ls ms:=by repeat first|exact aX.nil|(apply Sb;infer_instance)|apply Zd|apply Rc):aX G ls ms:=h
def gL(l:Ls)(i:Nat):Bool×Nat×aa:=l.getD i (false,0, .top)
theorem rC{fl:Ls}(h:cK ls fl:=by repeat first|exact cK.nil|apply cK.aaa|apply cK.cons|rfl):cK ls fl:=h
section
variable{Q:Exit->Act->World->Prop}{e:TypeId}
theorem xr{d:Option Nat}{R:Rp α}[A:cj X.P e α R](hx:Has G x (.aL t):=by exact HH)(ho:ay G (rs t)=some (.obj t ps):=by rfl)(z:fC G (t+1) ps ls:=by repeat first|exact fC.nil|apply fC.cons|rfl)(D:R.agg=true:=by rfl)(E:g7 ls=R.n:=by kernel_rfl):ah X G ⟨d, .load e x,ty,pos,af,gd⟩ (.aK ls):=ah.FJ A.h D E hx (z.gs.2▸ho) z.gs.1
theorem xR{d:Option Nat}{R:Rp α}{A:Ls}{f:Ls->Ls}[D:cj X.P e α R][V:lP e f](hx:Has G x (.aL t):=by exact HH)(ho:ay G (rs t)=some (.obj t ps):=by rfl)(z:fC G (t+1) ps ls:=by repeat first|exact fC.nil|apply fC.cons|rfl)(E:R.agg=true:=by rfl)(I:g7 ls=R.n:=by kernel_rfl)(O:cK (f ls) ls:=by exact rC)(U:f ls=A:=by rfl):ah X G ⟨d, .load e x,ty,pos,af,gd⟩ (.aK A):=U▸ah.pI O (ah.FJ D.h E I hx (z.gs.2▸ho) z.gs.1)
theorem xP{d:Option Nat}{R:Rp α}[z:cj X.P e α R](hx:Has G x (.cJ t off):=by exact HP)(ho:ay G (rs t)=some (.obj t ps):=by rfl)(O:t+1+off=i:=by first|(simp only[Nat.reduceAdd,Nat.reduceMul];rfl)|rfl)(V:fC G i ((ps.drop off).take R.n) ls:=by repeat first|exact fC.nil|apply fC.cons|rfl)(E:ps.take off++fk ls++ps.drop (off+R.n)=ps:=by rfl)(I:(ps.take off).length=off:=by rfl)(D:kH (ps.take off)=off:=by rfl)(A:R.agg=true:=by rfl)(U:g7 ls=R.n:=by kernel_rfl):
  ah X G ⟨d, .load e x,ty,pos,af,gd⟩ (.aK ls):=by
 subst O;exact ah.HR (i:=off) z.h A E I D U hx ho V.gs.1
theorem hX{d:Option Nat}{R:Rp α}{z:Ls}{f:Ls->Ls}[Z:cj X.P e α R][aa:lP e f](hx:Has G x (.cJ t off):=by exact HP)(ho:ay G (rs t)=some (.obj t ps):=by rfl)(O:t+1+off=i:=by first|(simp only[Nat.reduceAdd,Nat.reduceMul];rfl)|rfl)(V:fC G i ((ps.drop off).take R.n) ls:=by repeat first|exact fC.nil|apply fC.cons|rfl)(E:ps.take off++fk ls++ps.drop (off+R.n)=ps:=by rfl)(I:(ps.take off).length=off:=by rfl)(D:kH (ps.take off)=off:=by rfl)(A:R.agg=true:=by rfl)(U:g7 ls=R.n:=by kernel_rfl)(W:cK (f ls) ls:=by exact rC)(Y:f ls=z:=by rfl):
 ah X G ⟨d, .load e x,ty,pos,af,gd⟩ (.aK z):=Y▸ah.pI W (xP hx ho O V E I D A U)
theorem ya(t:Nat)[E:dF X.P e ls](A:fk ls=ps:=by rfl)(D:Nat.ble 10 t=true:=by rfl)(hd:Nat.blt d X.n=true:=by rfl)(z:jt t t (ls.length+1) ls=true:=by rfl):
 au X G ⟨some d, .alloc e,ty,pos,af,none⟩ ([.ae d (.aL t), .ae (rs t) (.obj t ps)]++ki (t+1) ls (ia (t::iX (t+1) ps) [])):=au.UM t D hd A z E.h
theorem yb(t:Nat)(hx:eY G x ls)(A:fk ls=ps:=by rfl)(D:Nat.ble 10 t=true:=by rfl)(hd:Nat.blt d X.n=true:=by rfl)(z:jt t t (ls.length+1) ls=true:=by rfl):
 au X G ⟨some d, .box e x,ty,pos,af,none⟩ ([.ae d (.aL t), .ae (rs t) (.obj t ps)]++ki (t+1) ls (ia (t::iX (t+1) ps) [])):=au.pR t D hd A z hx
theorem yo{R:Rp α}[A:cj X.P e α R](hx:eY G x ls)(z:Has G p (.aL t):=by exact HH)(ho:ay G (rs t)=some (.obj t ps):=by rfl)(O:Nat.ble 10 t=true:=by rfl)(E:fk ls=ps:=by rfl)(I:g7 ls=R.n:=by kernel_rfl)(D:jt t (t+1) ls.length ls=true:=by rfl):
 au X G ⟨none, .store e p x,ty,pos,af,none⟩ ([.ae (rs t) (.obj t ps)]++ki (t+1) ls (.av t::ia (iX (t+1) ps) [])):=au.Ms O A.h E I z ho hx D
theorem aF(h:Has G x (.aK ls):=by exact HH):eY G x ls:=eY.aK h
theorem aA{R:Rp α}{T:List Nat}{l:List Nat->α->Ls}(h:Has G x (aa.rep T y):=by exact HH)(z:uQ R l:=by infer_instance):eY G x (l T y):=eY.aK (aV h (z.h G T y))
theorem bT{fl:Ls}(h:Has G x (.aK ls):=by exact HH)(z:cK ls fl:=by exact rC):eY G x fl:=eY.aK (aV h (Cv.flat z))
theorem ck{R:Rp α}{T:List Nat}{l:List Nat->α->Ls}{fl:Ls}(h:Has G x (aa.rep T y):=by exact HH)(z:uQ R l:=by infer_instance)(A:cK (l T y) fl:=by exact rC):eY G x fl:=eY.aK (aV (aV h (z.h G T y)) (Cv.flat A))
theorem dW{fl:Ls}(h:Has G x (.aK ls):=by exact HH)(A:aX G ls ms:=by exact Xv)(z:cK ms fl:=by exact rC):eY G x fl:=eY.aK (aV (aV h (di A)) (Cv.flat z))
theorem fc{R:Rp α}{T:List Nat}{s:Nat}(h:ay G s=some (aa.rep T y):=by rfl)(z:R.agg=false:=by rfl):eY G (.tmp s) [(false,1,aa.rep T y)]:=eY.one (ai h) z (ai h)
end
section
variable{Q:Exit->Act->World->Prop}{rest:List Oper}
theorem zs{z:List It}(h:au X G o z)(k:br X ops Q (z++G) rest)(D:o.guard=none:=by rfl)(A:eC o.op=true:=by rfl):br X ops Q G (o::rest):=br.Q0 D h k A
end
section
variable{G':List It}
theorem Cv.Pc{R:Rp α}{T:List Nat}{es:α->List hZ}(z:dg R es)(h:aX G ls (yp T (es y))):Cv G (.aK ls) (aa.rep T y):=bq (di h) (dG (z.h y))
theorem Cv.io[R:Rp α]{te:List Nat}{e:TypeId}(h:ay G (rs t)=some (.own t te e l))(k:Cv G (aa.ow [t] te e l) f):Cv G (.aL t) f:=bq (Cv.qd h) k
theorem Cv.iv[R:Rp α]{te:List Nat}{e:TypeId}(h:ay G (rs t)=some (.own t te e l))(k:Cv G (aa.rep (t::te) l) f):Cv G (.aL t) f:=bq (Cv.own h) k
theorem Cv.La[R:Rp α]{T te:List Nat}{e:TypeId}(A:ep T T'=true)(z:ep te T'=true):Cv G (aa.ow T te e l) (aa.rep T' l):=bq Cv.iS (Cv.iR A z)
theorem Cv.MJ[R:Rp α]{T te:List Nat}{e:TypeId}(A:ep T T'=true)(z:ep te te'=true):Cv G (aa.ow T te e l) (aa.sl T' te' l):=bq Cv.iS (Cv.Gp A z)
theorem Cv.Lx[R:Rp α][Flat α]{T te:List Nat}{e:TypeId}(z:ep T T'=true):Cv G (aa.ow T te e l) (aa.sl T' te' l):=bq Cv.iS (Cv.FT z)
theorem CV(h:Cv G f f':=by(repeat first
 |with_reducible exact Cv.refl|with_reducible exact Cv.fl|with_reducible exact aX.nil|with_reducible apply aX.cons|((with_reducible apply Cv.m);rfl)|((with_reducible apply Cv.gT)<;>rfl)|((with_reducible apply Cv.d_)<;>rfl)|with_reducible exact Cv.OD|with_reducible exact Cv.nil
 |((with_reducible apply Cv.La)<;>rfl)|with_reducible apply di|(with_reducible refine Cv.Pc (by infer_instance) ?_)|with_reducible exact Cv.Ql|((with_reducible apply Cv.FT)<;>rfl)|((with_reducible apply Cv.Gp)<;>rfl)|((with_reducible apply Cv.Lx)<;>rfl)|((with_reducible apply Cv.MJ)<;>rfl)|((with_reducible apply Cv.iR)<;>rfl)
 |((with_reducible apply Cv.nF);rfl)|((with_reducible apply Cv.Px);rfl)|((with_reducible apply Cv.mR);rfl)|((with_reducible apply Cv.Nk);rfl)|exact Cv.io rfl (Cv.gT rfl rfl)|exact Cv.io rfl (Cv.d_ rfl)|exact Cv.iv rfl (Cv.m rfl)
 |exact Cv.fl|exact Cv.refl|exact Cv.m rfl|exact Cv.gT rfl rfl|exact Cv.d_ rfl|exact Cv.OD|exact Cv.nil|exact aX.nil|apply aX.cons|(refine Cv.Pc (by infer_instance) ?_)|apply di|exact Cv.La rfl rfl|exact Cv.Ql|exact Cv.FT rfl|exact Cv.Gp rfl rfl|exact Cv.Lx rfl|exact Cv.MJ rfl rfl|exact Cv.iR rfl rfl|exact Cv.nF rfl|exact Cv.Px rfl|exact Cv.mR rfl|exact Cv.Nk rfl);first|done|fail):Cv G f f':=h
theorem sA{s:Nat}(h:ay G (rs i)=some (.at i f0))(z:Cv G f0 f)(k:Sub G G'):Sub G (.ae s (.at i f)::G'):=Sub.cons (Has.at (dJ.cv (aW h) z)) k
theorem sG{s:Nat}(h:ay G s=some f0)(z:Cv G f0 f)(k:Sub G G'):Sub G (.ae s f::G'):=Sub.cons (aV (ai h) z) k
theorem sC{s:Nat}{z:Value}(h:ay G s=some (.da z f0))(A:Cv G f0 f)(k:Sub G G'):Sub G (.ae s (.da z f)::G'):=Sub.cons (Has.da (gB.cv (gB.s h) A)) k
theorem sO{s:Nat}(h:ay G s=some (.obj t ps))(k:Sub G G'):Sub G (.ae s (.obj t ps)::G'):=Sub.cons (ai h) k
theorem sI{s:Nat}(h:ay G s=some (.aL t))(k:Sub G G'):Sub G (.ae s (.aL t)::G'):=Sub.cons (ai h) k
theorem sF[R:Rp α][Flat α]{s:Nat}{T:List Nat}(h:ay G (rs i)=some (.at i (aa.rep T y)))(k:Sub G G'):Sub G (.ae s (.at i (aa.rep T' y))::G'):=sf k h
theorem sT[R:Rp α][Flat α]{s:Nat}{T:List Nat}(h:ay G s=some (aa.rep T y))(k:Sub G G'):Sub G (.ae s (aa.rep T' y)::G'):=st k h
theorem sX{x:It}{l:List It}(h:G'=x::l)(k:Sub G (x::l)):Sub G G':=h▸k
theorem SB(h:Sub G G':=by
 first|exact Sub.nil|refine sX rfl ?_
 repeat first
 |exact Sub.nil|((with_reducible apply sF);rfl)|((with_reducible apply sT);rfl)|((with_reducible apply sO);rfl)|((with_reducible apply sI);rfl)|((with_reducible apply sC);rfl;exact CV)|((with_reducible apply sA);rfl;exact CV)
 |((with_reducible refine Sub.cons (Has.u7 (ai ?_) ?_) ?_);rfl;rfl)|((with_reducible refine Sub.cons (Has.NH (ai ?_) ?_) ?_);rfl;rfl)|((with_reducible refine Sub.cons (Has.GC (ai ?_)) ?_);rfl)|((with_reducible refine Sub.cons (Has.GD (ai ?_) ?_) ?_);rfl;rfl)|((with_reducible refine Sub.cons (Has.Mi (ai ?_) ?_) ?_);rfl;rfl)|((with_reducible refine Sub.cons (Has.Hy (ai ?_) ?_ ?_) ?_);rfl;rfl;rfl)
 |((with_reducible (apply Sub.cons;apply Has.Hy));apply ai;rfl;rfl;rfl)|((with_reducible apply sG);rfl;exact CV)|refine sn ?_|refine Sub.cons (Has.u7 (ai rfl) rfl) ?_|refine Sub.cons (Has.NH (ai rfl) rfl) ?_|refine Sub.cons (Has.GC (ai rfl)) ?_|refine Sub.cons (Has.GD (ai rfl) rfl) ?_|refine Sub.cons (Has.Mi (ai rfl) rfl) ?_|refine Sub.cons (Has.Hy (ai rfl) rfl rfl) ?_|refine Sub.cons (Has.X8 (ai rfl) rfl) ?_):Sub G G':=h
end
section
variable{u:Nat->Value}{d:Option Nat}{s:Nat}
theorem Sl(h:ay G (902000+s)=some (.da (u s) f1))(z:Cv G f1 f)(A:oM d s=true)(k:bK G u d f0 J):bK G u d f0 (.ae s f::J):=bK.slot A (gB.cv (gB.s h) z) k
theorem ZP(h:ay G (904000+s)=some (.da (u s) f1))(z:Cv G f1 f)(A:oM d s=true)(k:bK G u d f0 J):bK G u d f0 (.ae s f::J):=bK.slot A (gB.cv (gB.s h) z) k
theorem V5(h:ay G (906000+s)=some (.da (u s) f1))(z:Cv G f1 f)(A:oM d s=true)(k:bK G u d f0 J):bK G u d f0 (.ae s f::J):=bK.slot A (gB.cv (gB.s h) z) k
theorem RH(h:ay G (908000+s)=some (.da (u s) f1))(z:Cv G f1 f)(A:oM d s=true)(k:bK G u d f0 J):bK G u d f0 (.ae s f::J):=bK.slot A (gB.cv (gB.s h) z) k
theorem WW(h:ay G (910000+s)=some (.da (u s) f1))(z:Cv G f1 f)(A:oM d s=true)(k:bK G u d f0 J):bK G u d f0 (.ae s f::J):=bK.slot A (gB.cv (gB.s h) z) k
theorem ZU(h:ay G (912000+s)=some (.da (u s) f1))(z:Cv G f1 f)(A:oM d s=true)(k:bK G u d f0 J):bK G u d f0 (.ae s f::J):=bK.slot A (gB.cv (gB.s h) z) k
theorem lF[R:Rp α][Flat α]{T:List Nat}(h:ay G (rs i)=some (.at i (aa.rep T y)))(k:bK G u d f0 J):bK G u d f0 (.ae s (.at i (aa.rep T' y))::J):=lf k h
theorem lA(h:ay G (rs i)=some (.at i f1))(z:Cv G f1 f)(k:bK G u d f0 J):bK G u d f0 (.ae s (.at i f)::J):=bK.Nz (dJ.cv (aW h) z) k
theorem lO(h:ay G s=some (.obj t ps))(k:bK G u d f0 J):bK G u d f0 (.ae s (.obj t ps)::J):=lo k h
theorem lC{z:Value}(h:ay G s=some (.da z f1))(A:Cv G f1 f)(k:bK G u d f0 J):bK G u d f0 (.ae s (.da z f)::J):=bK.Z9 (gB.cv (gB.s h) A) k
theorem lX{x:It}{l:List It}(h:J=x::l)(k:bK G u d f0 (x::l)):bK G u d f0 J:=h▸k
theorem LW(h:bK G u d f0 J:=by
 first|exact bK.nil|refine lX rfl ?_
 repeat first
 |exact bK.nil|((with_reducible apply lF);rfl)|((with_reducible apply lO);rfl)|((with_reducible apply lC);rfl;exact CV)|((with_reducible apply lA);rfl;exact CV)|refine bK.Ev ?_
 |((with_reducible apply Sl);rfl;exact CV;rfl)
 |((with_reducible apply ZP);rfl;exact CV;rfl)
 |((with_reducible apply V5);rfl;exact CV;rfl)
 |((with_reducible apply RH);rfl;exact CV;rfl)
 |((with_reducible apply WW);rfl;exact CV;rfl)
 |((with_reducible apply ZU);rfl;exact CV;rfl)
 |refine lk ?_|refine bK.Eb (λ_ _ _ _ h=>h) (Has.u7 (ai rfl) rfl) ?_|refine bK.Eb (λ_ _ _ _ h=>h) (Has.GD (ai rfl) rfl) ?_|refine bK.Eb (λ_ _ _ _ h=>h) (Has.GC (ai rfl)) ?_):bK G u d f0 J:=h
end
section
variable{r:ResultVar}
theorem OK{p:Nat}{e:TypeId}{R:Rp α}[A:cj P e α R](hx:Has G (.tmp p) (.aL t):=by exact HH)(ho:ay G (rs t)=some (.obj t ps):=by rfl)(z:fC G (t+1) ps ls:=by repeat first|exact fC.nil|apply fC.cons|rfl)(D:R.agg=true:=by rfl)(E:g7 ls=R.n:=by kernel_rfl):bW P G (.cell p e) (.aK ls):=bW.obj A.h D E hx (z.gs.2▸ho) z.gs.1
theorem Lt{p:Nat}{e:TypeId}{R:Rp α}{F:Ls->Ls}[A:cj P e α R][O:lP e F](hx:Has G (.tmp p) (.aL t):=by exact HH)(ho:ay G (rs t)=some (.obj t ps):=by rfl)(z:fC G (t+1) ps ls:=by repeat first|exact fC.nil|apply fC.cons|rfl)(D:R.agg=true:=by rfl)(E:g7 ls=R.n:=by kernel_rfl)(I:cK (F ls) ls:=by exact rC):bW P G (.cell p e) (.aK (F ls)):=bW.cv (bW.obj A.h D E hx (z.gs.2▸ho) z.gs.1) (Cv.pI I)
theorem Lp{p:Nat}{e:TypeId}{R:Rp α}[z:cj P e α R](hx:Has G (.tmp p) (.aL t):=by exact HH)(ho:ay G (rs t)=some (.obj t [(false,1)]):=by rfl)(D:dJ G (t+1) f:=by exact aW rfl)(A:R.agg=false:=by rfl):bW P G (.cell p e) f:=bW.Va z.h A hx ho D
theorem UP(h:ay G t=some f0)(k:Cv G f0 f):bW P G (.tmp t) f:=bW.cv (bW.tmp (ai h)) k
theorem RR(h:bW P G r f:=by first
 |exact UP rfl CV|exact bW.cv Lt CV|exact bW.cv OK CV|exact bW.cv Lp CV|exact Lp|exact Lt|exact OK|exact bW.tmp Has.top):bW P G r f:=h
end
section
variable{fn:Func}{T:List (List Nat)}{w0:World}{om:Nat->Nat}{C:Nat->Prop}
theorem az{r:ResultVar}(z:fn.results= #[r]:=by rfl)(h:bW P G r (out.f (λc=>T.getD c [])):=by exact RR):aH ⟨P,n,w0,C,om,none,[]⟩ G (bodyPost P fn (kP ⟨P,n,w0,C,om,none,[]⟩ out T)) .ret:=aH.PQ z h
theorem bC{s1 s2:bm}{q1 q2:ResultVar}(D:fn.results= #[q1,q2]:=by rfl)(A:bW P G q1 (s1.f (λc=>T.getD c [])):=by exact RR)(z:bW P G q2 (s2.f (λc=>T.getD c [])):=by exact RR):aH ⟨P,n,w0,C,om,none,[]⟩ G (bodyPost P fn (kP ⟨P,n,w0,C,om,none,[]⟩ (.cP s1 s2) T)) .ret:=aH.wU D A z
theorem dL{s1 s2 s3:bm}{q1 q2 q3:ResultVar}(D:fn.results= #[q1,q2,q3]:=by rfl)(A:bW P G q1 (s1.f (λc=>T.getD c [])):=by exact RR)(z:bW P G q2 (s2.f (λc=>T.getD c [])):=by exact RR)(E:bW P G q3 (s3.f (λc=>T.getD c [])):=by exact RR):aH ⟨P,n,w0,C,om,none,[]⟩ G (bodyPost P fn (kP ⟨P,n,w0,C,om,none,[]⟩ (.eV s1 s2 s3) T)) .ret:=aH.Vl D A z E
theorem pX{s1 s2 s3 s4:bm}{q1 q2 q3 q4:ResultVar}(I:fn.results= #[q1,q2,q3,q4]:=by rfl)(D:bW P G q1 (s1.f (λc=>T.getD c [])):=by exact RR)(z:bW P G q2 (s2.f (λc=>T.getD c [])):=by exact RR)(A:bW P G q3 (s3.f (λc=>T.getD c [])):=by exact RR)(E:bW P G q4 (s4.f (λc=>T.getD c [])):=by exact RR):aH ⟨P,n,w0,C,om,none,[]⟩ G (bodyPost P fn (kP ⟨P,n,w0,C,om,none,[]⟩ (.gE s1 s2 s3 s4) T)) .ret:=aH.RC I D z A E
end
section
variable{J:S->List It}{F:S->Prop}{d:Option Nat}{u:Nat->Value}{fn:Func}
def uE:List It->Option Nat->Option aa
 |_,none=>some .top
 |[],some _=>some .top
 | .ae e f::l,some d=>bif ct e d then some f else uE l (some d)
 |_::l,some d=>uE l (some d)
theorem dK(p:S)(A:F p)(z:bK G u d .top (J p):=by exact LW)(hd:mg d X.n=true:=by rfl)(D:fn.results= #[]:=by rfl):aH ⟨X.P,n,X.w0,X.C,X.dE,none,[]⟩ G (bodyPost X.P fn (jj X J F d u)) .ret:=aH.XK (f0:= .top) p A hd D (λ_ _=>trivial) z
theorem bS{r:ResultVar}(p:S)(A:F p)(E:uE (J p) d=some f0:=by rfl)(z:bK G u d f0 (J p):=by exact LW)(D:fn.results= #[r]:=by rfl)(h:bW X.P G r f0:=by exact RR)(hd:mg d X.n=true:=by rfl):aH ⟨X.P,n,X.w0,X.C,X.dE,none,[]⟩ G (bodyPost X.P fn (jj X J F d u)) .ret:=aH.XN p A hd D h z
theorem dU{q1 q2:ResultVar}(p:S)(D:F p)(O:uE (J p) d=some (.cP f1 f2):=by rfl)(A:bK G u d (.cP f1 f2) (J p):=by exact LW)(I:fn.results= #[q1,q2]:=by rfl)(E:bW X.P G q1 f1:=by exact RR)(z:bW X.P G q2 f2:=by exact RR)(hd:mg d X.n=true:=by rfl):aH ⟨X.P,n,X.w0,X.C,X.dE,none,[]⟩ G (bodyPost X.P fn (jj X J F d u)) .ret:=aH.U9 p D hd I E z A
theorem jo{q1 q2 q3:ResultVar}(p:S)(E:F p)(U:uE (J p) d=some (.eV f1 f2 f3):=by rfl)(D:bK G u d (.eV f1 f2 f3) (J p):=by exact LW)(O:fn.results= #[q1,q2,q3]:=by rfl)(I:bW X.P G q1 f1:=by exact RR)(z:bW X.P G q2 f2:=by exact RR)(A:bW X.P G q3 f3:=by exact RR)(hd:mg d X.n=true:=by rfl):aH ⟨X.P,n,X.w0,X.C,X.dE,none,[]⟩ G (bodyPost X.P fn (jj X J F d u)) .ret:=aH.ZR p E hd O I z A D
theorem PC{q1 q2 q3 q4:ResultVar}(p:S)(E:F p)(V:uE (J p) d=some (.gE f1 f2 f3 f4):=by rfl)(D:bK G u d (.gE f1 f2 f3 f4) (J p):=by exact LW)(O:fn.results= #[q1,q2,q3,q4]:=by rfl)(I:bW X.P G q1 f1:=by exact RR)(z:bW X.P G q2 f2:=by exact RR)(A:bW X.P G q3 f3:=by exact RR)(U:bW X.P G q4 f4:=by exact RR)(hd:mg d X.n=true:=by rfl):aH ⟨X.P,n,X.w0,X.C,X.dE,none,[]⟩ G (bodyPost X.P fn (jj X J F d u)) .ret:=aH.WZ p E hd O I z A U D
end
section
variable{Q:Exit->Act->World->Prop}
theorem zJ{z:S->List It}{R:S->Prop}(p:S)(A:R p)(h:Sub G (z p):=by exact SB):aH X G (Exit.then (JQ X z R) Q) .normal:=aH.aae p A h
theorem zN{A:S->List It}{out:B->Exit×List It}{c:ak S B}{z:S}(D:some (ak.next z)=some c)(h:Sub G (A z):=by exact SB):aH X G (uW X A out c) .normal:=aH.next D h
theorem zB{A:S->List It}{out:B->Exit×List It}{c:ak S B}{b:B}{e:Exit}(z:some (ak.aT b)=some c)(D:e≠ .normal:=by exact λh=>nomatch h)(E:e=(out b).1:=by rfl)(h:Sub G (out b).2:=by exact SB):aH X G (uW X A out c) e:=aH.aT z D E h
theorem zd{T:List Nat}{A B:α}{x y:Code}(z:(bif b then A else B)=r)(I:b=true->A=r->aO X G x Q)(E:b=false->B=r->aO X G y Q)(D:ay G t=some (aa.rep T b):=by rfl):aO X G (.cond (.tmp t) x y) Q:=aO.cond D (λh=>I h (iG h z)) (λh=>E h (iP h z))
end
class kq(α:Type)(f:outParam (Ls->Ls)):Prop where
 h:True
section
variable{R:Rp α}{T:List Nat}
theorem EO(ho:ay G (rs t)=some (.obj t ps):=by rfl)(z:fC G (t+1) ps ls:=by repeat first|exact fC.nil|apply fC.cons|rfl)(D:Cv G (.aK ls) (aa.rep T y):=by exact CV)(E:ep (t::T) T=true:=by rfl)(A:R.agg=true:=by rfl):Cv G (.aL t) (aa.ptr T y):=
 bq (Cv.vP z.gs.2 ho z.gs.1 D A) (Cv.mR E)
theorem IN{F:Ls->Ls}[O:kq α F](ho:ay G (rs t)=some (.obj t ps):=by rfl)(z:fC G (t+1) ps ls:=by repeat first|exact fC.nil|apply fC.cons|rfl)(E:cK (F ls) ls:=by exact rC)(D:Cv G (.aK (F ls)) (aa.rep T y):=by exact CV)(I:ep (t::T) T=true:=by rfl)(A:R.agg=true:=by rfl):Cv G (.aL t) (aa.ptr T y):=
 bq (Cv.vP z.gs.2 ho z.gs.1 (bq (Cv.pI E) D) A) (Cv.mR I)
theorem Ob(ho:ay G (rs t)=some (.obj t [(false,1)]):=by rfl)(D:dJ G (t+1) f:=by exact aW rfl)(A:Cv G f (aa.rep T y):=by exact CV)(E:ep (t::T) T=true:=by rfl)(z:R.agg=false:=by rfl):Cv G (.aL t) (aa.ptr T y):=
 bq (Cv.YF rfl ho D A z) (Cv.mR E)
theorem UT(h:Cv G f f':=by first|exact CV|exact EO|exact IN|exact Ob):Cv G f f':=h
theorem Kz{ms:List aa}(h:gf G fs ms:=by repeat first|exact gf.nil|refine gf.cons UT ?_):gf G fs ms:=h
theorem jT{A:Type}[R:Rp β][I:Flat β]{pre:A->List bm}{T:List Nat}{f:A->Option β}{k:FuncId}{cs:List aa}{pc:List bm}(D:∀(x:A) (r:β),f x=some r->gl P k (pre x++pc) (.fl r) shc)(z:gf G cs (pc.map λs=>s.f (da T)):=by exact Kz)(E:enters P k=true:=by kernel_rfl):Cv G (.ef k [] cs) (aa.fn P pre T f):=Cv.fn (pu:=[]) E gf.nil z D
end
section
theorem j0{s:Nat}(h:ay G s=some f0)(k:Cv G f0 f):Has G (.tmp s) f:=aV (ai h) k
theorem tA{s:Nat}{c:Prop}(h:ay G s=some (f0.c_ c))(z:c)(k:Cv G f0 f):Has G (.tmp s) f:=aV (dD h z) k
theorem UG{n:UInt8}{k:Int}{T:List Nat}(h:(n.toNat:Int)=k):Has G (.const (.int .u8 k)) (aa.rep T n):=fG (Has.u8 n h)
theorem YL{n:UInt32}{k:Int}{T:List Nat}(h:(n.toNat:Int)=k):Has G (.const (.int .u32 k)) (aa.rep T n):=fG (Has.u32 n h)
theorem HA(h:Has G x f:=by first|exact j0 rfl CV|exact aV e_ CV|exact aV Has.bool CV|exact aV Has.dM CV|exact UG rfl|exact YL rfl|exact tA rfl (by assumption) CV|exact j0 rfl EO|exact j0 rfl IN|exact j0 rfl Ob|exact tA rfl (by assumption) EO|exact tA rfl (by assumption) IN):Has G x f:=h
theorem Lh{T:List Nat}{xs:List Operand}{z:List bm}(h:bX G T xs z:=by repeat first|exact bX.nil|refine bX.cons HA ?_):bX G T xs z:=h
def dY(a b:aa):Prop:=a=b
theorem dY.fl[R:Rp α][Flat α]{x:α}{T:Tg}:dY ((bm.fl x).f T) (aa.rep [] x):=rfl
theorem dY.cP{a b:bm}{T:Tg}{c d:aa}(h:dY (a.f T) c)(k:dY (b.f T) d):dY ((bm.cP a b).f T) (.cP c d):=by unfold dY at *;rw[<-h,<-k];rfl
theorem dY.eV{a b c:bm}{T:Tg}{a' b' c':aa}(h:dY (a.f T) a')(k:dY (b.f T) b')(l:dY (c.f T) c'):dY ((bm.eV a b c).f T) (.eV a' b' c'):=by unfold dY at *;rw[<-h,<-k,<-l];rfl
end
section
variable{d:Option Nat}
theorem Cv.FI[R:Rp α]{T te:List Nat}:Cv G (aa.sl T te l) (aa.rep (T++te) l):=Cv.iR (Dw _ _ λ_ h=>gY _ h) (Dw _ _ λ_ h=>gh _ h)
theorem VT[R:Rp α]{T:List Nat}(h:Has G x (aa.rep T y):=by first|exact HH|exact aV (ai rfl) Cv.wm|exact aV (ai rfl) Cv.FI|exact aV Has.dM (Cv.nil (T:=[]))|exact aV (ai rfl) (Cv.nil (T:=[]))|exact aV (ai rfl) (Cv.own rfl)):Has G x (aa.rep T y):=h
theorem yt{e:TypeId}{R:Rp α}{T:List Nat}[A:cj X.P e α R](z:Has G p (.cJ t off):=by exact HP)(ho:ay G (rs t)=some (.obj t ps):=by rfl)(E:partAt ps off=some (off,R.agg,R.n):=by rfl)(hx:Has G x f:=by exact HH)(I:Has G x (aa.rep T y):=by exact VT)(U:t+1+off=q:=by first|(simp only[Nat.reduceAdd,Nat.reduceMul];rfl)|rfl)(O:Nat.ble 10 t=true:=by rfl)(D:jt t q 1 [(R.agg,R.n,f)]=true:=by rfl):
  au X G ⟨none, .store e p x,ty,pos,af,none⟩ [.ae (rs q) (.at q f), .ae (rs t) (.obj t ps), .av t, .bp q]:=by
 subst U;exact au.nj O A.h E z ho I hx D
end
def KT(x:Nat)(l:List Nat):List Nat:=bif l.elem x then l else l++[x]
def Us(a b:List Nat):List Nat:=b.foldl (λs x=>KT x s) a
def YB(l:List Oper):List (List Nat):=l.foldl (λA o=>A++[o.after.toList.foldl (λs e=>bif sL .any e then KT e.on (Us s ((A[e.on]?).getD []))else s) []]) []
section
variable{Q:Exit->Act->World->Prop}
theorem qg{T:List Nat}{op:Op}(hd:Nat.blt d X.n=true:=by rfl)(A:(ops[j]?).bind (·.dst)=some dj:=by rfl)(z:ay G dj=some (aa.rep T b):=by rfl)(h:b=want->ah X G ⟨some d,op,ty,pos,af,some (j,want)⟩ f):cI X ops G ⟨some d,op,ty,pos,af,some (j,want)⟩ [.ae d (f.c_ (b=want))]:=cI.mX hd A z h
theorem qu{c:Prop}{T:List Nat}{op:Op}(hd:Nat.blt d X.n=true:=by rfl)(A:(ops[j]?).bind (·.dst)=some dj:=by rfl)(z:ay G dj=some ((aa.rep T b).c_ c):=by rfl)(h:c/\b=want->ah X G ⟨some d,op,ty,pos,af,some (j,want)⟩ f):cI X ops G ⟨some d,op,ty,pos,af,some (j,want)⟩ [.ae d (f.c_ (c/\b=want))]:=cI.jY hd A z h
end
inductive Ks(G:List It):List Nat->List It->Prop
 |nil:Ks G [] []
 |cons {s:Nat} {f:aa} {l:List Nat} {K:List It} (h:ay G s=some f) (k:Ks G l K):Ks G (s::l) (.ae s f::K)
def rg(a:Nat):Nat->List Nat
 |0=>[]
 |n+1=>a::rg (a+1) n
def D:List Nat->List Nat
 |[]=>[]
 |c::l=>bif bt c 1000||bx 100000 c then c::D l else rg (100000+c%1000) (c/1000)++D l
theorem KS{l:List Nat}(h:Ks G l K:=by(conv=>arg 2;reduce);(repeat(apply Ks.cons;rfl));exact Ks.nil):Ks G l K:=h
inductive Kc(G:List It)(u:Nat->Value)(D:Nat):List Nat->List Nat->List It->Prop
 |nil:Kc G u D [] [] []
 |g_ {s:Nat} {f:aa} {l:List Nat} {K:List It} (h:ay G s=some f) (hv:p_ f) (k:Kc G u D [] l K):Kc G u D [] (s::l) (.ae s f::K)
 |slot {s q:Nat} {f:aa} {l m:List Nat} {K:List It} (h:ay G s=some f) (hq:D+s=q) (k:Kc G u D l m K):Kc G u D (s::l) m (.ae q (.da (u s) f)::K)
theorem KC{u:Nat->Value}{D:Nat}{l m:List Nat}(h:Kc G u D l m K:=by(conv=>arg 4;reduce);(conv=>arg 5;reduce);(repeat(apply Kc.slot;rfl;rfl));(repeat(apply Kc.g_;rfl;exact λ_ _ _ _ h=>h));exact Kc.nil):Kc G u D l m K:=h
theorem Kc.carry{u:Nat->Value}{D:Nat}{l m:List Nat}(h:Kc G u D l m K):Carry G u K:=by
 induction h with
 |nil=>exact Carry.nil
 |g_ h E _ z=>exact Carry.g_ h E z
 |slot h A _ z=>subst A;exact Carry.slot (ai h) z
section
variable{Q:Exit->Act->World->Prop}
theorem jn{A:Option α}{x y:Code}(E:A=some r)(m:S->Option α)(l:List Nat)(C:List It->S->List It)(z:∀p,m p=some r->aO X (C K p) y Q)(h:aO X G x (Exit.then (JQ X (C K) (λp=>m p=some r)) Q))(I:Ks G (GL.D l) K:=by exact KS):aO X G (.seq x y) Q:=aO.RS (C K) (λp=>m p=some r) z h
theorem lp{step:S->Option (ak S B)}{z:S}{r:B}{body:Code}(A:bf step n z=some r)(l:List Nat)(C:List It->S->List It)(out:List It->B->Exit×List It)(round:∀s c,step s=some c->aO X (C K s) body (uW X (C K) (out K) c))(after:(out K r).1≠ .normal->aH X (out K r).2 Q (out K r).1)(I:Ks G (GL.D l) K:=by exact KS)(E:Sub G (C K z):=by exact SB):aO X G (.loop body) Q:=aO.loop (C K) (out K) A E round after
theorem il{rest:List Oper}{M:Option α}{k:FuncId}{fn:Func}{A:List aa}(ag:M=some r)(m:S->Option α)(l:List Nat)(C:List It->S->List It)(Z:X.P.funcs[k]? =some fn)(U:fe X G o k A)(z:∀u:Nat->Value,∃E,Carry G u E/\aO ⟨X.P,n,X.w0,X.C,X.dE,none,[]⟩ (pG 0 A E) c (bodyPost X.P fn (jj X (C K) (λp=>m p=some r) o.dst u)))(I:∀p,m p=some r->br X ops Q (C K p) rest)(ae:Ks G (GL.D l) K:=by exact KS)(Y:o.guard=none:=by rfl)(ac:fn.body=some c:=by rfl)(W:fn.ntmps=n:=by rfl)(V:Nat.ble A.length n=true:=by rfl)(O:eC o.op=true:=by rfl):br X ops Q G (o::rest):=
 br.inline (C K) (λp=>m p=some r) (λu=>(z u).choose) Y Z ac W V U (λu=>(z u).choose_spec.1) (λu=>(z u).choose_spec.2) I O
theorem iu{A:List It->Prop}{u:Nat->Value}(D:Nat)(l m:List Nat)(h:A K)(E:Kc G u (900000+D * 2000) (GL.D l) (GL.D m) K:=by exact KC):∃z,Carry G u z/\A z:=⟨K,E.carry,h⟩
end
def gj(X:Cx)(ops:Array Oper)(AH:List (List Nat))(Is:List (List It))(G:List It)(n:Nat):List Oper->Nat->List (List It)->Prop
 |[],_,[]=>True
 |o::l,i,z::R=>cI X ops (cB AH Is G i n) o z/\gj X ops AH Is G n l (i+1) R
 |_,_,_=>False
section
variable{Q:Exit->Act->World->Prop}{R:List (List It)}{l:List Oper}
theorem gj.m:∀(l:List Oper) (k:Nat) (R:List (List It)),(∀i,gG R i=gG Is (k+i))->gj X ops AH Is G n l k R->jR X ops AH Is G n l k
 |[],_,_,_,_=>trivial
 |o::l,k,[],_,h=>h.elim
 |o::l,k,D::R,z,h=>by have A:D=gG Is k:=z 0;exact⟨A▸h.1,gj.m l (k+1) R (λi=>by have:=z (i+1);rw[show k+(i+1)=k+1+i by omega]at this;exact this) h.2⟩
theorem aN:gj X ops AH Is G n [] k []:=trivial
theorem aq{z:List It}(h:cI X ops (cB AH Is G k n) o z)(r:gj X ops AH Is G n l (k+1) R):gj X ops AH Is G n (o::l) k (z::R):=⟨h,r⟩
theorem o1{op:Op}(h:ah X (cB AH Is G k n) ⟨some d,op,ty,pos,af,none⟩ f)(r:gj X ops AH Is G n l (k+1) R)(hd:Nat.blt d X.n=true:=by rfl):
 gj X ops AH Is G n (⟨some d,op,ty,pos,af,none⟩::l) k ([.ae d f]::R):=⟨cI.op hd h,r⟩
theorem sE{d:Option Nat}{op:Op}{A:List It}(z:List It)(h:au X G ⟨d,op,ty,pos,af,none⟩ A)(D:A=z:=by rfl):cI X ops G ⟨d,op,ty,pos,af,none⟩ z:=D▸cI.st h
theorem zQ{id:Nat}{l:List Oper}(A:X.P.follows .mixedOrders=true)(E:YB l=AH:=by(conv=>lhs;reduce)<;>rfl)(S:gj X l.toArray AH Is G l.length l 0 Is)(h:aH X (p8 Is G) Q .normal)(D:vw l.toArray AH Is=true:=by kernel_rfl)(z:l.all (λo=>eC o.op)=true:=by rfl):aO X G (.region id l.toArray true) Q:=aO.Iy AH Is A D (gj.m l 0 Is (λi=>by rw[Nat.zero_add]) S) h z
end
end GL
