/- Part of the proof of TopAny. -/
import Derived.Test.YthpphdegpinepaaGreatC2
namespace GL
open Go
open Option renaming bind -> ab, map_eq_some_iff -> iK
open List renaming mem_append -> dx, map_cons -> fh, replicate -> dr, length_replicate -> qI, getElem?_eq_some_iff -> cy, ext_getElem? -> o0, getElem?_take -> o8, getElem?_drop -> ke, getElem?_eq_getElem -> ek, getElem?_eq_none -> Ex, length_append -> bY, length_take -> cf, append_assoc -> fE, take_append -> oZ, take_of_length_le -> fm, drop_append -> EA, drop_of_length_le -> kb, nil_append -> gZ, length_set -> kD, range -> m9, mem_cons_self -> ml, all_eq_true -> i_, mem_range -> jc, length_eq_one_iff -> vn, mem_singleton -> dz, getElem?_of_mem -> qL, getElem?_map -> lG, mem_map_of_mem -> pg, mem_cons_of_mem -> fM, mem_of_getElem? -> iL, mem_cons -> fp, mem_append_left -> gY, mem_append_right -> gh, mem_map -> gm, append_nil -> jb, length_cons -> jq, take_append_drop -> sM, getElem?_append_left -> m8, getElem_mem -> EE, drop_drop -> qO, filter_append -> ph, filter_cons -> jP, filter_nil -> sQ, filter_eq_self -> qR, getElem?_append_right -> oY, length_map -> sR, set_append_right -> J8, map_append -> mm
open Go.Instr renaming fill -> m_, indexAt -> vh, sureAddr -> fL, loadAt -> lE, storeAt -> o9, checkKey -> sP, findKey -> pf, findNow -> EC, extract -> nV
open Go.Value renaming agg -> mn
open Nat renaming add_zero -> ja, add_mul -> h_, mul_le_mul_right -> iJ, ble -> bx, min_eq_left -> jN, le_refl -> bh, zero_add -> dQ, lt_or_ge -> mh, blt -> bt, blt_eq -> fu, beq -> ct, zero_le -> jM
open Go.Sem renaming run_bind -> cU, run_map -> kc, run_pure -> gx
open Go renaming sizeOf -> oX
open Go.Result renaming andThen_ok -> eA, andThen -> zA
open Go.Oper renaming wp -> dy
open Go.Calls renaming mono -> kZ
open Go.Region renaming wanted -> gH, ready -> qN, binds -> sL
open Bool renaming false_eq_true -> kY, or_eq_true -> Ey, and_eq_true -> gg, not_eq_true' -> m6
open Go.Op renaming equalIn -> nX
open Go.MapKept renaming run_setObj_map -> zm, run_getObj_map -> nc
open Go.Code renaming wpIn_mono -> ve
set_option linter.all false
variable {α β S B γ:Type}{x p:Operand}{w w':World}{t n i off k N q d j dj d1 d2 d3 t2:Nat}{P:Program}{T' te' shc T1:List Nat}{v:Value}{b want:Bool}{a:Act}{ops:Array Oper}{ty e1 e2 t' kt et y1 y2 y3 mt:TypeId}{af a1 a2 a3:Array Edge}{cs:List Value}{c:Code}{ats:Array TypeId}{pl:List (Nat×Nat)}{Fe F':Nat->Prop}{o:Oper}{us:List (Nat×Operand)}{u1 u2 u3:Op}{p1 pos:String}{lab:Nat->Int×Nat}{ks:List FuncId}{gd:Option (Nat×Bool)}{AH:List (List Nat)}{l:List α}{y r:α}
variable {G K J H:List It}{f f1 f2 f3 f0 f4 f':aa}{g g':Gh}{X:Cx}{fs:List aa}{Is:List (List It)}
variable {pre:List bm}{out:bm}
variable {ls ls' ms:Ls}{ps:Ps}
variable {ρ:fK}
variable {L:List cW}
class dV(P:Program)(t:TypeId)(pl:outParam (List (Nat×Nat)))(ls:outParam Ls):Prop where
 h:D_ P t pl ls
class lT(P:Program)(t:TypeId)(pl:outParam (List (Nat×Nat)))(ls:outParam Ls):Prop where
 h:A3 P t pl ls
class de(P:Program)(ts:TypeId)(e:outParam TypeId)(α:outParam Type)(R:outParam (Rp α)):Prop where
 h: @gu P ts e α R
class qn(P:Program)(t:TypeId)(e:outParam TypeId)(α:outParam Type)(R:outParam (Rp α)):Prop where
 h: @nh P t e α R
theorem bB{e:Option α}{f:α->Option β}{r:β}{P:Prop}(h:ab e f=some r)(k:∀x,e=some x->f x=some r->P):P:=by obtain⟨x,z,u⟩:=bind_some h;exact k x z u
section
variable{Q:Exit->Act->World->Prop}{T:List Nat}{x y:Code}
theorem zx{B:Option α}(u:(bif b then none else B)=some r)(h:b=false->B=some r->aO X G y Q)(z:ay G t=some (aa.rep T b):=by rfl):aO X G (.cond (.tmp t) x y) Q:=
 aO.cond z (λe=>by rw[e]at u;cases u) (λe=>h e (iP e u))
theorem zy{A:Option α}(u:(bif b then A else none)=some r)(h:b=true->A=some r->aO X G x Q)(z:ay G t=some (aa.rep T b):=by rfl):aO X G (.cond (.tmp t) x y) Q:=
 aO.cond z (λe=>h e (iG e u)) (λe=>by rw[e]at u;cases u)
theorem zF(h:aO X G y Q)(u:ay G t=some (aa.rep T false):=by rfl):aO X G (.cond (.tmp t) x y) Q:=aO.cond u (λe=>by cases e) (λ_=>h)
theorem zT(h:aO X G x Q)(u:ay G t=some (aa.rep T true):=by rfl):aO X G (.cond (.tmp t) x y) Q:=aO.cond u (λ_=>h) (λe=>by cases e)
theorem Cw{x:Operand}[R:Rp α]{T:List Nat}{y:α}(h:Has G x (aa.rep T y):=by first|exact HH|exact aV (ai rfl) Cv.wm|exact aV (ai rfl) Cv.FI|exact aV Has.dM (Cv.nil (T:=[]))|exact aV (ai rfl) (Cv.nil (T:=[]))|exact aV (ai rfl) (Cv.own rfl)|exact HA):Has G x (aa.rep T y):=h
end
theorem dY.rep[R:Rp α]{x:α}{c:Nat}{T:Tg}(h:T c=T'):dY ((bm.rep c x).f T) (aa.rep T' x):=by subst h;rfl
theorem dY.kW[R:Rp α]{x:List α}{c:Nat}{T:Tg}(h:T c=T'):dY ((bm.kW c x).f T) (aa.kW T' x):=by subst h;rfl
theorem dY.own[R:Rp α]{c:Nat}{u:Option Nat}{e:TypeId}{T:Tg}{T2:List Nat}(h:T c=T1)(z:oc T u=T2):dY ((bm.own c u e l).f T) (aa.ow T1 T2 e l):=by subst h;subst z;rfl
theorem dY.sl[R:Rp α]{c:Nat}{u:Option Nat}{T:Tg}{T2:List Nat}(h:T c=T1)(z:oc T u=T2):dY ((bm.sl c u l).f T) (aa.sl T1 T2 l):=by subst h;subst z;rfl
theorem dY.gE{a b c d:bm}{T:Tg}{a' b' c' d':aa}(h:dY (a.f T) a')(k:dY (b.f T) b')(l:dY (c.f T) c')(m:dY (d.f T) d'):dY ((bm.gE a b c d).f T) (.gE a' b' c' d'):=by unfold dY at *;rw[<-h,<-k,<-l,<-m];rfl
def nD(a b:Ls):Prop:=a=b
theorem nD.nil{T:Tg}:nD (nH T []) []:=rfl
theorem nD.cons{ag:Bool}{s:bm}{u:Ss}{T:Tg}(h:dY (s.f T) f)(k:nD (nH T u) ls):nD (nH T ((ag,n,s)::u)) ((ag,n,f)::ls):=by unfold nD dY at *;rw[<-h,<-k];rfl
theorem dY.aK{u:Ss}{T:Tg}(h:nD (nH T u) ls):dY ((bm.aK u).f T) (aa.aK ls):=by unfold nD dY at *;rw[<-h];rfl
theorem Tv{a b:aa}(h:dY a b:=by repeat first
 |exact dY.fl|exact nD.nil|apply nD.cons|apply dY.cP|apply dY.eV|apply dY.aK|(apply dY.own<;>((conv=>lhs;reduce)<;>rfl))|(apply dY.rep<;>((conv=>lhs;reduce)<;>rfl))|(apply dY.sl<;>((conv=>lhs;reduce)<;>rfl))|apply dY.gE|(apply dY.kW<;>((conv=>lhs;reduce)<;>rfl))):dY a b:=h
section
variable{d:Option Nat}
theorem kC{k:FuncId}{xs:List Operand}(T:List Nat)(t:Nat)(u:gl X.P k pre out shc)(hx:bX G T xs pre:=by exact Lh)(z:dY (out.f (cT t T shc)) f:=by exact Tv)(C:enters X.P k=true:=by kernel_rfl)(A:Nat.ble 10 t=true:=by rfl):
 ah X G ⟨d, .call {callee:= .value (.func k),args:=xs.toArray,argTypes:=ats},ty,pos,af,gd⟩ f:=ah.jI T t A C u hx z
theorem vK{xs:List Operand}(h:cl G xs fs:=by repeat first|exact cl.nil|(apply cl.cons;exact dD rfl (by assumption))|(apply cl.cons;exact HH)|(apply cl.cons;exact fD)):cl G xs fs:=h
theorem cF{k:FuncId}{xs:List Operand}(h:cl G xs fs:=by exact vK)(u:enters X.P k=true:=by kernel_rfl):
 fe X G ⟨d, .call {callee:= .value (.func k),args:=xs.toArray,argTypes:=ats},ty,pos,af,gd⟩ k fs:=fe.fn u h
theorem cV{k:FuncId}{xs:List Operand}{us cs FA:List aa}(hx:Has G x (.ef k us cs):=by exact HH)(h:cl G xs fs:=by exact vK)(u:us++(fs++cs)=FA:=by simp only[List.nil_append,List.cons_append,List.append_nil];rfl)(z:enters X.P k=true:=by kernel_rfl):
 fe X G ⟨d, .call {callee:= .value x,args:=xs.toArray,argTypes:=ats},ty,pos,af,gd⟩ k FA:=fe.iD z hx h u
theorem xF{k:FuncId}{xs ys:List Operand}{cs:List aa}{I ya:Array Operand}(A:I=xs.toArray:=by rfl)(z:ya=ys.toArray:=by rfl)(D:cl G xs fs:=by exact vK)(C:cl G ys cs:=by exact vK)(u:∀(us vs:Array Value) w,(Instr.makeFunc (.func k) us vs).run X.P w= .ok (.func (.func k) us vs) w:=by exact λ_ _ _=>rfl):ah X G ⟨d, .makeFunc (.func k) I ya,ty,pos,af,gd⟩ (.ef k fs cs):=ah.makeFunc A z D C u
theorem xI{i:Operand}{R:Rp α}{T:List Nat}{n:Int}{t e:TypeId}(A:idx l n=some r)[u:qn X.P t e α R](hx:Has G x (aa.rep T l):=by exact HL)(z:Has G i (aa.rep T' n):=by exact HH):ah X G ⟨d, .indexAddr t x i,ty,pos,af,gd⟩ (aa.ptr T r):=ah.indexAddr A u.h hx z
theorem xJ{i:Operand}{R:Rp α}{T te:List Nat}{n:Int}{t e:TypeId}(A:idx l n=some r)[u:qn X.P t e α R](hx:Has G x (aa.sl T te l):=by first|exact ai rfl|exact aV (ai rfl) Cv.iS|exact dD rfl (by assumption)|exact aV (dD rfl (by assumption)) Cv.iS)(z:Has G i (aa.rep T' n):=by exact HH):ah X G ⟨d, .indexAddr t x i,ty,pos,af,gd⟩ (aa.sk T te r):=ah.WX A u.h hx z
theorem xu{R:Rp α}{i:Operand}{T te:List Nat}{n:Int}{ts e:TypeId}(C:b_ l.length n=some k)[z:de X.P ts e α R](hx:Has G x (.aL t):=by exact HH)(u:ay G (rs t)=some (.own t te e l):=by rfl)(A:Has G i (aa.rep T n):=by exact HH):ah X G ⟨d, .indexAddr ts x i,ty,pos,af,gd⟩ (aa.cJ t (k * R.n)):=ah.wT C z.h hx u A
theorem xv{R:Rp α}{s:Operand}{T:List Nat}{m r:List α}(te':List Nat)(t:Nat){ts e:TypeId}(A:app [] m=some r)[u:de X.P ts e α R](D:Has G s .dM:=by exact HH)(hx:Has G x (aa.rep T m):=by exact Cw)(z:cC (α:=α) t T te':=by first|exact cC.flat|exact cC.bj rfl rfl)(C:Nat.ble 10 t=true:=by rfl):
 ah X G ⟨d, .call {callee:= .builtin .append,args:= #[s,x],argTypes:= #[ts,ts]},ty,pos,af,gd⟩ (aa.ow [t] te' e r):=ah.OZ t A C u.h D hx z
theorem yA{R:Rp α}{s:Operand}{d:Nat}{T te Tx:List Nat}{m r:List α}{ts e:TypeId}(te':List Nat)(E:app l m=some r)[D:de X.P ts e α R](I:Has G s (aa.ow T te e l):=by first|exact HH|exact aV (ai rfl) (Cv.qd rfl))(hx:Has G x (aa.rep Tx m):=by exact Cw)(u:jV T=true:=by rfl)(z:T.isEmpty=false:=by rfl)(hd:Nat.blt d X.n=true:=by rfl)(A:gn (α:=α) T te te':=by first|exact gn.flat|exact gn.bj rfl rfl)(C:gn (α:=α) T Tx te':=by first|exact gn.flat|exact gn.bj rfl rfl):
 au X G ⟨some d, .call {callee:= .builtin .append,args:= #[s,x],argTypes:= #[ts,ts]},ty,pos,af,none⟩ (.ae d (aa.ow T te' e r)::fV T []):=au.T4 E u z hd D.h I hx A C
theorem yW{R:Rp α}{T te:List Nat}{n:Int}{e e':TypeId}(te':List Nat)(D:b_ l.length n=some k)[A:cj X.P e α R](E:Has G p (.cJ t (k * R.n)):=by exact HH)(u:ay G (rs t)=some (.own t te e' l):=by rfl)(hx:Has G x (aa.rep T y):=by exact Cw)(z:cC (α:=α) t te te':=by first|exact cC.flat|exact cC.bj rfl rfl)(C:cC (α:=α) t T te':=by first|exact cC.flat|exact cC.bj rfl rfl)(I:Nat.ble 10 t=true:=by rfl):
 au X G ⟨none, .store e p x,ty,pos,af,none⟩ [.ae (rs t) (.own t te' e' (l.set k y)), .av t]:=au.nw I (kr D rfl) A.h E u hx z C
inductive km:Ls->Nat->Bool×Nat×aa->Ls->Prop
 |zero {a x:Bool×Nat×aa} {l:Ls}:km (a::l) 0 x (x::l)
 |succ {a x:Bool×Nat×aa} {i:Nat} {l l':Ls} (h:km l i x l'):km (a::l) (i+1) x (a::l')
theorem km.e{l l':Ls}{x:Bool×Nat×aa}(h:km l i x l'):l.set i x=l':=by
 induction h with
 |zero=>rfl
 |succ _ u=>simp[u]
theorem uG{l l':Ls}{x:Bool×Nat×aa}(h:km l i x l':=by repeat first|exact km.zero|apply km.succ):km l i x l':=h
theorem Tt{u:Ls}{R:Rp α}{T:List Nat}(hx:Has G x (aa.rep T y))(z:kG ls i=some (off,R.agg,R.n,f0))(C:pl[i]? =some (off,R.n))(A:km ls i (R.agg,R.n,aa.rep T y) u)(k:BP G pl u us ls'):BP G pl ls ((i,x)::us) ls':=BP.cons z C hx hx (A.e▸k)
theorem X2{u:Ls}{R:Rp α}{y:List α}{T te:List Nat}{e:TypeId}(hx:Has G x (aa.ow T te e y))(z:kG ls i=some (off,false,1,f0))(A:pl[i]? =some (off,1))(C:km ls i (false,1,aa.ow T te e y) u)(k:BP G pl u us ls'):BP G pl ls ((i,x)::us) ls':=BP.cons (α:=List α) z A (aV hx Cv.wm) hx (C.e▸k)
theorem UQ{u:Ls}{R:Rp α}{y:List α}{T te:List Nat}(hx:Has G x (aa.sl T te y))(z:kG ls i=some (off,false,1,f0))(A:pl[i]? =some (off,1))(C:km ls i (false,1,aa.sl T te y) u)(k:BP G pl u us ls'):BP G pl ls ((i,x)::us) ls':=BP.cons (α:=List α) z A (aV hx Cv.FI) hx (C.e▸k)
theorem Yi{u:Ls}(hx:Has G x .dM)(z:kG ls i=some (off,false,1,f0))(C:pl[i]? =some (off,1))(A:km ls i (false,1, .dM) u)(k:BP G pl u us ls'):BP G pl ls ((i,x)::us) ls':=BP.cons (α:=List Int) z C (aV hx (Cv.nil (T:=[]))) hx (A.e▸k)
theorem Tf{u:Ls}{R:Rp β}{T:List Nat}{m:Option (Option β)}(hx:Has G x (.fz P T m))(z:kG ls i=some (off,false,1,f0))(A:pl[i]? =some (off,1))(C:km ls i (false,1, .fz P T m) u)(k:BP G pl u us ls'):BP G pl ls ((i,x)::us) ls':=BP.B8 z A jJ.fz hx (C.e▸k)
theorem Q8{ls1 z:Ls}(hx:Has G x (.aK z))(an:kG ls i=some (off,true,n,f0))(ac:pl[i]? =some (off,n))(ao:g7 z=n)(ag:km ls i (true,n, .aK z) ls1)(k:BP G pl ls1 us ls'):BP G pl ls ((i,x)::us) ls':=λa w g I cs h=>by
 have V:=hx a w g I;obtain⟨es,Y,A⟩:=V;have C:es.length=n:=by rw[bk.len _ _ A,ao]
 have ap:∀(l:Ls) (es:List Value),bk g w l es->∀c∈es,c.oneCell'=true:=by
  intro l;induction l with
  |nil=>intro es h c u;rw[show es=[] from h]at u;cases u
  |cons a l ae=>
   intro es h c u;obtain⟨c1,ak,rfl,_,am,_,_,al⟩:=h;rcases dx.1 u with u|u
   .exact am c u
   .exact ae ak al c u
 have O:(aa.aK z).p g (cL true es) w:=⟨es,rfl,A⟩;obtain⟨aq,E⟩:=bk.set ls cs es i off true n f0 (.aK z) h an C (ap z es A) O;rw[ag.e]at E;obtain⟨U,Z,ad⟩:=k a w g I _ E;refine⟨U,?_,ad⟩;rw[<-Z];simp only[fh,m_];have W:pl.toArray[i]? =some (off,n):=by simpa using ac
 simp only[W,Y];rw[show(mn es.toArray).cells=es.toArray from rfl];rw[if_neg (by simp[C];omega)];have D:=yj es off cs.toArray 0 (by simp;omega);simp only[ja,C]at D;congr 1;apply Array.toList_inj.1;simpa using D
theorem Nu(h:BP G pl ls us ls':=by repeat first
 |exact BP.nil|(apply Tt;exact HH;rfl;rfl;exact uG)|(apply Q8;exact HH;rfl;rfl;rfl;exact uG)|(apply X2;(first|exact HH|exact aV (ai rfl) (Cv.qd rfl));rfl;rfl;exact uG)|(apply UQ;exact HH;rfl;rfl;exact uG)|(apply Yi;exact HH;rfl;rfl;exact uG)|(apply Tf;exact HH;rfl;rfl;exact uG)):BP G pl ls us ls':=h
theorem bU{t:TypeId}{u:Array (Nat×Operand)}[z:dV X.P t pl ls](hu:u=us.toArray:=by rfl)(h:BP G pl ls us ls':=by exact Nu):ah X G ⟨d, .build t u,ty,pos,af,gd⟩ (.aK ls'):=ah.build z.h hu h
theorem bA{t:TypeId}{u:Array (Nat×Operand)}[z:lT X.P t pl ls](hu:u=us.toArray:=by rfl)(h:BP G pl ls us ls':=by exact Nu):ah X G ⟨d, .build t u,ty,pos,af,gd⟩ (.aK ls'):=ah.yx z.h hu h
theorem HE[R:Rp α]{T:List Nat}{xs:List Operand}{ys:List α}(h:fX G T xs ys:=by repeat first|exact fX.nil|(apply fX.cons;exact HA)):fX G T xs ys:=h
theorem xt{R:Rp α}{ts e:TypeId}{pt:Array (Nat×Operand)}(T:List Nat)(t:Nat)(ys:List α)[A:de X.P ts e α R](C:pt=us.toArray:=by rfl)(z:us=parts 0 (us.map (·.2)):=by rfl)(hx:fX G T (us.map (·.2)) ys:=by exact HE)(I:Nat.ble 10 t=true:=by rfl)(E:(us.map (·.2)).length=n:=by rfl)(D:Nat.ble (n * R.n) 16777216=true:=by rfl)(u:Nat.ble 1 n=true:=by rfl):ah X G ⟨d, .buildSlice ts n pt,ty,pos,af,gd⟩ (aa.rep (t::T) ys):=ah.lit t I A.h (by rw[C,<-z]) E D u hx
end
inductive gU(G:List It):Nat->List bm->List It->Prop
 |nil {i:Nat}:gU G i [] []
 |fl {α:Type} [R:Rp α] [Flat α] {i c:Nat} {x:α} {T:List Nat} {l:List bm} {K:List It} (h:ay G i=some (aa.rep T x)) (k:gU G (i+1) l K):gU G i (.rep c x::l) (.ae i (aa.rep [] x)::K)
 |rp {α:Type} [R:Rp α] {i c:Nat} {x:α} {l:List bm} {K:List It} (h:ay G i=some (aa.rep [0] x)) (k:gU G (i+1) l K):gU G i (.rep c x::l) (.ae i (aa.rep [0] x)::K)
 |pt {α:Type} [R:Rp α] {i c:Nat} {x:α} {l:List bm} {K:List It} (h:ay G i=some (aa.ptr [0] x)) (k:gU G (i+1) l K):gU G i (.ptr c x::l) (.ae i (aa.ptr [0] x)::K)
 |fn {P:Program} {A β:Type} [Rp β] {pre:A->List bm} {i c:Nat} {f:A->Option β} {l:List bm} {K:List It} (h:ay G i=some (aa.fn P pre [0] f)) (k:gU G (i+1) l K):gU G i (.fn P pre c f::l) (.ae i (aa.fn P pre [0] f)::K)
 |rc {α:Type} [R:Rp α] {i c:Nat} {x:List α} {l:List bm} {K:List It} (h:ay G i=some (aa.kW [0] x)) (k:gU G (i+1) l K):gU G i (.kW c x::l) (.ae i (aa.kW [0] x)::K)
theorem gU.sub{l:List bm}(h:gU G i l K):Sub G K:=by
 induction h with
 |nil=>exact Sub.nil
 |fl h _ u=>exact Sub.cons (fG (ai h)) u
 |rp h _ u=>exact Sub.cons (ai h) u
 |pt h _ u=>exact Sub.cons (ai h) u
 |fn h _ u=>exact Sub.cons (ai h) u
 |rc h _ u=>exact Sub.cons (ai h) u
theorem Oe{l:List bm}(h:gU G i l K:=by
 repeat first|exact gU.nil|(apply gU.fl;rfl;(try simp only[Nat.reduceAdd]))|(apply gU.rp;rfl;(try simp only[Nat.reduceAdd]))|(apply gU.pt;rfl;(try simp only[Nat.reduceAdd]))|(apply gU.fn;rfl;(try simp only[Nat.reduceAdd]))|(apply gU.rc;rfl;(try simp only[Nat.reduceAdd]))):gU G i l K:=h
theorem cw{k:FuncId}{fn:Func}(u:List (List Nat))(D:P.funcs[k]? =some fn)(h:∀(w0:World) (om:Nat->Nat),aO ⟨P,n,w0,fW,om,none,[]⟩ K c (bodyPost P fn (kP ⟨P,n,w0,fW,om,none,[]⟩ out u)))(E:gU (pre.zipIdx.map λx=>It.ae x.2 (x.1.f (da [0]))) 0 pre K:=by exact Oe)(I:fn.body=some c:=by rfl)(z:fn.ntmps=n:=by rfl)(C:Nat.ble pre.length n=true:=by rfl)(A:uV u shc=true:=by rfl):gl P k pre out shc:=
 FF u n D I z C A (λw0 om=>aO.sub E.sub (h w0 om))
def kR:Nat->List aa->List It->List It
 |_,[],l=>l
 |a,f::F,l=> .ae (100000+a) f::kR (a+1) F l
def kK:Nat->Nat->List It->List It
 |_,0,l=>l
 |a,n+1,l=> .bp a::kK (a+1) n l
section
variable{Q:Exit->Act->World->Prop}{rest:List Oper}
theorem z2{p2:String}(E:ah X (G) ⟨some d1,u1,y1,p1,a1,none⟩ f1)(D:ah X (.ae d1 f1::G) ⟨some d2,u2,y2,p2,a2,none⟩ f2)(k:br X ops Q (.ae d2 f2:: .ae d1 f1::G) rest)(A:Nat.blt d1 X.n=true:=by rfl)(C:eC u1=true:=by rfl)(z:Nat.blt d2 X.n=true:=by rfl)(u:eC u2=true:=by rfl):br X ops Q G (⟨some d1,u1,y1,p1,a1,none⟩::⟨some d2,u2,y2,p2,a2,none⟩::rest):=zo E (zo D (k) z u) A C
theorem z3{p2:String}{p3:String}(U:ah X (G) ⟨some d1,u1,y1,p1,a1,none⟩ f1)(I:ah X (.ae d1 f1::G) ⟨some d2,u2,y2,p2,a2,none⟩ f2)(O:ah X (.ae d2 f2:: .ae d1 f1::G) ⟨some d3,u3,y3,p3,a3,none⟩ f3)(k:br X ops Q (.ae d3 f3:: .ae d2 f2:: .ae d1 f1::G) rest)(D:Nat.blt d1 X.n=true:=by rfl)(E:eC u1=true:=by rfl)(A:Nat.blt d2 X.n=true:=by rfl)(z:eC u2=true:=by rfl)(u:Nat.blt d3 X.n=true:=by rfl)(C:eC u3=true:=by rfl):br X ops Q G (⟨some d1,u1,y1,p1,a1,none⟩::⟨some d2,u2,y2,p2,a2,none⟩::⟨some d3,u3,y3,p3,a3,none⟩::rest):=zo U (zo I (zo O (k) u C) A z) D E
theorem z4{p2:String}{p3:String}{u:Nat}{z:Op}{C:TypeId}{p4:String}{A:Array Edge}(ac:ah X (G) ⟨some d1,u1,y1,p1,a1,none⟩ f1)(Z:ah X (.ae d1 f1::G) ⟨some d2,u2,y2,p2,a2,none⟩ f2)(aa:ah X (.ae d2 f2:: .ae d1 f1::G) ⟨some d3,u3,y3,p3,a3,none⟩ f3)(ad:ah X (.ae d3 f3:: .ae d2 f2:: .ae d1 f1::G) ⟨some u,z,C,p4,A,none⟩ f4)(k:br X ops Q (.ae u f4:: .ae d3 f3:: .ae d2 f2:: .ae d1 f1::G) rest)(U:Nat.blt d1 X.n=true:=by rfl)(W:eC u1=true:=by rfl)(I:Nat.blt d2 X.n=true:=by rfl)(O:eC u2=true:=by rfl)(D:Nat.blt d3 X.n=true:=by rfl)(E:eC u3=true:=by rfl)(Y:Nat.blt u X.n=true:=by rfl)(V:eC z=true:=by rfl):br X ops Q G (⟨some d1,u1,y1,p1,a1,none⟩::⟨some d2,u2,y2,p2,a2,none⟩::⟨some d3,u3,y3,p3,a3,none⟩::⟨some u,z,C,p4,A,none⟩::rest):=zo ac (zo Z (zo aa (zo ad (k) Y V) D E) I O) U W
theorem z5{p2:String}{p3:String}{u:Nat}{C:Op}{I:TypeId}{p4:String}{O:Array Edge}{z:Nat}{A:Op}{U:TypeId}{p5:String}{D:Array Edge}{E:aa}(aq:ah X (G) ⟨some d1,u1,y1,p1,a1,none⟩ f1)(an:ah X (.ae d1 f1::G) ⟨some d2,u2,y2,p2,a2,none⟩ f2)(ap:ah X (.ae d2 f2:: .ae d1 f1::G) ⟨some d3,u3,y3,p3,a3,none⟩ f3)(ar:ah X (.ae d3 f3:: .ae d2 f2:: .ae d1 f1::G) ⟨some u,C,I,p4,O,none⟩ f4)(ao:ah X (.ae u f4:: .ae d3 f3:: .ae d2 f2:: .ae d1 f1::G) ⟨some z,A,U,p5,D,none⟩ E)(k:br X ops Q (.ae z E:: .ae u f4:: .ae d3 f3:: .ae d2 f2:: .ae d1 f1::G) rest)(ac:Nat.blt d1 X.n=true:=by rfl)(am:eC u1=true:=by rfl)(V:Nat.blt d2 X.n=true:=by rfl)(al:eC u2=true:=by rfl)(ad:Nat.blt d3 X.n=true:=by rfl)(ag:eC u3=true:=by rfl)(ak:Nat.blt u X.n=true:=by rfl)(W:eC C=true:=by rfl)(Z:Nat.blt z X.n=true:=by rfl)(Y:eC A=true:=by rfl):br X ops Q G (⟨some d1,u1,y1,p1,a1,none⟩::⟨some d2,u2,y2,p2,a2,none⟩::⟨some d3,u3,y3,p3,a3,none⟩::⟨some u,C,I,p4,O,none⟩::⟨some z,A,U,p5,D,none⟩::rest):=zo aq (zo an (zo ap (zo ar (zo ao (k) Z Y) ak W) ad ag) V al) ac am
theorem g2{T:List Nat}{p2:String}(u:(ops[j]?).bind (·.dst)=some dj)(I:ay G dj=some (aa.rep T b))(h:b=want->(ah X (G) ⟨some d1,u1,y1,p1,a1,some (j,want)⟩ f1)/\(ah X (.ae d1 (f1.c_ (b=want))::G) ⟨some d2,u2,y2,p2,a2,some (j,want)⟩ f2))(k:br X ops Q (.ae d2 (f2.c_ (b=want)):: .ae d1 (f1.c_ (b=want))::G) rest)(C:ay (.ae d1 (f1.c_ (b=want))::G) dj=some (aa.rep T b):=by rfl)(D:Nat.blt d1 X.n=true:=by rfl)(E:eC u1=true:=by rfl)(A:Nat.blt d2 X.n=true:=by rfl)(z:eC u2=true:=by rfl):br X ops Q G (⟨some d1,u1,y1,p1,a1,some (j,want)⟩::⟨some d2,u2,y2,p2,a2,some (j,want)⟩::rest):=zg u I (λe=>(h e).1) (zg u C (λe=>(h e).2) (k) A z) D E
theorem g3{T:List Nat}{p2:String}{p3:String}(u:(ops[j]?).bind (·.dst)=some dj)(V:ay G dj=some (aa.rep T b))(h:b=want->(ah X (G) ⟨some d1,u1,y1,p1,a1,some (j,want)⟩ f1)/\(ah X (.ae d1 (f1.c_ (b=want))::G) ⟨some d2,u2,y2,p2,a2,some (j,want)⟩ f2)/\(ah X (.ae d2 (f2.c_ (b=want)):: .ae d1 (f1.c_ (b=want))::G) ⟨some d3,u3,y3,p3,a3,some (j,want)⟩ f3))(k:br X ops Q (.ae d3 (f3.c_ (b=want)):: .ae d2 (f2.c_ (b=want)):: .ae d1 (f1.c_ (b=want))::G) rest)(I:ay (.ae d1 (f1.c_ (b=want))::G) dj=some (aa.rep T b):=by rfl)(z:ay (.ae d2 (f2.c_ (b=want)):: .ae d1 (f1.c_ (b=want))::G) dj=some (aa.rep T b):=by rfl)(O:Nat.blt d1 X.n=true:=by rfl)(U:eC u1=true:=by rfl)(D:Nat.blt d2 X.n=true:=by rfl)(E:eC u2=true:=by rfl)(A:Nat.blt d3 X.n=true:=by rfl)(C:eC u3=true:=by rfl):br X ops Q G (⟨some d1,u1,y1,p1,a1,some (j,want)⟩::⟨some d2,u2,y2,p2,a2,some (j,want)⟩::⟨some d3,u3,y3,p3,a3,some (j,want)⟩::rest):=zg u V (λe=>(h e).1) (zg u I (λe=>(h e).2.1) (zg u z (λe=>(h e).2.2) (k) A C) D E) O U
theorem g4{T:List Nat}{p2:String}{p3:String}{z:Nat}{A:Op}{D:TypeId}{p4:String}{C:Array Edge}(u:(ops[j]?).bind (·.dst)=some dj)(ak:ay G dj=some (aa.rep T b))(h:b=want->(ah X (G) ⟨some d1,u1,y1,p1,a1,some (j,want)⟩ f1)/\(ah X (.ae d1 (f1.c_ (b=want))::G) ⟨some d2,u2,y2,p2,a2,some (j,want)⟩ f2)/\(ah X (.ae d2 (f2.c_ (b=want)):: .ae d1 (f1.c_ (b=want))::G) ⟨some d3,u3,y3,p3,a3,some (j,want)⟩ f3)/\(ah X (.ae d3 (f3.c_ (b=want)):: .ae d2 (f2.c_ (b=want)):: .ae d1 (f1.c_ (b=want))::G) ⟨some z,A,D,p4,C,some (j,want)⟩ f4))(k:br X ops Q (.ae z (f4.c_ (b=want)):: .ae d3 (f3.c_ (b=want)):: .ae d2 (f2.c_ (b=want)):: .ae d1 (f1.c_ (b=want))::G) rest)(Y:ay (.ae d1 (f1.c_ (b=want))::G) dj=some (aa.rep T b):=by rfl)(E:ay (.ae d2 (f2.c_ (b=want)):: .ae d1 (f1.c_ (b=want))::G) dj=some (aa.rep T b):=by rfl)(Z:ay (.ae d3 (f3.c_ (b=want)):: .ae d2 (f2.c_ (b=want)):: .ae d1 (f1.c_ (b=want))::G) dj=some (aa.rep T b):=by rfl)(ac:Nat.blt d1 X.n=true:=by rfl)(ad:eC u1=true:=by rfl)(V:Nat.blt d2 X.n=true:=by rfl)(W:eC u2=true:=by rfl)(I:Nat.blt d3 X.n=true:=by rfl)(U:eC u3=true:=by rfl)(ag:Nat.blt z X.n=true:=by rfl)(O:eC A=true:=by rfl):br X ops Q G (⟨some d1,u1,y1,p1,a1,some (j,want)⟩::⟨some d2,u2,y2,p2,a2,some (j,want)⟩::⟨some d3,u3,y3,p3,a3,some (j,want)⟩::⟨some z,A,D,p4,C,some (j,want)⟩::rest):=zg u ak (λe=>(h e).1) (zg u Y (λe=>(h e).2.1) (zg u E (λe=>(h e).2.2.1) (zg u Z (λe=>(h e).2.2.2) (k) ag O) I U) V W) ac ad
end
section
variable{R:List (List It)}{l:List Oper}
theorem p2{d1:Nat}{u1:Op}{y1:TypeId}{p1:String}{a1:Array Edge}{f1:aa}{d2:Nat}{u2:Op}{y2:TypeId}{p2:String}{a2:Array Edge}{f2:aa}(C:ah X (cB AH Is G (k) n) ⟨some d1,u1,y1,p1,a1,none⟩ f1)(A:ah X (cB AH Is G (k+1) n) ⟨some d2,u2,y2,p2,a2,none⟩ f2)(r:gj X ops AH Is G n l (k+1+1) R)(z:Nat.blt d1 X.n=true:=by rfl)(u:Nat.blt d2 X.n=true:=by rfl):gj X ops AH Is G n (⟨some d1,u1,y1,p1,a1,none⟩::⟨some d2,u2,y2,p2,a2,none⟩::l) k ([.ae d1 f1]::[.ae d2 f2]::R):=o1 C (o1 A (r) u) z
theorem p3{d1:Nat}{u1:Op}{y1:TypeId}{p1:String}{a1:Array Edge}{f1:aa}{d2:Nat}{u2:Op}{y2:TypeId}{p2:String}{a2:Array Edge}{f2:aa}{d3:Nat}{u3:Op}{y3:TypeId}{p3:String}{a3:Array Edge}{f3:aa}(E:ah X (cB AH Is G (k) n) ⟨some d1,u1,y1,p1,a1,none⟩ f1)(C:ah X (cB AH Is G (k+1) n) ⟨some d2,u2,y2,p2,a2,none⟩ f2)(D:ah X (cB AH Is G (k+1+1) n) ⟨some d3,u3,y3,p3,a3,none⟩ f3)(r:gj X ops AH Is G n l (k+1+1+1) R)(A:Nat.blt d1 X.n=true:=by rfl)(z:Nat.blt d2 X.n=true:=by rfl)(u:Nat.blt d3 X.n=true:=by rfl):gj X ops AH Is G n (⟨some d1,u1,y1,p1,a1,none⟩::⟨some d2,u2,y2,p2,a2,none⟩::⟨some d3,u3,y3,p3,a3,none⟩::l) k ([.ae d1 f1]::[.ae d2 f2]::[.ae d3 f3]::R):=o1 E (o1 C (o1 D (r) u) z) A
theorem p4{d1:Nat}{u1:Op}{y1:TypeId}{p1:String}{a1:Array Edge}{f1:aa}{d2:Nat}{u2:Op}{y2:TypeId}{p2:String}{a2:Array Edge}{f2:aa}{d3:Nat}{u3:Op}{y3:TypeId}{p3:String}{a3:Array Edge}{f3:aa}{u:Nat}{A:Op}{C:TypeId}{p4:String}{z:Array Edge}{f4:aa}(W:ah X (cB AH Is G (k) n) ⟨some d1,u1,y1,p1,a1,none⟩ f1)(U:ah X (cB AH Is G (k+1) n) ⟨some d2,u2,y2,p2,a2,none⟩ f2)(V:ah X (cB AH Is G (k+1+1) n) ⟨some d3,u3,y3,p3,a3,none⟩ f3)(Y:ah X (cB AH Is G (k+1+1+1) n) ⟨some u,A,C,p4,z,none⟩ f4)(r:gj X ops AH Is G n l (k+1+1+1+1) R)(I:Nat.blt d1 X.n=true:=by rfl)(E:Nat.blt d2 X.n=true:=by rfl)(D:Nat.blt d3 X.n=true:=by rfl)(O:Nat.blt u X.n=true:=by rfl):gj X ops AH Is G n (⟨some d1,u1,y1,p1,a1,none⟩::⟨some d2,u2,y2,p2,a2,none⟩::⟨some d3,u3,y3,p3,a3,none⟩::⟨some u,A,C,p4,z,none⟩::l) k ([.ae d1 f1]::[.ae d2 f2]::[.ae d3 f3]::[.ae u f4]::R):=o1 W (o1 U (o1 V (o1 Y (r) O) D) E) I
theorem p5{d1:Nat}{u1:Op}{y1:TypeId}{p1:String}{a1:Array Edge}{f1:aa}{d2:Nat}{u2:Op}{y2:TypeId}{p2:String}{a2:Array Edge}{f2:aa}{d3:Nat}{u3:Op}{y3:TypeId}{p3:String}{a3:Array Edge}{f3:aa}{u:Nat}{E:Op}{I:TypeId}{p4:String}{O:Array Edge}{f4:aa}{z:Nat}{C:Op}{U:TypeId}{p5:String}{A:Array Edge}{D:aa}(al:ah X (cB AH Is G (k) n) ⟨some d1,u1,y1,p1,a1,none⟩ f1)(ad:ah X (cB AH Is G (k+1) n) ⟨some d2,u2,y2,p2,a2,none⟩ f2)(ak:ah X (cB AH Is G (k+1+1) n) ⟨some d3,u3,y3,p3,a3,none⟩ f3)(am:ah X (cB AH Is G (k+1+1+1) n) ⟨some u,E,I,p4,O,none⟩ f4)(ag:ah X (cB AH Is G (k+1+1+1+1) n) ⟨some z,C,U,p5,A,none⟩ D)(r:gj X ops AH Is G n l (k+1+1+1+1+1) R)(Y:Nat.blt d1 X.n=true:=by rfl)(V:Nat.blt d2 X.n=true:=by rfl)(Z:Nat.blt d3 X.n=true:=by rfl)(ac:Nat.blt u X.n=true:=by rfl)(W:Nat.blt z X.n=true:=by rfl):gj X ops AH Is G n (⟨some d1,u1,y1,p1,a1,none⟩::⟨some d2,u2,y2,p2,a2,none⟩::⟨some d3,u3,y3,p3,a3,none⟩::⟨some u,E,I,p4,O,none⟩::⟨some z,C,U,p5,A,none⟩::l) k ([.ae d1 f1]::[.ae d2 f2]::[.ae d3 f3]::[.ae u f4]::[.ae z D]::R):=o1 al (o1 ad (o1 ak (o1 am (o1 ag (r) W) ac) Z) V) Y
theorem p6{d1:Nat}{u1:Op}{y1:TypeId}{p1:String}{a1:Array Edge}{f1:aa}{d2:Nat}{u2:Op}{y2:TypeId}{p2:String}{a2:Array Edge}{f2:aa}{d3:Nat}{u3:Op}{y3:TypeId}{p3:String}{a3:Array Edge}{f3:aa}{z:Nat}{O:Op}{U:TypeId}{p4:String}{W:Array Edge}{f4:aa}{A:Nat}{E:Op}{ac:TypeId}{p5:String}{C:Array Edge}{I:aa}{u:Nat}{D:Op}{Y:TypeId}{p6:String}{V:Array Edge}{Z:aa}(av:ah X (cB AH Is G (k) n) ⟨some d1,u1,y1,p1,a1,none⟩ f1)(ao:ah X (cB AH Is G (k+1) n) ⟨some d2,u2,y2,p2,a2,none⟩ f2)(ar:ah X (cB AH Is G (k+1+1) n) ⟨some d3,u3,y3,p3,a3,none⟩ f3)(aw:ah X (cB AH Is G (k+1+1+1) n) ⟨some z,O,U,p4,W,none⟩ f4)(aq:ah X (cB AH Is G (k+1+1+1+1) n) ⟨some A,E,ac,p5,C,none⟩ I)(ap:ah X (cB AH Is G (k+1+1+1+1+1) n) ⟨some u,D,Y,p6,V,none⟩ Z)(r:gj X ops AH Is G n l (k+1+1+1+1+1+1) R)(al:Nat.blt d1 X.n=true:=by rfl)(ad:Nat.blt d2 X.n=true:=by rfl)(am:Nat.blt d3 X.n=true:=by rfl)(an:Nat.blt z X.n=true:=by rfl)(ak:Nat.blt A X.n=true:=by rfl)(ag:Nat.blt u X.n=true:=by rfl):gj X ops AH Is G n (⟨some d1,u1,y1,p1,a1,none⟩::⟨some d2,u2,y2,p2,a2,none⟩::⟨some d3,u3,y3,p3,a3,none⟩::⟨some z,O,U,p4,W,none⟩::⟨some A,E,ac,p5,C,none⟩::⟨some u,D,Y,p6,V,none⟩::l) k ([.ae d1 f1]::[.ae d2 f2]::[.ae d3 f3]::[.ae z f4]::[.ae A I]::[.ae u Z]::R):=o1 av (o1 ao (o1 ar (o1 aw (o1 aq (o1 ap (r) ag) ak) an) am) ad) al
theorem q2{T:List Nat}{p2:String}(u:(ops[j]?).bind (·.dst)=some dj:=by rfl)(D:ay (cB AH Is G (k) n) dj=some (aa.rep T b):=by rfl)(A:ay (cB AH Is G (k+1) n) dj=some (aa.rep T b):=by rfl)(h:b=want->(ah X (cB AH Is G (k) n) ⟨some d1,u1,y1,p1,a1,some (j,want)⟩ f1)/\(ah X (cB AH Is G (k+1) n) ⟨some d2,u2,y2,p2,a2,some (j,want)⟩ f2))(C:Nat.blt d1 X.n=true:=by rfl)(z:Nat.blt d2 X.n=true:=by rfl):cI X ops (cB AH Is G (k) n) ⟨some d1,u1,y1,p1,a1,some (j,want)⟩ [.ae d1 (f1.c_ (b=want))]/\cI X ops (cB AH Is G (k+1) n) ⟨some d2,u2,y2,p2,a2,some (j,want)⟩ [.ae d2 (f2.c_ (b=want))]:=⟨qg C u D (λe=>(h e).1),qg z u A (λe=>(h e).2)⟩
theorem w2{o1 o2:Oper}{u I2:List It}(h:cI X ops (cB AH Is G (k) n) o1 u/\cI X ops (cB AH Is G (k+1) n) o2 I2)(r:gj X ops AH Is G n l (k+1+1) R):gj X ops AH Is G n (o1::o2::l) k (u::I2::R):=aq h.1 (aq h.2 (r))
theorem q3{T:List Nat}{p2:String}{p3:String}(u:(ops[j]?).bind (·.dst)=some dj:=by rfl)(I:ay (cB AH Is G (k) n) dj=some (aa.rep T b):=by rfl)(D:ay (cB AH Is G (k+1) n) dj=some (aa.rep T b):=by rfl)(z:ay (cB AH Is G (k+1+1) n) dj=some (aa.rep T b):=by rfl)(h:b=want->(ah X (cB AH Is G (k) n) ⟨some d1,u1,y1,p1,a1,some (j,want)⟩ f1)/\(ah X (cB AH Is G (k+1) n) ⟨some d2,u2,y2,p2,a2,some (j,want)⟩ f2)/\(ah X (cB AH Is G (k+1+1) n) ⟨some d3,u3,y3,p3,a3,some (j,want)⟩ f3))(E:Nat.blt d1 X.n=true:=by rfl)(C:Nat.blt d2 X.n=true:=by rfl)(A:Nat.blt d3 X.n=true:=by rfl):cI X ops (cB AH Is G (k) n) ⟨some d1,u1,y1,p1,a1,some (j,want)⟩ [.ae d1 (f1.c_ (b=want))]/\cI X ops (cB AH Is G (k+1) n) ⟨some d2,u2,y2,p2,a2,some (j,want)⟩ [.ae d2 (f2.c_ (b=want))]/\cI X ops (cB AH Is G (k+1+1) n) ⟨some d3,u3,y3,p3,a3,some (j,want)⟩ [.ae d3 (f3.c_ (b=want))]:=⟨qg E u I (λe=>(h e).1),qg C u D (λe=>(h e).2.1),qg A u z (λe=>(h e).2.2)⟩
theorem w3{o1 o2 o3:Oper}{u I2 I3:List It}(h:cI X ops (cB AH Is G (k) n) o1 u/\cI X ops (cB AH Is G (k+1) n) o2 I2/\cI X ops (cB AH Is G (k+1+1) n) o3 I3)(r:gj X ops AH Is G n l (k+1+1+1) R):gj X ops AH Is G n (o1::o2::o3::l) k (u::I2::I3::R):=aq h.1 (aq h.2.1 (aq h.2.2 (r)))
theorem q4{T:List Nat}{p2:String}{p3:String}{z:Nat}{A:Op}{D:TypeId}{p4:String}{C:Array Edge}(u:(ops[j]?).bind (·.dst)=some dj:=by rfl)(Y:ay (cB AH Is G (k) n) dj=some (aa.rep T b):=by rfl)(V:ay (cB AH Is G (k+1) n) dj=some (aa.rep T b):=by rfl)(E:ay (cB AH Is G (k+1+1) n) dj=some (aa.rep T b):=by rfl)(U:ay (cB AH Is G (k+1+1+1) n) dj=some (aa.rep T b):=by rfl)(h:b=want->(ah X (cB AH Is G (k) n) ⟨some d1,u1,y1,p1,a1,some (j,want)⟩ f1)/\(ah X (cB AH Is G (k+1) n) ⟨some d2,u2,y2,p2,a2,some (j,want)⟩ f2)/\(ah X (cB AH Is G (k+1+1) n) ⟨some d3,u3,y3,p3,a3,some (j,want)⟩ f3)/\(ah X (cB AH Is G (k+1+1+1) n) ⟨some z,A,D,p4,C,some (j,want)⟩ f4))(W:Nat.blt d1 X.n=true:=by rfl)(O:Nat.blt d2 X.n=true:=by rfl)(I:Nat.blt d3 X.n=true:=by rfl)(Z:Nat.blt z X.n=true:=by rfl):cI X ops (cB AH Is G (k) n) ⟨some d1,u1,y1,p1,a1,some (j,want)⟩ [.ae d1 (f1.c_ (b=want))]/\cI X ops (cB AH Is G (k+1) n) ⟨some d2,u2,y2,p2,a2,some (j,want)⟩ [.ae d2 (f2.c_ (b=want))]/\cI X ops (cB AH Is G (k+1+1) n) ⟨some d3,u3,y3,p3,a3,some (j,want)⟩ [.ae d3 (f3.c_ (b=want))]/\cI X ops (cB AH Is G (k+1+1+1) n) ⟨some z,A,D,p4,C,some (j,want)⟩ [.ae z (f4.c_ (b=want))]:=⟨qg W u Y (λe=>(h e).1),qg O u V (λe=>(h e).2.1),qg I u E (λe=>(h e).2.2.1),qg Z u U (λe=>(h e).2.2.2)⟩
theorem w4{o1 o2 o3 o4:Oper}{u I2 I3 I4:List It}(h:cI X ops (cB AH Is G (k) n) o1 u/\cI X ops (cB AH Is G (k+1) n) o2 I2/\cI X ops (cB AH Is G (k+1+1) n) o3 I3/\cI X ops (cB AH Is G (k+1+1+1) n) o4 I4)(r:gj X ops AH Is G n l (k+1+1+1+1) R):gj X ops AH Is G n (o1::o2::o3::o4::l) k (u::I2::I3::I4::R):=aq h.1 (aq h.2.1 (aq h.2.2.1 (aq h.2.2.2 (r))))
end
instance{N:Nat} {α:Type} [DecidableEq α]:DecidableEq (cm N α):=λa b=>if h:a.l=b.l then .isTrue (by cases a;cases b;cases h;rfl)else .isFalse (λe=>h (by rw[e]))
theorem bk.za{c1:List Value}[R:Rp α](h:∀F w,R.rel F y c1 w)(k:bk g w ls cs)(u:R.agg=true:=by rfl)(A:R.n=n:=by rfl):bk g w ((true,n,aa.rep [] y)::ls) (c1++cs):=
 ⟨c1,cs,rfl,(R.len _ _ _ w (h (λ_=>False) w)).trans A,λc z=>R.one _ _ _ w (h (λ_=>False) w) c z,(λh=>by cases h),⟨c1,h _ w,by rw[u]⟩,k⟩
theorem cm.zero{F:Nat->Prop}[R:Rp α]{z:α}{c:List Value}(N:Nat)(h:R.rel F z c w):(inferInstance:Rp (cm N α)).rel F ⟨dr N z⟩ (dr N c).flatten w:=⟨qI,aR.rep h N⟩
section
variable{dO:Option Nat}
theorem ah.uf[R:Rp α]{i:Operand}{T:List Nat}{n:Int}{ts e:TypeId}{z:α}(O:b_ N n=some k)(u:jh X.P ts e N α z)(hx:Has G x (.cJ t off))(D:Has G i (aa.rep T n)):ah X G ⟨dO, .indexAddr ts x i,ty,pos,af,gd⟩ (aa.cJ t (off+k * R.n)):=by
 obtain⟨I,U,rfl⟩:=pH O;refine bL λa w g A=>?_;obtain⟨b,V,E⟩:=hx a w g A;have C:=cD.1 (D a w g A);refine⟨.pointer (some ⟨b,off+n.toNat * R.n,none⟩),?_,b,V,rfl⟩;have W: ¬(N<=1):=by have:=u.yD;simp at this;omega
 unfold execOp;simp only[E,C,cU,kc];unfold vh;simp[asIntOf,run_underlying u.cE,fL,I,U,gD u.el,Go.Addr.add_lit]
theorem ah.Uk[R:Rp α]{i:Operand}{T:List Nat}{y:cm N α}{n:Int}{t e:TypeId}(z:idx y.l n=some r)(ak:Er X.P t e N)(E:Ty X.P e α)(hx:Has G x (aa.rep T y))(ap:Has G i (aa.rep T' n)):ah X G ⟨dO, .index t x i,ty,pos,af,gd⟩ (aa.rep T r):=
 bL λa w g V=>by
  obtain⟨cs,⟨ao,I⟩,ae⟩:=hx a w g V;have al:=cD.1 (ap a w g V);have W:0<=n/\n<N/\y.l[n.toNat]? =some r:=by
   unfold idx at z;split at z
   .rename_i C;have A:=(cy.1 z).1;exact⟨C,by omega,z⟩
   .cases z
  obtain⟨C,A,Z⟩:=W;obtain⟨es,O,D⟩:=aR.get y.l cs I _ r Z;have ac:=R.len _ _ _ _ O;have ad:=aR.len y.l cs I;have ag:n.toNat<N:=by omega
  have aq:n.toNat * R.n+R.n<=cs.length:=by
   have an:n.toNat * R.n+R.n=(n.toNat+1) * R.n:=by rw[h_];omega
   rw[an,ad,ao];exact iJ _ ag
  refine⟨cL R.agg es,?_,es,O,rfl⟩;have Y:a.eval x= .agg cs.toArray:=ae;have am:(oX e).run X.P w= .ok R.n w:=gD E w;unfold execOp;simp[Y,al,Instr.index,asIntOf,run_underlying ak.h,C,A,am,part,wq E];by_cases hag:R.agg=true
  .have hd:(cs.drop (n.toNat * R.n)).take R.n=es:=by
    apply o0;intro j;rw[o8,ke];by_cases hj:j<R.n
    .rw[if_pos hj,ek (show j<es.length by omega),D j _ (ek (by omega))]
    .rw[if_neg hj,Ex (by omega)]
   rw[if_pos hag,hd];simp[cL,hag]
  .have A:R.n=1:=R.na (by simpa using hag)
   match es,ac with
   |[],h=>rw[A]at h;cases h
   |u::ar,_=>
    have U:=D 0 u rfl;rw[ja]at U;rw[if_neg hag,U];simp only[cL,if_neg hag];rfl
theorem Nn[R:Rp α]{T:List Nat}{y:cm N α}(ho:(aa.obj t ps).p g v w)(I:partAt ps q=some (off,true,N * R.n))(E:(aa.rep T y).p g (g.ga (t+1+q)) w):∃b c,g.ga t= .pointer (some ⟨b,0,none⟩)/\eO w ⟨b,off,none⟩ c/\y.l.length=N/\aR (λb=>g.om b∈T) y.l c w/\g.ga (t+1+q)=cL true c:=by
 obtain⟨b,c,O,u,V,U⟩:=FG ho I;obtain⟨C,A,z⟩:=E;rw[u]at z;have D:c=C:=by have:(mn c.toArray)=mn C.toArray:=z;simpa using this
 subst D;exact⟨b,c,O,U,A.1,A.2,u⟩
theorem ah.Il[R:Rp α]{T:List Nat}{y:cm N α}{e:TypeId}(ad:y.l[k]? =some r)(E:Ty X.P e α)(Z:partAt ps q=some (off,true,N * R.n))(hx:Has G x (.cJ t (off+k * R.n)))(ho:ay G (rs t)=some (.obj t ps))(Y:dJ G (t+1+q) (aa.rep T y)):ah X G ⟨dO, .load e x,ty,pos,af,gd⟩ (aa.rep T r):=
 bL λa w g z=>by
  obtain⟨b,A,W⟩:=hx a w g z;obtain⟨O,c,ac,I,ag,ae,_⟩:=Nn (z _ _ ho) Z (Y a w g z);rw[ac]at A;simp only[ix,Option.some.injEq]at A;subst A;obtain⟨es,C,D⟩:=aR.get y.l c ae k r ad;have V:eO w ⟨O,off+k * R.n,none⟩ es:=λj u U=>by have:=I (k * R.n+j) u (D j u U);rw[Go.Addr.add_lit]at this|-;rw[show off+k * R.n+j=off+(k * R.n+j) by omega];exact this
  refine⟨cL R.agg es,?_,es,C,rfl⟩;unfold execOp;simp[W,lE,fL,n8 E V C]
theorem au.HI[R:Rp α][a_:Flat α]{T:List Nat}{y:cm N α}{z:α}{e:TypeId}(a4:bx 10 t=true)(aw:k<N)(aN:Ty X.P e α)(Y:partAt ps q=some (off,true,N * R.n))(aI:Has G p (.cJ t (off+k * R.n)))(ho:ay G (rs t)=some (.obj t ps))(aU:dJ G (t+1+q) (aa.rep T y))(hx:Has G x (aa.rep T' z)):
 au X G ⟨none, .store e p x,ty,pos,af,none⟩ [.ae (rs (t+1+q)) (.at (t+1+q) (aa.rep [] (⟨y.l.set k z⟩:cm N α))), .ae (rs t) (.obj t ps), .av t, .bp (t+1+q)]:=λG' aG a w env K Q a6=>by
 have aJ:10<=t:=by simpa using a4
 obtain⟨g,D,ao⟩:=env.facts;have I:=aG a w g ao;obtain⟨b,C,aZ⟩:=aI a w g I;have an:=I _ _ ho;obtain⟨a9,c,e1,e2,e3,aY,a0⟩:=Nn an Y (aU a w g I);obtain⟨A,ap,cs,am,aE,ar,ak⟩:=an;rw[am]at C;simp only[ix,Option.some.injEq]at C;subst C;obtain⟨u,aA,Z,aB,a5⟩:=ak.part ps (t+1) _ q off _ _ Y;have aM:u=c:=by rw[a0]at aA;have:(mn c.toArray)=mn u.toArray:=aA;simpa using this.symm
 subst aM;have a7:k * R.n+R.n<=N * R.n:=by
  have ad:k * R.n+R.n=(k+1) * R.n:=by rw[h_];omega
  rw[ad];exact iJ _ aw
 have al:cs.toList=cs.toList.take off++u++cs.toList.drop (off+N * R.n):=by
  apply o0;intro j;rw[Array.length_toList]at aB;rw[List.getElem?_append,List.getElem?_append];simp only[bY,cf,Array.length_toList,o8,ke,Z];rw[jN (by omega)];by_cases hj:j<off
  .simp[hj];omega
  .by_cases hj2:j<off+N * R.n
   .have:=a5 (j - off) (u[j - off]'(by omega)) (ek _);rw[show off+(j - off)=j by omega]at this;simp only[hj2,hj,if_true,if_false];rw[this,ek (by omega)]
   .simp only[hj2,if_false];rw[show off+N * R.n+(j - (off+N * R.n))=j by omega]
 obtain⟨es,a8,aq,aH⟩:=pF (P:=X.P) (o:=off+k * R.n) aN aE (hx a w g I) (show off+k * R.n+R.n<=cs.size by rw[Array.length_toList]at aB;omega);have a':=R.len _ _ _ _ aq;have O:(execOp a.eval ⟨none, .store e p x,ty,pos,af,none⟩).run X.P w= .ok .skip (w.setRow A (cs.toList.take (off+k * R.n)++es++cs.toList.drop (off+k * R.n+R.n)).toArray):=by unfold execOp;simp only[aZ,o9,fL,cU,gx,eA];rw[aH];rfl
 have aF:cs.toList.take (off+k * R.n)++es++cs.toList.drop (off+k * R.n+R.n)=cs.toList.take off++(u.take (k * R.n)++es++u.drop (k * R.n+R.n))++cs.toList.drop (off+N * R.n):=by
  have az:off<=cs.toList.length:=by omega
  have t1:cs.toList.take (off+k * R.n)=cs.toList.take off++u.take (k * R.n):=by
   conv=>lhs;rw[al]
   rw[fE,oZ,cf,jN az,fm (by rw[cf];omega),show off+k * R.n - off=k * R.n by omega,oZ,Z,show k * R.n - N * R.n=0 by omega];simp
  have t2:cs.toList.drop (off+k * R.n+R.n)=u.drop (k * R.n+R.n)++cs.toList.drop (off+N * R.n):=by
   conv=>lhs;rw[al]
   rw[fE,EA,cf,jN az,kb (by rw[cf];omega),gZ,show off+k * R.n+R.n - off=k * R.n+R.n by omega,EA,Z,show k * R.n+R.n - N * R.n=0 by omega];simp
  rw[t1,t2];simp only[fE]
 rw[aF]at O
 generalize hE:u.take (k * R.n)++es++u.drop (k * R.n+R.n)=E at O
 have V:aR (λb=>g.om b∈([]:List Nat)) (y.l.set k z) E (w.setRow A (cs.toList.take off++E++cs.toList.drop (off+N * R.n)).toArray):=by rw[<-hE];exact aR.flat _ _ (aR.set y.l u (aR.flat (F':=λb=>g.om b∈T') y.l u aY) k z es (by rw[e3];exact aw) aq)
 have aO:E.length=N * R.n:=by rw[aR.len _ _ V,kD,e3]
 unfold dy;rw[O];refine a6 undef _ ?_;have C:∀b,b<w.heap.size->g.om b≠t->(w.setRow A (cs.toList.take off++E++cs.toList.drop (off+N * R.n)).toArray).heap[b]? =w.heap[b]? :=λb C aL=>setRow_other w A b _ (λh=>aL (by rw[h];exact ar));have W:(w.setRow A (cs.toList.take off++E++cs.toList.drop (off+N * R.n)).toArray).heap.size=w.heap.size:=by simp
 let g2:Gh:=⟨g.om,λs=>if s=t+1+q then cL true E else g.ga s⟩
 have ag:g2.ga (t+1+q)=cL true E:=if_pos rfl;have U:∀s,s≠t+1+q->g2.ga s=g.ga s:=λs ac=>if_neg ac;refine⟨by simp[Act.put,env.size],env.defers,Fr.own env.fr D aJ (.inr trivial) rfl rfl rfl (by rw[W];exact bh _) C,g2,⟨⟨D.ok.ec,λb ad aC=>D.ok.new b ad (by rw[W]at aC;exact aC)⟩,D.om⟩,?_⟩;show aQ _ g2 a _;refine aQ.db ?_ (λv=>?_)
 .refine aQ.db ?_ (λv=>⟨A,ap,_,by rw[U t (by omega)];exact am,setRow_heap w A cs _ ap (0,0) aE,ar,?_⟩)
  .exact sD [t+1+q] ao (by rw[W];exact bh _) C (λ_ _=>rfl) (λs ac=>U s (by simpa using ac))
  .have:=eT.set (g:=g) (g':=g2) ps (t+1) cs.toList E q off _ _ ak Y aO (aR.one _ _ V) ag U;simpa using this
 .show(aa.rep ([]:List Nat) (⟨y.l.set k z⟩:cm N α)).p g2 (g2.ga (t+1+q)) _;rw[ag];exact⟨E,⟨by rw[kD];exact e3,V⟩,rfl⟩
end
section
variable{Q:Exit->Act->World->Prop}
def tD(X:Cx)(G:List It)(o:Oper)(N:Act->World->Prop)(Q:Exit->Act->World->Prop):Prop:=∀a w,Env X G a w->∀K:Act->World->Prop,(∀a w,N a w->K a w)->o.wp X.P a w K Q
theorem tD.inline(J:S->List It)(F:S->Prop)(U:(Nat->Value)->List It){k:FuncId}{fn:Func}{z:List aa}(an:X.P.funcs[k]? =some fn)(ag:fn.body=some c)(am:fn.ntmps=n)(al:bx z.length n=true)(ae:fe X G o k z)(Y:∀u,Carry G u (U u))(V:∀u:Nat->Value,aO ⟨X.P,n,X.w0,X.C,X.dE,none,[]⟩ (pG 0 z (U u)) c (bodyPost X.P fn (jj X J F o.dst u)))(W:∀p,F p->aH X (J p) Q .normal):tD X G o (Q .normal) Q:=λa w env K ao=>by
 obtain⟨g,I,E⟩:=env.facts;obtain⟨A,Z,D⟩:=ae a w g E;have ap:=fQ.len z A D;have aq:z.length<=n:=by simpa using al
 unfold dy;rw[Z];refine kZ (calls_of_wp an ag (R:=jj X J F o.dst (λs=>a.tmps.getD s undef)) (wpIn_wide (n:=0).1 (V (λs=>a.tmps.getD s undef) _ w ?_))) ?_
 .subst am;refine⟨by simp;omega,rfl,env.fr,g,⟨I.ok,I.om⟩,?_⟩;refine DC z A 0 (Y _ a w g _ E (λ_=>rfl)) D (λj v O=>?_);have ac:j<A.length:=(cy.1 O).1;simp only[dQ];rw[Array.getD_eq_getD_getElem?,Array.getElem?_append_left (by simpa using ac)];simp[O]
 .rintro e w' ⟨v,rfl,p,ad,ak⟩;exact ao _ _ (W p ad _ _ (ak a env.size env.defers (λ_=>rfl)))
def N2(AH:List (List Nat))(n:Nat):Bool:=(m9 n).all λj=>(ij AH n).elem j
theorem WE{m:Nat}{ae:Oper}(U:ops.size=m+1)(ay:ops[m]? =some ae)(aG:ae.guard=none)(az:N2 AH m=true)(aM:gG Is m=[])(E:Co ops AH Is)(aC:∀(i:Nat) (o:Oper),i<m->ops[i]? =some o->cI X ops (cB AH Is G i ops.size) o (gG Is i))(aI:∀L a w,BL X ops AH Is G L a w->(∀j,j<m->L.getD j false=true)->tD X (gz Is L G ops.size) ae (Q .normal) Q):
  ∀(fuel:Nat) (L:Array Bool) (a:Act) (w:World),BL X ops AH Is G L a w->iV ops L=fuel+1->L.getD m true=false->wpAny X.P .any ops Q (fuel+1) L a w:=by
 intro fuel;induction fuel with
 |zero=>
  intro L a w z hu aa;refine⟨λh=>(IB E z.im (by omega) h).elim,λi ad=>?_⟩;obtain⟨C,o,ho,al⟩:=mem_ready.1 ad;have D:i<ops.size:=(Array.getElem?_eq_some_iff.1 ho).1;have aN:=yF D z.im C;have V:iV ops (L.setIfInBounds i true)=0:=by omega
  have Y:i=m:=by
   rcases mh i m with h|h
   .have:=rB V m (by omega);rw[getD_set_ne true (by omega)]at this;rw[aa]at this;cases this
   .omega
  subst Y;rw[ay]at ho;cases ho;have aA:∀j,j<i->L.getD j false=true:=λj u=>by have:=rB V j (by omega);rw[getD_set_ne true (by omega)]at this;rw[mY (by rw[z.im];omega) false true];exact this
  unfold wpOp;rw[ay];simp only[gH,aG];simp only[if_true];left;refine aI L a w z aA a w z.env _ (λaR w' aJ=>⟨?_,aJ⟩);cases aH:qN .any ops (L.setIfInBounds i true)with
  |nil=>rfl
  |cons x l=>
   have hx:x∈qN .any ops (L.setIfInBounds i true):=by rw[aH];exact ml
   obtain⟨av,o,ho,_⟩:=mem_ready.1 hx;have:=rB V x (Array.getElem?_eq_some_iff.1 ho).1;rw[this]at av;cases av
 |succ fuel aL=>
  intro L a w z hu aa;refine⟨λh=>(IB E z.im (by omega) h).elim,λi ad=>?_⟩;obtain⟨C,o,ho,al⟩:=mem_ready.1 ad;have D:i<ops.size:=(Array.getElem?_eq_some_iff.1 ho).1;have Z:i<L.size:=by rw[z.im];exact D
  have ao:L.getD i false=false:=by rw[mY Z false true];exact C
  have W:∀j,j∈ij AH i->L.getD j true=true:=by
   intro j u;obtain⟨aO,e,A,ar,aF⟩:=E.mr i o ho j u;have aE:=al e A ar;have ac:=E.after i o ho e A ar;have am:L.getD e.on true=true:=LR (by rw[z.im];omega) aE;rcases aF with rfl|U
   .exact am
   .exact z.mr e.on (by omega) am j U
  have Y:i≠m:=λA=>by
   subst A;have hd:∀j,j<i->L.getD j true=true:=λj u=>W j (by have:=i_.1 az j (jc.2 u);simpa using this)
   have aU:iV ops (L.setIfInBounds i true)=0:=by
    unfold iV;rw[List.countP_eq_zero];intro j u;have aQ:=jc.1 u;by_cases I:i=j
    .subst I;simp[Array.getD_eq_getD_getElem?,Z]
    .rw[getD_set_ne true I];rw[hd j (by omega)];simp
   have:=yF D z.im C;omega
  have ac:∀j,L.getD j false=true->j<ops.size:=λj u=>by
   rcases mh j L.size with h|h
   .rw[<-z.im];exact h
   .rw[Array.getD_eq_getD_getElem?,Array.getElem?_eq_none h]at u;cases u
  have an:∀j,L.getD j false=true->i∉ij AH j:=λj u U=>by have O:=ac j u;have:=z.mr j O (by rw[mY (by rw[z.im];exact O) true false];exact u) i U;rw[this]at C;cases C
  have aB:Sub (gz Is L G ops.size) (cB AH Is G i ops.size):=(HV ao (λj u=>by
   have O:j<ops.size:=by have:=(E.mr i o ho j u).1;omega
   rw[mY (by rw[z.im];exact O) false true];exact W j u) an ops.size).sub
  have ak:=aC i o (by omega) ho _ aB a w z.env;have ag:∀v w',Env X (gG Is i++gz Is L G ops.size) (a.put o.dst v) w'->wpAny X.P .any ops Q (fuel+1) (L.setIfInBounds i true) (a.put o.dst v) w':=by
   intro v w' A;refine aL _ _ _ ⟨A.sub (Hn Z ao (λj I u=>?_) ops.size D).sub,by simp[z.im],?_⟩ ?_ ?_
   .rcases E.pair j i (ac j u) I with h|h
    .exact(an j u h).elim
    .exact h
   .intro j u ap k aq;by_cases A:i=j
    .subst A;have:=W k aq;by_cases hik:i=k
     .subst hik;rw[C]at this;cases this
     .rw[getD_set_ne true hik];exact this
    .rw[getD_set_ne true A]at ap;have:=z.mr j u ap k aq;by_cases hik:i=k
     .subst hik;rw[C]at this;cases this
     .rw[getD_set_ne true hik];exact this
   .have:=yF D z.im C;omega
   .rw[getD_set_ne true Y];exact aa
  unfold wpOp;rw[ho];simp only[];cases aw:gH o (yielded ops a.tmps)with
  |true=>
   simp only[if_true];left;exact ak.1 aw _ _ (λv w' A=>ag v w' A)
  |false=>
   simp only[kY,if_false];exact ag undef w (ak.2 aw)
theorem ZW{L:Array Bool}{m:Nat}(u:gG Is m=[])(z:Is.length=m+1)(h:∀i,i<m->L.getD i false=true):gz Is L G (m+1)=p8 (Is.take m) G:=by unfold gz;rw[u,H9 m (by omega) h];split<;>rfl
theorem aO.VD{id m:Nat}{l:List Oper}{D:Oper}(AH:List (List Nat))(Is:List (List It))(ag:X.P.follows .mixedOrders=true)(I:l.length=m+1)(u:l[m]? =some D)(z:D.guard=none)(V:N2 AH m=true)(E:gG Is m=[])(ae:vw l.toArray AH Is=true)(ad:jR X l.toArray AH Is G l.length (l.take m) 0)(h:tD X (p8 (Is.take m) G) D (Q .normal) Q)(Z:X.rd=none:=by rfl):aO X G (.region id l.toArray true) Q:=λa w env=>by
 have U:=Lv ae;have C:l.toArray.size=m+1:=by simp[I]
 have aa:Is.length=m+1:=by rw[U.Fz,C]
 rw[Cx.pZ Z];refine wpIn_wide.2 (wp_region_any ag ?_);have W:=WE (X:=X) (G:=G) (Q:=Q) (AH:=AH) (Is:=Is) C (by simpa using u) z V E U (λi o Y ho=>by
   have ac:(l.take m)[i]? =some o:=by rw[List.getElem?_take,if_pos Y];simpa using ho
   have:=jR.get _ 0 ad i o ac;simpa using this) (λL ao w' an hd=>by
   have:gz Is L G l.toArray.size=p8 (Is.take m) G:=by rw[C];exact ZW E aa hd
   rw[this];exact h) m (Array.replicate l.toArray.size false) a
 have O:wpAny X.P Region.Mode.any l.toArray Q (m+1) (Array.replicate l.toArray.size false) a {heap:=w.heap,tape:=w.tape,drawn:=w.drawn+1,os:=w.os,output:=w.output}:=by
  refine W _ ?_ ?_ ?_
  .refine⟨?_,by simp,?_⟩
   .rw[HC _ (λi A=>by rw[mY (by simpa using A) false true];exact pB A)];obtain⟨g,z,al⟩:=env.facts;refine⟨env.size,env.defers,env.fr.drew,g,⟨⟨z.ok.ec,λb am ak=>z.ok.new b am ak⟩,z.om⟩,λs f u=>?_⟩;exact f.aD g g _ w _ ⟨Nat.le_refl _,λb _ _=>⟨rfl,rfl⟩,λ_ _=>rfl⟩ (al s f u)
   .intro i A u;rw[pB (by omega)]at u;cases u
  .unfold iV;rw[List.countP_eq_length.2]
   .simp[I]
   .intro i A;rw[pB (List.mem_range.1 A)];rfl
  .exact pB (by omega)
 rw[<-C]at O;exact O
end
def NS(P:Program)(k:FuncId)(F:List UInt8->Int->Int->Option Int):Prop:=∀(u:Nat) (b:List UInt8) (H:Nat->Prop) (z:Value) (s a n:Int) (ty:TypeId) (w:World),F b a s=some n->cX H b z w->w.heap[u]? =some (.cells #[z, .int .i64 a] ty (0,0))->
 Calls P k #[.pointer (some ⟨u,0,none⟩), .int .i64 s] w λo w'=>o= .returned (.int .i64 n)/\w'.heap[u]? =some (.cells #[z, .int .i64 (wI (a+s))] ty (0,0))/\w.grownBy w' (some u)
section
theorem au.qw{F:List UInt8->Int->Int->Option Int}{op:Op}{k:FuncId}{Tb Ta:List Nat}{b:List UInt8}{n u r:Int}(a':bx 10 t=true)(hd:bt d X.n=true)(a9:NS X.P k F)(a8:F b u n=some r)(E:fe X G ⟨some d,op,ty,pos,af,none⟩ k [.aL t,aa.rep T1 n])(ho:ay G (rs t)=some (.obj t [(false,1),(false,1)]))(a4:dJ G (t+1) (aa.rep Tb b))(a7:dJ G (t+1+1) (aa.rep Ta u)):
 au X G ⟨some d,op,ty,pos,af,none⟩ [.ae d (aa.rep [] r), .ae (rs (t+1+1)) (.at (t+1+1) (aa.rep [] (wI (u+n)))), .ae (rs t) (.obj t [(false,1),(false,1)]), .av t, .bp (t+1+1)]:=λG' aG a w env K Q bg=>by
 have ag:10<=t:=by simpa using a'
 have a6:d<X.n:=by simpa [fu]using hd
 obtain⟨g,ap,ak⟩:=env.facts;have I:=aG a w g ak;obtain⟨bl,ac,aC⟩:=E a w g I;obtain⟨C,al,cs,ad,aq,am,aI⟩:=I _ _ ho;have aU:=cD.1 (a7 a w g I);have an:=a4 a w g I;obtain⟨a_,br,rfl,p1,bb⟩:=aC;obtain⟨bn,ba,rfl,p2,bd⟩:=bb;have a0:ba=[]:=bd;subst a0;have e1:a_=g.ga t:=p1;have e2:=cD.1 p2;subst e1 e2;obtain⟨c1,bq,aJ,a5,aw,_,Z,ar⟩:=aI;obtain⟨bm,be,aH,aN,bi,_,aE,az⟩:=ar;have aZ:be=[]:=az;subst aZ;subst aH;obtain⟨D,rfl⟩:=vn.1 a5;obtain⟨ao,rfl⟩:=vn.1 aN;have aO:ao= .int .i64 u:=by have:g.ga (t+1+1)=ao:=aE;rw[<-this];exact aU
 have aM:g.ga (t+1)=D:=Z;subst aO;have aB:cs= #[D, .int .i64 u]:=by apply Array.toList_inj.1;rw[aJ];rfl
 subst aB;rw[aM]at an;have aA:=a9 C b _ D n u r al w a8 an aq;rw[ad]at ac;unfold dy;rw[ac];refine kZ aA ?_;rintro o w' ⟨rfl,aF,z⟩;refine bg _ w' ?_;have A:∀b,b<w.heap.size->g.om b≠t->w'.heap[b]? =w.heap[b]? :=λb A aY=>z.block b A (λbc=>aY (by rw[Option.some.inj bc];exact am));have aR:C<w.heap.size:=(Array.getElem?_eq_some_iff.1 aq).1
 let g2:Gh:=⟨(cM g w.heap.size t).om,λs=>if s=t+1+1 then .int .i64 (wI (u+n))else g.ga s⟩
 have W:∀b,b<w.heap.size->g2.om b=g.om b:=λb A=>by simp[g2,cM,A]
 have Y:g2.ga (t+1+1)= .int .i64 (wI (u+n)):=if_pos rfl;have O:∀s,s≠t+1+1->g2.ga s=g.ga s:=λs V=>if_neg V;have U:=ap.cM (w':=w') ag z.size env.fr.size;refine⟨by simp[Act.put,env.size],env.defers,Fr.own env.fr ap ag (.inr trivial) z.os z.tape z.output z.size A,g2,⟨⟨U.ok.ec,U.ok.new⟩,U.om⟩,?_⟩;refine aQ.put (by rw[env.size];exact a6) ?_ (cD.2 rfl);refine aQ.db ?_ (λv=>?_)
 .refine aQ.db ?_ (λv=>⟨C,al,_,by rw[O t (by omega)];exact ad,aF,by rw[W C aR];exact am,?_⟩)
  .exact sD [t+1+1] ak z.size A W (λs V=>O s (by simpa using V))
  .exact⟨[D],[.int .i64 (wI (u+n))],rfl,rfl,aw,λ_=>rfl,by rw[O (t+1) (by omega)];exact Z,[.int .i64 (wI (u+n))],[],rfl,rfl,λc E=>by simp only[dz]at E;rw[E];rfl,λ_=>rfl,Y,rfl⟩
 .show(aa.rep [] (wI (u+n))).p g2 (g2.ga (t+1+1)) _;rw[Y];exact cD.2 rfl
end
abbrev R1{α:Type}[Rp α](x:α):aa:=aa.rep [] x
abbrev V{α:Type}[Rp α](i:Nat)(x:α)(k:List It):List It:= .ae (100000+i) (.at i (aa.rep [] x))::k
abbrev V2{u:Type}[Rp u]{z:Type}[Rp z](i:Nat)(A:u)(C:z)(k:List It):List It:= .ae (100000+(i+0)) (.at (i+0) (aa.rep [] A)):: .ae (100000+(i+1)) (.at (i+1) (aa.rep [] C))::k
abbrev V3{A:Type}[Rp A]{u:Type}[Rp u]{z:Type}[Rp z](i:Nat)(E:A)(C:u)(D:z)(k:List It):List It:= .ae (100000+(i+0)) (.at (i+0) (aa.rep [] E)):: .ae (100000+(i+1)) (.at (i+1) (aa.rep [] C)):: .ae (100000+(i+2)) (.at (i+2) (aa.rep [] D))::k
abbrev V4{C:Type}[Rp C]{z:Type}[Rp z]{A:Type}[Rp A]{u:Type}[Rp u](i:Nat)(I:C)(D:z)(E:A)(O:u)(k:List It):List It:= .ae (100000+(i+0)) (.at (i+0) (aa.rep [] I)):: .ae (100000+(i+1)) (.at (i+1) (aa.rep [] D)):: .ae (100000+(i+2)) (.at (i+2) (aa.rep [] E)):: .ae (100000+(i+3)) (.at (i+3) (aa.rep [] O))::k
abbrev V6{E:Type}[Rp E]{A:Type}[Rp A]{D:Type}[Rp D]{u:Type}[Rp u]{C:Type}[Rp C]{z:Type}[Rp z](i:Nat)(V:E)(I:A)(U:D)(O:u)(W:C)(Y:z)(k:List It):List It:= .ae (100000+(i+0)) (.at (i+0) (aa.rep [] V)):: .ae (100000+(i+1)) (.at (i+1) (aa.rep [] I)):: .ae (100000+(i+2)) (.at (i+2) (aa.rep [] U)):: .ae (100000+(i+3)) (.at (i+3) (aa.rep [] O)):: .ae (100000+(i+4)) (.at (i+4) (aa.rep [] W)):: .ae (100000+(i+5)) (.at (i+5) (aa.rep [] Y))::k
abbrev V7{I:Type}[Rp I]{C:Type}[Rp C]{E:Type}[Rp E]{z:Type}[Rp z]{D:Type}[Rp D]{A:Type}[Rp A]{u:Type}[Rp u](i:Nat)(Y:I)(O:C)(V:E)(U:z)(Z:D)(ac:A)(W:u)(k:List It):List It:= .ae (100000+(i+0)) (.at (i+0) (aa.rep [] Y)):: .ae (100000+(i+1)) (.at (i+1) (aa.rep [] O)):: .ae (100000+(i+2)) (.at (i+2) (aa.rep [] V)):: .ae (100000+(i+3)) (.at (i+3) (aa.rep [] U)):: .ae (100000+(i+4)) (.at (i+4) (aa.rep [] Z)):: .ae (100000+(i+5)) (.at (i+5) (aa.rep [] ac)):: .ae (100000+(i+6)) (.at (i+6) (aa.rep [] W))::k
abbrev V8{O:Type}[Rp O]{D:Type}[Rp D]{I:Type}[Rp I]{z:Type}[Rp z]{E:Type}[Rp E]{C:Type}[Rp C]{u:Type}[Rp u]{A:Type}[Rp A](i:Nat)(Z:O)(U:D)(W:I)(V:z)(ac:E)(ag:C)(Y:u)(ad:A)(k:List It):List It:= .ae (100000+(i+0)) (.at (i+0) (aa.rep [] Z)):: .ae (100000+(i+1)) (.at (i+1) (aa.rep [] U)):: .ae (100000+(i+2)) (.at (i+2) (aa.rep [] W)):: .ae (100000+(i+3)) (.at (i+3) (aa.rep [] V)):: .ae (100000+(i+4)) (.at (i+4) (aa.rep [] ac)):: .ae (100000+(i+5)) (.at (i+5) (aa.rep [] ag)):: .ae (100000+(i+6)) (.at (i+6) (aa.rep [] Y)):: .ae (100000+(i+7)) (.at (i+7) (aa.rep [] ad))::k
abbrev O(t n:Nat)(k:List It):List It:= .ae (100000+t) (.obj t (dr n (false,1)))::k
abbrev Z{α:Type}[Rp α](i:Nat)(x:α)(k:List It):List It:= .ae i (aa.rep [] x)::k
abbrev W(i:Nat)(f:aa)(k:List It):List It:= .ae i f::k
abbrev Y(i:Nat)(f:aa)(k:List It):List It:= .ae (100000+i) (.at i f)::k
section
variable{Q:Exit->Act->World->Prop}
theorem ol{M:Option α}{k:FuncId}{fn:Func}{A:List aa}(ae:M=some r)(m:S->Option α)(l:List Nat)(C:List It->S->List It)(W:X.P.funcs[k]? =some fn)(O:fe X G o k A)(z:∀u:Nat->Value,∃E,Carry G u E/\aO ⟨X.P,n,X.w0,X.C,X.dE,none,[]⟩ (pG 0 A E) c (bodyPost X.P fn (jj X (C K) (λp=>m p=some r) o.dst u)))(I:∀p,m p=some r->br X #[] Q (C K p) [])(ad:Ks G (GL.D l) K:=by exact KS)(Z:fn.body=some c:=by rfl)(V:fn.ntmps=n:=by rfl)(U:Nat.ble A.length n=true:=by rfl):tD X G o (Q .normal) Q:=
 tD.inline (C K) (λp=>m p=some r) (λu=>(z u).choose) W Z V U O (λu=>(z u).choose_spec.1) (λu=>(z u).choose_spec.2) (λp Y=>I p Y)
end
section
variable{T:List Nat}{y:Operand}{s t:bm}
theorem H2(h:Has G y (t.f (da T)))(u:Has G x (s.f (da T)):=by exact HA):bX G T [x,y] [s,t]:= .cons u (.cons h .nil)
theorem ma{A:Type}[R:Rp β][D:Flat β]{pre:A->List bm}{f:A->Option β}{k:FuncId}{pc:List bm}(z:∀(x:A) (r:β),f x=some r->gl P k (pre x++pc) (.fl r) shc)(u:gf G [] (pc.map λs=>s.f (da T)):=by exact Kz)(C:enters P k=true:=by kernel_rfl):Has G (.func k) (aa.fn P pre T f):=aV fD (jT z u C)
end
inductive Lj(G:List It)(u:Nat->Value)(d:Option Nat)(D:Nat):List Nat->List Nat->List It->Prop
 |nil:Lj G u d D [] [] []
 |g_ {s:Nat} {f:aa} {l:List Nat} {K:List It} (h:ay G s=some f) (hv:p_ f) (k:Lj G u d D [] l K):Lj G u d D [] (s::l) (.ae s f::K)
 |slot {s:Nat} {f:aa} {l m:List Nat} {K:List It} (h:ay G (D+s)=some (.da (u s) f)) (hs:oM d s=true) (k:Lj G u d D l m K):Lj G u d D (s::l) m (.ae s f::K)
theorem Lj.low{u:Nat->Value}{d:Option Nat}{D:Nat}{l m:List Nat}(h:Lj G u d D l m K):bK G u d f0 K:=by
 induction h with
 |nil=>exact bK.nil
 |g_ h C _ z=>exact bK.g_ (bK.ay h C) z
 |slot h A _ z=>exact bK.slot A (gB.s h) z
theorem LJ{u:Nat->Value}{d:Option Nat}{D:Nat}{l m:List Nat}(h:Lj G u d D l m K:=by(conv=>arg 5;reduce);(conv=>arg 6;reduce);(repeat(apply Lj.slot;rfl;rfl));(repeat(apply Lj.g_;rfl;exact λ_ _ _ _ h=>h));exact Lj.nil):Lj G u d D l m K:=h
inductive K2(b:Nat)(G:List It)(u1:Nat->Value)(ps:List Nat)(u2:Nat->Value):List Nat->List Nat->List Nat->List It->Prop
 |nil:K2 b G u1 ps u2 [] [] [] []
 |g_ {s:Nat} {f:aa} {l:List Nat} {K:List It} (h:ay G s=some f) (hv:p_ f) (k:K2 b G u1 ps u2 [] [] l K):K2 b G u1 ps u2 [] [] (s::l) (.ae s f::K)
 |low {s:Nat} {f:aa} {l m:List Nat} {K:List It} (h:ay G (902000+s)=some (.da (u1 s) f)) (hs:ps.elem s=false) (k:K2 b G u1 ps u2 [] l m K):K2 b G u1 ps u2 [] (s::l) m (.ae s f::K)
 |slot {s q:Nat} {f:aa} {l m n:List Nat} {K:List It} (h:ay G s=some f) (hq:b+s=q) (k:K2 b G u1 ps u2 l m n K):K2 b G u1 ps u2 (s::l) m n (.ae q (.da (u2 s) f)::K)
theorem K2.carry{b:Nat}{u1 u2:Nat->Value}{ps l m n:List Nat}(h:K2 b G u1 ps u2 l m n K):jG G u1 ps u2 K:=by
 induction h with
 |nil=>exact jG.nil
 |g_ h A _ u=>exact jG.g_ u h A
 |low h z _ u=>exact jG.low _ _ u h z
 |slot h C _ u=>exact jG.slot _ _ u h C
theorem KD{b:Nat}{u1 u2:Nat->Value}{ps l m n:List Nat}(h:K2 b G u1 ps u2 l m n K:=by(conv=>arg 6;reduce);(conv=>arg 7;reduce);(conv=>arg 8;reduce);(repeat(apply K2.slot;rfl;rfl));(repeat(apply K2.low;rfl;rfl));(repeat(apply K2.g_;rfl;exact λ_ _ _ _ h=>h));exact K2.nil):K2 b G u1 ps u2 l m n K:=h
section
variable{Q:Exit->Act->World->Prop}{rest:List Oper}
theorem rN{u2:Nat->Value}(t:Nat)(b:Nat)(l m:List Nat)(A:Lj G u2 (some d) b (D l) (D m) K:=by exact LJ)(z:Nat.ble 10 t=true:=by rfl)(hd:Nat.blt d X.n=true:=by rfl)(u:ay G (rs t)=some (.rc t ρ .busy none):=by rfl)(k:br X ops Q (.ae (rs t) (.rc t ρ .ready none):: .av t:: .ae d (aa.rep [] true)::K) rest):
 aH ⟨X.P,N,X.w0,X.C,X.dE,some ρ.l,[]⟩ G (roundPost X.P ρ.l (mD X ops Q rest d u2)) .normal:=aH.Vh z hd u (bK.Ev A.low) k
theorem rR{u2:Nat->Value}(t:Nat)(b:Nat)(l m:List Nat)(A:Lj G u2 (some d) b (D l) (D m) K:=by exact LJ)(z:Nat.ble 10 t=true:=by rfl)(hd:Nat.blt d X.n=true:=by rfl)(u:ay G (rs t)=some (.rc t ρ .busy none):=by rfl)(k:br X ops Q (.ae (rs t) (.rc t ρ .done (some .ret)):: .av t:: .ae d (aa.rep [] false)::K) rest):
 aH ⟨X.P,N,X.w0,X.C,X.dE,some ρ.l,[]⟩ G (roundPost X.P ρ.l (mD X ops Q rest d u2)) .ret:=aH.UZ z hd u (bK.Ev A.low) k
theorem rE{id:Nat}{u2:Nat->Value}(t:Nat)(b:Nat)(l m:List Nat)(A:Lj G u2 (some d) b (D l) (D m) K:=by exact LJ)(z:Nat.ble 10 t=true:=by rfl)(hd:Nat.blt d X.n=true:=by rfl)(u:ay G (rs t)=some (.rc t ρ .busy none):=by rfl)(k:br X ops Q (.ae (rs t) (.rc t ρ .done (some (.exit id))):: .av t:: .ae d (aa.rep [] false)::K) rest):
 aH ⟨X.P,N,X.w0,X.C,X.dE,some ρ.l,[]⟩ G (roundPost X.P ρ.l (mD X ops Q rest d u2)) (.exit id):=aH.TF z hd u (bK.Ev A.low) k
theorem rF{E:Nat}{fn:Func}{u:Nat->Value}{st:LoopState}(t:Nat)(l m:List Nat)(I:Lj G u none 902000 (D l) (D m) K:=by exact LJ)(U:Nat.ble 10 t=true:=by rfl)(O:fn.results= #[]:=by rfl)(z:ay G (rs t)=some (.rc t ρ st none):=by rfl)(A:st≠ .busy:=by exact λh=>nomatch h)(k:aH ⟨X.P,X.n,X.w0,X.C,X.dE,X.rd,[ρ.mark]⟩ (.av t::K) Q .normal):
 aH ⟨X.P,E,X.w0,X.C,X.dE,none,[]⟩ G (bodyPost X.P fn (ou X Q u ρ)) .ret:=aH.Yk U O z A I.low k
theorem rJ{E:Nat}{fn:Func}{u:Nat->Value}{st:LoopState}(t:Nat)(l m:List Nat)(I:Lj G u none 902000 (D l) (D m) K:=by exact LJ)(U:Nat.ble 10 t=true:=by rfl)(O:fn.results= #[]:=by rfl)(z:ay G (rs t)=some (.rc t ρ st (some c)):=by rfl)(A:st≠ .busy:=by exact λh=>nomatch h)(k:aO ⟨X.P,X.n,X.w0,X.C,X.dE,X.rd,[ρ.mark]⟩ (.av t::K) c Q):
 aH ⟨X.P,E,X.w0,X.C,X.dE,none,[]⟩ G (bodyPost X.P fn (ou X Q u ρ)) .ret:=aH.Yw U O z A I.low k
theorem rY{u:Nat}{xs:List Operand}{I:Array Operand}{u1:Nat->Value}{ps:List Nat}{pa:Array Tmp}{as bd:Code}(t:Nat)(b:Nat)(l m n:List Nat)(Y:ρ.Ok N u1 pa as bd)(Z:Has G (.tmp u) (.yv ρ.l):=by exact HH)(V:I=xs.toArray:=by rfl)(E:cl G xs fs:=by exact vK)(U:pa=ps.toArray:=by rfl)(O:X.rd=none:=by rfl)(A:ay G (rs t)=some (.rc t ρ .ready none):=by rfl)(z:Nat.beq fs.length ps.length=true:=by rfl)(W:ye N ps=true:=by rfl)(h:∀u2,∃K,K2 b G u1 ps u2 (D l) (D m) (D n) K/\aO ⟨X.P,N,X.w0,X.C,X.dE,some ρ.l,[]⟩ (CB ps fs K) as (Exit.then (Hq X ρ bd (mD X ops Q rest d u2)) (λ_ _ _=>False))):
  br X ops Q G (⟨some d, .call {callee:= .value (.tmp u),args:=I,argTypes:=ats},ty,pos,af,none⟩::rest):=
 br.Xl (λu2=>(h u2).choose) Y U O Z A V E z W (λu2=>(h u2).choose_spec.1.carry) (λu2=>(h u2).choose_spec.2)
theorem rK{b:Nat}{u1 u2:Nat->Value}{ps l m n:List Nat}{A:List It->Prop}(u:K2 b G u1 ps u2 l m n K:=by exact KD)(h:A K):∃K,K2 b G u1 ps u2 l m n K/\A K:=⟨K,u,h⟩
theorem ra{u:Nat->Value}{D:Nat}{l m:List Nat}{A:List It->Prop}(z:Kc G u D l m K:=by exact KC)(h:A K):∃K,Kc G u D l m K/\A K:=⟨K,z,h⟩
theorem rG{s:Nat}{ps:Array Tmp}{as bd:Code}{k:FuncId}{z:Nat}{cs:List aa}{fn:Func}(t:Nat)(l m:List Nat)(Y:X.P.funcs[k]? =some fn)(hx:ay G s=some (.ef k [] cs):=by rfl)(Z:fn.body=some c:=by rfl)(V:fn.ntmps=z:=by rfl)(W:enters X.P k=true:=by kernel_rfl)(O:Nat.ble (cs.length+1) z=true:=by rfl)(ac:Nat.ble 10 t=true:=by rfl)(I:X.rd=none:=by rfl)(E:X.ds=[]:=by rfl)(h:∀u:Nat->Value,∃A,Kc G u 902000 (D l) (D m) A/\∀ρ:fK,ρ.Ok X.n u ps as bd->aO ⟨X.P,z,X.w0,X.C,X.dE,none,[]⟩ (pG 0 (.yv ρ.l::cs) (.ae (rs t) (.rc t ρ .ready none):: .ae (rs (t+1)) (.dm (t+1) ρ.D)::A)) c (bodyPost X.P fn (ou X Q u ρ))):
  aO X G (.rangeFunc (.tmp s) ps as bd) Q:=
 aO.rangeFunc (cs:=cs) t (λu=>(h u).choose) ac I E hx Y Z V W O (λu=>(h u).choose_spec.1.carry) (λu ρ U=>(h u).choose_spec.2 ρ U)
theorem rU{fn:Func}{w0:World}{C:Nat->Prop}{om:Nat->Nat}{R:Ending->World->Prop}(t:Nat)(h:aH ⟨P,n,w0,C,om,none,[]⟩ (.av t::G) (bodyPost P fn R) .ret)(u:Nat.ble 10 t=true:=by rfl)(z:ay G (rs t)=some (.dm t ρ.D):=by rfl):
 aH ⟨P,n,w0,C,om,none,[ρ.mark]⟩ G (yl P fn R) .ret:=aH.XU u z h
end
section
variable{d:Option Nat}{t:TypeId}
theorem rn{R:Rp α}[S:Sc α]{y:Operand}{T:List Nat}{m n:α}(hx:Has G x (aa.rep T m):=by exact HH)(u:Has G y (aa.rep T' n):=by exact HH):ah X G ⟨d, .binOp .eql t x y t',ty,pos,af,gd⟩ (aa.rep [] (S.val m==S.val n)):=ah.TZ hx u
theorem pT{R:Rp α}[S:Sc α]{y:Operand}{T:List Nat}{m n:α}(hx:Has G x (aa.rep T m):=by exact HH)(u:Has G y (aa.rep T' n):=by exact HH):ah X G ⟨d, .binOp .neq t x y t',ty,pos,af,gd⟩ (aa.rep [] (S.val m !=S.val n)):=ah.Z0 hx u
theorem ym{R:Rp α}[S:Sc α]{y:Operand}{T:List Nat}{m n:α}(hx:Has G x (aa.rep T m):=by exact HH)(u:Has G y (aa.rep T' n):=by exact HH):ah X G ⟨d, .binOp .lss t x y t',ty,pos,af,gd⟩ (aa.rep [] (decide (S.val m<S.val n))):=ah.XM hx u
theorem rf{R:Rp α}[S:Sc α]{y:Operand}{T:List Nat}{m n:α}(hx:Has G x (aa.rep T m):=by exact HH)(u:Has G y (aa.rep T' n):=by exact HH):ah X G ⟨d, .binOp .leq t x y t',ty,pos,af,gd⟩ (aa.rep [] (decide (S.val m<=S.val n))):=ah.Y_ hx u
theorem nJ{R:Rp α}[S:Sc α]{y:Operand}{T:List Nat}{m n:α}(hx:Has G x (aa.rep T m):=by exact HH)(u:Has G y (aa.rep T' n):=by exact HH):ah X G ⟨d, .binOp .gtr t x y t',ty,pos,af,gd⟩ (aa.rep [] (decide (S.val m>S.val n))):=ah.XX hx u
theorem xH{R:Rp α}[S:Sc α]{y:Operand}{T:List Nat}{m n:α}(hx:Has G x (aa.rep T m):=by exact HH)(u:Has G y (aa.rep T' n):=by exact HH):ah X G ⟨d, .binOp .geq t x y t',ty,pos,af,gd⟩ (aa.rep [] (decide (S.val m>=S.val n))):=ah.Zz hx u
theorem xX{R:Rp α}[S:Sc α]{y:Operand}{T:List Nat}{m n:α}(hx:Has G x (aa.rep T m):=by exact HH)(u:Has G y (aa.rep T' n):=by exact HH):ah X G ⟨d, .binOp .add t x y t',ty,pos,af,gd⟩ (aa.rep [] (S.of (S.val m+S.val n))):=ah.YE hx u
theorem Fc{R:Rp α}[S:Sc α]{y:Operand}{T:List Nat}{m n:α}(hx:Has G x (aa.rep T m):=by exact HH)(u:Has G y (aa.rep T' n):=by exact HH):ah X G ⟨d, .binOp .sub t x y t',ty,pos,af,gd⟩ (aa.rep [] (S.of (S.val m - S.val n))):=ah.Ut hx u
theorem n9{y:Operand}{T:List Nat}{m n:Int}{ts:Array TypeId}(hx:Has G x (aa.rep T m):=by exact HH)(u:Has G y (aa.rep T' n):=by exact HH):ah X G ⟨d, .call {callee:= .builtin .min,args:= #[x,y],argTypes:=ts},ty,pos,af,gd⟩ (aa.rep [] (min m n)):=ah.XI hx u
theorem Z6{y:Operand}{T:List Nat}{m n:Int}{ts:Array TypeId}(hx:Has G x (aa.rep T m):=by exact HH)(u:Has G y (aa.rep T' n):=by exact HH):ah X G ⟨d, .call {callee:= .builtin .max,args:= #[x,y],argTypes:=ts},ty,pos,af,gd⟩ (aa.rep [] (max m n)):=ah.SY hx u
theorem tj{c y:Operand}{T:List Nat}(u:b=true)(z:Has G c (aa.rep T b):=by exact HH)(hx:Has G x f:=by exact HH):ah X G ⟨d, .pick c x y,ty,pos,af,gd⟩ f:=ah.RT z u hx
theorem Cn{c y:Operand}{T:List Nat}(u:b=false)(z:Has G c (aa.rep T b):=by exact HH)(hx:Has G y f:=by exact HH):ah X G ⟨d, .pick c x y,ty,pos,af,gd⟩ f:=ah.Re z u hx
theorem lh{A:Type}{R:Rp β}{pre:A->List bm}{f:A->Option β}{y:Operand}{xs:List Operand}{x:A}{r:β}{T:List Nat}(T':List Nat)(t:Nat)(C:f x=some r)(z:Has G y (aa.fn X.P pre T f):=by exact HH)(hx:bX G T' xs (pre x):=by exact Lh)(u:Nat.ble 10 t=true:=by rfl):
 ah X G ⟨d, .call {callee:= .value y,args:=xs.toArray,argTypes:=ats},ty,pos,af,gd⟩ (aa.rep [] r):=ah.UU T' t u C z hx
theorem eF{R:Rp α}[S:Sc α]{C:Rp β}[u:Sc β]{s:TypeId}{T:List Nat}{m:α}{ds:TypeDesc}[A:dh X.P s ds][z:dh X.P t (.int u.k)](hx:Has G x (aa.rep T m):=by exact HH):ah X G ⟨d, .convert s t x,ty,pos,af,gd⟩ (aa.rep [] (u.of (S.val m))):=ah.conv A.h z.h hx
theorem th{R:Rp α}{u:Operand}{T:List Nat}{r:List α}{n:Int}{e:TypeId}(C:GL.fy l 0 n=some r)[A:qn X.P t e α R](hx:Has G x (aa.rep T l):=by first|exact HL|exact Cw)(z:Has G u (aa.rep T1 n):=by exact HH):ah X G ⟨d, .slice t x none (some u) none,ty,pos,af,gd⟩ (aa.rep T r):=ah.SH C A.h hx z
theorem pC{T:List Nat}{l:List UInt8}{e s:TypeId}[u:dh X.P t (.slice e)][A:dh X.P e (.int .u8)][z:dh X.P s .string](hx:Has G x (aa.rep T l):=by first|exact HH|exact HL|exact aV (dD rfl (by assumption)) (Cv.own rfl)):ah X G ⟨d, .convert t s x,ty,pos,af,gd⟩ (aa.rep [] (kp.mk l)):=ah.aaf u.h A.h z.h hx
theorem GN{y:Operand}{T:List Nat}{m n:Bool}[u:dh X.P t .bool](hx:Has G x (aa.rep T m):=by exact HH)(z:Has G y (aa.rep T' n):=by exact HH):ah X G ⟨d, .binOp .eql t x y t',ty,pos,af,gd⟩ (aa.rep [] (m==n)):=ah.Se hx z u.h
end
section
theorem yS{e:TypeId}{R:Rp α}(i n:Nat)[z:cj X.P e α R](u:Has G p (.cJ t off):=by exact HP)(ho:ay G (rs t)=some (.obj t ps):=by rfl)(hx:eY G x ls)(D:ps.take i++fk ls++ps.drop n=ps:=by rfl)(E:(ps.take i).length=i:=by rfl)(A:kH (ps.take i)=off:=by rfl)(I:g7 ls=R.n:=by kernel_rfl)(O:Nat.ble 10 t=true:=by rfl)(C:jt t (t+1+i) ls.length ls=true:=by rfl):
 au X G ⟨none, .store e p x,ty,pos,af,none⟩ ([.ae (rs t) (.obj t ps)]++ki (t+1+i) ls (.av t::ia (iX (t+1+i) (fk ls)) [])):=au.Wu O z.h D E A I u ho hx C
end
def fF(b k:Nat):Value:= .pointer (some ⟨b,k,none⟩)
def iE(b:Nat)(c:Nat->Int)(ks:List Nat):List MapEntry:=ks.mapIdx λi k=>⟨fF b k, .int .i64 (c k),i⟩
section
variable{b:Nat}{c:Nat->Int}{ks:List Nat}
theorem RJ:iE b c (ks++[k])=iE b c ks++[⟨fF b k, .int .i64 (c k),ks.length⟩]:=by unfold iE;simp
theorem DH:(iE b c ks)[j]? =(ks[j]?).map λk=>⟨fF b k, .int .i64 (c k),j⟩:=by unfold iE;simp
theorem Qe{e:MapEntry}(h:e∈iE b c ks):∃j k,ks[j]? =some k/\e=⟨fF b k, .int .i64 (c k),j⟩:=by obtain⟨j,u⟩:=qL h;rw[DH]at u;obtain⟨k,A,z⟩:=iK.1 u;exact⟨j,k,A,z.symm⟩
theorem PZ:((iE b c ks).map (·.born)).Nodup/\∀e∈iE b c ks,e.born<ks.length:=by
 have:(iE b c ks).map (·.born)=m9 ks.length:=by
  apply o0;intro i;rw[lG,DH];by_cases hi:i<ks.length
  .simp[hi]
  .simp[hi]
 refine⟨by rw[this];exact List.nodup_range,λe u=>?_⟩;have:=pg (f:=(·.born)) u;rw[‹(iE b c ks).map (·.born)=_›]at this;exact jc.1 this
theorem Qt{P:Program}{w:World}{kt et:TypeId}{j:TypeInfo}(A:P.underlying kt=some (.pointer et))(u:P.info? et=some j)(z:j.size≠0){k:Nat}:∀(l:List MapEntry) (i:Nat),(∀e∈l,∃k',e.key=fF b k'/\k'≠k)->
  (Instr.findAsking kt (fF b k) l i).run P w= .ok none w
 |[],_,_=>rfl
 |e::l,i,h=>by
  obtain⟨k',D,C⟩:=h e ml;have O: ¬k=k':=λe=>C e.symm;have I:∀d:Nat,(nX (d+1) kt (fF b k) (fF b k')).run P w= .ok false w:=λd=>by simp[nX,run_underlying A,oX,Go.typeInfo,u,z,sameAddr,fF]
  have:(Op.equal kt (fF b k) e.key).run P w= .ok false w:=by rw[D];simp[Op.equal,Op.maxDepth,I 9999]
  simp only[Instr.findAsking,cU,this,zA,kY,if_false];exact Qt A u z l (i+1) λe E=>h e (fM _ E)
end
def aa.wh(b:Bool)(f:aa):aa where
 bj:=f.bj
 ids:=f.ids
 p:=λg v w=>b=true->f.p g v w
 aD:=λg g' v w w' z h u=>f.aD g g' v w w' z (h u)
def aa.oN(q t:Nat)(c:Nat->Int)(ks:List Nat):aa where
 bj:=[q]
 ids:=[q,t]
 p:=λg _ w=>∃m b,g.ga q= .map (some m)/\ix (g.ga t)=some b/\w.heap[m]? =some (.map (iE b c ks).toArray ks.length)/\g.om m=q
 aD:=λg g' v w w' u h=>by obtain⟨m,b,I,D,z,A⟩:=h;have C:m<w.heap.size:=(Array.getElem?_eq_some_iff.1 z).1;obtain⟨E,O⟩:=u.block m C (by rw[A];simp);exact⟨m,b,by rw[u.ids q (by simp)];exact I,by rw[u.ids t (by simp)];exact D,by rw[E];exact z,by rw[O];exact A⟩
def aa.Mh(q t:Nat)(c:Nat->Int)(n:Nat):aa where
 bj:=[q]
 ids:=[q,t]
 p:=λg v w=>∃ks,ks.Nodup/\(∀k,k∈ks↔k<n)/\(aa.oN q t c ks).p g v w
 aD:=λg g' v w w' A ⟨ks,z,u,C⟩=>⟨ks,z,u,(aa.oN q t c ks).aD g g' v w w' A C⟩
def aa.rq(q r t:Nat)(c:Nat->Int)(n:Nat)(done:List Nat)(last:Option Nat):aa where
 bj:=[q,r]
 ids:=[q,r,t]
 p:=λg _ w=>∃(m i b:Nat) (ks:List Nat) (u:Array Nat),g.ga q= .map (some m)/\g.ga r=fF i 0/\ix (g.ga t)=some b/\w.heap[m]? =some (.map (iE b c ks).toArray ks.length)/\w.heap[i]? =some (.mapIter (some m) ks.length u ks.length)/\g.om m=q/\g.om i=r/\
  ks.Nodup/\(∀k,k∈ks↔k<n)/\(∀j k,ks[j]? =some k->(u.contains j=true↔k∈done))/\(∀k,last=some k->∃(s:Array Nat) (j:Nat),u=s.push j/\ks[j]? =some k)
 aD:=λg g' v w w' z h=>by obtain⟨m,i,b,ks,u,Z,I,V,E,C,A,D,Y⟩:=h;obtain⟨W,ac⟩:=z.block m (Array.getElem?_eq_some_iff.1 E).1 (by rw[A];simp);obtain⟨U,O⟩:=z.block i (Array.getElem?_eq_some_iff.1 C).1 (by rw[D];simp);exact⟨m,i,b,ks,u,by rw[z.ids q (by simp)];exact Z,by rw[z.ids r (by simp)];exact I,by rw[z.ids t (by simp)];exact V,by rw[W];exact E,by rw[U];exact C,by rw[ac];exact A,by rw[O];exact D,Y⟩
def aa.QT:aa:=⟨[],[],λ_ v _=>v= .tuple #[.bool false],λ_ _ _ _ _ _ h=>h⟩
def aa.GV:aa:=⟨[],[],λ_ v _=>∃k x,v= .tuple #[.bool true,k,x],λ_ _ _ _ _ _ h=>h⟩
section
variable{Q:Exit->Act->World->Prop}{dO:Option Nat}{c:Nat->Int}{r:Nat}
theorem au.Wl(q:Nat)(c:Nat->Int)(ac:bx 10 q=true)(C:ct t q=false)(hd:bt d X.n=true)(ho:ay G (rs t)=some (.obj t ps)):
  au X G ⟨some d, .makeMap mt none,ty,pos,af,none⟩ [.ae d (.aL q), .ae (rs q) (.oN q t c []), .bp q]:=λG' z a w env K Q Z=>by
 have A:10<=q:=by simpa using ac
 have W:d<X.n:=by simpa [fu]using hd
 have Y:t≠q:=by intro e;rw[e]at C;simp at C
 obtain⟨g,E,D⟩:=env.facts;obtain⟨b,ad,cs,V,_⟩:=z a w g D _ _ ho;have I:(execOp a.eval ⟨some d, .makeMap mt none,ty,pos,af,none⟩).run X.P w= .ok (.value (.map (some w.heap.size))) (w.alloc (.map #[] 0)):=by have O:(Instr.makeMap mt none).run X.P w= .ok (.map (some w.heap.size)) (w.alloc (.map #[] 0)):=rfl;unfold execOp;simp[O]
 unfold dy;rw[I];refine Z (.map (some w.heap.size)) _ ?_;have u:∀b,b<w.heap.size->(w.alloc (.map #[] 0)).heap[b]? =w.heap[b]? :=λb u=>RowKit.Below.heap_alloc w _ b u;refine⟨by simp[Act.put,env.size],env.defers,Fr.own env.fr E A (.inr trivial) rfl rfl rfl (by simp) (λb U _=>u b U),cR g w.heap.size q (.map (some w.heap.size)),E.own A env.fr.size,?_⟩;refine aQ.put (by rw[env.size];exact W) ?_ (by simp[aa.aL,cR]);refine aQ.db ?_ (λv=>⟨w.heap.size,b,by simp[cR],by simp[cR,Y,V,ix],heap_alloc_new w _,by simp[cR]⟩);exact si D (by simp) u (λb u=>by simp[cR,u]) (λs z=>by simp[cR,z])
structure OM(P:Program)(t kt et:TypeId):Prop where
 cE:P.underlying t=some (.map kt et)
 key:∃e j,P.underlying kt=some (.pointer e)/\P.info? e=some j/\j.size≠0
theorem au.EW{k y:Operand}{ks:List Nat}{k0:Nat}{T:List Nat}(E:OM X.P mt kt et)(ao:bx 10 q=true)(hx:Has G x (.aL q))(an:∀a w g,aQ G g a w->(aa.oN q t c ks).p g undef w)(am:Has G k (.cJ t k0))(ay:Has G y (aa.rep T (c k0)))(aA:k0∉ks):
  au X G ⟨none, .insert mt x k y,ty,pos,af,none⟩ [.ae (rs q) (.oN q t c (ks++[k0])), .av q]:=λG' W a w env K Q aC=>by
 have ad:10<=q:=by simpa using ao
 obtain⟨g,aq,C⟩:=env.facts;have u:=W a w g C;have al:a.eval x=g.ga q:=hx a w g u;obtain⟨b,U,aB⟩:=am a w g u;have ap:=cD.1 (ay a w g u);obtain⟨m,aE,D,O,z,I⟩:=an a w g u;rw[U]at O;obtain rfl:=Option.some.inj O;obtain⟨e,j,p1,p2,p3⟩:=E.key;have ak:∀o,(sP o 10000 kt (fF b k0)).run X.P w= .ok () w:=λo=>by rw[show 10000=9999+1 from rfl];unfold sP;simp only[cU,run_underlying p1,zA];rfl
 have A:=Qt (w:=w) p1 p2 p3 (b:=b) (k:=k0) (iE b c ks) 0 λe aw=>by obtain⟨j,k',q1,rfl⟩:=Qe aw;exact⟨k',rfl,λe=>aA (e▸iL q1)⟩
 have ag:(pf kt (fF b k0) (iE b c ks)).run X.P w= .ok none w:=by
  unfold pf;simp only[cU,run_underlying p1,eA];cases az:iE b c ks with
  |nil=>rfl
  |cons y l=>
   rw[az]at A;have:EC (.pointer e) (fF b k0) (y::l) 0=none:=rfl;rw[this];exact A
 have V:∀o,(setObj m o).run X.P w= .ok () (gX w m o):=λo=>zm o z;have Z:(execOp a.eval ⟨none, .insert mt x k y,ty,pos,af,none⟩).run X.P w= .ok .skip (gX w m (.map ((iE b c ks).toArray.push ⟨fF b k0, .int .i64 (c k0),ks.length⟩) (ks.length+1))):=by have Y:=ak false;have ac:a.eval k=fF b k0:=aB;unfold execOp;simp[al,D,ac,ap,Instr.mapUpdate,run_underlying E.cE,nc z,Y,ag,V]
 unfold dy;rw[Z];refine aC (.tuple #[]) _ ?_;refine rV (fd:=[]) env aq C ad I (λH ar=>ar) (λv=>⟨m,b,D,U,?_,I⟩);rw[pY z,RJ];simp
theorem au.Zh(r:Nat)(hu:X.P.underlying mt=some (.map kt et))(ak:bx 10 r=true)(D:ct q r=false)(I:ct t r=false)(hd:bt d X.n=true)(hx:Has G x (.aL q))(an:ay G (rs q)=some (.Mh q t c n)):
  au X G ⟨some d, .range mt x,ty,pos,af,none⟩ [.ae d (.aL r), .ae (rs r) (.rq q r t c n [] none), .bp r]:=λG' W a w env K Q ar=>by
 have A:10<=r:=by simpa using ak
 have ac:d<X.n:=by simpa [fu]using hd
 have al:q≠r:=by intro e;rw[e]at D;simp at D
 have ag:t≠r:=by intro e;rw[e]at I;simp at I
 obtain⟨g,U,C⟩:=env.facts;have V:=W a w g C;have ad:a.eval x=g.ga q:=hx a w g V;obtain⟨ks,u1,u2,m,b,O,ap,z,ao⟩:=V _ _ an;have E:m<w.heap.size:=(Array.getElem?_eq_some_iff.1 z).1;have Y:(execOp a.eval ⟨some d, .range mt x,ty,pos,af,none⟩).run X.P w= .ok (.value (fF w.heap.size 0)) (w.alloc (.mapIter (some m) ks.length #[] ks.length)):=by have:=run_range_map (P:=X.P) w mt kt et m _ _ hu z;unfold execOp;simp[ad,O,this,fF]
 unfold dy;rw[Y];refine ar (fF w.heap.size 0) _ ?_;have u:∀b,b<w.heap.size->(w.alloc (.mapIter (some m) ks.length #[] ks.length)).heap[b]? =w.heap[b]? :=λb u=>RowKit.Below.heap_alloc w _ b u;refine⟨by simp[Act.put,env.size],env.defers,Fr.own env.fr U A (.inr trivial) rfl rfl rfl (by simp) (λb Z _=>u b Z),cR g w.heap.size r (fF w.heap.size 0),U.own A env.fr.size,?_⟩;refine aQ.put (by rw[env.size];exact ac) ?_ (by simp[aa.aL,cR]);refine aQ.db ?_ (λv=>⟨m,w.heap.size,b,ks, #[],by simp[cR,al,O],by simp[cR],by simp[cR,ag,ap],by rw[u m E];exact z,heap_alloc_new w _,by simp[cR,E,ao],by simp[cR],u1,u2,λj k av=>by simp,λk am=>by cases am⟩);exact si C (by simp) u (λb u=>by simp[cR,u]) (λs aq=>by simp[cR,aq])
theorem Env.drew(env:Env X G a w):Env X G a w.drew:=by obtain⟨g,u,C⟩:=env.facts;exact⟨env.size,env.defers,env.fr.drew,g,⟨⟨u.ok.ec,λb D z=>u.ok.new b D z⟩,u.om⟩,λs f A=>f.aD g g _ w w.drew ⟨bh _,λb _ _=>⟨rfl,rfl⟩,λ_ _=>rfl⟩ (C s f A)⟩
theorem br.Rj{rest:List Oper}{done:List Nat}{last:Option Nat}(aF:bx 10 r=true)(hx:Has G x (.aL r))(aI:ay G (rs r)=some (.rq q r t c n done last))(hd:bt d X.n=true)(k0:(∀k,k<n->k∈done)->br X ops Q (.ae d .QT::G) rest)(aC:∀k,k<n->k∉done->br X ops Q (.ae d .GV:: .ae (rs r) (.rq q r t c n (k::done) (some k)):: .av r::G) rest):
  br X ops Q G (⟨some d, .next x false,ty,pos,af,none⟩::rest):=λa w env=>by
 have ap:10<=r:=by simpa using aF
 have ac:d<X.n:=by simpa [fu]using hd
 obtain⟨g,A,C⟩:=env.facts;have aE:a.eval x=g.ga r:=hx a w g C;obtain⟨m,i,b,ks,D,e1,e2,e3,O,Y,aJ,ag,ad,Z,W,aZ⟩:=C _ _ aI;have an:∀y∈(iE b c ks).toArray.toList,y.born<ks.length:=λy aa=>PZ.2 y (by simpa using aa);refine wpListIn_plain rfl λK al=>sB rfl ?_;unfold dy;have aw:execOp a.eval ⟨some d, .next x false,ty,pos,af,none⟩=(do let v<-Instr.next (fF i 0) false ty;pure (.value v)):=by unfold execOp;simp[aE,e2]
 rw[aw];rcases run_next_at (P:=X.P) w ty i m ks.length ks.length D (iE b c ks).toArray ks.length Y O an (bh _)with⟨aU,V⟩|⟨y,aa,z,E,V⟩
 .have U:((do let v<-Instr.next (fF i 0) false ty;pure (Next.value v)):Sem Next).run X.P w= .ok (.value (.tuple #[.bool false])) w:=by simp only[cU,fF,V,zA];rfl
  rw[U];refine al _ _ (k0 (λk aH=>?_) _ _ (Env.put ac env.size env.defers env.fr C (Fr.refl _ _) A (λ_ _=>rfl) (λ_=>rfl) rfl));obtain⟨j,u⟩:=qL ((Z k).2 aH);refine(W j k u).1 (all_seen _ _ aU ⟨fF b k, .int .i64 (c k),j⟩ ?_);exact iL (i:=j) (by rw[DH,u];rfl)
 .obtain⟨aB,az⟩:=mem_left aa;obtain⟨j,k,u,rfl⟩:=Qe (by simpa using aB);have U:((do let v<-Instr.next (fF i 0) false ty;pure (Next.value v)):Sem Next).run X.P w= .ok (.value (.tuple #[.bool true,fF b k, .int .i64 (c k)])) (gX z i (.mapIter (some m) ks.length (D.push j) ks.length)):=by simp only[cU,fF,V,zA];rfl
  rw[U];have aR:k∉done:=λh=>by have:=(W j k u).2 h;rw[az]at this;cases this
  have am:Env X G a z:=by rcases E with rfl|rfl;exact env;exact env.drew
  have ak:z.heap=w.heap:=by rcases E with rfl|rfl<;>rfl
  have aq:ff X z g:=by rcases E with rfl|rfl;exact A;exact⟨⟨A.ok.ec,λb aY aM=>A.ok.new b aY aM⟩,A.om⟩
  have ar:aQ G g a z:=by
   rcases E with rfl|rfl
   .exact C
   .exact λs f aO=>f.aD g g _ w w.drew ⟨bh _,λb _ _=>⟨rfl,rfl⟩,λ_ _=>rfl⟩ (C s f aO)
  refine al _ _ (aC k ((Z k).1 (iL u)) aR _ _ (rV (fd:=[.ae d .GV]) am aq ar ap ag (λH aN=>aQ.put (by rw[env.size];exact ac) aN ⟨_,_,rfl⟩) (λv=>?_)));have aA:m≠i:=λe=>by rw[e,Y]at O;cases O
  refine⟨m,i,b,ks,D.push j,e1,e2,e3,by rw[pP _ _ _ _ aA,ak];exact O,by rw[pY (by rw[ak];exact Y)],aJ,ag,ad,Z,λaG k' I=>?_,λk' ao=>⟨D,j,rfl,by rw[u,ao]⟩⟩;rw[contains_push];simp only[Ey,beq_iff_eq,fp];rw[W aG k' I];constructor
  .rintro(h|rfl)
   .exact .inr h
   .rw[u]at I;exact .inl (Option.some.inj I).symm
  .rintro(rfl|h)
   .refine .inr ?_;have l1:=(cy.1 u).1;exact((List.getElem?_inj l1 ad).1 (u.trans I.symm)).symm
   .exact .inl h
theorem ah.Vc(hx:Has G x .QT):ah X G ⟨dO, .extract x 0,ty,pos,af,gd⟩ (aa.rep [] false):=
 bL λa w g u=>by have z:=hx a w g u;exact⟨.bool false,by unfold execOp;simp[show a.eval x=_ from z,nV],dw.2 rfl⟩
theorem ah.HQ(hx:Has G x .GV):ah X G ⟨dO, .extract x 0,ty,pos,af,gd⟩ (aa.rep [] true):=
 bL λa w g u=>by obtain⟨k,y,z⟩:=hx a w g u;exact⟨.bool true,by unfold execOp;simp[z,nV],dw.2 rfl⟩
theorem ah.IX{done:List Nat}(hx:Has G x (.aL r))(O:ay G (rs r)=some (.rq q r t c n done (some k))):ah X G ⟨dO, .entry x,ty,pos,af,gd⟩ (aa.cP (.cJ t k) (aa.rep [] (c k))):=
 bL λa w g z=>by
  have I:a.eval x=g.ga r:=hx a w g z;obtain⟨m,i,b,ks,V,e1,e2,e3,D,C,Y,ad,Z,ac,W,A⟩:=z _ _ O;obtain⟨s,j,rfl,E⟩:=A k rfl;have U:(⟨fF b k, .int .i64 (c k),j⟩:MapEntry)∈(iE b c ks).toArray.toList:=by exact iL (i:=j) (by rw[DH,E];rfl)
  have u:=run_entry_at (P:=X.P) w i m ks.length s (iE b c ks).toArray ks.length ⟨fF b k, .int .i64 (c k),j⟩ C D U (by simpa using(PZ (b:=b) (c:=c) (ks:=ks)).1);refine⟨.tuple #[fF b k, .int .i64 (c k)],by unfold execOp;simp[I,e2,fF]at u|-;simp[u],_,_,rfl,⟨b,e3,rfl⟩,cD.2 rfl⟩
theorem aO.RE{body:Code}(u:List Nat->List It)(Go':List It)(n id:Nat)(D:Sub G (u []))(round:∀done,aO X (u done) body (λe a w=>(e= .normal/\∃k,k<n/\k∉done/\Env X (u (k::done)) a w)\/(e= .exit id/\Env X Go' a w)))(after:aH X Go' Q (.exit id)):aO X G (.loop body) Q:=λa w env=>by
 refine wpIn_loop_ghost (λm a w=>∃done,m=((m9 n).filter λk=> !done.contains k).length/\Env X (u done) a w) _ ⟨[],rfl,env.sub D⟩ ?_;rintro m a w ⟨done,rfl,e⟩;refine ve ?_ (round done a w e);rintro I C w' (⟨rfl,k,E,A,z⟩|⟨rfl,z⟩)
 .refine⟨_,?_,k::done,rfl,z⟩;exact filter_lt (λx=> !done.contains x) (λx=> !(k::done).contains x) (λx hx=>by simp at hx|-;exact hx.2) k (by simpa using A) (by simp) _ (jc.2 E)
 .exact after C w' z
def R7(l:List Oper):Bool:=(m9 l.length).all λi=>((l[i]?).map λo=>o.guard.isNone&&o.after.toList.all λe=> !sL .any e||bt e.on i).getD false
theorem aO.XP{id:Nat}{l:List Oper}(D:S->List It)(C:S->(Nat->Bool)->Prop)(O:S)(av:X.P.follows .mixedOrders=true)(aq:R7 l=true)(aB:Sub G (D O))(ap:C O λ_=>false)(Z:∀s L i o,C s L->l[i]? =some o->L i=false->(∀e∈o.after,Region.binds .any e=true->L e.on=true)->∀a w,Env X (D s) a w->Yields X.P o a w λv w'=>∃E,C E (λj=>if j=i then true else L j)/\Env X (D E) (a.put o.dst v) w')(ad:∀s L,C s L->(∀i,i<l.length->L i=true)->aH X (D s) Q .normal)(am:X.rd=none:=by rfl):aO X G (.region id l.toArray true) Q:=λa w env=>by
 have fwd:∀i o,l[i]? =some o->o.guard=none/\∀e∈o.after,Region.binds .any e=true->e.on<i:=λi o ho=>by have u:=(List.getElem?_eq_some_iff.1 ho).1;have:=List.all_eq_true.1 aq i (List.mem_range.2 u);rw[ho]at this;simp only[Option.map_some,Option.getD_some,Bool.and_eq_true,Option.isNone_iff_eq_none]at this;refine⟨this.1,λe W U=>?_⟩;have:=List.all_eq_true.1 this.2 e (Array.mem_toList_iff.2 W);simpa [U]using this
 rw[Cx.pZ am];refine wpIn_wide.2 (wp_region_any av ?_);have ag:∀(fuel:Nat) (L:Array Bool) (a:Act) (w:World) (s:S),L.size=l.length->C s (λj=>L.getD j false)->Env X (D s) a w->iV l.toArray L=fuel->wpAny X.P .any l.toArray Q fuel L a w:=by
  intro fuel;induction fuel with
  |zero=>
   intro L a w s V z e hu;refine⟨?_,ad s _ z (λi u=>?_) a w e⟩
   .cases ar:Region.ready .any l.toArray L with
    |nil=>rfl
    |cons x r=>
     have hx:x∈Region.ready .any l.toArray L:=by rw[ar];exact List.mem_cons_self
     obtain⟨A,o,ho,_⟩:=mem_ready.1 hx;have:=rB hu x (Array.getElem?_eq_some_iff.1 ho).1;rw[this]at A;cases A
   .have:=rB hu i (by simpa using u);have h':i<L.size:=by omega
    simp[h']at this|-;exact this
  |succ fuel aw=>
   intro L a w s V z e hu;refine⟨λh=>?_,λi u=>?_⟩
   .exfalso;have ao:∃i,i<l.length/\L.getD i true=false:=by
     refine Classical.byContradiction λaA=>?_;have:iV l.toArray L=0:=by
      unfold iV;rw[List.countP_eq_zero];intro i u;have I:=List.mem_range.1 u;cases z:L.getD i true with
      |true=>simp
      |false=>exact(aA ⟨i,by simpa using I,z⟩).elim
     omega
    obtain⟨i,⟨u,an⟩,ak⟩:=exists_least ao;have:i∈Region.ready .any l.toArray L:=by
     rw[mem_ready];refine⟨an,l[i],by simp[u],λe W U=>?_⟩;have aC:=(fwd i _ (List.getElem?_eq_getElem u)).2 e W U;cases z:L.getD e.on true with
     |true=>
      have ae:e.on<L.size:=by omega
      simp[ae]at z|-;exact z
     |false=>have:=ak e.on ⟨by omega,z⟩;omega
    rw[h]at this;cases this
   .obtain⟨A,o,ho,ac⟩:=mem_ready.1 u;have I:i<l.length:=by simpa using(Array.getElem?_eq_some_iff.1 ho).1
    have Y:l[i]? =some o:=by simpa using ho
    obtain⟨ay,_⟩:=fwd i o Y;have al:L.getD i false=false:=by
     have h':i<L.size:=by omega
     simp[h']at A|-;exact A
    have az:=Z s _ i o z Y al ac a w e;have aa:∀j,(L.setIfInBounds i true).getD j false=if j=i then true else L.getD j false:=λj=>by
     have h':i<L.size:=by omega
     by_cases hj:j=i
     .subst hj;simp[h']
     .rw[if_neg hj,getD_set_ne false (Ne.symm hj)]
    unfold wpOp;rw[ho];simp only[];rw[if_pos (by simp[Region.wanted,ay])];left;refine az _ _ λv w' ⟨E,q1,q2⟩=>aw _ _ _ E (by simp[V]) ?_ q2 ?_
    .rw[funext aa];exact q1
    .have:=yF (ops:=l.toArray) (L:=L) (i:=i) (by simpa using I) (by simpa using V) A;omega
 refine ag l.toArray.size (Array.replicate l.toArray.size false) a _ O (by simp) ?_ (env.sub aB).drew ?_
 .have:(λj=>(Array.replicate l.toArray.size false).getD j false)=λ_=>false:=by funext j;by_cases hj:j<l.length<;>simp[hj]
  rw[this];exact ap
 .unfold iV;rw[List.countP_eq_length.2 (λi u=>by rw[pB (List.mem_range.1 u)];rfl)];simp
end
section
theorem Cv.jW:Cv G f (.wh b f):=λ_ _ _ _ _ h _=>h
theorem Has.fw(h:b=false):Has G x (.wh b f):=λ_ _ _ _ e=>by rw[h]at e;cases e
theorem Has.nv{s:Nat}(h:b=true)(e:ay G s=some (.wh b f)):Has G (.tmp s) f:=λa w g u=>u s _ e h
theorem Cv.Ji{r:Nat}{c:Nat->Int}{done:List Nat}{last:Option Nat}:Cv G (.rq q r t c n done last) (.rq q r t c n done none):=λ_ _ _ _ _ ⟨m,i,b,ks,u,e1,e2,e3,C,A,D,O,E,I,z,_⟩=>⟨m,i,b,ks,u,e1,e2,e3,C,A,D,O,E,I,z,λ_ h=>nomatch h⟩
end
theorem PV.at{g:Gh}{w:World}:∀(ls:Ls) (cs C:List Value),PV g w ls cs C->∀(j:Nat) (l:Bool×Nat×aa) (v:Value),ls[j]? =some l->C[j]? =some v->l.2.2.p g v w
 |[],_,_,_,j,l,v,z,_=>by simp at z
 |m::ls,cs,C,h,j,l,v,z,A=>by
  obtain⟨c1,I,u,vr,W,rfl,U,V,O,Y,E,D⟩:=h;cases j with
  |zero=>
   simp only[List.getElem?_cons_zero,Option.some.injEq]at z A;subst z A;exact E
  |succ j=>exact PV.at ls I vr D j l v (by simpa using z) (by simpa using A)
instance{n:Nat}:Flat (Raw n):=⟨λ_ _ _ _ _ _ h=>h⟩
def aa.Nj(cs:List Value)(ls:Ls):aa where
 bj:=ls.flatMap λl=>l.2.2.bj
 ids:=ls.flatMap λl=>l.2.2.ids
 p:=λg _ w=>bk g w ls cs
 aD:=λ_ _ _ _ _ u h=>h.aD ls cs u
def aa.one(T:List Nat)(e:TypeId)(n:Nat)(ls:Ls):aa where
 bj:=T++ls.flatMap λl=>l.2.2.bj
 ids:=ls.flatMap λl=>l.2.2.ids
 p:=λg v w=>∃x:Raw n,fx (λb=>g.om b∈T) (λ_=>False) e [x] v w/\bk g w ls x.cs
 aD:=λg g' v w w' u ⟨cs,D,C⟩=>⟨cs,fx.aD u.size (λb A z=>⟨(u.block b A (gY _ z)).1,by rw[(u.block b A (gY _ z)).2];exact z⟩) (λ_ _ h=>h.elim) D,
  C.aD ls cs.cs ⟨u.size,λb A z=>u.block b A (gh _ z),u.ids⟩⟩
def bm.one(c:Nat)(e:TypeId)(n:Nat)(u:Ss):bm where
 f:=λT=>aa.one (T c) e n (nH T u)
 tg:=λT t h=>(dx.1 h).elim (λh=>⟨c,h⟩) λh=>by obtain⟨x,hx,z⟩:=List.mem_flatMap.1 h;obtain⟨s,I,rfl⟩:=gm.1 hx;exact s.2.2.tg T t z
 gK:=λT=>by show((nH T u).flatMap λl=>l.2.2.ids)=[];rw[List.flatMap_eq_nil_iff];intro x hx;obtain⟨s,I,rfl⟩:=gm.1 hx;exact s.2.2.gK T
 re:=λT T' g g' v w A ⟨cs,D,C⟩=>⟨cs,fx.aD (bh _) (λb E z=>⟨rfl,A c b E z⟩) (λ_ _ h=>h.elim) D,GS A u cs.cs C⟩
def aa.oD(t:Nat)(ps:Ps):aa where
 bj:=[t]
 ids:=t::iX (t+1) ps
 p:=λg _ w=>∃b ty row cs rest,g.ga t= .pointer (some ⟨b,0,none⟩)/\w.heap[b]? =some (.cells row ty (0,0))/\g.om b=t/\row.toList=cs++rest/\eT g (t+1) ps cs
 aD:=λg g' v w w' u h=>by obtain⟨b,ty,row,cs,rest,I,z,C,O,E⟩:=h;have D:b<w.heap.size:=(Array.getElem?_eq_some_iff.1 z).1;have A:=u.block b D (by rw[C];simp);exact⟨b,ty,row,cs,rest,by rw[u.ids t (by simp)];exact I,by rw[A.1];exact z,by rw[A.2];exact C,O,E.aD ps (t+1) _ (λs U=>u.ids s (fM _ U))⟩
def aa.oV(t:Nat):aa where
 bj:=[]
 ids:=[t]
 p:=λg v _=>∃b u,g.ga t= .pointer (some ⟨b,0,none⟩)/\v= .slice (some ⟨b,0,none⟩) 1 u/\1<=u
 aD:=λg g' v w w' C ⟨b,u,A,z⟩=>⟨b,u,by rw[C.ids t (by simp)];exact A,z⟩
section
variable{Q:Exit->Act->World->Prop}{rest:List Oper}{dO:Option Nat}
theorem br.Zt{s:Nat}(m:Nat)(h:ay G s=some (.aK ls))(C:g7 ls=n)(k:∀x:Raw n,br X ops Q (.ae m (.Nj x.cs ls):: .ae s (aa.rep [] x)::G) rest):br X ops Q G rest:=λa w env=>by
 obtain⟨g,E,A⟩:=env.facts;obtain⟨cs,D,z⟩:=A s _ h;refine k ⟨cs,by rw[<-C];exact z.len ls cs,z.one ls cs⟩ a w ⟨env.size,env.defers,env.fr,g,E,aQ.db (λI f' u=>?_) λ_=>z⟩;rcases kO u with⟨rfl,rfl⟩|⟨_,u⟩
 .exact⟨cs,rfl,D⟩
 .exact A I f' u
theorem Has.one{s m:Nat}{T te:List Nat}{e:TypeId}{x:Raw n}(h:ay G s=some (aa.ow T te e [x]))(C:ay G m=some (.Nj x.cs ls)):Has G (.tmp s) (.one T e n ls):=λa w g u=>by obtain⟨xs,D,z,A⟩:=u s _ h;exact⟨x,⟨xs,D,z.flat _ _,A⟩,u m _ C⟩
theorem aO.Qb{body:Code}{id:Nat}(G1 Go':List It)(C:aO X G body (λe a w=>e= .normal/\Env X G1 a w))(A:aO X G1 body (λe a w=>e= .exit id/\Env X Go' a w))(after:aH X Go' Q (.exit id)):aO X G (.loop body) Q:=λa w env=>by
 refine wpIn_loop_ghost (λm a w=>(m=1/\Env X G a w)\/(m=0/\Env X G1 a w)) 1 (.inl ⟨rfl,env⟩) ?_;rintro m a w (⟨rfl,e⟩|⟨rfl,e⟩)
 .refine ve ?_ (C a w e);rintro z u w' ⟨rfl,h⟩;exact⟨0,by omega, .inr ⟨rfl,h⟩⟩
 .refine ve ?_ (A a w e);rintro z u w' ⟨rfl,h⟩;exact after u w' h
theorem Ad.one{s:Nat}{T:List Nat}{e:TypeId}(t:Nat)(aI:bx 10 t=true)(aG:jV T=true)(aw:(ls.all λl=>l.2.2.ids.isEmpty&&dX l.2.2.bj T&& !(l.2.2.bj.elem t))=true)(h:ay G s=some (.one T e n ls)):
  Ad X G (.ae s (.oV t):: .ae (rs t) (.oD t (fk ls))::ki (t+1) ls (ia (t::iX (t+1) (fk ls)) (fV T G))):=λa w env=>by
 have aA:10<=t:=by simpa using aI
 obtain⟨g,aJ,ak⟩:=env.facts;obtain⟨⟨c1,aZ,a0⟩,⟨xs,⟨aY,an⟩,ap,ao⟩,az⟩:=ak s _ h;obtain⟨d1,d2,e1,e2,e3⟩:=ap;replace e2:d1=c1:=e2;replace e3:d2=[]:=e3;rw[e2,e3,jb]at e1;subst e1;rcases an with⟨_,aM⟩|⟨b,aC,D,I,_,aL,aB,aU,aN,am⟩
 .simp at aM
 have ac:g.om b∈T:=ao b (by rw[I];rfl);obtain⟨A,U⟩:=az.pv ls _;have aR:=PV.len ls _ A U;have aE:(fk ls).length=ls.length:=by simp[fk]
 let W:Value:= .pointer (some ⟨b,0,none⟩)
 let z:Gh:=jg g t W (some b)
 let g2:Gh:=⟨z.om,mP z.ga (t+1) A⟩
 have O:ff X w z:=aJ.re aA (λu C=>by cases C;exact nB aG ac);have aa:g2.ga t=W:=by show mP z.ga (t+1) A t=W;rw[tp _ _ _ _ (by omega)];simp[z,jg]
 have ag:∀u,g.om u∉T->g2.om u=g.om u:=λu C=>by have: ¬b=u:=λe=>C (e▸ac);show z.om u=g.om u;simp[z,jg,this]
 have av:∀s, ¬(t<=s/\s<t+(ls.length+1))->g2.ga s=g.ga s:=λs E=>by
  show mP z.ga (t+1) A s=g.ga s;rw[tp _ _ _ _ (by omega)];have:s≠t:=by omega
  simp[z,jg,this]
 have aq:D.toList=xs++D.toList.drop n:=by
  have:D.toList.take n=xs:=by have:=am;simp only[jq,List.length_nil,dQ,Nat.one_mul]at this;exact this
  rw[<-this,sM]
 refine⟨env.size,env.defers,env.fr,g2,⟨⟨O.ok.ec,O.ok.new⟩,O.om⟩,?_⟩;have al:eT g2 (t+1) (fk ls) xs:=by have:=PV.vA (g0:=g2) ls _ A (t+1) U (λj v I=>pw _ _ _ _ _ I);simpa using this
 refine λaF f' V=>?_;rcases kO V with⟨rfl,rfl⟩|⟨_,V⟩
 .exact⟨b,aC,aa,by simpa using I,by simpa using aB⟩
 refine(aQ.db (s:=rs t) (f:= .oD t (fk ls)) ?_ (λv=>⟨b,e,D,xs,D.toList.drop n,aa,aL,by simp[g2,z,jg],aq,al⟩):aQ _ g2 a w) aF f' V;refine vC ls (t+1) (JL _ ak ag (λs E=>av s (λhx=>E ?_))) (λj l Y=>?_)
 .simp only[fp,qq,aE];omega
 .have aO:j<ls.length:=(cy.1 Y).1;obtain⟨v,ad⟩:∃v,A[j]? =some v:=⟨_,ek (by omega)⟩;rw[show g2.ga (t+1+j)=v from pw _ _ _ _ _ ad];have Z:=i_.1 aw l (iL Y);simp only[gg,List.isEmpty_iff,m6]at Z;have aH:l.2.2.p g v w:=PV.at ls _ A U j l v Y ad;exact l.2.2.aD g g2 v w w ⟨bh _,λu _ C=>⟨rfl,ag u λar=>ju Z.1.2 ar C⟩,λs E=>by rw[Z.1.1]at E;cases E⟩ aH
theorem Cv.Gu(ho:ay G (rs t)=some (.oD t ps)):Cv G (.aL t) (.cJ t 0):=λa w g v z A=>by obtain⟨b,ty,row,cs,r,u,_⟩:=z _ _ ho;exact⟨b,by rw[u];rfl,by rw[show v=g.ga t from A,u]⟩
theorem ah.AP(hx:Has G x (.aL t))(ho:ay G (rs t)=some (.oD t ps)):ah X G ⟨dO, .nilCheck x,ty,pos,af,gd⟩ (.aL t):=
 bL λa w g u=>by have z:a.eval x=g.ga t:=hx a w g u;obtain⟨b,C,_,_,_,A,_⟩:=u _ _ ho;refine⟨g.ga t,?_,rfl⟩;unfold execOp;simp[z,A]
theorem ah.N0{i:Operand}{T:List Nat}{ts e:TypeId}[R:Rp α]{n:Int}(u:gu X.P ts e α)(D:n=0)(hx:Has G x (.oV t))(C:Has G i (aa.rep T n)):ah X G ⟨dO, .indexAddr ts x i,ty,pos,af,gd⟩ (.aL t):=
 bL λa w g z=>by subst D;obtain⟨b,O,I,E,U⟩:=hx a w g z;have A:=cD.1 (C a w g z);refine⟨g.ga t,?_,rfl⟩;unfold execOp;simp only[E,A,cU];rw[wO (R:=R) u.cE u.el (by omega) (by decide)];simp[Go.Addr.add_lit,I]
theorem ah.Uf{ts e:TypeId}(hx:Has G x (.oV t))(A:X.P.underlying ts=some (.slice e)):ah X G ⟨dO, .call {callee:= .builtin .len,args:= #[x],argTypes:= #[ts]},ty,pos,af,gd⟩ (aa.rep [] (1:Int)):=
 bL λa w g z=>by obtain⟨b,C,E,u,D⟩:=hx a w g z;refine⟨.int .i64 1,?_,cD.2 rfl⟩;unfold execOp;simp[resolve,invoke,builtin,u,Builtin.len_,run_underlying A,goInt]
theorem ah.Ie{e:TypeId}[R:Rp α](I:Ty X.P e α)(aa:partAt ps i=some (off,R.agg,R.n))(hx:Has G x (.cJ t off))(ho:ay G (rs t)=some (.oD t ps))(Z:dJ G (t+1+i) f):ah X G ⟨dO, .load e x,ty,pos,af,gd⟩ f:=
 bL λa w g z=>by
  obtain⟨b,C,Y⟩:=hx a w g z;obtain⟨A,D,row,cs,r,ac,E,ae,ad,O⟩:=z _ _ ho;obtain⟨c,e1,e2,e3,V⟩:=O.part ps (t+1) _ i off _ _ aa;rw[ac]at C;simp only[ix,Option.some.injEq]at C;subst C;refine⟨cL R.agg c,?_,by rw[<-e1];exact Z a w g z⟩;have U:eO w ⟨A,off,none⟩ c:=λj u W=>by rw[Go.Addr.add_lit];refine⟨?_,frozen_of_row w A _ row D E⟩;rw[cell_of_row w A _ row D (0,0) E,<-Array.getElem?_toList,ad];have:=V j u W;rw[m8 (cy.1 this).1];exact this
  unfold execOp;simp[Y,lE,fL,po I U e2]
theorem ah.NF{e:TypeId}[R:Rp α](I:Ty X.P e α)(O:R.agg=true)(Y:g7 ls=R.n)(hx:Has G x (.aL t))(ho:ay G (rs t)=some (.oD t (fk ls)))(aa:bJ G (t+1) ls):ah X G ⟨dO, .load e x,ty,pos,af,gd⟩ (.aK ls):=
 bL λa w g z=>by
  have Z:a.eval x=g.ga t:=hx a w g z;obtain⟨b,A,row,cs,r,ac,C,ae,ad,U⟩:=z _ _ ho;have D:=U.aK z ls _ _ aa;have W:=D.len;refine⟨cL R.agg cs,?_,cs,by rw[O];rfl,D⟩;unfold execOp;have V:eO w ⟨b,0,none⟩ cs:=λj u E=>by rw[Go.Addr.add_lit];refine⟨?_,frozen_of_row w b _ row A C⟩;rw[cell_of_row w b _ row A (0,0) C,<-Array.getElem?_toList,ad,dQ,m8 (cy.1 E).1];exact E
  simp[Z,ac,lE,fL,po I V (by rw[W,Y])]
theorem Has.MY{T:List Nat}[R:Rp α](hx:Has G x (.oV t))(ho:ay G (rs t)=some (.oD t (fk ls)))(av:bJ G (t+1) ls)(ap:Cv G (.aK ls) (aa.rep T y))(Y:R.agg=true)(al:T.elem t=true):
  Has G x (aa.rep T [y]):=λa w g A=>by
 obtain⟨b,Z,aw,ak,ae⟩:=hx a w g A;obtain⟨ag,E,row,cs,r,I,D,am,an,ao⟩:=A _ _ ho;rw[aw]at I;obtain rfl:b=ag:=by simpa using I
 obtain⟨W,aq,U⟩:=ap a w g (.agg cs.toArray) A ⟨cs,rfl,ao.aK A ls _ _ av⟩;obtain rfl:cs=W:=by rw[Y]at U;simpa [cL]using U
 refine⟨_,⟨some ⟨b,0,none⟩,Z,rfl,by simpa using ae,λh=>(by cases h),?_⟩,by rw[ak];rfl⟩;intro ad V i z C;cases V;have ac:b<w.heap.size:=(Array.getElem?_eq_some_iff.1 D).1;have ar:i=0:=by have:=(cy.1 C).1;simpa using this
 subst ar;simp at C;subst C;refine⟨show g.om b∈T by rw[am];simpa using al,ac,cs,λj u O=>?_,aq⟩;rw[Nat.zero_mul,Go.Addr.add_lit,Go.Addr.add_lit];refine⟨?_,frozen_of_row w b _ row E D⟩;rw[cell_of_row w b _ row E (0,0) D,<-Array.getElem?_toList,an];simp only[dQ];rw[m8 (cy.1 O).1];exact O
end
theorem aR.empty{α:Type}[R:Rp α]{F F':Nat->Prop}{w:World}:∀(l:List (List α)) (xs:List Value),(∀x∈l,x=[])->aR F l xs w->aR F' l xs w
 |[],_,_,h=>h
 |x::l,xs,u,h=>by obtain⟨c1,z,e,⟨a,c,E,A,D,O⟩,k⟩:=h;have hx:=u x ml;subst hx;exact⟨c1,z,e,⟨a,c,E,A,D,λad I i x hx=>by simp at hx⟩,aR.empty l z (λy C=>u y (fM _ C)) k⟩
theorem Cv.Xd[R:Rp α]{te:List Nat}{e:TypeId}{l:List (List α)}(h:ay G (rs t)=some (.own t te e l))(A:∀x∈l,x=[]):Cv G (.aL t) (aa.rep [t] l):=λa w g v D C=>by obtain⟨xs,E,u,z⟩:=D _ _ h;rw[show v=g.ga t from C];exact Nq (te:=[]) (e:=e) (v:=undef) ⟨xs,E,u.empty l xs A,z⟩
theorem Cv.RA[R:Rp α]{T te:List Nat}{e:TypeId}{l:List (List α)}(A:∀x∈l,x=[]):Cv G (aa.ow T te e l) (aa.ow T [] e l):=λ_ _ _ _ _ ⟨xs,z,u,C⟩=>⟨xs,z,u.empty l xs A,C⟩
theorem aO.Y7{Q:Exit->Act->World->Prop}{body:Code}{id:Nat}(Go':List It)(z:aO X G body (λe a w=>e= .exit id/\Env X Go' a w))(after:aH X Go' Q (.exit id)):aO X G (.loop body) Q:=λa w env=>by refine wpIn_loop_ghost (λ_ a w=>Env X G a w) 0 env ?_;intro m a w e;refine ve ?_ (z a w e);rintro A u w' ⟨rfl,h⟩;exact after u w' h
abbrev oE:=Bool×Nat×aa
abbrev tr{α:Type}[Rp α](x:α):oE:=(false,1,aa.rep [] x)
abbrev tT{α:Type}[Rp α](T:List Nat)(x:α):oE:=(false,1,aa.rep T x)
abbrev ta{α:Type}[Rp α](n:Nat)(x:α):oE:=(true,n,aa.rep [] x)
abbrev ts(n:Nat)(l:Ls):oE:=(true,n,aa.aK l)
abbrev ti:oE:=(false,1,aa.rep [] (0:Int))
abbrev tw:oE:=(false,1,aa.rep [] (0:UInt32))
abbrev tc:oE:=(false,1,aa.rep [] (0:UInt8))
abbrev tb:oE:=(false,1,aa.rep [] false)
abbrev tn:oE:=(false,1,aa.dM)
abbrev te{α:Type}[R:Rp α](x:α):hZ:=⟨R,x⟩
abbrev cp(P:Program)(e:TypeId)(α:Type)[R:Rp α]:=cj P e α R
abbrev gV(P:Program)(t e:TypeId)(α:Type)[R:Rp α]:=de P t e α R
abbrev gM(P:Program)(t e:TypeId)(α:Type)[R:Rp α]:=qn P t e α R
abbrev eM{α:Type}[R:Rp α](es:α->List hZ):=dg R es
abbrev fS{α:Type}[R:Rp α](l:List Nat->α->Ls):=uQ R l
theorem IK:bk g w [] []:=rfl
theorem HK{R:Rp α}{T:List Nat}(h:∀F w,R.rel F y [v] w)(u:R.agg=false)(k:bk g w ls cs):bk g w ((false,1,aa.rep T y)::ls) (v::cs):=bk.zr h k u
theorem JN{inner:Ls}{c1 c2:List Value}(u:bk g w inner c1)(z:c1.length=n)(k:bk g w ls c2):bk g w ((true,n, .aK inner)::ls) (c1++c2):=bk.zs u k z
theorem cr{t:TypeId}[R:Rp α](h:qm P t R.n R.agg=true:=by kernel_rfl):cj P t α R:=⟨Ty.of h⟩
theorem gR{t e:TypeId}[R:Rp α](hu:P.underlying t=some (.slice e))(h:qm P e R.n R.agg=true:=by kernel_rfl)(u:Nat.blt 0 R.n=true:=by rfl)(ho:JK P e R.n=true:=by kernel_rfl):de P t e α R:=⟨gu.of hu h u ho⟩
theorem gN{t e:TypeId}[R:Rp α](hu:P.underlying t=some (.slice e))(h:qm P e R.n R.agg=true:=by kernel_rfl)(u:Nat.blt 0 R.n=true:=by rfl):qn P t e α R:=⟨nh.of hu h u⟩
theorem bc{s:TypeId}{fs:Array Field}(hu:P.underlying s=some (.struct fs))(h:H8 P fs i off n=true:=by kernel_rfl)(u:Nat.blt 0 n=true:=by rfl):aY P s i off n:=⟨mE.of hu h u⟩
theorem dZ{t:TypeId}(k:∀g w,bk g w ls cs:=by
  intro g w;repeat first
   |exact IK|(apply HK;exact λ_ _=>rfl;exact rfl)|apply bk.M|apply bk.zt|apply bk.zf|apply JN|exact rfl)(h:((P.info? t).bind (·.zero)).map (·.cells)=some cs.toArray:=by kernel_rfl):dF P t ls:=⟨⟨⟨_,h,k⟩⟩⟩
theorem eP{t:TypeId}{fs:Array Field}(hu:P.underlying t=some (.struct fs))(k:∀g w,bk g w ls cs:=by
  intro g w;repeat first
   |exact IK|(apply HK;exact λ_ _=>rfl;exact rfl)|apply bk.M|apply bk.zt|apply bk.zf|apply JN|exact rfl)(h:((P.info? t).bind (·.zero)).map (·.cells)=some cs.toArray:=by kernel_rfl)(u:fs.toList.mapM (λf=>(P.info? f.type).map λi=>(f.offset,i.size))=some pl:=by kernel_rfl):dV P t pl ls:=⟨⟨⟨fs,cs,h,hu,k,u⟩⟩⟩
theorem uy{t e:TypeId}(m:Nat)(hu:P.underlying t=some (.array n e))(k:∀g w,bk g w ls cs:=by
  intro g w;repeat first
   |exact IK|(apply HK;exact λ_ _=>rfl;exact rfl)|apply bk.M|apply bk.zt|apply bk.zf|apply JN|exact rfl)(h:((P.info? t).bind (·.zero)).map (·.cells)=some cs.toArray:=by kernel_rfl)(z:(P.info? e).map (·.size)=some m:=by kernel_rfl)(u:pl=(List.range n).map λi=>(i * m,m):=by rfl):lT P t pl ls:=⟨⟨⟨e,n,m,cs,h,hu,z,k,u⟩⟩⟩
theorem eR{B:Rp β}{f:α->β}{es:α->List hZ}(h:∀y, @ox β B (f y) (es y):=by intro y;repeat first|exact ox.one _|refine ox.cons ?_):dg (Rp.dH B f) es:=⟨λy=>Ch.via (h y)⟩
theorem YO{R:Rp α}{T:List Nat}{l:List Nat->α->Ls}{m:Ls}[u:uQ R l](e:l T y=m)(k:aX G ls ms):aX G ((true,n,aa.rep T y)::ls) ((true,n, .aK m)::ms):=by subst e;exact aX.cons (u.h G T y) k
theorem fO{R:Rp α}{es:α->List hZ}{l:List Nat->α->Ls}[c:dg R es](h:∀G T y,aX G (yp T (es y)) (l T y):=by
 intro G T y;repeat first
  |exact aX.nil|refine aX.cons Cv.fl ?_|refine aX.cons Cv.refl ?_|refine YO rfl ?_):uQ R l:=⟨λG T y=>bq (Cv.Q2 (c.h y)) (di (h G T y))⟩
theorem kn{B:Rp β}[Flat β]{f:α->β}: @Flat α (Rp.dH B f):= @Flat.mk α (Rp.dH B f) λF F' x cs w w' h=>Flat.flat F F' (f x) cs w w' h
theorem cv{k:FuncId}{fn:Func}(u:List (List Nat))(D:P.funcs[k]? =some fn)(E:gU (pre.zipIdx.map λx=>It.ae x.2 (x.1.f (da [0]))) 0 pre K:=by exact Oe)(I:fn.body=some c:=by rfl)(z:fn.ntmps=n:=by rfl)(C:Nat.ble pre.length n=true:=by rfl)(A:uV u shc=true:=by rfl)(h:∀(w0:World) (om:Nat->Nat),aO ⟨P,n,w0,fW,om,none,[]⟩ K c (bodyPost P fn (kP ⟨P,n,w0,fW,om,none,[]⟩ out u))):gl P k pre out shc:=
 cw u D h E I z C A
theorem vf[R:Rp α][u:Flat α]{T:List Nat}{ag:Bool}(k:aX G ls ms):aX G ((ag,n,aa.rep T y)::ls) ((ag,n,aa.rep T' y)::ms):=aX.cons Cv.fl k
theorem vr{ag:Bool}(k:aX G ls ms):aX G ((ag,n,f)::ls) ((ag,n,f)::ms):=aX.cons Cv.refl k
abbrev s2{α β:Type}[Rp β][Flat β](f:α->bm)(r:α×β):bm:= .cP (f r.1) (.fl r.2)
abbrev s3{α β γ:Type}[Rp γ][Flat γ](f:α->bm)(g:β->bm)(r:α×β×γ):bm:= .eV (f r.1) (g r.2.1) (.fl r.2.2)
theorem Cv.ZJ[R:Rp α]{T te:List Nat}{e:TypeId}:Cv G (aa.ow T te e ([]:List α)) (aa.rep T' ([]:List α)):=λ_ w _ v _ ⟨_,h,_,_⟩=>by
 rcases h.2 with⟨u,_⟩|⟨b,z,_,u,_⟩
 .rw[u];exact CK
 .exact⟨_,⟨some ⟨b,0,none⟩,z,rfl,jM _,λh=>(by cases h),λ_ _ _ _ hx=>by simp at hx⟩,by rw[u];rfl⟩
def T{α:Type}(x:Option α)(P:α->Prop):Prop:=∃r,x=some r/\P r
theorem ax{a:α}{P:α->Prop}(h:P a):T (some a) P:=⟨a,rfl,h⟩
theorem aS{x:Option α}{f:α->Option β}{P:β->Prop}(h:T x λa=>T (f a) P):T (ab x f) P:=by obtain⟨r,rfl,k⟩:=h;exact k
theorem T.mono{x:Option α}{P Q:α->Prop}(h:T x Q)(k:∀r,Q r->P r):T x P:=by obtain⟨r,e,q⟩:=h;exact⟨r,e,k r q⟩
theorem bQ{x:Option α}{f:α->Option β}{Q:α->Prop}{P:β->Prop}(h:T x Q)(k:∀r,Q r->T (f r) P):T (ab x f) P:=aS (h.mono k)
theorem aj{c:Bool}{x y:Option α}{P:α->Prop}(h:c=true->T x P)(k:c=false->T y P):T (bif c then x else y) P:=by
 cases c with
 |true=>exact h rfl
 |false=>exact k rfl
class Sp{α:Type}(x:Option α)(A:outParam Prop)(Q:outParam (α->Prop)):Prop where
 h:A->T x Q
theorem T.call{x:Option α}{A:Prop}{Q P:α->Prop}[s:Sp x A Q](a:A)(k:∀r,Q r->P r):T x P:=(s.h a).mono k
theorem take_at{k:Int}{x:α}(h:l[k.toNat]? =some x)(u:0<=k):l.take (k+1).toNat=l.take k.toNat++[x]:=by rw[show(k+1).toNat=k.toNat+1 by omega,List.take_add_one,h];rfl
theorem kS{k:Int}(h:l.length<=k):l.take k.toNat=l:=fm (by omega)
theorem DD{k:Int}{x:α}(h:l[k.toNat]? =some x)(z:0<=k):l.drop k.toNat=x::l.drop (k+1).toNat:=by obtain⟨u,rfl⟩:=cy.1 h;rw[List.drop_eq_getElem_cons u];congr 2;omega
theorem kN{k:Int}(h:l.length<=k):l.drop k.toNat=[]:=kb (by omega)
theorem ar{x:Option α}{f:α->Option β}{A:Prop}{Q:α->Prop}{P:β->Prop}[s:Sp x A Q](a:A)(k:∀r,Q r->T (f r) P):T (ab x f) P:=bQ (s.h a) k
instance{α:Type} (l:List α) (i:Int):Sp (idx l i) (0<=i/\i<l.length) (λx=>l[i.toNat]? =some x/\x∈l/\l.drop i.toNat=x::l.drop (i+1).toNat)where
 h h:=by have e:l[i.toNat]? =some (l[i.toNat]'(by omega)):=ek (by omega);exact⟨_,by unfold idx;rw[if_pos h.1,e],e,EE _,DD e h.1⟩
instance(n:Nat) (i:Int):Sp (b_ n i) (0<=i/\i<n) (λk=>k=i.toNat/\k<n)where
 h h:=⟨_,by unfold b_;rw[if_pos h],rfl,by omega⟩
instance{α:Type} (l m:List α):Sp (app l m) (l.length+m.length<4294967296) (λr=>r=l++m)where
 h h:=⟨_,if_pos h,rfl⟩
instance{α:Type} (z:α) (n:Int):Sp (lW z n) (0<=n/\n<4294967296) (λr=>r=dr n.toNat z)where
 h h:=⟨_,if_pos h,rfl⟩
instance{α:Type} [Inhabited α] (c:Bool) (e:Option α) (A:Prop) (Q:α->Prop) [s:Sp e A Q]:Sp (gO c e) (c=true->A) (λr=>c=true->Q r)where
 h h:=by
  cases c with
  |true=>exact(s.h (h rfl)).mono λr q _=>q
  |false=>exact⟨default,rfl,λh=>by cases h⟩
instance{α:Type} (a:α):Sp (some a) True (λr=>r=a)where
 h _:=⟨a,rfl,rfl⟩
def LP{S B:Type}(A:S->Prop)(z:S->Nat)(P:B->Prop)(s:S):ak S B->Prop
 | .next u=>A u/\z u<z s
 | .aT b=>P b
theorem bN{step:S->Option (ak S B)}{s:S}{P:B->Prop}(u:S->Prop)(C:S->Nat)(h:∀s,u s->T (step s) (LP u C P s))(I:u s:=by grind)(O:C s<aP:=by unfold aP;grind):T (bf step aP s) P:=by
 have:∀F s,C s<F->u s->T (bf step F s) P:=by
  intro F;induction F with
  |zero=>intro s U;omega
  |succ F D=>
   intro s U E;rw[show T (bf step (F+1) s) P=T (match step s with|none=>none|some (.next A)=>bf step F A|some (.aT b)=>some b) P from rfl];obtain⟨c,e,z⟩:=h s E;rw[e];cases c with
   |next A=>exact D A (by have:=z.2;omega) z.1
   |aT b=>exact⟨b,rfl,z⟩
 exact this aP s O I
theorem bF{z:S->Prop}{u:S->Nat}{P:B->Prop}{s s':S}(h:z s')(k:u s'<u s):T (some (ak.next s')) (LP z u P s):=⟨_,rfl,h,k⟩
theorem bu{z:S->Prop}{u:S->Nat}{P:B->Prop}{s:S}{b:B}(h:P b):T (some (ak.aT b)) (LP z u P s):=⟨_,rfl,h⟩
theorem ej{x:Int}(z: -9223372036854775808<=x)(u:x<=9223372036854775807):wI x=x:=bg z u
theorem T.inl{f:α->Option γ}{g:β->Option γ}{P:γ->Prop}{a:α}(h:T (f a) P):T (Sum.elim f g (.inl a)) P:=h
theorem T.inr{f:α->Option γ}{g:β->Option γ}{P:γ->Prop}{a:β}(h:T (g a) P):T (Sum.elim f g (.inr a)) P:=h
instance{α:Type} (l:List α) (n:Nat):Sp (l[n]?) (n<l.length) (λx=>l[n]? =some x/\x∈l)where
 h h:=⟨_,ek h,ek h,EE _⟩
instance(m n:Int):Sp (sg m n) (0<=n) (λ_=>True)where
 h h:=⟨_,by unfold sg;rw[if_neg (by omega)],trivial⟩
instance(m n:Int):Sp (oP m n) (0<=n) (λr=>r=m.fdiv (2^(min n.toNat 64)))where
 h h:=⟨_,by unfold oP;rw[if_neg (by omega)],rfl⟩
instance{α:Type} (l:List α) (lo hi:Int):Sp (fy l lo hi) (0<=lo/\lo<=hi/\hi<=l.length) (λr=>r=(l.take hi.toNat).drop lo.toNat)where
 h h:=⟨_,by unfold fy;rw[if_pos h],rfl⟩
instance{α:Type} (l:List α) (i:Int) (y:α):Sp (rL l i y) (0<=i/\i<=l.length/\l.length+1<4294967296) (λr=>r=l.take i.toNat++y::l.drop i.toNat)where
 h h:=⟨_,by unfold rL;rw[if_pos h],rfl⟩
instance(m n:Int):Sp (oK m n) (0<=m/\m<9223372036854775808/\0<n) (λr=>r=m/n/\0<=r/\r<=m)where
 h h:=by have z:0<=m/n:=Int.ediv_nonneg h.1 (by omega);have u:m/n<=m:=Int.ediv_le_self n h.1;exact⟨_,by unfold oK;rw[if_neg (by omega),Int.tdiv_eq_ediv_of_nonneg h.1],bg (by omega) (by omega),by rw[bg (by omega) (by omega)];exact z,by rw[bg (by omega) (by omega)];exact u⟩
instance(m n:Int):Sp (mI m n) (0<=m/\0<n) (λr=>r=m%n/\0<=r/\r<n)where
 h h:=⟨_,by unfold mI;rw[if_neg (by omega),Int.tmod_eq_emod_of_nonneg h.1],rfl,Int.emod_nonneg _ (by omega),Int.emod_lt_of_pos _ h.2⟩
theorem C_{n:Int}(h:0<=n)(k:n<4294967296):(dP.of n).toNat=n.toNat:=by unfold dP.of;rw[Int.emod_eq_of_lt h k,UInt32.toNat_ofNat'];omega
def lq{α:Type}(l:List α)(f:α->Option Bool)(r:Int):Prop:=
 (r= -1/\∀x∈l,f x=some false)\/(0<=r/\r<l.length/\∃x,l[r.toNat]? =some x/\x∈l/\f x=some true/\∀y∈l.take r.toNat,f y=some false)
def nG{α:Type}(l:List α)(f:α->Option Bool)(r:Bool):Prop:=(r=true/\∃x∈l,f x=some true)\/(r=false/\∀x∈l,f x=some false)
theorem T.index{f:α->Option Bool}(h:l.length<4294967296/\∀x∈l,T (f x) λ_=>True):
  T (ab (bf (λA:Int=>(bif(decide (A<((l).length:Int)))then ab (idx l A) (λE=>ab (f E) (λO=>(bif O then some (ak.aT (Sum.inl A:Int⊕Unit))else some (ak.next (wI (A+(1:Int)))))))else some (ak.aT (Sum.inr ())))) aP (0:Int)) (λU=>Sum.elim (λI=>some I) (λV=>some (-1:Int)) U)) (lq l f):=by
 refine aS (bN (λs=>0<=s/\s<=l.length/\∀x∈l.take s.toNat,f x=some false) (λs=>(l.length - s).toNat) (λs u=>?_) (by simp));refine aj (λk=>aS (T.call (by grind) λx hx=>aS ((h.2 x hx.2.1).imp λy D=>⟨D.1,?_⟩))) λk=>bu (T.inr (ax (.inl ⟨rfl,λx hx=>u.2.2 x (by rw[kS (by grind)];exact hx)⟩)));refine aj (λe=>bu (T.inl (ax (.inr ⟨u.1,by grind,x,hx.1,hx.2.1,by grind,u.2.2⟩)))) λe=>bF ?_ ?_
 .have:wI (s+1)=s+1:=ej (by grind) (by grind);rw[this];refine⟨by omega,by grind,λz C=>?_⟩;rw[take_at hx.1 u.1]at C;rcases dx.1 C with h|h
  .exact u.2.2 z h
  .rw[dz.1 h];grind
 .grind [ej]
theorem T.vd{f:α->Option Bool}{x:Option Int}(h:T x (lq l f)):T (ab x λz=>some (decide (z>=(0:Int)))) (nG l f):=
 bQ h λr k=>ax (by
  unfold lq at k;rcases k with⟨rfl,k⟩|⟨A,D,x,E,C,u,_⟩
  .exact .inr ⟨rfl,k⟩
  .exact .inl ⟨by simp;exact A,x,C,u⟩)
theorem T.copy{step:Int×List α->Option (ak (Int×List α) B)}{P:B->Prop}(l:List α)(O:l.length<4294967296)(E:∀(k:Int) x,0<=k->k<l.length->l[k.toNat]? =some x->x∈l->∀u,u.length=k.toNat->step (k,u)=some (.next (k+1,u++[x])))(D:T (step (l.length,l)) (LP (λ_=>False) (λ_=>0) P (0,[]))):
  T (bf step aP ((0:Int),([]:List α))) P:=by
 refine bN (λs=>0<=s.1/\s.1<=l.length/\s.2=l.take s.1.toNat) (λs=>(l.length - s.1).toNat) (λ⟨k,u⟩ h=>?_) (by simp);obtain⟨A,I,z⟩:=h;dsimp only at A I z;by_cases hk:k<l.length
 .have e:=ek (l:=l) (i:=k.toNat) (by omega);rw[E k _ A hk e (EE _) u (by rw[z,cf];omega)];exact bF ⟨by dsimp only;omega,by dsimp only;omega,by dsimp only;rw[z,take_at e A]⟩ (by dsimp only;omega)
 .obtain rfl:k=l.length:=by omega
  rw[z,show(l.length:Int).toNat=l.length from rfl,List.take_length];obtain⟨c,e,C⟩:=D;rw[e];cases c with
  |next s=>exact C.1.elim
  |aT b=>exact bu C
theorem T.QZ{o:List α}(p:α->Bool){step:List α×Int×Int->Option (ak (List α×Int×Int) (List α×Int))}{r:Int}(ho:o.length<4294967296)(U:0<=r/\r<o.length)(aa:∀y∈o.take r.toNat,p y=true)(ac:∀x,o[r.toNat]? =some x->p x=false)(W:∀(l:List α) (i j:Int) x,0<=i->i<j->j<l.length->l.length=o.length->l[j.toNat]? =some x->x∈o->step (l,i,j)=some (.next (bif p x then(l.set i.toNat x,i+1,j+1)else(l,i,j+1))))(Z:∀(l:List α) (i:Int),step (l,i,l.length)=some (.aT (l,i))):T (bf step aP (o,r,r+1)) (λb=>0<=b.2/\b.2<=b.1.length/\b.1.length=o.length/\b.1.take b.2.toNat=o.filter p):=by
 have e0:=ek (l:=o) (i:=r.toNat) (by omega);refine bN (λs=>0<=s.2.1/\s.2.1<s.2.2/\s.2.2<=o.length/\s.1.length=o.length/\s.1.take s.2.1.toNat=(o.take s.2.2.toNat).filter p/\s.1.drop s.2.2.toNat=o.drop s.2.2.toNat) (λs=>(o.length - s.2.2).toNat) (λ⟨l,i,j⟩ ad=>?_) ?_
 .obtain⟨D,V,Y,u,A,C⟩:=ad;dsimp only at D V Y u A C;by_cases hj:j<o.length
  .have e:=ek (l:=l) (i:=j.toNat) (by omega);have E:o[j.toNat]? =some (l[j.toNat]'(by omega)):=by have:=congrArg (λz=>z[0]?) C;simp only[ke,ja]at this;rw[<-this,e]
   rw[W l i j _ D V (by omega) u e (iL E)];have I:l.drop (j+1).toNat=o.drop (j+1).toNat:=by have:=congrArg (List.drop 1) C;rw[qO,qO]at this;rw[show(j+1).toNat=j.toNat+1 by omega];exact this
   have et:=take_at E (by omega);cases O:p (l[j.toNat]'(by omega))with
   |true=>
    refine bF ⟨by dsimp only[cond_true];omega,by dsimp only[cond_true];omega,by dsimp only[cond_true];omega,by simpa using u,?_,?_⟩ (by dsimp only[cond_true];omega)
    .dsimp only[cond_true];rw[et,ph,<-A,jP,O,if_pos rfl,sQ,show(i+1).toNat=i.toNat+1 by omega,List.take_add_one,List.take_set_of_le (bh _),List.getElem?_set_self (by omega)];rfl
    .dsimp only[cond_true];rw[List.drop_set_of_lt (by omega)];exact I
   |false=>
    refine bF ⟨by dsimp only[cond_false];omega,by dsimp only[cond_false];omega,by dsimp only[cond_false];omega,u,?_,I⟩ (by dsimp only[cond_false];omega);dsimp only[cond_false];rw[et,ph,<-A,jP,O,if_neg (by simp),sQ,jb]
  .obtain rfl:j=l.length:=by omega
   rw[Z];refine bu ⟨D,by dsimp only;omega,u,?_⟩;dsimp only;rw[A,kS (by omega)]
 .refine⟨U.1,by dsimp only;omega,by dsimp only;omega,rfl,?_,rfl⟩;dsimp only;rw[take_at e0 U.1,ph,jP,ac _ e0,if_neg (by simp),sQ,jb];exact(qR.2 aa).symm
theorem O3{u:List α}{f:α->α}{k:Int}{x:α}(A:0<=k)(hx:l[k.toNat]? =some x)(z:u=(l.take k.toNat).map f++l.drop k.toNat):u[k.toNat]? =some x/\u.length=l.length/\u.set k.toNat (f x)=(l.take (k+1).toNat).map f++l.drop (k+1).toNat:=by
 have C:=(cy.1 hx).1;refine⟨?_,by rw[z];simp;omega,?_⟩
 .rw[z,oY (by simp;omega)];simp only[sR,cf];rw[show k.toNat - min k.toNat l.length=0 by omega,ke,ja,hx]
 .rw[z,take_at hx A,DD hx A,J8 _ _ (by simp;omega)];simp only[sR,cf];rw[show k.toNat - min k.toNat l.length=0 by omega,List.set_cons_zero,mm,fE];rfl
theorem T.Oj{step:Int×List α->Option (ak (Int×List α) B)}{P:B->Prop}(l:List α)(f:α->α)(O:l.length<4294967296)(E:∀(k:Int) (u:List α) x,0<=k->k<l.length->u.length=l.length->x∈l->u[k.toNat]? =some x->step (k,u)=some (.next (k+1,u.set k.toNat (f x))))(D:T (step (l.length,l.map f)) (LP (λ_=>False) (λ_=>0) P (0,[]))):
  T (bf step aP ((0:Int),l)) P:=by
 refine bN (λs=>0<=s.1/\s.1<=l.length/\s.2=(l.take s.1.toNat).map f++l.drop s.1.toNat) (λs=>(l.length - s.1).toNat) (λ⟨k,u⟩ h=>?_) (by simp);obtain⟨A,I,z⟩:=h;dsimp only at A I z;by_cases hk:k<l.length
 .have e:=ek (l:=l) (i:=k.toNat) (by omega);obtain⟨a1,a2,a3⟩:=O3 A e z;rw[E k u _ A hk a2 (EE _) a1];exact bF ⟨by dsimp only;omega,by dsimp only;omega,a3⟩ (by dsimp only;omega)
 .obtain rfl:k=l.length:=by omega
  rw[z,show(l.length:Int).toNat=l.length from rfl,List.take_length,List.drop_length,jb];obtain⟨c,e,C⟩:=D;rw[e];cases c with
  |next s=>exact C.1.elim
  |aT b=>exact bu C
end GL
