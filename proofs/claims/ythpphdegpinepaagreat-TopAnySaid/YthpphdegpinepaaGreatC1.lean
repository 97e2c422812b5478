/- Part of the proof of TopAny. -/
import Derived.Carry
import Derived.ChangeSame
import Derived.Deep.AppendSrc
import Derived.Deep.LoopGhost
import Derived.JoinedAt
import Derived.JoinedOf
import Derived.KernelRfl
import Derived.Laws.Cover3
import Derived.Laws.OwnMore
import Derived.Laws.Small
import Derived.Laws.StructEq
import Derived.Laws.Tables
import Derived.Lib.AppendZerosOnto
import Derived.Lib.SliceRun
import Derived.MapKept
import Derived.Maps.RangeRun
import Derived.Orders
import Derived.OrdersIn
import Derived.OwnWalk
import Derived.ProofKit
import Derived.RangeFuncRecord
import Derived.Scope
import Derived.Sort.LoopGhostIn
import Derived.WalkKit
namespace GL
open Go
open Nat renaming le_refl -> bh, le_trans -> m5, lt_of_lt_of_le -> nR, beq -> ct, eq_of_beq_eq_true -> iI, ble -> bx, lt_or_ge -> mh, add_zero -> ja, zero_add -> dQ, mul_one -> ir, add_mul -> h_, blt -> bt, blt_eq -> fu, zero_le -> jM, mul_le_mul_right -> iJ, min_eq_left -> jN
open Bool renaming and_eq_true -> gg, not_eq_true' -> m6, or_eq_true -> Ey, eq_iff_iff -> nU, false_eq_true -> kY
open List renaming mem_cons -> fp, length_append -> bY, mem_append -> dx, mem_append_left -> gY, mem_append_right -> gh, getD_eq_getElem?_getD -> Q3, getElem?_eq_none -> Ex, getElem?_eq_getElem -> ek, all_eq_true -> i_, map_cons -> fh, getElem?_eq_some_iff -> cy, getElem?_map -> lG, map_map -> vi, map_congr_left -> vj, length_cons -> jq, getElem?_append_left -> m8, getElem?_append_right -> oY, replicate -> dr, replicate_succ -> Q4, take_zero -> mi, nil_append -> gZ, drop_left -> y7, take_append -> oZ, drop_append -> EA, take_of_length_le -> fm, drop_of_length_le -> kb, mem_cons_of_mem -> fM, ext_getElem? -> o0, eq_nil_of_length_eq_zero -> y8, length_replicate -> qI, length_take -> cf, getElem?_take -> o8, length_set -> kD, append_nil -> jb, length_drop -> eH, size_toArray -> g5, range -> m9, nodup_cons -> qJ, mem_range -> jc, foldl_cons -> k9, take_succ_eq_append_getElem -> aah, append_assoc -> fE, cons_append -> kE, getElem?_drop -> ke, mapM_cons -> nb, mem_of_getElem? -> iL, mem_map -> gm, getElem?_of_mem -> qL, flatMap_cons -> qM, not_mem_nil -> vl, mem_singleton -> dz, mem_replicate -> vm, take_append_of_le_length -> iM, drop_drop -> qO, take_append_drop -> sM
open Go.Fence renaming wide -> nS
open Go.Value renaming oneCell' -> j_, int -> sH, ownBlock -> kB, cells -> y9
open Go.Sem renaming run_bind -> cU, run_map -> kc, run_pure -> gx
open Go.Result renaming andThen_ok -> eA
open Go renaming sizeOf -> oX
open Go.Oper renaming wp -> dy
open Go.Exit renaming inBlock -> m7
open Go.Code renaming wpIn_mono -> ve
open Option renaming bind -> ab, bind_some -> bo, map_some -> jd, map_none -> o_, bind_eq_bind -> J1, bind_eq_some_iff -> qK, pure_def -> J2, map_eq_some_iff -> iK
open Go.Deferred renaming ofValue -> nT
open Go.Calls renaming mono -> kZ
open Go.Op renaming intArith -> Ez, intCmp -> lB, equalIn -> nX, eqFields -> EB
open UInt8 renaming ofNat -> qG
open Go.IntKind renaming wrap -> yY, signed -> yZ, bits -> qH
open BitVec renaming ofInt -> lD
open Pure renaming pure -> vg
open Go.Instr renaming indexAt -> vh, loadAt -> lE, sureAddr -> fL, extract -> nV, storeAt -> o9, fill -> m_, sliceAt -> pd, slice -> sJ, sliceBounds -> pe, sliceBound -> sK
open Go.Builtin renaming append_ -> mj, clear_ -> nW, zeroCells -> kF
open Go.Region renaming wanted -> gH, binds -> sL, ready -> qN
open Go.DataW renaming trod -> k_
open UInt32 renaming ofNat -> vk
set_option linter.all false
variable {α β S B γ:Type}{x p:Operand}{w w':World}{t n i off k N q d j dj d1 d2 d3 t2:Nat}{P:Program}{T' te' shc T1:List Nat}{v:Value}{b want:Bool}{a:Act}{ops:Array Oper}{ty e1 e2 t' kt et y1 y2 y3 mt:TypeId}{af a1 a2 a3:Array Edge}{cs:List Value}{c:Code}{ats:Array TypeId}{pl:List (Nat×Nat)}{Fe F':Nat->Prop}{o:Oper}{us:List (Nat×Operand)}{u1 u2 u3:Op}{p1 pos:String}{lab:Nat->Int×Nat}{ks:List FuncId}{gd:Option (Nat×Bool)}{AH:List (List Nat)}{l:List α}{y r:α}
inductive ak(S B:Type)where
 |next (s:S)
 |aT (b:B)
def bf{S B:Type}(step:S->Option (ak S B))(n:Nat):S->Option B:=
 Nat.rec (motive:=λ_=>S->Option B) (λ_=>none)
  (λ_ A s=>match step s with
   |none=>none
   |some (.next z)=>A z
   |some (.aT b)=>some b) n
theorem GW(step:S->Option (ak S B))(n:Nat)(s:S):
 bf step (n+1) s=match step s with
  |none=>none
  |some (.next z)=>bf step n z
  |some (.aT b)=>some b:=rfl
structure Fr(C:Nat->Prop)(w w':World):Prop where
 os:w'.os=w.os
 tape:w'.tape=w.tape
 output:w'.output=w.output
 size:w.heap.size<=w'.heap.size
 block:∀k,k<w.heap.size-> ¬C k->w'.heap[k]? =w.heap[k]?
def fW:Nat->Prop:=λ_=>False
theorem Fr.refl(C:Nat->Prop)(w:World):Fr C w w:=⟨rfl,rfl,rfl,bh _,λ_ _ _=>rfl⟩
theorem Fr.trans{C D:Nat->Prop}{a b c:World}(h:Fr C a b)(k:Fr D b c)(hd:∀x,x<a.heap.size->D x->C x):Fr C a c:=
 ⟨k.os.trans h.os,k.tape.trans h.tape,k.output.trans h.output,m5 h.size k.size,
  λx hx z=>(k.block x (nR hx h.size) (λA=>z (hd x hx A))).trans (h.block x hx z)⟩
theorem Fr.drew{C:Nat->Prop}{a:World}(h:Fr C a w):Fr C a w.drew:=⟨h.os,h.tape,h.output,h.size,h.block⟩
theorem Fr.alloc(w:World)(o:Obj):Fr fW w (w.alloc o):=⟨rfl,rfl,rfl,by simp,λk z _=>RowKit.Below.heap_alloc w o k z⟩
theorem Fr.below(h:Fr fW w w'):RowKit.Below w.heap.size w w':=⟨h.os,h.tape,h.output,h.size,λk z=>h.block k z id⟩
structure Gh where
 om:Nat->Nat
 ga:Nat->Value
structure Jd(bj ids:List Nat)(g g':Gh)(w w':World):Prop where
 size:w.heap.size<=w'.heap.size
 block:∀b,b<w.heap.size->g.om b∈bj->w'.heap[b]? =w.heap[b]? /\g'.om b=g.om b
 ids:∀t,t∈ids->g'.ga t=g.ga t
structure aa where
 bj:List Nat
 ids:List Nat
 p:Gh->Value->World->Prop
 aD:∀g g' v w w',Jd bj ids g g' w w'->p g v w->p g' v w'
inductive It where
 |ae (s:Nat) (f:aa)
 |av (t:Nat)
 |bp (t:Nat)
def dX:List Nat->List Nat->Bool
 |[],_=>true
 |a::l,m=> !(m.elem a)&&dX l m
def eh:List It->List Nat->List Nat->Nat->Option aa
 |[],_,_,_=>none
 | .av t::G,K,z,s=>eh G (t::K) z s
 | .bp t::G,K,z,s=>eh G K (t::z) s
 | .ae A f::G,K,z,s=>bif ct A s then(bif dX f.bj K&&dX f.ids z then some f else none)else eh G K z s
def ay(G:List It)(s:Nat):Option aa:=eh G [] [] s
theorem kz:∀(G:List It) (K D z E:List Nat) (s:Nat) (f:aa),(∀x∈D,x∈K)->(∀x∈E,x∈z)->eh G K z s=some f->eh G D E s=some f
 |[],_,_,_,_,_,_,_,_,h=>by simp[eh]at h
 | .av t::G,K,D,z,E,s,f,L,I,h=>by simp only[eh]at h|-;exact kz G _ _ _ _ s f (λx hx=>by simp at hx|-;rcases hx with rfl|hx;exact .inl rfl;exact .inr (L x hx)) I h
 | .bp t::G,K,D,z,E,s,f,L,I,h=>by simp only[eh]at h|-;exact kz G _ _ _ _ s f L (λx hx=>by simp at hx|-;rcases hx with rfl|hx;exact .inl rfl;exact .inr (I x hx)) h
 | .ae Z f'::G,K,D,z,E,s,f,L,I,h=>by
  simp only[eh]at h|-;cases U:ct Z s with
  |true=>
   simp only[U,cond_true]at h|-;have key:∀(l A B:List Nat),(∀x∈B,x∈A)->dX l A=true->dX l B=true:=by
    intro l A B V;induction l with
    |nil=>intro _;rfl
    |cons a l W=>
     intro h;simp only[dX,gg,m6]at h|-;refine⟨?_,W h.2⟩;have O:=h.1;simp at O|-;exact λY=>O (V a Y)
   cases hd:(dX f'.bj K&&dX f'.ids z)with
   |false=>simp[hd]at h
   |true=>
    simp only[gg]at hd;simp only[key _ _ _ L hd.1,key _ _ _ I hd.2,Bool.and_self,cond_true];simpa [hd]using h
  |false=>
   simp only[U,cond_false]at h|-;exact kz G K D z E s f L I h
theorem ju{l K:List Nat}(h:dX l K=true)(A:t∈K):t∉l:=by
 induction l with
 |nil=>simp
 |cons a l D=>
  simp only[dX,gg,m6]at h;have z:=h.1;simp at z;simp only[fp,not_or];exact⟨λe=>z (e▸A),D h.2⟩
theorem mH:∀(G:List It) (K z:List Nat) (s:Nat) (f:aa),eh G K z s=some f->dX f.bj K=true/\dX f.ids z=true
 |[],_,_,_,_,h=>by simp[eh]at h
 | .av t::G,K,z,s,f,h=>by
  have:=mH G (t::K) z s f h;refine⟨?_,this.2⟩;have key:∀(l:List Nat),dX l (t::K)=true->dX l K=true:=by
   intro l;induction l with
   |nil=>intro _;rfl
   |cons a l D=>
    intro h;simp only[dX,gg,m6]at h|-;refine⟨?_,D h.2⟩;have A:=h.1;simp at A|-;exact A.2
  exact key _ this.1
 | .bp t::G,K,z,s,f,h=>by
  have:=mH G K (t::z) s f h;refine⟨this.1,?_⟩;have key:∀(l:List Nat),dX l (t::z)=true->dX l z=true:=by
   intro l;induction l with
   |nil=>intro _;rfl
   |cons a l D=>
    intro h;simp only[dX,gg,m6]at h|-;refine⟨?_,D h.2⟩;have A:=h.1;simp at A|-;exact A.2
  exact key _ this.2
 | .ae I f'::G,K,z,s,f,h=>by
  simp only[eh]at h;cases E:ct I s with
  |true=>
   simp only[E,cond_true]at h;cases hd:(dX f'.bj K&&dX f'.ids z)with
   |false=>simp[hd]at h
   |true=>
    simp[hd]at h;subst h;simpa using hd
  |false=>
   simp only[E,cond_false]at h;exact mH G K z s f h
structure ZD(w0 w:World)(g:Gh):Prop where
 ec:∀b,b<w0.heap.size->g.om b<10
 new:∀b,w0.heap.size<=b->b<w.heap.size->10<=g.om b
def aQ(G:List It)(g:Gh)(a:Act)(w:World):Prop:=∀s f,ay G s=some f->f.p g (a.tmps.getD s undef) w
structure Cx where
 P:Program
 n:Nat
 w0:World
 C:Nat->Prop
 dE:Nat->Nat
 rd:Option Nat
 ds:List Deferred
def Cx.F(X:Cx):Fence:={nS with round:=X.rd}
structure ff(X:Cx)(w:World)(g:Gh):Prop where
 ok:ZD X.w0 w g
 om:∀b,b<X.w0.heap.size->g.om b=X.dE b
structure Env(X:Cx)(G:List It)(a:Act)(w:World):Prop where
 size:a.tmps.size=X.n
 defers:a.defers=X.ds
 fr:Fr X.C X.w0 w
 facts:∃g:Gh,ff X w g/\aQ G g a w
variable {G K J H:List It}{f f1 f2 f3 f0 f4 f':aa}{g g':Gh}{X:Cx}{fs:List aa}{Is:List (List It)}
class Rp(α:Type)where
 n:Nat
 agg:Bool
 na:agg=false->n=1
 rel:(Nat->Prop)->α->List Value->World->Prop
 len:∀F x cs w,rel F x cs w->cs.length=n
 one:∀F x cs w,rel F x cs w->∀c∈cs,c.oneCell'=true
 aD:∀F F' x cs w w',w.heap.size<=w'.heap.size->(∀b,b<w.heap.size->F b->w'.heap[b]? =w.heap[b]? /\F' b)->rel F x cs w->rel F' x cs w'
def cL(agg:Bool)(cs:List Value):Value:=if agg then .agg cs.toArray else cs.headD undef
def eO(w:World)(a:Addr)(cs:List Value):Prop:=∀(j:Nat) (u:Value),cs[j]? =some u->w.cell? (a.add j)=some u/\w.frozen? (a.add j)=false
theorem Addr.jv(a:Addr)(n:Nat):(a.add n).block=a.block:=by unfold Addr.add;split<;>rfl
theorem eO.aD{a:Addr}(h:eO w a cs)(z:w'.heap[a.block]? =w.heap[a.block]?):eO w' a cs:=λj u A=>by have:=h j u A;exact⟨by rw[<-this.1];exact World.cell?_of_block (by rw[Addr.jv];exact z),by rw[<-this.2];exact World.frozen?_of_block (by rw[Addr.jv];exact z)⟩
instance:Rp Int where
 n:=1
 agg:=false
 na:=λ_=>rfl
 rel:=λ_ x cs _=>cs=[.int .i64 x]
 len:=λ_ _ _ _ h=>by rw[h];rfl
 one:=λ_ _ _ _ h=>by rw[h];simp[j_]
 aD:=λ_ _ _ _ _ _ _ _ h=>h
instance:Rp UInt8 where
 n:=1
 agg:=false
 na:=λ_=>rfl
 rel:=λ_ x cs _=>cs=[.int .u8 (x.toNat:Int)]
 len:=λ_ _ _ _ h=>by rw[h];rfl
 one:=λ_ _ _ _ h=>by rw[h];simp[j_]
 aD:=λ_ _ _ _ _ _ _ _ h=>h
instance:Rp UInt32 where
 n:=1
 agg:=false
 na:=λ_=>rfl
 rel:=λ_ x cs _=>cs=[.int .u32 (x.toNat:Int)]
 len:=λ_ _ _ _ h=>by rw[h];rfl
 one:=λ_ _ _ _ h=>by rw[h];simp[j_]
 aD:=λ_ _ _ _ _ _ _ _ h=>h
instance:Rp Bool where
 n:=1
 agg:=false
 na:=λ_=>rfl
 rel:=λ_ x cs _=>cs=[.bool x]
 len:=λ_ _ _ _ h=>by rw[h];rfl
 one:=λ_ _ _ _ h=>by rw[h];simp[j_]
 aD:=λ_ _ _ _ _ _ _ _ h=>h
structure kp where
 s:List UInt8
 deriving DecidableEq
instance:Rp kp where
 n:=1
 agg:=false
 na:=λ_=>rfl
 rel:=λ_ x cs _=>cs=[.string ⟨x.s.toArray⟩]
 len:=λ_ _ _ _ h=>by rw[h];rfl
 one:=λ_ _ _ _ h=>by rw[h];simp[j_]
 aD:=λ_ _ _ _ _ _ _ _ h=>h
instance{α:Type} [R:Rp α]:Rp (List α)where
 n:=1
 agg:=false
 na:=λ_=>rfl
 rel:=λF l cs w=>∃(a:Option Addr) (c:Nat),cs=[.slice a l.length c]/\l.length<=c/\(a=none->l=[]/\c=0)/\
  ∀ad,a=some ad->∀(i:Nat) (x:α),l[i]? =some x->F ad.block/\ad.block<w.heap.size/\∃es,eO w (ad.add (i * R.n)) es/\R.rel F x es w
 len:=λ_ _ _ _ h=>by obtain⟨a,c,h,_⟩:=h;rw[h];rfl
 one:=λ_ _ _ _ h=>by obtain⟨a,c,h,_⟩:=h;rw[h];simp[j_]
 aD:=λF F' l cs w w' D A h=>by obtain⟨a,c,U,E,I,W⟩:=h;refine⟨a,c,U,E,I,λad L i x hx=>?_⟩;obtain⟨O,z,es,Y,V⟩:=W ad L i x hx;have:=A ad.block z O;exact⟨this.2,nR z D,es,Y.aD (by rw[Addr.jv];exact this.1),R.aD F F' x es w w' D A V⟩
instance{α β:Type} [A:Rp α] [B:Rp β]:Rp (α×β)where
 n:=A.n+B.n
 agg:=true
 na:=λh=>by cases h
 rel:=λF x cs w=>∃c1 z,cs=c1++z/\A.rel F x.1 c1 w/\B.rel F x.2 z w
 len:=λF x cs w h=>by obtain⟨c1,z,rfl,I,D⟩:=h;rw[bY,A.len _ _ _ _ I,B.len _ _ _ _ D]
 one:=λF x cs w h=>by
  obtain⟨c1,z,rfl,I,D⟩:=h;intro c E;rcases dx.1 E with E|E
  .exact A.one _ _ _ _ I c E
  .exact B.one _ _ _ _ D c E
 aD:=λF F' x cs w w' O L h=>by obtain⟨c1,z,h,I,D⟩:=h;exact⟨c1,z,h,A.aD _ _ _ _ _ _ O L I,B.aD _ _ _ _ _ _ O L D⟩
abbrev Rp.dH{α β:Type}(B:Rp β)(f:α->β):Rp α where
 n:=B.n
 agg:=true
 na:=λh=>by cases h
 rel:=λF x cs w=>B.rel F (f x) cs w
 len:=λF x cs w h=>B.len F (f x) cs w h
 one:=λF x cs w h=>B.one F (f x) cs w h
 aD:=λF F' x cs w w' z A h=>B.aD F F' (f x) cs w w' z A h
def cX{α:Type}[R:Rp α](F:Nat->Prop)(x:α)(v:Value)(w:World):Prop:=∃cs,R.rel F x cs w/\v=cL R.agg cs
theorem cX.aD[R:Rp α]{F:Nat->Prop}{x:α}(A:w.heap.size<=w'.heap.size)(E:∀b,b<w.heap.size->F b->w'.heap[b]? =w.heap[b]? /\F' b)(h:cX F x v w):cX F' x v w':=by obtain⟨cs,D,z⟩:=h;exact⟨cs,R.aD F F' x cs w w' A E D,z⟩
theorem cX.mono[R:Rp α]{F:Nat->Prop}{x:α}(h:cX F x v w)(D:∀b,b<w.heap.size->F b->F' b):cX F' x v w:=
 h.aD (bh _) (λb z A=>⟨rfl,D b z A⟩)
theorem cD{F:Nat->Prop}{x:Int}:cX F x v w↔v= .int .i64 x:=by
 constructor
 .rintro⟨cs,h,rfl⟩;cases h;rfl
 .rintro rfl;exact⟨_,rfl,rfl⟩
theorem sd{F:Nat->Prop}{x:UInt8}:cX F x v w↔v= .int .u8 (x.toNat:Int):=by
 constructor
 .rintro⟨cs,h,rfl⟩;cases h;rfl
 .rintro rfl;exact⟨_,rfl,rfl⟩
theorem pV{F:Nat->Prop}{x:UInt32}:cX F x v w↔v= .int .u32 (x.toNat:Int):=by
 constructor
 .rintro⟨cs,h,rfl⟩;cases h;rfl
 .rintro rfl;exact⟨_,rfl,rfl⟩
theorem dw{F:Nat->Prop}{x:Bool}:cX F x v w↔v= .bool x:=by
 constructor
 .rintro⟨cs,h,rfl⟩;cases h;rfl
 .rintro rfl;exact⟨_,rfl,rfl⟩
theorem wH{F:Nat->Prop}{x:kp}:cX F x v w↔v= .string ⟨x.s.toArray⟩:=by
 constructor
 .rintro⟨cs,h,rfl⟩;cases h;rfl
 .rintro rfl;exact⟨_,rfl,rfl⟩
theorem CK[Rp α]{F:Nat->Prop}:cX F ([]:List α) (.slice none 0 0) w:=
 ⟨_,⟨none,0,rfl,bh _,λ_=>⟨rfl,rfl⟩,λ_ h=>by cases h⟩,rfl⟩
theorem jQ[R:Rp α]{F:Nat->Prop}(h:cX F l v w):
  ∃(a:Option Addr) (c:Nat),v= .slice a l.length c/\l.length<=c/\(a=none->l=[]/\c=0)/\
  ∀ad,a=some ad->∀(i:Nat) (x:α),l[i]? =some x->F ad.block/\ad.block<w.heap.size/\∃es,eO w (ad.add (i * R.n)) es/\R.rel F x es w:=by
 obtain⟨cs,⟨a,c,rfl,h⟩,rfl⟩:=h;exact⟨a,c,rfl,h⟩
def aa.rep{α:Type}[Rp α](bj:List Nat)(x:α):aa where
 bj:=bj
 ids:=[]
 p:=λg v w=>cX (λb=>g.om b∈bj) x v w
 aD:=λg g' v w w' A h=>cX.aD A.size (λb D z=>⟨(A.block b D z).1,by rw[(A.block b D z).2];exact z⟩) h
def aa.c_(c:Prop)(f:aa):aa where
 bj:=f.bj
 ids:=f.ids
 p:=λg v w=>(c->f.p g v w)/\(¬c->v=undef)
 aD:=λg g' v w w' A h=>⟨λz=>f.aD g g' v w w' A (h.1 z),h.2⟩
def aa.ptr{α:Type}[R:Rp α](bj:List Nat)(x:α):aa where
 bj:=bj
 ids:=[]
 p:=λg v w=>∃ad,v= .pointer (some ad)/\g.om ad.block∈bj/\ad.block<w.heap.size/\∃es,eO w ad es/\R.rel (λb=>g.om b∈bj) x es w
 aD:=λg g' v w w' A h=>by
  obtain⟨ad,I,z,E,es,O,L⟩:=h;have D:=A.block ad.block E z;exact⟨ad,I,by rw[D.2];exact z,nR E A.size,es,O.aD D.1,
   R.aD _ _ x es w w' A.size (λb D z=>⟨(A.block b D z).1,by rw[(A.block b D z).2];exact z⟩) L⟩
def aa.cP(f1 f2:aa):aa where
 bj:=f1.bj++f2.bj
 ids:=f1.ids++f2.ids
 p:=λg v w=>∃E D,v= .tuple #[E,D]/\f1.p g E w/\f2.p g D w
 aD:=λg g' v w w' A h=>by
  obtain⟨E,D,O,U,L⟩:=h;exact⟨E,D,O,f1.aD g g' E w w' ⟨A.size,λb I z=>A.block b I (gY _ z),λt z=>A.ids t (gY _ z)⟩ U,
   f2.aD g g' D w w' ⟨A.size,λb I z=>A.block b I (gh _ z),λt z=>A.ids t (gh _ z)⟩ L⟩
def aa.eV(f1 f2 f3:aa):aa where
 bj:=f1.bj++(f2.bj++f3.bj)
 ids:=f1.ids++(f2.ids++f3.ids)
 p:=λg v w=>∃L I E,v= .tuple #[L,I,E]/\f1.p g L w/\f2.p g I w/\f3.p g E w
 aD:=λg g' v w w' A h=>by
  obtain⟨L,I,E,V,W,O,U⟩:=h;exact⟨L,I,E,V,f1.aD g g' L w w' ⟨A.size,λb D z=>A.block b D (gY _ z),λt z=>A.ids t (gY _ z)⟩ W,
   f2.aD g g' I w w' ⟨A.size,λb D z=>A.block b D (gh _ (gY _ z)),λt z=>A.ids t (gh _ (gY _ z))⟩ O,
   f3.aD g g' E w w' ⟨A.size,λb D z=>A.block b D (gh _ (gh _ z)),λt z=>A.ids t (gh _ (gh _ z))⟩ U⟩
def aa.aL(t:Nat):aa where
 bj:=[]
 ids:=[t]
 p:=λg v _=>v=g.ga t
 aD:=λg g' v w w' z h=>by rw[z.ids t (by simp)];exact h
def qX:TypeDesc->Bool
 | .struct _| .array _ _=>true
 |_=>false
structure Ty(P:Program)(t:TypeId)(α:Type)[R:Rp α]:Prop where
 cE:∃d,P.underlying t=some d/\qX d=R.agg
 sz:∃i,P.info? t=some i/\i.size=R.n
structure nh(P:Program)(t e:TypeId)(α:Type)[R:Rp α]:Prop where
 cE:P.underlying t=some (.slice e)
 el:Ty P e α
 pos:0<R.n
theorem wq{t:TypeId}[R:Rp α](h:Ty P t α)(w:World):(isAgg t).run P w= .ok R.agg w:=by obtain⟨d,A,z⟩:=h.cE;simp only[isAgg,cU,run_underlying A,eA];cases d<;>simp[qX]at z|- <;>simp[<-z]
theorem gD{t:TypeId}[R:Rp α](h:Ty P t α)(w:World):(oX t).run P w= .ok R.n w:=by obtain⟨i,A,z⟩:=h.sz;simp[oX,typeInfo,A,z]
theorem n8{t:TypeId}[R:Rp α](h:Ty P t α){a:Addr}{F:Nat->Prop}{x:α}(D:eO w a cs)(O:R.rel F x cs w):(loadVar t a).run P w= .ok (cL R.agg cs) w:=by
 have z:=R.len _ _ _ _ O;unfold loadVar;simp only[cU,wq h,eA];cases I:R.agg with
 |true=>
  have A:=run_loadCells_list (P:=P) w a cs (λj v E=>(D j v E).1);rw[z]at A;simp[gD h,A,cL]
 |false=>
  have L:=R.na I;rw[L]at z
  match cs,z with
  |[c],_=>
   have:=(D 0 c rfl).1;simp only[Go.Addr.add_zero']at this;simp[cL,this]
def eC:Op->Bool
 | .defer _=>false
 |_=>true
theorem Cx.pZ(h:X.rd=none):X.F=nS:=by unfold Cx.F;rw[h];rfl
theorem sB{rd:Option Nat}{K:Act->World->Prop}{Q:Exit->Act->World->Prop}(z:eC o.op=true)(h:o.wp P a w K Q):
  o.wpIn {nS with round:=rd} 0 P a w K Q:=by
 refine⟨λ_ _=>trivial,?_⟩;rw[Oper.semAt_eq _ _ _ (λc D=>by rw[D]at z;cases z)];unfold dy at h;revert h
 generalize(execOp a.eval o).run P w=r
 intro h;cases r with
 |ok x w'=>
  cases x with
  |value v=>exact h
  |skip=>exact h
  |defer d=>exact h
  |enter f args=>exact⟨λh=>(by cases h),callsIn_wide (n:=0).2 h⟩
  |row row args=>exact⟨λh=>(by cases h),λc cs _=>let⟨v,A,r,s⟩:=h c cs;⟨v,A,r,stepsIn_wide.2 s⟩⟩
  |_=>exact h.elim
 |halt E w'=>
  cases E with
  |panic v=>exact h
  |_=>exact h.elim
def aO(X:Cx)(G:List It)(c:Code)(Q:Exit->Act->World->Prop):Prop:=∀a w,Env X G a w->c.wpIn X.F 0 X.P Q a w
def br(X:Cx)(ops:Array Oper)(Q:Exit->Act->World->Prop)(G:List It)(l:List Oper):Prop:=∀a w,Env X G a w->wpListIn X.F 0 X.P ops Q l a w
def aH(X:Cx)(G:List It)(Q:Exit->Act->World->Prop)(e:Exit):Prop:=∀a w,Env X G a w->Q e a w
def Has(G:List It)(x:Operand)(f:aa):Prop:=∀a w g,aQ G g a w->f.p g (a.eval x) w
def Sub(G G':List It):Prop:=∀a w g,aQ G g a w->aQ G' g a w
theorem ai(h:ay G t=some f):Has G (.tmp t) f:=λ_ _ _ z=>z t f h
theorem dD{c:Prop}(h:ay G t=some (f.c_ c))(z:c):Has G (.tmp t) f:=λ_ _ _ A=>(A t _ h).1 z
theorem e_{n:Int}:Has G (.const (.int .i64 n)) (aa.rep [] n):=λ_ _ _ _=>cD.2 rfl
theorem Has.u8{k:Int}(n:UInt8)(h:(n.toNat:Int)=k):Has G (.const (.int .u8 k)) (aa.rep [] n):=λ_ _ _ _=>sd.2 (by rw[h];rfl)
theorem Has.u32{k:Int}(n:UInt32)(h:(n.toNat:Int)=k):Has G (.const (.int .u32 k)) (aa.rep [] n):=λ_ _ _ _=>pV.2 (by rw[h];rfl)
theorem Has.bool:Has G (.const (.bool b)) (aa.rep [] b):=λ_ _ _ _=>dw.2 rfl
theorem Has.nil(α:Type)[Rp α]:Has G (.const (.slice none 0 0)) (aa.rep [] ([]:List α)):=λ_ _ _ _=>CK
theorem Has.mono[Rp α]{T:List Nat}(h:Has G x (aa.rep T y))(D:∀t,t∈T->t∈T'):Has G x (aa.rep T' y):=
 λa w g A=>cX.mono (h a w g A) (λ_ _ z=>D _ z)
def ep:List Nat->List Nat->Bool
 |[],_=>true
 |a::l,m=>m.elem a&&ep l m
theorem fH{l m:List Nat}(h:ep l m=true):∀t,t∈l->t∈m:=by
 induction l with
 |nil=>intro t z;cases z
 |cons a l A=>
  simp only[ep,gg]at h;intro t z;rcases fp.1 z with rfl|z
  .simpa using h.1
  .exact A h.2 t z
theorem Has.m[Rp α]{T:List Nat}(h:Has G x (aa.rep T y))(z:ep T T'=true):Has G x (aa.rep T' y):=h.mono (fH z)
class Flat(α:Type)[R:Rp α]:Prop where
 flat:∀F F' x cs w w',R.rel F x cs w->R.rel F' x cs w'
instance:Flat Int:=⟨λ_ _ _ _ _ _ h=>h⟩
instance:Flat UInt8:=⟨λ_ _ _ _ _ _ h=>h⟩
instance:Flat UInt32:=⟨λ_ _ _ _ _ _ h=>h⟩
instance:Flat Bool:=⟨λ_ _ _ _ _ _ h=>h⟩
instance:Flat kp:=⟨λ_ _ _ _ _ _ h=>h⟩
theorem fG[R:Rp α][E:Flat α]{T:List Nat}(h:Has G x (aa.rep T y)):Has G x (aa.rep T' y):=
 λa w g A=>by obtain⟨cs,D,z⟩:=h a w g A;exact⟨cs,E.flat _ _ _ _ _ _ D,z⟩
theorem Ei:aQ [] g a w:=λs f h=>by simp[ay,eh]at h
theorem Sub.nil:Sub G []:=λ_ _ _ _=>Ei
theorem Sub.cons{G':List It}{s:Nat}(h:Has G (.tmp s) f)(k:Sub G G'):Sub G (.ae s f::G'):=λa w g I D f' z=>by
 simp only[ay,eh]at z;cases A:ct s D with
 |true=>
  have:s=D:=iI A;subst this;simp only[A,cond_true]at z;cases E:(dX f.bj []&&dX f.ids [])with
  |true=>simp only[E,cond_true,Option.some.injEq]at z;subst z;exact h a w g I
  |false=>simp[E]at z
 |false=>
  simp only[A,cond_false]at z;exact k a w g I D f' z
theorem Env.sub{G':List It}(e:Env X G a w)(h:Sub G G'):Env X G' a w:=
 ⟨e.size,e.defers,e.fr,let⟨g,h1,h2⟩:=e.facts;⟨g,h1,h a w g h2⟩⟩
section
variable{Q:Exit->Act->World->Prop}
theorem aO.sub{G':List It}(h:Sub G G')(k:aO X G' c Q):aO X G c Q:=λa w e=>k a w (e.sub h)
theorem aH.sub{G':List It}{x:Exit}(h:Sub G G')(k:aH X G' Q x):aH X G Q x:=λa w e=>k a w (e.sub h)
theorem aO.seq{x y:Code}(h:aO X G x (Exit.then (y.wpIn X.F 0 X.P Q) Q)):aO X G (.seq x y) Q:=λa w e=>wpIn_seq (h a w e)
theorem aO.skip(h:aH X G Q .normal):aO X G .skip Q:=λa w e=>wpIn_skip (h a w e)
theorem aO.exit{id:Nat}(h:aH X G Q (.exit id)):aO X G (.exit id) Q:=λa w e=>wpIn_exit (h a w e)
theorem aO.ret(h:aH X G Q .ret):aO X G .ret Q:=λa w e=>wpIn_ret (h a w e)
theorem aO.block{id:Nat}(h:aO X G c (m7 id Q)):aO X G (.block id c) Q:=λa w e=>wpIn_block (h a w e)
theorem aO.cond{T:List Nat}{x y:Code}(E:ay G t=some (aa.rep T b))(I:b=true->aO X G x Q)(D:b=false->aO X G y Q):aO X G (.cond (.tmp t) x y) Q:=λa w e=>by obtain⟨g,_,z⟩:=e.facts;have A:a.eval (.tmp t)= .bool b:=dw.1 (z t _ E);exact wpIn_cond_split A (λh=>I h a w e) (λh=>D h a w e)
theorem aO.region{id:Nat}{l:List Oper}(h:br X l.toArray Q G l):aO X G (.region id l.toArray false) Q:=λa w e=>wpIn_region_lit (h a w e)
theorem aH.aaq{y:Code}(h:aO X G y Q):aH X G (Exit.then (y.wpIn X.F 0 X.P Q) Q) .normal:=h
theorem aH.aan{id:Nat}{K:Act->World->Prop}(h:aH X G Q (.exit id)):aH X G (Exit.then K Q) (.exit id):=h
theorem aH.aao{id:Nat}(h:aH X G Q .normal):aH X G (m7 id Q) .normal:=h
theorem aH.WV{id:Nat}(h:aH X G Q .normal):aH X G (m7 id Q) (.exit id):=λa w e=>by simp only[m7,if_true];exact h a w e
theorem aH.jZ{id id':Nat}(z:ct id' id=false)(h:aH X G Q (.exit id')):aH X G (m7 id Q) (.exit id'):=λa w e=>by
 have:id'≠id:=λA=>by subst A;simp at z
 simp only[m7,if_neg this];exact h a w e
theorem aO.scope(h:aO X G c (Exit.noGoto Q))(z:X.rd=none:=by rfl):aO X G (.scope c) Q:=λa w e=>by rw[Cx.pZ z];refine wpIn_wide.2 (wp_scope_straight (wpIn_wide (n:=0).1 ?_));rw[<-Cx.pZ z];exact h a w e
theorem aO.label{l:Nat}(h:aH X G Q .normal):aO X G (.label l) Q:=λa w e=>wpIn_label (h a w e)
theorem aH.TY(h:aH X G Q .ret):aH X G (Exit.noGoto Q) .ret:=h
theorem br.nil(h:aH X G Q .normal):br X ops Q G []:=h
def Yields(P:Program)(o:Oper)(a:Act)(w:World)(R:Value->World->Prop):Prop:=
 ∀(K:Act->World->Prop) (Q:Exit->Act->World->Prop),(∀v w',R v w'->K (a.put o.dst v) w')->o.wp P a w K Q
theorem Yields.val{R:Value->World->Prop}(h:(execOp a.eval o).run P w= .ok (.value v) w')(A:R v w'):Yields P o a w R:=λK Q z=>by unfold dy;rw[h];exact z v w' A
def ah(X:Cx)(G:List It)(o:Oper)(f:aa):Prop:=∀a w g,a.tmps.size=X.n->Fr X.C X.w0 w->ff X w g->aQ G g a w->
 Yields X.P o a w (λv w'=>Fr fW w w'/\∃g',ff X w' g'/\(∀b,b<w.heap.size->g'.om b=g.om b)/\(∀t,g'.ga t=g.ga t)/\f.p g' v w')
theorem bL(h:∀a w g,aQ G g a w->∃v,(execOp a.eval o).run X.P w= .ok (.value v) w/\f.p g v w):ah X G o f:=
 λa w g _ _ A z=>let⟨v,hr,hp⟩:=h a w g z;Yields.val hr ⟨Fr.refl _ _,g,A,λ_ _=>rfl,λ_=>rfl,hp⟩
theorem Act.GR(hd:d<a.tmps.size):(a.put (some d) v).tmps.getD t undef=if d=t then v else a.tmps.getD t undef:=by
 simp only[Act.put,Array.getD_eq_getD_getElem?,Array.getElem?_setIfInBounds];by_cases h:d=t
 .subst h;simp[hd]
 .simp[h]
theorem aQ.g_(h:aQ G g a w)(z:Fr fW w w')(E:∀b,b<w.heap.size->g'.om b=g.om b)(D:∀t,g'.ga t=g.ga t):aQ G g' a w':=
 λs f I=>f.aD g g' _ w w' ⟨z.size,λb A _=>⟨z.block b A id,E b A⟩,λt _=>D t⟩ (h s f I)
theorem aQ.put(hd:d<a.tmps.size)(h:aQ G g a w)(I:f.p g v w):aQ (.ae d f::G) g (a.put (some d) v) w:=λs f' z=>by
 rw[Act.GR hd];simp only[ay,eh]at z;cases A:ct d s with
 |true=>
  have:d=s:=iI A;subst this;simp only[A,cond_true]at z;cases D:(dX f.bj []&&dX f.ids [])with
  |true=>simp only[D,cond_true,Option.some.injEq]at z;subst z;simpa using I
  |false=>simp[D]at z
 |false=>
  have E:d≠s:=λL=>by subst L;simp at A
  simp only[A,cond_false]at z;rw[if_neg E];exact h s f' z
theorem Env.put(hd:d<X.n)(z:a.tmps.size=X.n)(D:a.defers=X.ds)(L:Fr X.C X.w0 w)(U:aQ G g a w)(A:Fr fW w w')(I:ff X w' g')(O:∀b,b<w.heap.size->g'.om b=g.om b)(E:∀t,g'.ga t=g.ga t)(V:f.p g' v w'):Env X (.ae d f::G) (a.put (some d) v) w':=
 ⟨by simp[Act.put,z],D,L.trans A (λ_ _ h=>h.elim),g',I,(U.g_ A O E).put (by rw[z];exact hd) V⟩
theorem br.op{rest:List Oper}{op:Op}(hd:Nat.blt d X.n=true)(h:ah X G ⟨some d,op,ty,pos,af,none⟩ f)(k:br X ops Q (.ae d f::G) rest)(A:eC op=true:=by rfl):br X ops Q G (⟨some d,op,ty,pos,af,none⟩::rest):=λa w e=>by obtain⟨g,O,z⟩:=e.facts;refine wpListIn_plain rfl λK V=>?_;refine sB A ?_;refine h a w g e.size e.fr O z K Q (λv w' ⟨L,g',E,I,D,U⟩=>V _ _ (k _ _ ?_));exact Env.put (by simpa [Nat.blt_eq]using hd) e.size e.defers e.fr z L E I D U
theorem yO(A:(ops[j]?).bind (·.dst)=some dj)(z:a.tmps.getD dj undef= .bool b):yielded ops a.tmps j=some b:=by
 have:a.tmps[dj]? =some (.bool b):=by
  rw[Array.getD_eq_getD_getElem?]at z;cases h:a.tmps[dj]? with
  |none=>rw[h]at z;cases z
  |some v=>rw[h]at z;simp at z;rw[z]
 unfold yielded;rw[A];simp[this]
theorem br.mX{rest:List Oper}{T:List Nat}{op:Op}(hd:Nat.blt d X.n=true)(Y:(ops[j]?).bind (·.dst)=some dj)(ac:ay G dj=some (aa.rep T b))(h:b=want->ah X G ⟨some d,op,ty,pos,af,some (j,want)⟩ f)(k:br X ops Q (.ae d (f.c_ (b=want))::G) rest)(L:eC op=true:=by rfl):br X ops Q G (⟨some d,op,ty,pos,af,some (j,want)⟩::rest):=λa w e=>by
 obtain⟨g,E,A⟩:=e.facts;have hy:=yO Y (dw.1 (A dj _ ac));have D:d<X.n:=by simpa [Nat.blt_eq]using hd
 refine wpListIn_step λK I=>?_;simp only[Region.wanted,hy];by_cases z:b=want
 .subst z;simp only[beq_self_eq_true,if_true];refine sB L ?_;exact h rfl a w g e.size e.fr E A K Q (λv w' ⟨z,g',U,V,O,Z⟩=>I _ _ (k _ _ (Env.put D e.size e.defers e.fr A z U V O ⟨λ_=>Z,λh=>(h rfl).elim⟩)))
 .have:(some b==some want)=false:=by simp[z]
  simp only[this,Bool.false_eq_true,if_false];refine⟨λ_ _=>trivial,?_⟩;exact I _ _ (k _ _ (Env.put D e.size e.defers e.fr A (Fr.refl _ _) E (λ_ _=>rfl) (λ_=>rfl) ⟨λW=>(z W).elim,λ_=>rfl⟩))
theorem br.jY{rest:List Oper}{c:Prop}{T:List Nat}{op:Op}(hd:Nat.blt d X.n=true)(U:(ops[j]?).bind (·.dst)=some dj)(ag:ay G dj=some ((aa.rep T b).c_ c))(h:c/\b=want->ah X G ⟨d,op,ty,pos,af,some (j,want)⟩ f)(k:br X ops Q (.ae d (f.c_ (c/\b=want))::G) rest)(V:eC op=true:=by rfl):br X ops Q G (⟨some d,op,ty,pos,af,some (j,want)⟩::rest):=λa w e=>by
 obtain⟨g,L,D⟩:=e.facts;have I:d<X.n:=by simpa [Nat.blt_eq]using hd
 have hu:=D dj _ ag;refine wpListIn_step λK O=>?_;by_cases z:c
 .have hy:=yO U (dw.1 (hu.1 z));simp only[Region.wanted,hy];by_cases A:b=want
  .subst A;simp only[beq_self_eq_true,if_true];refine sB V ?_;exact h ⟨z,rfl⟩ a w g e.size e.fr L D K Q (λv w' ⟨A,g',Y,Z,W,ad⟩=>O _ _ (k _ _ (Env.put I e.size e.defers e.fr D A Y Z W ⟨λ_=>ad,λh=>(h ⟨z,rfl⟩).elim⟩)))
  .have:(some b==some want)=false:=by simp[A]
   simp only[this,Bool.false_eq_true,if_false];refine⟨λ_ _=>trivial,?_⟩;exact O _ _ (k _ _ (Env.put I e.size e.defers e.fr D (Fr.refl _ _) L (λ_ _=>rfl) (λ_=>rfl) ⟨λz=>(A z.2).elim,λ_=>rfl⟩))
 .have hy:(yielded ops a.tmps j==some want)=false:=by
   have E:a.tmps.getD dj undef=undef:=hu.2 z;unfold yielded;rw[U];simp only[Option.bind_some];rw[Array.getD_eq_getD_getElem?]at E;cases ac:a.tmps[dj]? with
   |none=>rfl
   |some v=>rw[ac]at E;simp at E;subst E;rfl
  simp only[Region.wanted,hy,Bool.false_eq_true,if_false];refine⟨λ_ _=>trivial,?_⟩;exact O _ _ (k _ _ (Env.put I e.size e.defers e.fr D (Fr.refl _ _) L (λ_ _=>rfl) (λ_=>rfl) ⟨λh=>(z h.1).elim,λ_=>rfl⟩))
end
section
variable{Q:Exit->Act->World->Prop}
def uW{S B:Type}(X:Cx)(A:S->List It)(out:B->Exit×List It)(c:ak S B):Exit->Act->World->Prop:=λe a w=>
 match c with
 | .next z=>e= .normal/\Env X (A z) a w
 | .aT b=>e≠ .normal/\e=(out b).1/\Env X (out b).2 a w
theorem aH.next{A:S->List It}{out:B->Exit×List It}{c:ak S B}{z:S}(D:some (ak.next z)=some c)(h:Sub G (A z)):
  aH X G (uW X A out c) .normal:=λa w e=>by
 cases D;exact⟨rfl,e.sub h⟩
theorem aH.aT{A:S->List It}{out:B->Exit×List It}{c:ak S B}{b:B}{e:Exit}(z:some (ak.aT b)=some c)(D:e≠ .normal)(E:e=(out b).1)(h:Sub G (out b).2):
  aH X G (uW X A out c) e:=λa w env=>by
 cases z;exact⟨D,E,env.sub h⟩
theorem aO.loop{step:S->Option (ak S B)}{I:S}{r:B}{body:Code}(A:S->List It)(out:B->Exit×List It)(Z:bf step n I=some r)(Y:Sub G (A I))(round:∀s c,step s=some c->aO X (A s) body (uW X A out c))(after:(out r).1≠ .normal->aH X (out r).2 Q (out r).1):aO X G (.loop body) Q:=λa w env=>by
 refine wpIn_loop_ghost (λm a w=>∃s,bf step m s=some r/\Env X (A s) a w) n ⟨I,Z,env.sub Y⟩ ?_;rintro m a w ⟨s,z,e⟩;cases m with
 |zero=>cases z
 |succ m=>
  rw[GW]at z;cases E:step s with
  |none=>rw[E]at z;cases z
  |some c=>
   rw[E]at z;refine ve ?_ (round s c E a w e);intro W V w' U;cases c with
   |next aa=>
    obtain⟨rfl,D⟩:=U;exact⟨m,Nat.lt_succ_self m,aa,z,D⟩
   |aT b=>
    obtain⟨L,O,D⟩:=U;cases z;have:=after (O▸L) V w' D;rw[<-O]at this;cases W with
    |normal=>exact(L rfl).elim
    |exit id=>exact this
    |goto l=>exact this
    |ret=>exact this
    |panic ac=>exact this
    |outgrown=>exact this
def JQ{S:Type}(X:Cx)(z:S->List It)(R:S->Prop):Act->World->Prop:=λa w=>∃p,R p/\Env X (z p) a w
theorem aO.RS(A:S->List It)(R:S->Prop){x y:Code}(O:∀p,R p->aO X (A p) y Q)(h:aO X G x (Exit.then (JQ X A R) Q)):aO X G (.seq x y) Q:=λa w e=>
 wpIn_seq (ve (λE I w' z=>by
  cases E with
  |normal=>obtain⟨p,L,D⟩:=z;exact O p L I w' D
  |exit id=>exact z
  |goto l=>exact z
  |ret=>exact z
  |panic U=>exact z
  |outgrown=>exact z) (h a w e))
theorem aH.aae{z:S->List It}{R:S->Prop}(p:S)(A:R p)(h:Sub G (z p)):aH X G (Exit.then (JQ X z R) Q) .normal:=λ_ _ e=>⟨p,A,e.sub h⟩
theorem bind_some{e:Option α}{f:α->Option β}{r:β}(h:ab e f=some r):∃x,e=some x/\f x=some r:=by
 cases e with
 |none=>cases h
 |some x=>exact⟨x,rfl,h⟩
theorem iG{c:Bool}{A B:α}(z:c=true)(h:(bif c then A else B)=r):A=r:=by rw[z]at h;exact h
theorem iP{c:Bool}{A B:α}(z:c=false)(h:(bif c then A else B)=r):B=r:=by rw[z]at h;exact h
def gO{α:Type}[Inhabited α](c:Bool)(e:Option α):Option α:=bif c then e else some default
theorem bM[Inhabited α]{c:Bool}{e:Option α}{x:α}(h:gO c e=some x)(z:c=true):e=some x:=by rw[z]at h;exact h
theorem ib{a:Bool}(h:a=true)(k:b=true):(a&&b)=true:=by rw[h,k];rfl
theorem cS{a:Bool}(h:a=false):(!a)=true:=by rw[h];rfl
def aP:Nat:=18446744073709551616
abbrev Tg:=Nat->List Nat
structure bm where
 f:Tg->aa
 tg:∀(T:Tg) (t:Nat),t∈(f T).bj->∃c,t∈T c
 gK:∀T:Tg,(f T).ids=[]
 re:∀(T T':Tg) (g g':Gh) (v:Value) (w:World),(∀c b,b<w.heap.size->g.om b∈T c->g'.om b∈T' c)->(f T).p g v w->(f T').p g' v w
def bm.rep{α:Type}[Rp α](c:Nat)(x:α):bm where
 f:=λT=>aa.rep (T c) x
 tg:=λ_ _ h=>⟨c,h⟩
 gK:=λ_=>rfl
 re:=λT T' g g' v w z h=>cX.mono h (z c)
def bm.fl{α:Type}[Rp α][D:Flat α](x:α):bm where
 f:=λ_=>aa.rep [] x
 tg:=λ_ _ h=>nomatch h
 gK:=λ_=>rfl
 re:=λT T' g g' v w E h=>by obtain⟨cs,A,z⟩:=h;exact⟨cs,D.flat _ _ _ _ _ _ A,z⟩
def bm.cP(s1 s2:bm):bm where
 f:=λT=>aa.cP (s1.f T) (s2.f T)
 tg:=λT t h=>(dx.1 h).elim (s1.tg T t) (s2.tg T t)
 gK:=λT=>by show(s1.f T).ids++(s2.f T).ids=[];rw[s1.gK,s2.gK];rfl
 re:=λT T' g g' v w A h=>by obtain⟨D,z,I,L,E⟩:=h;exact⟨D,z,I,s1.re T T' g g' D w A L,s2.re T T' g g' z w A E⟩
def bm.eV(s1 s2 s3:bm):bm where
 f:=λT=>aa.eV (s1.f T) (s2.f T) (s3.f T)
 tg:=λT t h=>(dx.1 h).elim (s1.tg T t) (λh=>(dx.1 h).elim (s2.tg T t) (s3.tg T t))
 gK:=λT=>by show(s1.f T).ids++((s2.f T).ids++(s3.f T).ids)=[];rw[s1.gK,s2.gK,s3.gK];rfl
 re:=λT T' g g' v w z h=>by obtain⟨E,D,A,O,U,I,L⟩:=h;exact⟨E,D,A,O,s1.re T T' g g' E w z U,s2.re T T' g g' D w z I,s3.re T T' g g' A w z L⟩
theorem bm.g_(s:bm){T:Tg}(D:w.heap.size<=w'.heap.size)(E:∀b,b<w.heap.size->(∃c,g.om b∈T c)->w'.heap[b]? =w.heap[b]?)(h:(s.f T).p g v w):(s.f T).p g v w':=
 (s.f T).aD g g v w w' ⟨D,λb z A=>⟨E b z (s.tg T _ A),rfl⟩,λ_ _=>rfl⟩ h
def da(T:List Nat):Tg:=λ_=>T
def ft(T:List Nat)(g:Gh)(w:World):List bm->List Value->Prop
 |[],[]=>True
 |s::z,v::A=>(s.f (da T)).p g v w/\ft T g w z A
 |_,_=>False
def gl(P:Program)(k:FuncId)(pre:List bm)(out:bm)(shc:List Nat):Prop:=
 ∀(w:World) (g:Gh) (T:List Nat) (z:List Value),ft T g w pre z->Calls P k z.toArray w (λe w'=>∃v,e= .returned v/\Fr fW w w'/\∃cls:Nat->Nat,
  ∀(T':Tg) (g':Gh),(∀b,w.heap.size<=b->b<w'.heap.size->g'.om b∈T' (cls b))->(∀b c,b<w.heap.size->g.om b∈T->c∈shc->g'.om b∈T' c)->(out.f T').p g' v w')
def bX(G:List It)(T:List Nat):List Operand->List bm->Prop
 |[],[]=>True
 |x::xs,s::z=>Has G x (s.f (da T))/\bX G T xs z
 |_,_=>False
theorem bX.nil{T:List Nat}:bX G T [] []:=trivial
theorem bX.cons{T:List Nat}{xs:List Operand}{s:bm}{z:List bm}(h:Has G x (s.f (da T)))(k:bX G T xs z):bX G T (x::xs) (s::z):=⟨h,k⟩
theorem bX.nz{T:List Nat}{xs:List Operand}{z:List bm}(h:bX G T xs z)(A:aQ G g a w):ft T g w z (xs.map a.eval):=by
 induction xs generalizing z with
 |nil=>cases z with
  |nil=>trivial
  |cons s z=>exact h.elim
 |cons x xs D=>cases z with
  |nil=>exact h.elim
  |cons s z=>exact⟨h.1 a w g A,D h.2⟩
def enters(P:Program)(k:FuncId):Bool:=
 match P.funcs[k]? with
 |some fn=> !(fn.name== "runtime.NumGoroutine")&&fn.body.isSome
 |none=>false
theorem mq{k:FuncId}(h:enters P k=true)(args:Array Value)(w:World):(callFunc k args).run P w= .ok (.enter k args) w:=by
 unfold enters at h;cases z:P.funcs[k]? with
 |none=>simp[z]at h
 |some fn=>
  simp[z]at h;obtain⟨E,D⟩:=h;obtain⟨c,A⟩:=Option.isSome_iff_exists.1 D;simp[callFunc,z,E,A]
def gr(g:Gh)(n t:Nat)(cls:Nat->Nat):Gh:=⟨λb=>if b<n then g.om b else t+cls b,g.ga⟩
def cM(g:Gh)(n t:Nat):Gh:=⟨λb=>if b<n then g.om b else t,g.ga⟩
theorem ff.gr(h:ff X w g){cls:Nat->Nat}(D:10<=t)(E:X.w0.heap.size<=w.heap.size):ff X w' (gr g w.heap.size t cls):=by
 refine⟨⟨λb z=>?_,λb z A=>?_⟩,λb z=>?_⟩
 .simp only[GL.gr];rw[if_pos (by omega)];exact h.ok.ec b z
 .simp only[GL.gr];split
  .exact h.ok.new b z (by assumption)
  .omega
 .simp only[GL.gr];rw[if_pos (by omega)];exact h.om b z
theorem ff.cM(h:ff X w g)(z:10<=t)(_:w.heap.size<=w'.heap.size)(A:X.w0.heap.size<=w.heap.size):ff X w' (cM g w.heap.size t):=
 h.gr (cls:=λ_=>0) z A
def cT(t:Nat)(T shc:List Nat):Tg:=λc=>bif shc.elem c then(t+c)::T else[t+c]
theorem ah.call{k:FuncId}{pre:List bm}{out:bm}{d:Option Nat}{xs:List Operand}(T:List Nat)(t:Nat)(ad:bx 10 t=true)(Y:enters X.P k=true)(U:gl X.P k pre out shc)(hx:bX G T xs pre):
  ah X G ⟨d, .call {callee:= .value (.func k),args:=xs.toArray,argTypes:=ats},ty,pos,af,gd⟩ (out.f (cT t T shc)):=λa w g ag I W Z K Q ae=>by
 have E:10<=t:=by simpa using ad
 have A:=U w g T _ (hx.nz Z);have D:(execOp a.eval ⟨d, .call {callee:= .value (.func k),args:=xs.toArray,argTypes:=ats},ty,pos,af,gd⟩).run X.P w= .ok (.enter k (xs.map a.eval).toArray) w:=by unfold execOp;simp[resolve,nT,Act.eval,invoke,mq Y]
 unfold dy;rw[D];refine kZ A ?_;rintro e w' ⟨v,rfl,V,cls,aa⟩;refine ae v w' ⟨V,GL.gr g w.heap.size t cls,W.gr E I.size,λb ac=>by simp[GL.gr,ac],λ_=>rfl,?_⟩;refine aa _ _ ?_ ?_
 .intro b z _;simp only[GL.gr,cT];rw[if_neg (Nat.not_lt.2 z)];cases shc.elem (cls b)<;>simp
 .intro b c z L O;simp only[GL.gr,cT];rw[if_pos z,show shc.elem c=true by simpa using O];simp[L]
def dE(w:World)(g:Gh)(T:List Nat):Nat->Nat:=λb=>if g.om b∈T then 0 else 9
def kP(X:Cx)(out:bm)(z:List (List Nat)):Ending->World->Prop:=λe w'=>∃v,e= .returned v/\Fr X.C X.w0 w'/\∃g,ff X w' g/\(out.f (λc=>z.getD c [])).p g v w'
def BM:List (List Nat)->Nat->Nat
 |[],_=>0
 |l::ls,t=>bif l.elem t then 0 else BM ls t+1
def uV(z:List (List Nat))(shc:List Nat):Bool:=
 z.zipIdx.all λx=>x.1.all λt=>(bx 10 t&&ct (BM z t) x.2)||(ct t 0&&shc.elem x.2)
theorem PJ{z:List (List Nat)}(h:uV z shc=true){c:Nat}(A:t∈z.getD c []):(10<=t/\BM z t=c)\/(t=0/\c∈shc):=by
 have L:c<z.length:=by
  rcases mh c z.length with h|h
  .exact h
  .rw[Q3,Ex h]at A;simp at A
 have U:(z[c],c)∈z.zipIdx:=by rw[List.mem_zipIdx_iff_getElem?];simp[L]
 have O:t∈z[c]:=by rw[Q3,ek L]at A;exact A
 have I:=i_.1 (i_.1 h _ U) _ O;simp only[Ey,gg]at I;rcases I with⟨D,E⟩|⟨D,E⟩
 .exact .inl ⟨by simpa using D,iI E⟩
 .exact .inr ⟨iI D,by simpa using E⟩
theorem KR{k:FuncId}{fn:Func}{pre:List bm}{out:bm}(I:List (List Nat))(n:Nat)(aN:P.funcs[k]? =some fn)(A:fn.body=some c)(aB:fn.ntmps=n)(aJ:bx pre.length n=true)(ak:uV I shc=true){al:(Ending->World->Prop)->Exit->Act->World->Prop}(aE:∀(R:Ending->World->Prop) (args:Array Value) (w:World),c.wpIn nS 0 P (al R) {tmps:=args++Array.replicate (fn.ntmps - args.size) undef,defers:=[]} w->Calls P k args w R)(h:∀(w0:World) (om:Nat->Nat),aO ⟨P,n,w0,fW,om,none,[]⟩ (pre.zipIdx.map λx=>It.ae x.2 (x.1.f (da [0]))) c (al (kP ⟨P,n,w0,fW,om,none,[]⟩ out I))):gl P k pre out shc:=by
 subst aB;intro w g O z ac;have aL:pre.length<=fn.ntmps:=by simpa using aJ
 have av:∀(pre:List bm) (z:List Value),ft O g w pre z->pre.length=z.length:=by
  intro pre;induction pre with
  |nil=>intro z h;cases z with
   |nil=>rfl
   |cons v z=>exact h.elim
  |cons s aG Z=>intro z h;cases z with
   |nil=>exact h.elim
   |cons v z=>simp[Z z h.2]
 have D:=av pre z ac
 let om:Nat->Nat:=dE w g O
 let g0:Gh:=⟨λb=>if b<w.heap.size then om b else 10,g.ga⟩
 refine kZ (aE (kP ⟨P,fn.ntmps,w,fW,om,none,[]⟩ out I) _ _ (h w om _ _ ?_)) ?_
 .refine⟨by simp;omega,rfl,Fr.refl _ _,g0,⟨⟨λb A=>?_,λb A aA=>?_⟩,λb A=>?_⟩,?_⟩
  .simp only[g0,if_pos A,om,dE];split<;>omega
  .exact absurd aA (Nat.not_lt.2 A)
  .simp only[g0];exact if_pos A
  .have key:∀(pre:List bm) (z:List Value) (i:Nat) (tm:Array Value),ft O g w pre z->(∀j v,z[j]? =some v->tm.getD (i+j) undef=v)->
     aQ ((pre.zipIdx i).map λx=>It.ae x.2 (x.1.f (da [0]))) g0 ⟨tm,[]⟩ w:=by
    intro pre;induction pre with
    |nil=>intro z i tm _ _ s f D;simp[ay,eh]at D
    |cons s aG Z=>
     intro z i tm h ag;cases z with
     |nil=>exact h.elim
     |cons v z=>
      have aq:=Z z (i+1) tm h.2 (λj u L=>by have:=ag (j+1) u L;rwa [show i+(j+1)=i+1+j by omega]at this);intro W f' D;simp only[List.zipIdx_cons,fh,ay,eh]at D;cases A:ct i W with
      |true=>
       have aH:i=W:=iI A;subst aH;simp only[A,cond_true]at D;cases am:(dX (s.f (da [0])).bj []&&dX (s.f (da [0])).ids [])with
       |true=>
        simp only[am,cond_true,Option.some.injEq]at D;subst D;have an:=ag 0 v rfl;simp only[ja]at an;show(s.f (da [0])).p g0 (tm.getD i undef) w;rw[an];refine s.re (da O) (da [0]) g g0 v w ?_ h.1;intro c b A E;simp only[da]at E;simp[g0,A,om,dE,E,da]
       |false=>simp[am]at D
      |false=>
       simp only[A,cond_false]at D;exact aq W f' D
   refine key pre z 0 _ ac ?_;intro j v L;have az:j<z.length:=(cy.1 L).1;simp only[dQ];rw[Array.getD_eq_getD_getElem?,Array.getElem?_append_left (by simpa using az)];simp[L]
 .rintro e w' ⟨v,rfl,aI,aa,U,aF⟩;refine⟨v,rfl,aI,λb=>BM I (aa.om b),λT' g' ar aw=>out.re _ T' aa g' v w' ?_ aF⟩;intro c b A E;rcases mh b w.heap.size with V|ad
  .have Y:=U.om b V;have aM:aa.om b<10:=U.ok.ec b V;rcases PJ ak E with⟨ap,_⟩|⟨ao,aC⟩
   .omega
   .refine aw b c V ?_ aC;rw[ao]at Y;simp only[om,dE]at Y;split at Y
    .assumption
    .omega
  .rcases PJ ak E with⟨_,ap⟩|⟨ao,_⟩
   .rw[<-ap];exact ar b ad A
   .have:=U.ok.new b ad A;omega
theorem FF{k:FuncId}{fn:Func}{pre:List bm}{out:bm}(z:List (List Nat))(n:Nat)(A:P.funcs[k]? =some fn)(D:fn.body=some c)(E:fn.ntmps=n)(L:bx pre.length n=true)(I:uV z shc=true)(h:∀(w0:World) (om:Nat->Nat),aO ⟨P,n,w0,fW,om,none,[]⟩ (pre.zipIdx.map λx=>It.ae x.2 (x.1.f (da [0]))) c (bodyPost P fn (kP ⟨P,n,w0,fW,om,none,[]⟩ out z))):gl P k pre out shc:=
 KR z n A D E L I (λR args w O=>calls_of_wp A D (wpIn_wide (n:=0).1 O)) h
end
variable {pre:List bm}{out:bm}
def wI(x:Int):Int:=IntKind.i64.wrap x
def idx{α:Type}(l:List α)(i:Int):Option α:=if 0<=i then l[i.toNat]? else none
theorem eval_const(a:Act)(v:Value):a.eval (.const v)=v:=rfl
section
variable{d:Option Nat}
theorem ah.move(h:Has G x f):ah X G ⟨d, .move x,ty,pos,af,gd⟩ f:=
 bL λa w g z=>⟨a.eval x,rfl,h a w g z⟩
theorem ah.assign(h:Has G x f):ah X G ⟨d, .assign x,ty,pos,af,gd⟩ f:=
 bL λa w g z=>⟨a.eval x,rfl,h a w g z⟩
theorem ah.len[Rp α]{T:List Nat}{t e:TypeId}(h:Has G x (aa.rep T l))(D:X.P.underlying t=some (.slice e)):
  ah X G ⟨d, .call {callee:= .builtin .len,args:= #[x],argTypes:= #[t]},ty,pos,af,gd⟩ (aa.rep [] (l.length:Int)):=
 bL λa w g z=>by obtain⟨ad,c,A,_⟩:=jQ (h a w g z);refine⟨.int .i64 l.length,?_,cD.2 rfl⟩;unfold execOp;simp[resolve,invoke,builtin,A,Builtin.len_,run_underlying D,goInt]
theorem ah.kU{op:BinOp}{y:Operand}{t:TypeId}{T:List Nat}{m n:Int}[Rp β]{r:β}(hx:Has G x (aa.rep T m))(hy:Has G y (aa.rep T' n))(I:∀w,(binOp op t (.int .i64 m) (.int .i64 n)).run X.P w= .ok v w)(D:∀w F,cX F r v w):
  ah X G ⟨d, .binOp op t x y t',ty,pos,af,gd⟩ (aa.rep [] r):=
 bL λa w g z=>⟨v,by have E:=cD.1 (hx a w g z);have A:=cD.1 (hy a w g z);unfold execOp;simp[E,A,eqGuard_at_int,I],D w _⟩
section
variable{y:Operand}{t:TypeId}{T:List Nat}{m n:Int}(hx:Has G x (aa.rep T m))(hy:Has G y (aa.rep T' n))
include hx hy
theorem ah.MI:ah X G ⟨d, .binOp .add t x y t',ty,pos,af,gd⟩ (aa.rep [] (wI (m+n))):=
 ah.kU hx hy (λw=>by simp[binOp,Ez];try rfl) (λ_ _=>cD.2 rfl)
theorem ah.Vs:ah X G ⟨d, .binOp .sub t x y t',ty,pos,af,gd⟩ (aa.rep [] (wI (m - n))):=
 ah.kU hx hy (λw=>by simp[binOp,Ez];try rfl) (λ_ _=>cD.2 rfl)
theorem ah.Js:ah X G ⟨d, .binOp .mul t x y t',ty,pos,af,gd⟩ (aa.rep [] (wI (m * n))):=
 ah.kU hx hy (λw=>by simp[binOp,Ez];try rfl) (λ_ _=>cD.2 rfl)
theorem ah.SR:ah X G ⟨d, .binOp .eql t x y t',ty,pos,af,gd⟩ (aa.rep [] (m==n)):=
 ah.kU hx hy (λw=>by simp[binOp,lB];try rfl) (λ_ _=>dw.2 rfl)
theorem ah.Zf:ah X G ⟨d, .binOp .neq t x y t',ty,pos,af,gd⟩ (aa.rep [] (m !=n)):=
 ah.kU hx hy (λw=>by simp[binOp,lB];try rfl) (λ_ _=>dw.2 rfl)
theorem ah.Zj:ah X G ⟨d, .binOp .lss t x y t',ty,pos,af,gd⟩ (aa.rep [] (decide (m<n))):=
 ah.kU hx hy (λw=>by simp[binOp,lB];try rfl) (λ_ _=>dw.2 rfl)
theorem ah.UC:ah X G ⟨d, .binOp .leq t x y t',ty,pos,af,gd⟩ (aa.rep [] (decide (m<=n))):=
 ah.kU hx hy (λw=>by simp[binOp,lB];try rfl) (λ_ _=>dw.2 rfl)
theorem ah.Ws:ah X G ⟨d, .binOp .gtr t x y t',ty,pos,af,gd⟩ (aa.rep [] (decide (m>n))):=
 ah.kU hx hy (λw=>by simp[binOp,lB];try rfl) (λ_ _=>dw.2 rfl)
theorem ah.Q7:ah X G ⟨d, .binOp .geq t x y t',ty,pos,af,gd⟩ (aa.rep [] (decide (m>=n))):=
 ah.kU hx hy (λw=>by simp[binOp,lB];try rfl) (λ_ _=>dw.2 rfl)
end
def oK(m n:Int):Option Int:=if n=0 then none else some (wI (m.tdiv n))
def mI(m n:Int):Option Int:=if n=0 then none else some (m.tmod n)
theorem ah.oK{y:Operand}{t:TypeId}{T:List Nat}{m n r:Int}(z:GL.oK m n=some r)(hx:Has G x (aa.rep T m))(hy:Has G y (aa.rep T' n)):
  ah X G ⟨d, .binOp .quo t x y t',ty,pos,af,gd⟩ (aa.rep [] r):=by
 unfold GL.oK at z;split at z
 .cases z
 .rename_i A;cases z;exact ah.kU hx hy (λw=>by simp[binOp,Op.intDiv,A];try rfl) (λ_ _=>cD.2 rfl)
theorem ah.mI{y:Operand}{t:TypeId}{T:List Nat}{m n r:Int}(z:GL.mI m n=some r)(hx:Has G x (aa.rep T m))(hy:Has G y (aa.rep T' n)):
  ah X G ⟨d, .binOp .rem t x y t',ty,pos,af,gd⟩ (aa.rep [] r):=by
 unfold GL.mI at z;split at z
 .cases z
 .rename_i A;cases z;exact ah.kU hx hy (λw=>by simp[binOp,Op.intDiv,A];try rfl) (λ_ _=>cD.2 rfl)
theorem wrap_u8(n:Nat):IntKind.u8.wrap (n:Int)=((qG n).toNat:Int):=by simp[yY,yZ,qH]
theorem ah.Jv{op:BinOp}{y:Operand}{t:TypeId}{T:List Nat}{m n:UInt8}[Rp β]{r:β}(hx:Has G x (aa.rep T m))(hy:Has G y (aa.rep T' n))(I:∀w,(binOp op t (.int .u8 m.toNat) (.int .u8 n.toNat)).run X.P w= .ok v w)(D:∀w F,cX F r v w):
  ah X G ⟨d, .binOp op t x y t',ty,pos,af,gd⟩ (aa.rep [] r):=
 bL λa w g z=>⟨v,by have E:=sd.1 (hx a w g z);have A:=sd.1 (hy a w g z);unfold execOp;simp[E,A,eqGuard_at_int,I],D w _⟩
section
variable{y:Operand}{t:TypeId}{T:List Nat}{m n:UInt8}(hx:Has G x (aa.rep T m))(hy:Has G y (aa.rep T' n))
include hx hy
theorem ah.Vn:ah X G ⟨d, .binOp .xor t x y t',ty,pos,af,gd⟩ (aa.rep [] (m^^^n)):=
 ah.Jv hx hy (v:= .int .u8 ((m^^^n).toNat:Int)) (λw=>by
  simp only[binOp,Op.intBits];have z:∀k:UInt8,lD 8 (k.toNat:Int)=k.toBitVec:=λk=>by apply BitVec.eq_of_toNat_eq;have:=k.toNat_lt;simp
  have:IntKind.u8.wrap ((lD 8 (m.toNat:Int)^^^lD 8 (n.toNat:Int)).toNat:Int)=((m^^^n).toNat:Int):=by rw[z,z,wrap_u8];congr 1;simp
  have D:∀k:Int,k=IntKind.u8.wrap ((lD 8 (m.toNat:Int)^^^lD 8 (n.toNat:Int)).toNat:Int)->(Sem.run X.P (vg (sH .u8 k)) w)= .ok (.int .u8 ((m^^^n).toNat:Int)) w:=λk A=>by rw[A,this];rfl
  exact D _ rfl) (λ_ _=>sd.2 rfl)
theorem ah.US:ah X G ⟨d, .binOp .eql t x y t',ty,pos,af,gd⟩ (aa.rep [] (m==n)):=
 ah.Jv hx hy (v:= .bool (m==n)) (λw=>by
  have:((m.toNat:Int)==(n.toNat:Int))=(m==n):=by rw[nU];simp[<-UInt8.toNat_inj];omega
  simp[binOp,lB,this]) (λ_ _=>dw.2 rfl)
theorem ah.TR:ah X G ⟨d, .binOp .neq t x y t',ty,pos,af,gd⟩ (aa.rep [] (m !=n)):=
 ah.Jv hx hy (v:= .bool (m !=n)) (λw=>by
  have:((m.toNat:Int) !=(n.toNat:Int))=(m !=n):=by rw[nU];simp[<-UInt8.toNat_inj];omega
  simp[binOp,lB,this]) (λ_ _=>dw.2 rfl)
end
theorem ah.not{t:TypeId}{T:List Nat}{m:Bool}(hx:Has G x (aa.rep T m)):ah X G ⟨d, .unOp .not t x,ty,pos,af,gd⟩ (aa.rep [] (!m)):=
 bL λa w g z=>⟨.bool (!m),by have A:=dw.1 (hx a w g z);unfold execOp;simp[A,Op.unary],dw.2 rfl⟩
theorem ah.or{c y:Operand}{T:List Nat}{m n:Bool}(D:Has G c (aa.rep T m))(hy:m=false->Has G y (aa.rep T' n)):
  ah X G ⟨d, .pick c (.const (.bool true)) y,ty,pos,af,gd⟩ (aa.rep [] (m||n)):=
 bL λa w g z=>by
  have A:=dw.1 (D a w g z);cases m with
  |true=>exact⟨.bool true,by unfold execOp;simp[A,asBool,eval_const],dw.2 rfl⟩
  |false=>exact⟨.bool n,by have E:=dw.1 (hy rfl a w g z);unfold execOp;simp[A,E,asBool],dw.2 rfl⟩
theorem ah.and{c y:Operand}{T:List Nat}{m n:Bool}(D:Has G c (aa.rep T m))(hy:m=true->Has G y (aa.rep T' n)):
  ah X G ⟨d, .pick c y (.const (.bool false)),ty,pos,af,gd⟩ (aa.rep [] (m&&n)):=
 bL λa w g z=>by
  have A:=dw.1 (D a w g z);cases m with
  |false=>exact⟨.bool false,by unfold execOp;simp[A,asBool,eval_const],dw.2 rfl⟩
  |true=>exact⟨.bool n,by have E:=dw.1 (hy rfl a w g z);unfold execOp;simp[A,E,asBool],dw.2 rfl⟩
theorem wO{t e:TypeId}[R:Rp α](z:P.underlying t=some (.slice e))(E:Ty P e α){ad:Addr}{len cap:Nat}{i:Int}(D:0<=i)(A:i<len)(w:World):
  (vh t (.slice (some ad) len cap) (.int .i64 i)).run P w= .ok (.pointer (some (ad.add (i.toNat * R.n)))) w:=by
 unfold vh;simp[asIntOf,run_underlying z,D,A,gD E]
theorem ah.indexAddr{i:Operand}[R:Rp α]{T:List Nat}{n:Int}{t e:TypeId}(z:idx l n=some r)(A:nh X.P t e α)(hx:Has G x (aa.rep T l))(V:Has G i (aa.rep T' n)):ah X G ⟨d, .indexAddr t x i,ty,pos,af,gd⟩ (aa.ptr T r):=by
 unfold idx at z;split at z
 case isFalse=>cases z
 rename_i Y;have O:n.toNat<l.length:=(cy.1 z).1;refine bL λa w g D=>?_;obtain⟨ad,c,W,ag,L,E⟩:=jQ (hx a w g D);have U:=cD.1 (V a w g D);cases ad with
 |none=>have:=(L rfl).1;subst this;simp at O
 |some ad=>
  obtain⟨Z,ac,es,ae,I⟩:=E ad rfl n.toNat r z;refine⟨.pointer (some (ad.add (n.toNat * R.n))),?_,ad.add (n.toNat * R.n),rfl,?_,?_,es,ae,I⟩
  .unfold execOp;simp[W,U,wO (R:=R) A.cE A.el Y (show n<(l.length:Int) by omega)]
  .rw[Addr.jv];exact Z
  .rw[Addr.jv];exact ac
theorem ah.load[R:Rp α]{T:List Nat}{t:TypeId}(E:Ty X.P t α)(hx:Has G x (aa.ptr T r)):ah X G ⟨d, .load t x,ty,pos,af,gd⟩ (aa.rep T r):=
 bL λa w g D=>by obtain⟨ad,A,_,_,es,I,z⟩:=hx a w g D;refine⟨cL R.agg es,?_,es,z,rfl⟩;unfold execOp;simp[A,lE,fL,n8 E I z]
theorem ah.W5(hx:Has G x (aa.cP f1 f2)):ah X G ⟨d, .extract x 0,ty,pos,af,gd⟩ f1:=
 bL λa w g A=>by obtain⟨E,I,z,D,_⟩:=hx a w g A;exact⟨E,by unfold execOp;simp[z,nV],D⟩
theorem ah.Zo(hx:Has G x (aa.cP f1 f2)):ah X G ⟨d, .extract x 1,ty,pos,af,gd⟩ f2:=
 bL λa w g E=>by obtain⟨I,A,D,_,z⟩:=hx a w g E;exact⟨A,by unfold execOp;simp[D,nV],z⟩
theorem ah.flat[R:Rp α][Flat α]{T:List Nat}(h:ah X G o (aa.rep T y)):ah X G o (aa.rep T' y):=λa w g W z L O K Q Y=>
 h a w g W z L O K Q (λv w' ⟨U,g',A,I,V,⟨cs,E,D⟩⟩=>Y v w' ⟨U,g',A,I,V,⟨cs,Flat.flat _ _ _ _ _ _ E,D⟩⟩)
theorem YI{l:List UInt8}{a:Option Addr}{c:Nat}{F:Nat->Prop}(h:cX F l (.slice a l.length c) w):
  (Conv.bytesToString (.slice a l.length c)).run P w= .ok (.string ⟨l.toArray⟩) w:=by
 obtain⟨Y,aa,W,Z,U,L⟩:=jQ h;cases W;cases a with
 |none=>
  have:=(U rfl).1;subst this;rfl
 |some ad=>
  have V:∀j:Nat,j<(l.map λx=>(x.toNat:Int)).length->w.cell? (ad.add j)=some (.int .u8 ((l.map λx=>(x.toNat:Int)).getD j 0)):=by
   intro j z;have E:j<l.length:=by simpa using z
   obtain⟨_,_,es,D,O⟩:=L ad rfl j l[j] (ek E);cases O;have:=(D 0 _ rfl).1;simp only[Go.Addr.add_zero',show Rp.n UInt8=1 from rfl,ir]at this;rw[this];simp[List.getD,E]
  have I:(loadCells ad l.length).run P w= .ok (((l.map λx=>(x.toNat:Int)).map λn=>sH .u8 n).toArray) w:=by
   have:=run_loadCells_list (P:=P) w ad ((l.map λx=>(x.toNat:Int)).map λn=>sH .u8 n) (λj v z=>by
    have A:j<l.length:=by have:=(cy.1 z).1;simpa using this
    rw[V j (by simpa using A)];rw[lG]at z;simp[A]at z;simp[List.getD,A,z])
   simpa using this
  rw[show l.length=(l.map λx=>(x.toNat:Int)).length by simp]at I|-;rw[run_bytesToString w ad _ c _ I,foldl_push_bytes];have D:(l.map λx=>(x.toNat:Int)).map (λn=>qG n.toNat)=l:=by
   rw[vi]
   conv=>rhs;rw[<-List.map_id l]
   exact vj (λx _=>by simp)
  rw[D];simp
theorem ah.aaf{T:List Nat}{l:List UInt8}{t e s:TypeId}(D:X.P.underlying t=some (.slice e))(I:X.P.underlying e=some (.int .u8))(E:X.P.underlying s=some .string)(hx:Has G x (aa.rep T l)):ah X G ⟨d, .convert t s x,ty,pos,af,gd⟩ (aa.rep [] (kp.mk l)):=
 bL λa w g A=>by
  have h:=hx a w g A;obtain⟨ad,c,z,_⟩:=jQ h;refine⟨.string ⟨l.toArray⟩,?_,wH.2 rfl⟩;have h':cX (λb=>g.om b∈T) l (.slice ad l.length c) w:=by rw[<-z];exact h
  unfold execOp;simp[z,run_convert_bytes_string w t s e ad l.length c D I E,YI h']
theorem ah.Kj{y:Operand}{t:TypeId}{T:List Nat}{m n:kp}(hx:Has G x (aa.rep T m))(hy:Has G y (aa.rep T' n)):
  ah X G ⟨d, .binOp .eql t x y t',ty,pos,af,gd⟩ (aa.rep [] (m.s==n.s)):=
 bL λa w g z=>⟨.bool (m.s==n.s),by have D:=wH.1 (hx a w g z);have A:=wH.1 (hy a w g z);unfold execOp;simp[D,A,eqGuard_at_string,binOp,Op.stringOp],dw.2 rfl⟩
theorem ah.Qo{y:Operand}{t:TypeId}{T:List Nat}{m n:kp}(hx:Has G x (aa.rep T m))(hy:Has G y (aa.rep T' n)):
  ah X G ⟨d, .binOp .neq t x y t',ty,pos,af,gd⟩ (aa.rep [] (!(m.s==n.s))):=
 bL λa w g z=>⟨.bool (!(m.s==n.s)),by have D:=wH.1 (hx a w g z);have A:=wH.1 (hy a w g z);unfold execOp;simp[D,A,eqGuard_at_string,binOp,Op.stringOp],dw.2 rfl⟩
end
def aR{α:Type}[R:Rp α](F:Nat->Prop):List α->List Value->World->Prop
 |[],cs,_=>cs=[]
 |x::l,cs,w=>∃c1 z,cs=c1++z/\R.rel F x c1 w/\aR F l z w
section
variable[R:Rp α]{F:Nat->Prop}
theorem aR.aD(A:w.heap.size<=w'.heap.size)(z:∀b,b<w.heap.size->F b->w'.heap[b]? =w.heap[b]? /\F' b):∀(l:List α) (cs:List Value),aR F l cs w->aR F' l cs w'
 |[],_,h=>h
 |x::l,cs,h=>by obtain⟨c1,D,h,I,E⟩:=h;exact⟨c1,D,h,R.aD F F' x c1 w w' A z I,aR.aD A z l D E⟩
theorem aR.len:∀(l:List α) (cs:List Value),aR F l cs w->cs.length=l.length * R.n
 |[],cs,h=>by rw[show cs=[] from h];simp
 |x::l,cs,h=>by obtain⟨c1,D,rfl,A,z⟩:=h;rw[bY,R.len _ _ _ _ A,aR.len l D z,jq,h_];omega
theorem aR.one:∀(l:List α) (cs:List Value),aR F l cs w->∀c∈cs,c.oneCell'=true
 |[],cs,h=>by rw[show cs=[] from h];simp
 |x::l,cs,h=>by
  obtain⟨c1,E,rfl,D,A⟩:=h;intro c z;rcases dx.1 z with z|z
  .exact R.one _ _ _ _ D c z
  .exact aR.one l E A c z
theorem aR.app:∀(l m:List α) (cs ds:List Value),aR F l cs w->aR F m ds w->aR F (l++m) (cs++ds) w
 |[],m,cs,ds,h,k=>by rw[show cs=[] from h];exact k
 |x::l,m,cs,ds,h,k=>by obtain⟨c1,z,rfl,D,A⟩:=h;exact⟨c1,z++ds,by simp,D,aR.app l m z ds A k⟩
theorem aR.get:∀(l:List α) (cs:List Value),aR F l cs w->∀(i:Nat) (x:α),l[i]? =some x->∃es,R.rel F x es w/\∀(j:Nat) (u:Value),es[j]? =some u->cs[i * R.n+j]? =some u
 |[],_,_,i,x,hx=>by simp at hx
 |y::l,cs,h,i,x,hx=>by
  obtain⟨c1,O,rfl,A,E⟩:=h;have D:=R.len _ _ _ _ A;cases i with
  |zero=>
   simp at hx;subst hx;refine⟨c1,A,λj u z=>?_⟩;have:j<c1.length:=(cy.1 z).1;simp only[Nat.zero_mul,dQ];rw[m8 this];exact z
  |succ i=>
   simp at hx;obtain⟨es,L,I⟩:=aR.get l O E i x hx;refine⟨es,L,λj u z=>?_⟩;rw[show(i+1) * R.n+j=c1.length+(i * R.n+j) by rw[D,h_];omega];rw[oY (by omega)];rw[show c1.length+(i * R.n+j) - c1.length=i * R.n+j by omega];exact I j u z
theorem aR.rep{x:α}{c:List Value}(h:R.rel F x c w):∀n:Nat,aR F (dr n x) (dr n c).flatten w
 |0=>rfl
 |n+1=>by rw[Q4,Q4,List.flatten_cons];exact⟨c,_,rfl,h,aR.rep h n⟩
theorem aR.set:∀(l:List α) (cs:List Value),aR F l cs w->∀(i:Nat) (x:α) (es:List Value),i<l.length->R.rel F x es w->
  aR F (l.set i x) (cs.take (i * R.n)++es++cs.drop (i * R.n+R.n)) w
 |[],_,_,i,x,es,z,_=>by simp at z
 |y::l,cs,h,i,x,es,z,I=>by
  obtain⟨c1,L,rfl,E,D⟩:=h;have A:=R.len _ _ _ _ E;cases i with
  |zero=>
   simp only[Nat.zero_mul,mi,gZ,dQ,List.set_cons_zero];exact⟨es,L,by rw[<-A,y7],I,D⟩
  |succ i=>
   have:=aR.set l L D i x es (by simpa using z) I;refine⟨c1,_,?_,E,this⟩;rw[show(i+1) * R.n=c1.length+i * R.n by rw[A,h_];omega];rw[show c1.length+i * R.n+R.n=c1.length+(i * R.n+R.n) by omega];rw[oZ,EA];rw[fm (show c1.length<=c1.length+i * R.n by omega)];rw[show c1.length+i * R.n - c1.length=i * R.n by omega,show c1.length+(i * R.n+R.n) - c1.length=i * R.n+R.n by omega];rw[kb (show c1.length<=c1.length+(i * R.n+R.n) by omega)];simp
end
def ix:Value->Option Nat
 | .slice (some a) _ _=>some a.block
 | .pointer (some a)=>some a.block
 |_=>none
def aa.own{α:Type}[R:Rp α](t:Nat)(te:List Nat)(e:TypeId)(l:List α):aa where
 bj:=t::te
 ids:=[t]
 p:=λg _ w=>∃xs,w.ownsRow 0 e R.n (g.ga t) l.length xs/\aR (λb=>g.om b∈te) l xs w/\∀b,(g.ga t).ownBlock=some b->g.om b=t
 aD:=λg g' v w w' A h=>by
  obtain⟨xs,I,Y,E⟩:=h;have O:=A.ids t (by simp);refine⟨xs,?_,aR.aD A.size (λb z L=>⟨(A.block b z (fM _ L)).1,by rw[(A.block b z (fM _ L)).2];exact L⟩) l xs Y,?_⟩
  .rw[O];refine⟨I.1,?_⟩;rcases I.2 with Z|⟨b,W,V,U,ac,z,rest⟩
   .exact .inl Z
   .refine .inr ⟨b,W,V,U,ac,?_,rest⟩;have D:b<w.heap.size:=(Array.getElem?_eq_some_iff.1 z).1;rw[(A.block b D (by rw[E b (by rw[U];rfl)];simp)).1];exact z
  .rw[O];intro b z;have D:=(I.lt b z).2;rw[(A.block b D (by rw[E b z];simp)).2];exact E b z
def aa.arr{α:Type}[R:Rp α](t:Nat)(te:List Nat)(n:Nat)(l:List α):aa where
 bj:=t::te
 ids:=[t]
 p:=λg _ w=>∃b ty cs,g.ga t= .pointer (some ⟨b,0,none⟩)/\w.heap[b]? =some (.cells cs ty (0,0))/\aR (λb=>g.om b∈te) l cs.toList w/\g.om b=t/\l.length=n
 aD:=λg g' v w w' z h=>by
  obtain⟨b,ty,cs,W,E,V,I,U⟩:=h;have O:=z.ids t (by simp);have L:b<w.heap.size:=(Array.getElem?_eq_some_iff.1 E).1;have A:=z.block b L (by rw[I];simp);exact⟨b,ty,cs,by rw[O];exact W,by rw[A.1];exact E,
   aR.aD z.size (λb A D=>⟨(z.block b A (fM _ D)).1,by rw[(z.block b A (fM _ D)).2];exact D⟩) l _ V,by rw[A.2];exact I,U⟩
def aa.cJ(t:Nat)(n:Nat):aa where
 bj:=[]
 ids:=[t]
 p:=λg v _=>∃b,ix (g.ga t)=some b/\v= .pointer (some ⟨b,n,none⟩)
 aD:=λg g' v w w' z h=>by rw[z.ids t (by simp)];exact h
def rs(t:Nat):Nat:=100000+t
structure gu(P:Program)(t e:TypeId)(α:Type)[R:Rp α]:Prop where
 cE:P.underlying t=some (.slice e)
 el:Ty P e α
 pos:0<R.n
 info:∃i z,P.info? e=some i/\i.zero=some z/\i.size=R.n/\i.bytes<=32768/\z.cells.size=R.n
def app{α:Type}(l m:List α):Option (List α):=if l.length+m.length<4294967296 then some (l++m)else none
def au(X:Cx)(G:List It)(o:Oper)(z:List It):Prop:=∀G',Sub G' G->∀a w,Env X G' a w->Yields X.P o a w (λv w'=>Env X (z++G') (a.put o.dst v) w')
theorem br.Q0{z:List It}{Q:Exit->Act->World->Prop}{rest:List Oper}(D:o.guard=none)(h:au X G o z)(k:br X ops Q (z++G) rest)(A:eC o.op=true:=by rfl):br X ops Q G (o::rest):=λa w e=>
 wpListIn_plain D λK E=>sB A<|h G (λ_ _ _ h=>h) a w e K Q (λ_ _ I=>E _ _ (k _ _ I))
def cR(g:Gh)(n t:Nat)(v:Value):Gh:=⟨λb=>if b<n then g.om b else t,λs=>if s=t then v else g.ga s⟩
theorem XQ(h:aQ G g a w)(ac:w.heap.size<=w'.heap.size)(Z:∀b,b<w.heap.size->g.om b≠t->w'.heap[b]? =w.heap[b]?)(O:∀b,b<w.heap.size->g'.om b=g.om b)(I:∀s,s≠t->g'.ga s=g.ga s):aQ (.bp t:: .av t::G) g' a w':=λs f W=>by have A:eh G [t] [t] s=some f:=W;have hd:=mH G [t] [t] s f A;have Y:=ju hd.1 (show t∈[t] by simp);have U:=ju hd.2 (show t∈[t] by simp);have L:ay G s=some f:=kz G [t] [] [t] [] s f (by simp) (by simp) A;refine f.aD g g' _ w w' ⟨ac,λb D V=>⟨Z b D (λz=>Y (z▸V)),O b D⟩,λaa E=>I aa (λz=>U (z▸E))⟩ (h s f L)
theorem si(h:aQ G g a w)(Y:w.heap.size<=w'.heap.size)(V:∀b,b<w.heap.size->w'.heap[b]? =w.heap[b]?)(L:∀b,b<w.heap.size->g'.om b=g.om b)(E:∀s,s≠t->g'.ga s=g.ga s):aQ (.bp t::G) g' a w':=λs f U=>by have z:eh G [] [t] s=some f:=U;have hd:=mH G [] [t] s f z;have O:=ju hd.2 (show t∈[t] by simp);have I:ay G s=some f:=kz G [] [] [t] [] s f (by simp) (by simp) z;refine f.aD g g' _ w w' ⟨Y,λb A aa=>⟨V b A,L b A⟩,λW D=>E W (λZ=>O (Z▸D))⟩ (h s f I)
theorem kA(h:aQ G g a w)(U:w.heap.size<=w'.heap.size)(L:∀b,b<w.heap.size->g.om b≠t->w'.heap[b]? =w.heap[b]?):aQ (.av t::G) g a w':=λs f E=>by have z:eh G [t] [] s=some f:=E;have hd:=mH G [t] [] s f z;have I:=ju hd.1 (show t∈[t] by simp);have A:ay G s=some f:=kz G [t] [] [] [] s f (by simp) (by simp) z;exact f.aD g g _ w w' ⟨U,λb D O=>⟨L b D (λV=>I (V▸O)),rfl⟩,λ_ _=>rfl⟩ (h s f A)
theorem kO{s:Nat}(z:ay (.ae d f::G) s=some f'):(d=s/\f'=f)\/(d≠s/\ay G s=some f'):=by
 simp only[ay,eh]at z;cases A:ct d s with
 |true=>
  left;simp only[A,cond_true]at z;refine⟨iI A,?_⟩;cases D:(dX f.bj []&&dX f.ids [])with
  |true=>simp only[D,cond_true,Option.some.injEq]at z;exact z.symm
  |false=>simp[D]at z
 |false=>
  right;simp only[A,cond_false]at z;exact⟨λE=>by subst E;simp at A,z⟩
theorem aQ.db{s:Nat}(h:aQ G g a w)(D:∀v,f.p g v w):aQ (.ae s f::G) g a w:=λA f' z=>by
 rcases kO z with⟨rfl,rfl⟩|⟨_,z⟩
 .exact D _
 .exact h A f' z
theorem ff.own(h:ff X w g)(A:10<=t)(E:X.w0.heap.size<=w.heap.size):ff X w' (cR g w.heap.size t v):=by
 refine⟨⟨λb z=>?_,λb z D=>?_⟩,λb z=>?_⟩
 .simp only[cR];rw[if_pos (by omega)];exact h.ok.ec b z
 .simp only[cR];split
  .exact h.ok.new b z (by assumption)
  .exact A
 .simp only[cR];rw[if_pos (by omega)];exact h.om b z
theorem Fr.own(z:Fr X.C X.w0 w)(h:ff X w g)(W:10<=t)(V:w.grownBy w' (some 0)\/True)(I:w'.os=w.os)(D:w'.tape=w.tape)(E:w'.output=w.output)(U:w.heap.size<=w'.heap.size)(O:∀b,b<w.heap.size->g.om b≠t->w'.heap[b]? =w.heap[b]?):Fr X.C X.w0 w':=
 ⟨I.trans z.os,D.trans z.tape,E.trans z.output,m5 z.size U,λk A L=>
  (O k (nR A z.size) (λY=>by have:=h.ok.ec k A;omega)).trans (z.block k A L)⟩
section
variable{Q:Exit->Act->World->Prop}{rest:List Oper}
def nq{α:Type}[R:Rp α](P:Program)(e:TypeId)(z:α):Prop:=∃A,(P.info? e).bind (·.zero)=some A/\∀w,R.rel (λ_=>False) z A.cells.toList w
def lW{α:Type}(z:α)(n:Int):Option (List α):=if 0<=n/\n<4294967296 then some (dr n.toNat z)else none
theorem Eh(z:List Value):∀n:Nat,(madeCells z.toArray (n * z.length)).toList=(dr n z).flatten:=by
 intro n;apply o0;intro j;by_cases hz:z.length=0
 .have:z=[]:=y8 hz;subst this;simp[madeCells]
 have D:∀m:Nat,((dr m z).flatten)[j]? =if j<m * z.length then z[j%z.length]? else none:=by
  intro m;induction m generalizing j with
  |zero=>simp
  |succ m E=>
   rw[Q4,List.flatten_cons];by_cases hj:j<z.length
   .rw[m8 hj,Nat.mod_eq_of_lt hj,if_pos (by rw[h_];omega)]
   .rw[oY (by omega),E];have I:(j - z.length)%z.length=j%z.length:=by rw[Nat.mod_eq_sub_mod (show z.length<=j by omega)]
    rw[I];by_cases A:j<(m+1) * z.length
    .rw[if_pos A,if_pos (by rw[h_]at A;omega)]
    .rw[if_neg A,if_neg (by rw[h_]at A;omega)]
 rw[D];by_cases hj:j<n * z.length
 .have L:j%z.length<z.length:=Nat.mod_lt _ (by omega);simp[madeCells,hj,L]
 .simp[madeCells,hj]
theorem au.oe[R:Rp α]{n:Operand}{m:Int}{T:List Nat}{z:α}(t:Nat){ts e:TypeId}(E:lW z m=some l)(az:bx 10 t=true)(hd:bt d X.n=true)(V:gu X.P ts e α)(aA:nq X.P e z)(aC:Has G n (aa.rep T m)):
 au X G ⟨some d, .makeSlice ts n n,ty,pos,af,none⟩ [.ae d (.aL t), .ae (rs t) (.own t [] e l), .bp t]:=λG' an a w env K Q aF=>by
 have O:10<=t:=by simpa using az
 have ay:d<X.n:=by simpa [fu]using hd
 obtain⟨g,ac,U⟩:=env.facts;have aE:=an a w g U;have aw:=cD.1 (aC a w g aE);unfold lW at E;split at E
 case isFalse=>cases E
 rename_i aH;cases E;obtain⟨i,Z,ad,W,al,ar,ap⟩:=V.info;have ak:i.bytes * m.toNat<=281474976710656:=by have:i.bytes * m.toNat<=32768 * 4294967296:=Nat.mul_le_mul ar (by omega);omega
 obtain⟨w',Y,am,A⟩:=run_make_full (P:=X.P) w 0 ts e i Z R.n V.cE ad W al .i64 .i64 m.toNat ak (by simp only[maxLen];omega) (jM _);have ao:(execOp a.eval ⟨some d, .makeSlice ts n n,ty,pos,af,none⟩).run X.P w= .ok (.value (.slice (some ⟨w.heap.size,0,none⟩) m.toNat m.toNat)) w':=by
  have aq:((m.toNat:Nat):Int)=m:=by omega
  rw[aq]at Y;unfold execOp;simp[aw,Y]
 unfold dy;rw[ao];refine aF _ w' ?_;have D:∀b,b<w.heap.size->w'.heap[b]? =w.heap[b]? :=λb D=>A.block b D (by simp);refine⟨by simp[Act.put,env.size],env.defers,Fr.own env.fr ac O (.inr trivial) A.os A.tape A.output A.size (λb L _=>D b L),
  cR g w.heap.size t (.slice (some ⟨w.heap.size,0,none⟩) m.toNat m.toNat),ac.own O env.fr.size,?_⟩
 refine aQ.put (by rw[env.size];exact ay) ?_ (by simp[aa.aL,cR]);refine aQ.db ?_ (λv=>⟨_,by simp only[cR,if_true,qI];exact am,?_,by simp[cR,kB]⟩)
 .exact si U A.size (λb L=>D b L) (λb D=>by simp[cR,D]) (λs aB=>by simp[cR,aB])
 .have ag:=Eh Z.cells.toList m.toNat;simp only[Array.toArray_toList,Array.length_toList,ap]at ag;rw[ag];refine aR.rep ?_ m.toNat;obtain⟨aG,I,av⟩:=aA;rw[ad]at I;simp only[bo,W,Option.some.injEq]at I;subst I;exact R.aD _ _ z _ w' w' (bh _) (λ_ _ h=>h.elim) (av w')
theorem Addr.nQ(a:Addr)(p q:Nat):(a.add p).add q=a.add (p+q):=by unfold Addr.add;by_cases hp:p=0<;>by_cases hq:q=0<;>simp[hp,hq,Nat.add_assoc]
theorem yd{α:Type}[R:Rp α]{F:Nat->Prop}{w:World}{ad:Addr}:∀(m:List α) (k:Nat),(∀(i:Nat) (y:α),m[i]? =some y->∃es,eO w (ad.add ((k+i) * R.n)) es/\R.rel F y es w)->
  ∃D,aR F m D w/\eO w (ad.add (k * R.n)) D
 |[],_,_=>⟨[],rfl,λj u A=>by simp at A⟩
 |y::m,k,h=>by
  obtain⟨es,U,L⟩:=h 0 y rfl;obtain⟨D,Y,O⟩:=yd m (k+1) (λi z Z=>by obtain⟨V,I,E⟩:=h (i+1) z Z;exact⟨V,by rw[show k+1+i=k+(i+1) by omega];exact I,E⟩)
  have W:=R.len _ _ _ _ L;refine⟨es++D,⟨es,D,rfl,L,Y⟩,λj u A=>?_⟩;by_cases hjl:j<es.length
  .rw[m8 hjl]at A;exact U j u A
  .rw[oY (by omega)]at A;have I:=O _ u A;have E:k * R.n+j=(k+1) * R.n+(j - es.length):=by rw[h_,W];omega
   rw[Addr.nQ,E,<-Addr.nQ];exact I
theorem Fu[R:Rp α]{F:Nat->Prop}{ts e:TypeId}(E:gu P ts e α){xv:Value}{m:List α}{xs:List Value}(aE:n+m.length<4294967296)(U:w.ownsRow 0 e R.n v n xs)(hx:cX F m xv w):
  ∃I w' D,(mj #[ts,ts] ty #[v,xv]).run P w= .ok I w'/\w'.ownsRow 0 e R.n I (n+m.length) (xs++D)/\w.grownBy w' v.ownBlock/\aR F m D w/\
   ∀b,I.ownBlock=some b->v.ownBlock=some b\/b=w.heap.size:=by
 obtain⟨ad,c,rfl,aF,aw,am⟩:=jQ hx;obtain⟨i,ak,Y,ag,O,aq,ao⟩:=E.info;have ac:(n+m.length) * i.bytes<=140737488355328:=by have:(n+m.length) * i.bytes<=4294967296 * 32768:=Nat.mul_le_mul (by omega) aq;omega
 cases ad with
 |none=>
  obtain⟨ar,ap⟩:=aw rfl;subst ar ap;refine⟨v,w,[],?_,?_,⟨rfl,rfl,rfl,bh _,λ_ _ _=>rfl⟩,rfl,λb z=> .inl z⟩
  .exact run_append_owned_none (P:=P) (w:=w) 0 ts ty e i R.n E.cE Y _ _ xs U
  .simpa using U
 |some ad=>
  obtain⟨D,aa,V⟩:=yd (w:=w) (F:=F) (ad:=ad) m 0 (λi y hy=>by obtain⟨_,_,es,aB,al⟩:=am ad rfl i y hy;exact⟨es,by simpa using aB,al⟩)
  have V:eO w ad D:=by simpa [Go.Addr.add_zero']using V
  have W:=aR.len _ _ aa;obtain⟨I,w',Z,al,az,_⟩:=Go.run_append_own (P:=P) w 0 ts ty e i ak R.n i.bytes E.cE Y ag O rfl ao E.pos v n xs U ad m.length c D
   W (λj u L=>(V j u L).1) (aR.one _ _ aa) (by simp only[maxLen];omega) ac (jM _)
  refine⟨I,w',D,Z,al,az,aa,λb z=>?_⟩;rcases U.2 with⟨rfl,rfl⟩|⟨g,ae,av,rfl,aI,ay,aG,aH,an,aC⟩
  .by_cases hm:m.length=0
   .have aA:I= .slice none 0 0:=by have:=‹I= .slice none 0 0↔_›;exact this.2 ⟨rfl,hm⟩
    rw[aA]at z;cases z
   .have A:=run_append_nil (P:=P) w ts ty e i ak E.cE Y ag ad m.length c D (by rw[W,O]) (λj u L=>(V j u L).1) (by omega) (by omega) (by simp only[dQ]at ac;omega);rw[Z]at A;simp only[Result.ok.injEq]at A;rw[A.1]at z;simp only[kB,Option.some.injEq]at z;exact .inr z.symm
  .by_cases hroom:n+m.length<=ae
   .have A:=run_append_room (P:=P) w ts ty e i E.cE Y g n ae av ay ad m.length c D (by rw[W,O]) (λj u L=>(V j u L).1) (aR.one _ _ aa) hroom
     (by rw[W,an,O,<-h_];exact iJ _ hroom)
    rw[Z]at A;simp only[Result.ok.injEq]at A;rw[A.1]at z;exact .inl z
   .have holds:∀j u,xs[j]? =some u->w.cell? ((⟨g,0,none⟩:Addr).add j)=some u:=U.cells (g:=g) rfl;have A:=run_append_grow (P:=P) w ts ty e i ak E.cE Y ag ⟨g,0,none⟩ n ae xs (by rw[U.1,O]) holds ad m.length c D (by rw[W,O]) (λj u L=>(V j u L).1) (by omega) (by omega) (growslice_fits (by omega) ac);rw[Z]at A;simp only[Result.ok.injEq]at A;rw[A.1]at z;simp only[kB,Option.some.injEq]at z;exact .inr z.symm
theorem aR.flat{α:Type}[R:Rp α][E:Flat α]{F F':Nat->Prop}{w w':World}:∀(l:List α) (cs:List Value),aR F l cs w->aR F' l cs w'
 |[],_,h=>h
 |x::l,cs,h=>by obtain⟨c1,z,h,D,A⟩:=h;exact⟨c1,z,h,E.flat _ _ _ _ _ _ D,aR.flat l z A⟩
def cC{α:Type}[R:Rp α](t:Nat)(te te':List Nat):Prop:=∀(F':Nat->Prop) (g:Gh) (w w':World) (l:List α) (cs:List Value),w.heap.size<=w'.heap.size->
 (∀b,b<w.heap.size->g.om b≠t->w'.heap[b]? =w.heap[b]?)->(∀b,b<w.heap.size->g.om b∈te'->F' b)->aR (λb=>g.om b∈te) l cs w->aR F' l cs w'
theorem cC.flat[R:Rp α][Flat α]{te:List Nat}:cC (α:=α) t te te':=λ_ _ _ _ l cs _ _ _ h=>h.flat l cs
theorem cC.bj[R:Rp α]{te:List Nat}(I:ep te te'=true)(D:te.elem t=false):cC (α:=α) t te te':=λF' g w w' l cs O L E h=>by refine aR.aD O (λb A z=>⟨L b A (λU=>?_),E b A (fH I _ z)⟩) l cs h;rw[U]at z;simp at D;exact D z
theorem au.append[R:Rp α]{s:Operand}{T te:List Nat}{m r:List α}(t:Nat){ts e:TypeId}(E:app l m=some r)(aG:bx 10 t=true)(hd:bt d X.n=true)(aA:gu X.P ts e α)(L:Has G s (.aL t))(aB:ay G (rs t)=some (.own t te e l))(hx:Has G x (aa.rep T m))(ar:cC (α:=α) t te te')(aF:cC (α:=α) t T te'):
 au X G ⟨some d, .call {callee:= .builtin .append,args:= #[s,x],argTypes:= #[ts,ts]},ty,pos,af,none⟩ [.ae d (.aL t), .ae (rs t) (.own t te' e r), .bp t, .av t]:=λG' ao a w env K Q aI=>by
 have Y:10<=t:=by simpa using aG
 have aE:d<X.n:=by simpa [fu]using hd
 obtain⟨g,ad,Z⟩:=env.facts;have O:=ao a w g Z;have aC:a.eval s=g.ga t:=L a w g O;obtain⟨xs,V,aq,W⟩:=O _ _ aB;unfold app at E;split at E
 case isFalse=>cases E
 rename_i am;cases E;obtain⟨D,w',I,ap,ag,A,al,an⟩:=Fu (ty:=ty) aA am V (hx a w g O);have ak:(execOp a.eval ⟨some d, .call {callee:= .builtin .append,args:= #[s,x],argTypes:= #[ts,ts]},ty,pos,af,none⟩).run X.P w= .ok (.value D) w':=by unfold execOp;simp[resolve,invoke,builtin,aC,ap]
 unfold dy;rw[ak];refine aI D w' ?_;have z:∀b,b<w.heap.size->g.om b≠t->w'.heap[b]? =w.heap[b]? :=λb z az=>A.block b z (λaH=>az (W b aH.symm));refine⟨by simp[Act.put,env.size],env.defers,Fr.own env.fr ad Y (.inr trivial) A.os A.tape A.output A.size z,
  cR g w.heap.size t D,ad.own Y env.fr.size,?_⟩
 refine aQ.put (by rw[env.size];exact aE) ?_ (by simp[aa.aL,cR]);have ac:∀b,b<w.heap.size->g.om b∈te'->(cR g w.heap.size t D).om b∈te':=λb z h=>by simp[cR,z,h]
 refine aQ.db ?_ (λv=>⟨xs++I,by simp only[cR,if_true,bY];exact ag,aR.app l m xs I (ar _ g w w' l xs A.size z ac aq) (aF _ g w w' m I A.size z ac al),?_⟩)
 .exact XQ Z A.size z (λb z=>by simp[cR,z]) (λs L=>by simp[cR,L])
 .simp only[cR,if_true];intro b aw;rcases an b aw with U|U
  .rw[if_pos (V.lt b U).2];exact W b U
  .rw[if_neg (by omega)]
def ik{α:Type}[R:Rp α](F Fe:Nat->Prop)(l:List α)(v:Value)(w:World):Prop:=
 ∃(a:Option Addr) (c:Nat),v= .slice a l.length c/\l.length<=c/\(a=none->l=[]/\c=0)/\
  ∀ad,a=some ad->∀(i:Nat) (x:α),l[i]? =some x->F ad.block/\ad.block<w.heap.size/\∃es,eO w (ad.add (i * R.n)) es/\R.rel Fe x es w
theorem ik.aD[R:Rp α]{F Fe':Nat->Prop}(A:w.heap.size<=w'.heap.size)(O:∀b,b<w.heap.size->F b->w'.heap[b]? =w.heap[b]? /\F' b)(D:∀b,b<w.heap.size->Fe b->w'.heap[b]? =w.heap[b]? /\Fe' b)(h:ik F Fe l v w):ik F' Fe' l v w':=by obtain⟨a,c,V,E,I,Y⟩:=h;refine⟨a,c,V,E,I,λad L i x hx=>?_⟩;obtain⟨U,z,es,Z,W⟩:=Y ad L i x hx;have:=O ad.block z U;exact⟨this.2,nR z A,es,Z.aD (by rw[Addr.jv];exact this.1),R.aD Fe Fe' x es w w' A D W⟩
theorem ik.rep[R:Rp α]{F H:Nat->Prop}(D:∀b,F b->H b)(A:∀b,Fe b->H b)(h:ik F Fe l v w):cX H l v w:=by obtain⟨a,c,E,k⟩:=ik.aD (F':=H) (Fe':=H) (bh _) (λb _ z=>⟨rfl,D b z⟩) (λb _ z=>⟨rfl,A b z⟩) h;exact⟨_,⟨a,c,rfl,k⟩,E⟩
def aa.M7{α:Type}[R:Rp α](t:Nat)(te:List Nat)(l:List α):aa where
 bj:=t::te
 ids:=[t]
 p:=λg _ w=>ik (λb=>g.om b=t) (λb=>g.om b∈te) l (g.ga t) w
 aD:=λg g' v w w' A h=>by
  rw[A.ids t (by simp)];exact ik.aD A.size (λb D z=>⟨(A.block b D (by rw[z];simp)).1,by rw[(A.block b D (by rw[z];simp)).2];exact z⟩)
   (λb D z=>⟨(A.block b D (fM _ z)).1,by rw[(A.block b D (fM _ z)).2];exact z⟩) h
end
structure jh(P:Program)(t e:TypeId)(n:Nat)(α:Type)[R:Rp α](z:α):Prop where
 cE:P.underlying t=some (.array n e)
 yD:bx 2 n=true
 el:Ty P e α
 zero:∃i zv c,P.info? t=some i/\i.zero=some zv/\zv.cells.toList=(dr n c).flatten/\∀w,R.rel (λ_=>False) z c w
def b_(n:Nat)(i:Int):Option Nat:=if 0<=i/\i<n then some i.toNat else none
theorem pH{i:Int}(h:b_ n i=some k):0<=i/\i<n/\k=i.toNat:=by
 unfold b_ at h;split at h
 .rename_i z;cases h;exact⟨z.1,z.2,rfl⟩
 .cases h
theorem z8[R:Rp α]{F:Nat->Prop}{x:α}(h:R.rel F x cs w):(cL R.agg cs).cells=cs.toArray:=by
 unfold cL;cases D:R.agg with
 |true=>simp[y9]
 |false=>
  have A:=R.len _ _ _ _ h;have z:=R.one _ _ _ _ h;rw[R.na D]at A
  match cs,A,z with
  |[c],_,z=>
   have:=z c (by simp);cases c<;>simp_all[y9,j_]
theorem Fg(cs es:List Value)(p s m:Nat)(z:es.length=s)(h:p+s<=m)(D:m<=cs.length):
  (cs.take p++es++cs.drop (p+s)).take m=(cs.take m).take p++es++(cs.take m).drop (p+s):=by
 have A:(cs.take p++es).length=p+s:=by rw[bY,cf,z];omega
 rw[oZ,A,fm (by omega),List.drop_take,List.take_take,jN (by omega)]
section
variable{Q:Exit->Act->World->Prop}{rest:List Oper}{dO:Option Nat}
theorem au.qZ[R:Rp α](t:Nat){ts e:TypeId}{z:α}(al:bx 10 t=true)(hd:bt d X.n=true)(Z:jh X.P ts e n α z):
 au X G ⟨some d, .alloc ts,ty,pos,af,none⟩ [.ae d (.aL t), .ae (rs t) (.arr t [] n (dr n z)), .bp t]:=λG' U a w env K Q ag=>by
 have I:10<=t:=by simpa using al
 have ac:d<X.n:=by simpa [fu]using hd
 obtain⟨g,O,L⟩:=env.facts;have an:=U a w g L;obtain⟨i,D,c,ak,Y,ad,W⟩:=Z.zero;have V:(execOp a.eval ⟨some d, .alloc ts,ty,pos,af,none⟩).run X.P w= .ok (.value (.pointer (some ⟨w.heap.size,0,none⟩))) (w.alloc (.cells D.cells ts)):=by unfold execOp;simp[Instr.alloc,zeroValue,typeInfo,ak,Y,newVar,newRow]
 unfold dy;rw[V];refine ag _ _ ?_;have A:∀b,b<w.heap.size->(w.alloc (.cells D.cells ts)).heap[b]? =w.heap[b]? :=λb A=>RowKit.Below.heap_alloc w _ b A;refine⟨by simp[Act.put,env.size],env.defers,Fr.own env.fr O I (.inr trivial) rfl rfl rfl (by simp) (λb E _=>A b E),
  cR g w.heap.size t (.pointer (some ⟨w.heap.size,0,none⟩)),O.own I env.fr.size,?_⟩
 refine aQ.put (by rw[env.size];exact ac) ?_ (by simp[aa.aL,cR]);refine aQ.db ?_ (λv=>⟨w.heap.size,ts,D.cells,by simp[cR],heap_alloc_new w _,?_,by simp[cR],by simp⟩)
 .exact si L (by simp) (λb E=>A b E) (λb A=>by simp[cR,A]) (λs am=>by simp[cR,am])
 .rw[ad];refine aR.rep ?_ n;exact R.aD _ _ z c (w.alloc (.cells D.cells ts)) (w.alloc (.cells D.cells ts)) (bh _) (λ_ _ h=>h.elim) (W _)
theorem ah.AM[R:Rp α]{i:Operand}{T te:List Nat}{n:Int}{ts e:TypeId}{z:α}(W:b_ N n=some k)(A:jh X.P ts e N α z)(hx:Has G x (.aL t))(I:ay G (rs t)=some (.arr t te N l))(O:Has G i (aa.rep T n)):ah X G ⟨dO, .indexAddr ts x i,ty,pos,af,gd⟩ (aa.cJ t (k * R.n)):=by
 obtain⟨V,Y,rfl⟩:=pH W;refine bL λa w g D=>?_;have U:a.eval x=g.ga t:=hx a w g D;obtain⟨b,ac,cs,E,_⟩:=D _ _ I;have L:=cD.1 (O a w g D);refine⟨.pointer (some ⟨b,n.toNat * R.n,none⟩),?_,b,by rw[E];rfl,rfl⟩;have Z: ¬(N<=1):=by have:=A.yD;simp at this;omega
 unfold execOp;simp only[U,L,E,cU,kc];unfold vh;simp[asIntOf,run_underlying A.cE,fL,V,Y,gD A.el,Go.Addr.add_lit]
theorem ah.wT[R:Rp α]{i:Operand}{T te:List Nat}{n:Int}{ts e:TypeId}(V:b_ l.length n=some k)(D:gu X.P ts e α)(hx:Has G x (.aL t))(I:ay G (rs t)=some (.own t te e l))(O:Has G i (aa.rep T n)):ah X G ⟨dO, .indexAddr ts x i,ty,pos,af,gd⟩ (aa.cJ t (k * R.n)):=by
 obtain⟨W,Y,rfl⟩:=pH V;refine bL λa w g z=>?_;have U:a.eval x=g.ga t:=hx a w g z;obtain⟨xs,E,_⟩:=z _ _ I;have L:=cD.1 (O a w g z);rcases E.2 with⟨_,ad⟩|⟨b,ac,Z,A,_⟩
 .omega
 .refine⟨.pointer (some ⟨b,n.toNat * R.n,none⟩),?_,b,by rw[A];rfl,rfl⟩;unfold execOp;simp only[U,L,A,cU,kc];rw[wO (R:=R) D.cE D.el W Y];simp[Go.Addr.add_lit]
theorem Hu[R:Rp α]{te:List Nat}{e:TypeId}(h:(aa.own t te e l).p g v w){b:Nat}(A:ix (g.ga t)=some b)(I:l[k]? =some r):
  ∃es,eO w ⟨b,k * R.n,none⟩ es/\R.rel (λb=>g.om b∈te) r es w:=by
 obtain⟨xs,U,V,_⟩:=h;have ae:k<l.length:=(cy.1 I).1;rcases U.2 with⟨_,am⟩|⟨E,al,D,W,_,L,ag,ak,ad,O⟩
 .omega
 .rw[W]at A;simp only[ix,Option.some.injEq]at A;subst A;obtain⟨es,ac,Z⟩:=aR.get l xs V k r I;refine⟨es,λj u Y=>?_,ac⟩;have z:=Z j u Y;rw[Go.Addr.add_lit];refine⟨?_,frozen_of_row w E _ D e L⟩;rw[cell_of_row w E _ D e (0,0) L];rw[<-O,o8]at z;split at z
  .simpa using z
  .cases z
theorem N7[R:Rp α]{te:List Nat}(h:(aa.arr t te N l).p g v w){b:Nat}(z:ix (g.ga t)=some b)(W:l[k]? =some r):
  ∃es,eO w ⟨b,k * R.n,none⟩ es/\R.rel (λb=>g.om b∈te) r es w:=by
 obtain⟨D,A,cs,U,E,I,_⟩:=h;rw[U]at z;simp only[ix,Option.some.injEq]at z;subst z;obtain⟨es,Y,L⟩:=aR.get l _ I k r W;refine⟨es,λj u O=>?_,Y⟩;have V:=L j u O;rw[Go.Addr.add_lit];refine⟨?_,frozen_of_row w D _ cs A E⟩;rw[cell_of_row w D _ cs A (0,0) E];simpa using V
theorem ah.tG[R:Rp α]{te:List Nat}{e e':TypeId}(L:l[k]? =some r)(D:Ty X.P e α)(hx:Has G x (.cJ t (k * R.n)))(E:ay G (rs t)=some (.own t te e' l)):ah X G ⟨dO, .load e x,ty,pos,af,gd⟩ (aa.rep te r):=
 bL λa w g A=>by obtain⟨b,O,I⟩:=hx a w g A;obtain⟨es,U,z⟩:=Hu (A _ _ E) O L;refine⟨cL R.agg es,?_,es,z,rfl⟩;unfold execOp;simp[I,lE,fL,n8 D U z]
theorem ah.vy[R:Rp α]{te:List Nat}{e:TypeId}(L:l[k]? =some r)(D:Ty X.P e α)(hx:Has G x (.cJ t (k * R.n)))(E:ay G (rs t)=some (.arr t te N l)):ah X G ⟨dO, .load e x,ty,pos,af,gd⟩ (aa.rep te r):=
 bL λa w g A=>by obtain⟨b,O,I⟩:=hx a w g A;obtain⟨es,U,z⟩:=N7 (A _ _ E) O L;refine⟨cL R.agg es,?_,es,z,rfl⟩;unfold execOp;simp[I,lE,fL,n8 D U z]
theorem pF{e:TypeId}[R:Rp α](I:Ty P e α){b o:Nat}{z:Array Value}{te:TypeId}(O:w.heap[b]? =some (.cells z te (0,0))){F:Nat->Prop}{x:α}{w0:World}(hx:cX F x v w0)(U:o+R.n<=z.size):∃es,v=cL R.agg es/\R.rel F x es w0/\(storeVar e ⟨b,o,none⟩ v).run P w= .ok () (w.setRow b (z.toList.take o++es++z.toList.drop (o+R.n)).toArray):=by obtain⟨es,A,rfl⟩:=hx;have D:=R.len _ _ _ _ A;have L:=z8 A;have E:=run_storeCells_at P b o te es 0 z w O (by omega) (R.one _ _ _ _ A);simp only[ja,D]at E;refine⟨es,rfl,A,?_⟩;unfold storeVar;simp[gD I,L,D,E]
theorem au.MC[R:Rp α]{T te:List Nat}{e:TypeId}(aL:bx 10 t=true)(aU:k<N)(aB:Ty X.P e α)(aI:Has G p (.cJ t (k * R.n)))(aC:ay G (rs t)=some (.arr t te N l))(hx:Has G x (aa.rep T y))(aw:cC (α:=α) t te te')(aH:cC (α:=α) t T te'):
 au X G ⟨none, .store e p x,ty,pos,af,none⟩ [.ae (rs t) (.arr t te' N (l.set k y)), .av t]:=λG' ao a w env K Q aN=>by
 have az:10<=t:=by simpa using aL
 obtain⟨g,L,Y⟩:=env.facts;have O:=ao a w g Y;obtain⟨b,z,aF⟩:=aI a w g O;obtain⟨A,Z,cs,W,al,V,ac,aJ⟩:=O _ _ aC;have ad:k<l.length:=by omega
 rw[W]at z;simp only[ix,Option.some.injEq]at z;subst z;have U:=aR.len l _ V;have aq:k * R.n+R.n<=cs.size:=by
  have E:k * R.n+R.n=(k+1) * R.n:=by rw[h_];omega
  rw[E];rw[Array.length_toList]at U;rw[U];exact iJ _ ad
 obtain⟨es,aO,aG,ap⟩:=pF (P:=X.P) aB al (hx a w g O) aq;have am:(execOp a.eval ⟨none, .store e p x,ty,pos,af,none⟩).run X.P w= .ok .skip (w.setRow A (cs.toList.take (k * R.n)++es++cs.toList.drop (k * R.n+R.n)).toArray):=by unfold execOp;simp only[aF,o9,fL,cU,gx,eA];rw[ap];rfl
 unfold dy;rw[am];refine aN undef _ ?_;have z:∀b,b<w.heap.size->g.om b≠t->(w.setRow A (cs.toList.take (k * R.n)++es++cs.toList.drop (k * R.n+R.n)).toArray).heap[b]? =w.heap[b]? :=λb z aA=>setRow_other w A b _ (λh=>aA (by rw[h];exact ac));have D:(w.setRow A (cs.toList.take (k * R.n)++es++cs.toList.drop (k * R.n+R.n)).toArray).heap.size=w.heap.size:=by simp
 refine⟨by simp[Act.put,env.size],env.defers,Fr.own env.fr L az (.inr trivial) rfl rfl rfl (by rw[D];exact bh _) z,g,⟨⟨L.ok.ec,λb E I=>L.ok.new b E (by rw[D]at I;exact I)⟩,L.om⟩,?_⟩;show aQ _ g a _;refine aQ.db ?_ (λv=>⟨A,Z,_,W,setRow_heap w A cs _ Z (0,0) al,?_,ac,by rw[kD];exact aJ⟩)
 .exact kA Y (by rw[D];exact bh _) z
 .have ag:∀b,b<w.heap.size->g.om b∈te'->g.om b∈te':=λ_ _ h=>h;have E:=aw (λb=>g.om b∈te') g w (w.setRow A (cs.toList.take (k * R.n)++es++cs.toList.drop (k * R.n+R.n)).toArray) l cs.toList (by rw[D];exact bh _) z ag V;have I:=aH (λb=>g.om b∈te') g w (w.setRow A (cs.toList.take (k * R.n)++es++cs.toList.drop (k * R.n+R.n)).toArray) [y] es (by rw[D];exact bh _) z ag ⟨es,[],by simp,aG,rfl⟩;obtain⟨c1,aM,ak,aE,ar⟩:=I;have an:aM=[]:=ar;subst an;simp only[jb]at ak;subst ak;simpa using aR.set l cs.toList E k y es ad aE
theorem au.nw[R:Rp α]{T te:List Nat}{e e':TypeId}(a4:bx 10 t=true)(ag:k<l.length)(aL:Ty X.P e α)(a0:Has G p (.cJ t (k * R.n)))(aN:ay G (rs t)=some (.own t te e' l))(hx:Has G x (aa.rep T y))(aF:cC (α:=α) t te te')(aZ:cC (α:=α) t T te'):
 au X G ⟨none, .store e p x,ty,pos,af,none⟩ [.ae (rs t) (.own t te' e' (l.set k y)), .av t]:=λG' az a w env K Q a7=>by
 have aG:10<=t:=by simpa using a4
 obtain⟨g,L,Z⟩:=env.facts;have V:=az a w g Z;obtain⟨b,z,aY⟩:=a0 a w g V;obtain⟨xs,aw,Y,W⟩:=V _ _ aN;rcases aw.2 with⟨ar,a9⟩|⟨A,aM,cs,O,a6,am,ac,aJ,aB,an⟩
 .rw[ar]at z;cases z
 rw[O]at z;simp only[ix,Option.some.injEq]at z;subst z;have aO:g.om A=t:=W A (by rw[O];rfl);have aq:=aR.len l _ Y;have aE:k * R.n+R.n<=l.length * R.n:=by
  have E:k * R.n+R.n=(k+1) * R.n:=by rw[h_];omega
  rw[E];exact iJ _ ag
 have aH:l.length * R.n<=cs.size:=by rw[aB];exact iJ _ ac
 obtain⟨es,a8,ad,aA⟩:=pF (P:=X.P) aL am (hx a w g V) (show k * R.n+R.n<=cs.size by omega);have U:=R.len _ _ _ _ ad;have ao:(execOp a.eval ⟨none, .store e p x,ty,pos,af,none⟩).run X.P w= .ok .skip (w.setRow A (cs.toList.take (k * R.n)++es++cs.toList.drop (k * R.n+R.n)).toArray):=by unfold execOp;simp only[aY,o9,fL,cU,gx,eA];rw[aA];rfl
 unfold dy;rw[ao];refine a7 undef _ ?_;have z:∀b,b<w.heap.size->g.om b≠t->(w.setRow A (cs.toList.take (k * R.n)++es++cs.toList.drop (k * R.n+R.n)).toArray).heap[b]? =w.heap[b]? :=λb z aI=>setRow_other w A b _ (λh=>aI (by rw[h];exact aO));have D:(w.setRow A (cs.toList.take (k * R.n)++es++cs.toList.drop (k * R.n+R.n)).toArray).heap.size=w.heap.size:=by simp
 refine⟨by simp[Act.put,env.size],env.defers,Fr.own env.fr L aG (.inr trivial) rfl rfl rfl (by rw[D];exact bh _) z,g,⟨⟨L.ok.ec,λb E I=>L.ok.new b E (by rw[D]at I;exact I)⟩,L.om⟩,?_⟩;show aQ _ g a _;refine aQ.db ?_ (λv=>⟨xs.take (k * R.n)++es++xs.drop (k * R.n+R.n),⟨?_, .inr ⟨A,aM,_,by rw[O,kD],a6,setRow_heap w A cs _ e' (0,0) am,by rw[kD];exact ac,aJ,?_,?_⟩⟩,?_,W⟩)
 .exact kA Z (by rw[D];exact bh _) z
 .simp only[bY,cf,eH,kD,aq,U];omega
 .simp only[g5,bY,cf,eH,Array.length_toList,U];omega
 .rw[<-an,kD];exact Fg cs.toList es (k * R.n) R.n (l.length * R.n) U aE (by rw[Array.length_toList];exact aH)
 .have ak:∀b,b<w.heap.size->g.om b∈te'->g.om b∈te':=λ_ _ h=>h;have E:=aF (λb=>g.om b∈te') g w (w.setRow A (cs.toList.take (k * R.n)++es++cs.toList.drop (k * R.n+R.n)).toArray) l xs (by rw[D];exact bh _) z ak Y;have I:=aZ (λb=>g.om b∈te') g w (w.setRow A (cs.toList.take (k * R.n)++es++cs.toList.drop (k * R.n+R.n)).toArray) [y] es (by rw[D];exact bh _) z ak ⟨es,[],by simp,ad,rfl⟩;obtain⟨c1,a5,al,aU,aC⟩:=I;have ap:a5=[]:=aC;subst ap;simp only[jb]at al;subst al;exact aR.set l xs E k y es ag aU
end
def aa.top:aa:=⟨[],[],λ_ _ _=>True,λ_ _ _ _ _ _ h=>h⟩
section
variable{Q:Exit->Act->World->Prop}
def sj(X:Cx)(ops:Array Oper)(G:List It)(o:Oper)(f:aa):Prop:=∀a w g,a.tmps.size=X.n->Fr X.C X.w0 w->ff X w g->aQ G g a w->
 (gH o (yielded ops a.tmps)=true->Yields X.P o a w (λv w'=>Fr fW w w'/\∃g',ff X w' g'/\(∀b,b<w.heap.size->g'.om b=g.om b)/\(∀t,g'.ga t=g.ga t)/\f.p g' v w'))/\
 (gH o (yielded ops a.tmps)=false->f.p g undef w)
theorem sj.mX{d:Option Nat}{T:List Nat}{op:Op}(U:(ops[j]?).bind (·.dst)=some dj)(Z:ay G dj=some (aa.rep T b))(h:b=want->ah X G ⟨d,op,ty,pos,af,some (j,want)⟩ f):sj X ops G ⟨d,op,ty,pos,af,some (j,want)⟩ (f.c_ (b=want)):=
 λa w g ac D V A=>by
  have hy:=yO U (dw.1 (A dj _ Z));simp only[gH,hy];by_cases z:b=want
  .subst z;refine⟨λ_=>?_,λh=>by simp at h⟩;intro K Q ad;exact h rfl a w g ac D V A K Q (λv w' ⟨W,g',E,L,Y,I⟩=>ad v w' ⟨W,g',E,L,Y,λ_=>I,λh=>(h rfl).elim⟩)
  .exact⟨λh=>by simp[z]at h,λ_=>⟨λO=>(z O).elim,λ_=>rfl⟩⟩
theorem sj.jY{d:Option Nat}{c:Prop}{T:List Nat}{op:Op}(I:(ops[j]?).bind (·.dst)=some dj)(Z:ay G dj=some ((aa.rep T b).c_ c))(h:c/\b=want->ah X G ⟨d,op,ty,pos,af,some (j,want)⟩ f):sj X ops G ⟨d,op,ty,pos,af,some (j,want)⟩ (f.c_ (c/\b=want)):=
 λa w g ac O W L=>by
  have hu:=L dj _ Z;by_cases z:c
  .have hy:=yO I (dw.1 (hu.1 z));simp only[gH,hy];by_cases E:b=want
   .subst E;refine⟨λ_=>?_,λh=>by simp at h⟩;intro K Q ad;exact h ⟨z,rfl⟩ a w g ac O W L K Q (λv w' ⟨A,g',D,V,Y,U⟩=>ad v w' ⟨A,g',D,V,Y,λ_=>U,λh=>(h ⟨z,rfl⟩).elim⟩)
   .exact⟨λh=>by simp[E]at h,λ_=>⟨λz=>(E z.2).elim,λ_=>rfl⟩⟩
  .have hy:(yielded ops a.tmps j==some want)=false:=by
    have A:a.tmps.getD dj undef=undef:=hu.2 z;unfold yielded;rw[I];simp only[bo];rw[Array.getD_eq_getD_getElem?]at A;cases D:a.tmps[dj]? with
    |none=>rfl
    |some v=>rw[D]at A;simp at A;subst A;rfl
   simp only[gH,hy];exact⟨(λh=>by cases h),(λ_=>⟨λh=>(z h.1).elim,λ_=>rfl⟩)⟩
def iV(ops:Array Oper)(L:Array Bool):Nat:=(m9 ops.size).countP λi=> !L.getD i true
theorem LR{L:Array Bool}(z:i<L.size)(h:L.getD i false=true):L.getD i true=true:=by simp[z]at h|-;exact h
theorem yF{L:Array Bool}(U:i<ops.size)(Y:L.size=ops.size)(hu:L.getD i true=false):iV ops L=iV ops (L.setIfInBounds i true)+1:=by
 unfold iV;have key:∀(l:List Nat),l.Nodup->i∈l->l.countP (λj=> !L.getD j true)=l.countP (λj=> !(L.setIfInBounds i true).getD j true)+1:=by
  intro l;induction l with
  |nil=>intro _ h;cases h
  |cons x l I=>
   intro z V;obtain⟨hx,z⟩:=qJ.1 z;simp only[List.countP_cons];by_cases he:x=i
   .subst he;have W:l.countP (λj=> !L.getD j true)=l.countP (λj=> !(L.setIfInBounds x true).getD j true):=by apply List.countP_congr;intro j O;have D:x≠j:=λh=>hx (h▸O);rw[getD_set_ne true D]
    have E:(L.setIfInBounds x true).getD x true=true:=by
     have:x<L.size:=by omega
     simp[this]
    rw[W,E,hu];simp
   .have A:i∈l:=by
     rcases fp.1 V with h|h
     .exact(he h.symm).elim
     .exact h
    rw[I z A,getD_set_ne true (Ne.symm he)];omega
 exact key _ List.nodup_range (jc.2 U)
theorem rB{L:Array Bool}(h:iV ops L=0)(i:Nat)(z:i<ops.size):L.getD i true=true:=by unfold iV at h;rw[List.countP_eq_zero]at h;have:=h i (jc.2 z);simpa using this
theorem pB(z:i<n):(Array.replicate n false).getD i true=false:=by simp[z]
end
section
variable{d:Option Nat}
def fX{α:Type}[Rp α](G:List It)(T:List Nat):List Operand->List α->Prop
 |[],[]=>True
 |x::xs,y::ys=>Has G x (aa.rep T y)/\fX G T xs ys
 |_,_=>False
def parts(k:Nat):List Operand->List (Nat×Operand)
 |[]=>[]
 |x::xs=>(k,x)::parts (k+1) xs
theorem yj(v:List Value):∀(off:Nat) (cs:Array Value) (k:Nat),off+k+v.length<=cs.size->
  ((v.zipIdx k).foldl (λcs (c,j)=>cs.setIfInBounds (off+j) c) cs).toList=cs.toList.take (off+k)++v++cs.toList.drop (off+k+v.length):=by
 induction v with
 |nil=>intro off cs k h;simp
 |cons c v z=>
  intro off cs k h;simp only[List.zipIdx_cons,k9];simp only[jq]at h;rw[z off (cs.setIfInBounds (off+k) c) (k+1) (by simp;omega)];rw[Array.toList_setIfInBounds];have D:off+k<cs.toList.length:=by rw[Array.length_toList];omega
  rw[show off+(k+1)=off+k+1 by omega];have A:(cs.toList.set (off+k) c).take (off+k+1)=cs.toList.take (off+k)++[c]:=by rw[aah (by simpa using D)];rw[List.take_set_of_le (by omega)];simp
  rw[A,List.drop_set_of_lt (by omega)];simp only[jq,fE,List.singleton_append,kE,gZ];rw[show off+k+1+v.length=off+k+(v.length+1) by omega]
theorem Hd{α:Type}[R:Rp α]{F:Nat->Prop}{w:World}:∀(ys:List α) (D:List Value) (k:Nat) (cs:Array Value),
  ys.length=D.length->(∀(i:Nat) (y:α) (v:Value),ys[i]? =some y->D[i]? =some v->cX F y v w)->cs.size=(k+ys.length) * R.n->
  ∃es,aR F ys es w/\m_ (λi=>some (i * R.n,R.n)) cs ((D.zipIdx k).map λx=>(x.2,x.1))=some (cs.toList.take (k * R.n)++es).toArray
 |[],[],k,cs,_,_,z=>⟨[],rfl,by simp only[List.length_nil,ja]at z;simp only[List.zipIdx_nil,List.map_nil,m_,jb,Option.some.injEq];rw[fm (by rw[Array.length_toList,z];exact bh _)]⟩
 |y::ys,v::D,k,cs,aa,h,z=>by
  obtain⟨c,I,L⟩:=h 0 y v rfl rfl;have A:=R.len _ _ _ _ I;have O:v.cells=c.toArray:=by rw[L];exact z8 I
  simp only[jq]at z;have W:k * R.n+R.n<=cs.size:=by
   have ac:k * R.n+R.n=(k+1) * R.n:=by rw[h_];omega
   rw[ac,z];exact iJ _ (by omega)
  have E:=yj c (k * R.n) cs 0 (by omega);simp only[ja,A]at E;have U:v.cells.zipIdx=(c.zipIdx 0).toArray:=by rw[O];simp
  obtain⟨es,Y,V⟩:=Hd ys D (k+1) (v.cells.zipIdx.foldl (λcs (c,j)=>cs.setIfInBounds (k * R.n+j) c) cs) (by simpa using aa) (λi y v hy L=>h (i+1) y v (by simpa using hy) (by simpa using L))
   (by
    have:(v.cells.zipIdx.foldl (λcs (c,j)=>cs.setIfInBounds (k * R.n+j) c) cs).toList.length=cs.size:=by rw[U,List.foldl_toArray,E];simp only[bY,cf,eH,Array.length_toList,A];omega
    rw[Array.length_toList]at this;rw[this,z];congr 1;omega)
  refine⟨c++es,⟨c,es,rfl,I,Y⟩,?_⟩;simp only[List.zipIdx_cons,fh,m_];have Z:v.cells.size=R.n:=by rw[O];simpa using A
  rw[if_neg (by simp[Z];exact W)];rw[V];congr 2;rw[U,List.foldl_toArray,E];rw[show(k+1) * R.n=k * R.n+R.n by rw[h_];omega];have e1:(cs.toList.take (k * R.n)).length=k * R.n:=by rw[cf,Array.length_toList];omega
  rw[oZ,bY,e1,A,Nat.sub_self,mi,jb,fm (by rw[bY,e1,A];exact bh _),fE]
theorem fX.rep[Rp α]{T:List Nat}{xs:List Operand}{ys:List α}(h:fX G T xs ys)(I:aQ G g a w):
  ys.length=xs.length/\∀(i:Nat) (y:α) (v:Value),ys[i]? =some y->(xs.map a.eval)[i]? =some v->cX (λb=>g.om b∈T) y v w:=by
 induction xs generalizing ys with
 |nil=>cases ys with
  |nil=>exact⟨rfl,λi y v h _=>by simp at h⟩
  |cons y ys=>exact h.elim
 |cons x xs D=>cases ys with
  |nil=>exact h.elim
  |cons y ys=>
   obtain⟨L,A⟩:=D h.2;refine⟨by simp[L],λi E v hy z=>?_⟩;cases i with
   |zero=>simp at hy z;subst hy z;exact h.1 a w g I
   |succ i=>exact A i E v (by simpa using hy) (by simpa using z)
theorem ah.lit[R:Rp α]{xs:List Operand}{ys:List α}{T:List Nat}{ts e:TypeId}{pt:Array (Nat×Operand)}(t:Nat)(av:bx 10 t=true)(z:gu X.P ts e α)(al:pt=(parts 0 xs).toArray)(U:xs.length=n)(ae:bx (n * R.n) 16777216=true)(Z:bx 1 n=true)(hx:fX G T xs ys):ah X G ⟨d, .buildSlice ts n pt,ty,pos,af,gd⟩ (aa.rep (t::T) ys):=λa w g aM ao az aC=>by
 have ak:10<=t:=by simpa using av
 obtain⟨D,W⟩:=hx.rep aC;obtain⟨i,O,aB,an,aG,aJ,aI⟩:=z.info;have aH:n * R.n<=16777216:=by simpa using ae
 have aF:1<=n:=by simpa using Z
 have ac:n * R.n≠0:=by have:=z.pos;exact Nat.mul_ne_zero (by omega) (by omega)
 have V:∀(xs:List Operand) (k:Nat),(parts k xs).map (λx=>(x.1,a.eval x.2))=((xs.map a.eval).zipIdx k).map λx=>(x.2,x.1):=by
  intro xs;induction xs with
  |nil=>intro k;rfl
  |cons x xs ay=>intro k;simp[parts,ay]
 obtain⟨es,I,E⟩:=Hd ys (xs.map a.eval) 0 ((Array.range (n * R.n)).map (O.cells[·%O.cells.size]!)) (by simp[D]) W (by simp[D,U]);simp only[Nat.zero_mul,mi,gZ]at E;have aL:=aR.len _ _ I;have Y:(execOp a.eval ⟨d, .buildSlice ts n pt,ty,pos,af,gd⟩).run X.P w= .ok (.value (.slice (some ⟨w.heap.size,0,none⟩) n n)) (w.alloc (.cells es.toArray e)):=by
  unfold execOp;simp only[al,cU,kc];unfold Instr.buildSlice;have ar:((parts 0 xs).toArray.map λ(i,x)=>(i,a.eval x)).toList=((xs.map a.eval).zipIdx 0).map λx=>(x.2,x.1):=by rw[<-V];simp
  simp only[ar];have am: ¬(n * R.n>2^24):=by omega
  simp[run_underlying z.cE,gD z.el,am,ac,zeroValue,typeInfo,aB,an,E,newRow]
 refine Yields.val Y ⟨Fr.alloc w _,cM g w.heap.size t,az.cM ak (by simp) ao.size,λb A=>by simp[cM,A],λ_=>rfl,?_⟩;refine⟨_,⟨some ⟨w.heap.size,0,none⟩,n,by rw[D,U],by omega,(λh=>by cases h),?_⟩,rfl⟩;intro ad ag i r ap;cases ag;refine⟨by simp[cM],by simp,?_⟩;obtain⟨L,aA,aw⟩:=aR.get ys es I i r ap;refine⟨L,λj u aq=>?_,R.aD _ _ r L w _ (by simp) (λb A h=>⟨RowKit.Below.heap_alloc w _ b A,by simp[cM,A,h]⟩) aA⟩;have aE:=aw j u aq;rw[Addr.nQ,Go.Addr.add_lit,dQ];refine⟨?_,frozen_of_row _ w.heap.size _ es.toArray e (heap_alloc_new w _)⟩;rw[cell_of_row _ w.heap.size _ es.toArray e (0,0) (heap_alloc_new w _)];simpa using aE
def fy{α:Type}(l:List α)(lo hi:Int):Option (List α):=if 0<=lo/\lo<=hi/\hi<=l.length then some ((l.take hi.toNat).drop lo.toNat)else none
theorem Je[R:Rp α]{F:Nat->Prop}{ad:Option Addr}{c:Nat}(h:cX F l (.slice ad l.length c) w)(lo hi:Nat)(ak:lo<=hi)(ae:hi<=l.length):
  cX F ((l.take hi).drop lo) (.slice (if c=lo then ad else ad.map (·.add (lo * R.n))) (hi - lo) (c - lo)) w:=by
 obtain⟨aa,am,V,ag,E,D⟩:=jQ h;cases V;refine⟨[.slice (if c=lo then ad else ad.map (·.add (lo * R.n))) (hi - lo) (c - lo)],⟨(if c=lo then ad else ad.map (·.add (lo * R.n))),c - lo,?_,?_,?_,?_⟩,rfl⟩
 .have:hi - lo=((l.take hi).drop lo).length:=by simp only[eH,cf];omega
  rw[this]
 .simp only[eH,cf];omega
 .intro A;have I:ad=none:=by
   split at A
   .exact A
   .cases ad with
    |none=>rfl
    |some _=>cases A
  obtain⟨Z,al⟩:=E I;subst Z;exact⟨by simp,by omega⟩
 .intro b z i x hx;rw[ke,o8]at hx;split at hx
  case isFalse=>cases hx
  rename_i ac;have U: ¬(c=lo):=by omega
  rw[if_neg U]at z;cases ad with
  |none=>cases z
  |some ad=>
   simp only[jd,Option.some.injEq]at z;subst z;obtain⟨W,O,es,Y,L⟩:=D ad rfl (lo+i) x hx;refine⟨by rw[Addr.jv];exact W,by rw[Addr.jv];exact O,es,?_,L⟩;rw[Addr.nQ,<-h_];exact Y
theorem ah.fy[R:Rp α]{lo hi:Operand}{T T2:List Nat}{r:List α}{m n:Int}{t e:TypeId}(z:GL.fy l m n=some r)(E:nh X.P t e α)(hx:Has G x (aa.rep T l))(I:Has G lo (aa.rep T1 m))(L:Has G hi (aa.rep T2 n)):ah X G ⟨d, .slice t x (some lo) (some hi) none,ty,pos,af,gd⟩ (aa.rep T r):=by
 unfold GL.fy at z;split at z
 case isFalse=>cases z
 rename_i U;cases z;refine bL λa w g A=>?_;have h:=hx a w g A;obtain⟨ad,c,D,Y,_⟩:=jQ h;rw[D]at h;have W:=cD.1 (I a w g A);have O:=cD.1 (L a w g A);have key:=Je h m.toNat n.toNat (by omega) (by omega);refine⟨_,?_,key⟩;have V:n<=(c:Int):=by omega
 have g2:0<=n:=by omega
 have g3:m<=max n 0:=by omega
 have Z:qX (.slice e)=false:=rfl;unfold execOp;simp only[jd,o_,D,W,O,cU,kc];unfold pd;simp[run_underlying E.cE,sJ,pe,sK,asIntOf,V,g2,g3,U.1,gD E.el]
theorem ah.Y2[R:Rp α]{lo:Operand}{T:List Nat}{r:List α}{m:Int}{t e:TypeId}(z:GL.fy l m l.length=some r)(I:nh X.P t e α)(hx:Has G x (aa.rep T l))(L:Has G lo (aa.rep T1 m)):ah X G ⟨d, .slice t x (some lo) none none,ty,pos,af,gd⟩ (aa.rep T r):=by
 unfold GL.fy at z;split at z
 case isFalse=>cases z
 rename_i A;cases z;refine bL λa w g E=>?_;have h:=hx a w g E;obtain⟨ad,c,D,U,_⟩:=jQ h;rw[D]at h;have O:=cD.1 (L a w g E);have key:=Je h m.toNat l.length (by omega) (by omega);refine⟨_,?_,key⟩;unfold execOp;simp only[jd,o_,D,O,cU,kc];unfold pd;simp[run_underlying I.cE,sJ,pe,sK,asIntOf,A.1,A.2.1,gD I.el]
theorem ah.SH[R:Rp α]{A:Operand}{T:List Nat}{r:List α}{n:Int}{t e:TypeId}(z:GL.fy l 0 n=some r)(I:nh X.P t e α)(hx:Has G x (aa.rep T l))(L:Has G A (aa.rep T1 n)):ah X G ⟨d, .slice t x none (some A) none,ty,pos,af,gd⟩ (aa.rep T r):=by
 unfold GL.fy at z;split at z
 case isFalse=>cases z
 rename_i W;cases z;refine bL λa w g E=>?_;have h:=hx a w g E;obtain⟨ad,c,D,V,_⟩:=jQ h;rw[D]at h;have U:=cD.1 (L a w g E);have key:=Je h 0 n.toNat (by omega) (by omega);refine⟨_,?_,key⟩;have O:n<=(c:Int):=by omega
 have g2:0<=n:=by omega
 unfold execOp;simp only[jd,o_,D,U,cU,kc];unfold pd;simp[run_underlying I.cE,sJ,pe,sK,asIntOf,O,g2,gD I.el]
end
def qm(P:Program)(t:TypeId)(n:Nat)(agg:Bool):Bool:=
 match P.underlying t,P.info? t with
 |some d,some i=>(qX d==agg)&&ct i.size n
 |_,_=>false
theorem Ty.of{t:TypeId}[R:Rp α](h:qm P t R.n R.agg=true):Ty P t α:=by
 unfold qm at h;cases z:P.underlying t with
 |none=>simp[z]at h
 |some d=>
  cases A:P.info? t with
  |none=>simp[z,A]at h
  |some i=>
   simp only[z,A,gg,beq_iff_eq]at h;exact⟨⟨d,z,h.1⟩,⟨i,A,iI h.2⟩⟩
theorem nh.of{t e:TypeId}[R:Rp α](hu:P.underlying t=some (.slice e))(h:qm P e R.n R.agg=true)(z:bt 0 R.n=true):nh P t e α:=
 ⟨hu,Ty.of h,by simpa using z⟩
def JK(P:Program)(e:TypeId)(n:Nat):Bool:=
 match P.info? e with
 |some i=>(match i.zero with
  |some z=>ct z.cells.size n
  |none=>false)&&ct i.size n&&bx i.bytes 32768
 |none=>false
theorem gu.of{t e:TypeId}[R:Rp α](hu:P.underlying t=some (.slice e))(h:qm P e R.n R.agg=true)(E:bt 0 R.n=true)(ho:JK P e R.n=true):gu P t e α:=by
 refine⟨hu,Ty.of h,by simpa using E,?_⟩;unfold JK at ho;cases D:P.info? e with
 |none=>simp[D]at ho
 |some i=>
  rw[D]at ho;cases A:i.zero with
  |none=>simp[A]at ho
  |some z=>
   simp only[A,gg]at ho;exact⟨i,z,rfl,A,iI ho.1.2,by simpa using ho.2,iI ho.1.1⟩
theorem jh.of{t e:TypeId}[R:Rp α]{z:α}{c:List Value}(hu:P.underlying t=some (.array n e))(L:bx 2 n=true)(h:qm P e R.n R.agg=true)(A:((P.info? t).bind (·.zero)).map (λv=>v.cells.toList)=some ((dr n c).flatten))(I:∀w,R.rel (λ_=>False) z c w):jh P t e n α z:=by
 refine⟨hu,L,Ty.of h,?_⟩;cases E:P.info? t with
 |none=>simp[E]at A
 |some i=>
  cases D:i.zero with
  |none=>simp[E,D]at A
  |some v=>
   simp[E,D]at A;exact⟨i,v,c,rfl,D,A,I⟩
theorem Gi[Rp α]{F:Nat->Prop}:Rp.rel F ([]:List α) [.slice none 0 0] w:=⟨none,0,rfl,bh _,λ_=>⟨rfl,rfl⟩,λ_ h=>by cases h⟩
theorem kr{i:Int}{m:Nat}(h:b_ n i=some k)(z:m=n):k<m:=by have:=pH h;omega
theorem fN{f:α->γ}{g:β->γ}{x:α}{r:γ}(h:Sum.elim f g (Sum.inl x)=r):f x=r:=h
theorem fI{f:α->γ}{g:β->γ}{x:β}{r:γ}(h:Sum.elim f g (Sum.inr x)=r):g x=r:=h
section
theorem Has.u7[R:Rp α]{te:List Nat}{e:TypeId}(h:Has G x (.own t te e l))(A:ep te te'=true):Has G x (.own t te' e l):=λa w g E=>by obtain⟨xs,I,z,D⟩:=h a w g E;exact⟨xs,I,aR.aD (bh _) (λb _ L=>⟨rfl,fH A _ L⟩) l xs z,D⟩
theorem Has.NH[R:Rp α]{te:List Nat}(h:Has G x (.arr t te N l))(A:ep te te'=true):Has G x (.arr t te' N l):=λa w g I=>by obtain⟨b,ty,cs,L,z,E,O,D⟩:=h a w g I;exact⟨b,ty,cs,L,z,aR.aD (bh _) (λb _ U=>⟨rfl,fH A _ U⟩) l _ E,O,D⟩
theorem fX.nil[Rp α]{T:List Nat}:fX G T [] ([]:List α):=trivial
theorem fX.cons[Rp α]{T:List Nat}{xs:List Operand}{ys:List α}(h:Has G x (aa.rep T y))(k:fX G T xs ys):fX G T (x::xs) (y::ys):=⟨h,k⟩
end
section
open Go Go.ChangeShapes Go.WideShapes Go.ChangeAt Go.RowKit
def mM(P:Program)(t:TypeId)(α:Type)[R:Rp α](wf:α->Prop):Prop:=
 ∀{H:Type} (enc:TypeId×Value->H) (w:World) (fuel:Nat) (cs:List Value) (x:DataW H×List MemPlace),
  k_ enc P w 0 (λ_=>true) true fuel t cs=some x->w.noneFrozen x.2->∃y:α,wf y/\R.rel (λ_=>True) y cs w
def Nh(n:Int):Prop:= -9223372036854775808<=n/\n<=9223372036854775807
theorem S0{t:TypeId}(h:P.underlying t=some (.int .i64)):mM P t Int Nh:=by
 intro H enc w fuel cs x hx _;cases fuel with
 |zero=>simp[k_]at hx
 |succ fuel=>
  unfold k_ at hx;rw[h]at hx
  match cs,hx with
  |[],hx=>simp at hx
  |c::d::cs,hx=>simp at hx
  |[c],hx=>
   cases c<;>simp at hx
   rename_i k n;obtain⟨⟨rfl,z⟩,_⟩:=hx;refine⟨n,?_,rfl⟩;simp[Lit.wf]at z;exact⟨by have:IntKind.i64.min= -9223372036854775808:=rfl;omega,by have:IntKind.i64.max=9223372036854775807:=rfl;omega⟩
theorem UL{t:TypeId}(h:P.underlying t=some (.int .u8)):mM P t UInt8 (λ_=>True):=by
 intro H enc w fuel cs x hx _;cases fuel with
 |zero=>simp[k_]at hx
 |succ fuel=>
  unfold k_ at hx;rw[h]at hx
  match cs,hx with
  |[],hx=>simp at hx
  |c::d::cs,hx=>simp at hx
  |[c],hx=>
   cases c<;>simp at hx
   rename_i k n;obtain⟨⟨rfl,z⟩,_⟩:=hx;have A:0<=n/\n<=255:=by simp[Lit.wf]at z;have E:IntKind.u8.min=0:=rfl;have D:IntKind.u8.max=255:=rfl;omega
   refine⟨qG n.toNat,trivial,?_⟩;show[_]=[_];have:(((qG n.toNat).toNat:Nat):Int)=n:=by simp;omega
   rw[this]
theorem Uz{t:TypeId}(h:P.underlying t=some (.int .u32)):mM P t UInt32 (λ_=>True):=by
 intro H enc w fuel cs x hx _;cases fuel with
 |zero=>simp[k_]at hx
 |succ fuel=>
  unfold k_ at hx;rw[h]at hx
  match cs,hx with
  |[],hx=>simp at hx
  |c::d::cs,hx=>simp at hx
  |[c],hx=>
   cases c<;>simp at hx
   rename_i k n;obtain⟨⟨rfl,z⟩,_⟩:=hx;have A:0<=n/\n<=4294967295:=by simp[Lit.wf]at z;have E:IntKind.u32.min=0:=rfl;have D:IntKind.u32.max=4294967295:=rfl;omega
   refine⟨vk n.toNat,trivial,?_⟩;show[_]=[_];have:(((vk n.toNat).toNat:Nat):Int)=n:=by simp;omega
   rw[this]
theorem open_bool{t:TypeId}(h:P.underlying t=some .bool):mM P t Bool (λ_=>True):=by
 intro H enc w fuel cs x hx _;cases fuel with
 |zero=>simp[k_]at hx
 |succ fuel=>
  unfold k_ at hx;rw[h]at hx
  match cs,hx with
  |[],hx=>simp at hx
  |c::d::cs,hx=>simp at hx
  |[c],hx=>
   cases c<;>simp at hx
   rename_i b;exact⟨b,trivial,rfl⟩
theorem Si{I:Nat}{a:Addr}(h:w.cells? I a n=some cs):cs.length=n/\∀(j:Nat) (u:Value),cs[j]? =some u->w.cell? (a.add j)=some u:=by
 unfold World.cells? at h;split at h
 case isFalse=>cases h
 have key:∀(l:List Nat) (cs:List Value),l.mapM (λi=>w.cell? (a.add i))=some cs->cs.length=l.length/\∀(j:Nat) (u:Value),cs[j]? =some u->∃i,l[j]? =some i/\w.cell? (a.add i)=some u:=by
  intro l;induction l with
  |nil=>intro cs h;simp at h;subst h;exact⟨rfl,λj u z=>by simp at z⟩
  |cons i l W=>
   intro cs h;rw[nb]at h;simp only[J1,qK,J2,Option.some.injEq]at h;obtain⟨u,hu,U,L,rfl⟩:=h;obtain⟨D,A⟩:=W U L;refine⟨by simp[D],λj v z=>?_⟩;cases j with
   |zero=>simp at z;subst z;exact⟨i,rfl,hu⟩
   |succ j=>simpa using A j v (by simpa using z)
 obtain⟨D,A⟩:=key _ _ h;refine⟨by simpa using D,λj u z=>?_⟩;obtain⟨i,Y,V⟩:=A j u z;have O:i=j:=by have:=(cy.1 Y);obtain⟨Z,E⟩:=this;simp at E;exact E.symm
 rw[<-O];exact V
theorem Ic{α β:Type}{f:α->Option β}:∀(l:List α) (r:List β),l.mapM f=some r->r.length=l.length/\∀(i:Nat) (x:α),l[i]? =some x->∃y,r[i]? =some y/\f x=some y
 |[],r,h=>by simp at h;subst h;exact⟨rfl,λi x hx=>by simp at hx⟩
 |a::l,r,h=>by
  rw[nb]at h;simp only[J1,qK,J2,Option.some.injEq]at h;obtain⟨u,hu,D,z,rfl⟩:=h;obtain⟨E,A⟩:=Ic l D z;refine⟨by simp[E],λi x hx=>?_⟩;cases i with
  |zero=>simp at hx;subst hx;exact⟨u,rfl,hu⟩
  |succ i=>simpa using A i x (by simpa using hx)
theorem UB{t e:TypeId}[R:Rp α]{wf:α->Prop}(h:P.underlying t=some (.slice e))(Z:P.cellsOf e=R.n)(aH:0<R.n)(aB:mM P e α wf):
  mM P t (List α) (λl=>l.length<=9223372036854775807/\∀x∈l,wf x):=by
 intro H enc w fuel cs x hx V;cases fuel with
 |zero=>simp[k_]at hx
 |succ fuel=>
  unfold k_ at hx;rw[h]at hx
  match cs,hx with
  |[],hx=>simp at hx
  |c::d::cs,hx=>simp at hx
  |[c],hx=>
  cases c with
  |slice ad len L=>
   cases ad with
   |none=>
    cases len with
    |succ len=>simp at hx
    |zero=>
     cases L with
     |succ L=>simp at hx
     |zero=>exact⟨[],by simp,Gi⟩
   |some a=>
   simp only at hx;split at hx
   case isFalse=>cases hx
   rename_i ak;simp only[qK,iK,if_true]at hx;obtain⟨elems,ae,rest,ac,rfl⟩:=hx;obtain⟨D,O⟩:=Ic _ _ ae;obtain⟨U,_⟩:=Ic _ _ ac;simp only[List.length_range]at D U;rw[Z]at O;have al:∀i,i<len->∃y:α,wf y/\∃es,eO w (a.add (i * R.n)) es/\R.rel (λ_=>True) y es w/\a.block<w.heap.size:=by
    intro i E;obtain⟨y,hy,I⟩:=O i i (by simp[E]);simp only[qK]at I;obtain⟨es,aq,aw⟩:=I;obtain⟨aG,aa⟩:=Si aq;have an:w.noneFrozen y.2:=λb off ay=>V b off (gh _ (List.mem_flatMap.2 ⟨y,gY _ (iL hy),ay⟩));obtain⟨z,W,ao⟩:=aB enc w fuel es y aw an;refine⟨z,W,es,λj u ag=>⟨aa j u ag,?_⟩,ao,?_⟩
    .have aI:j<R.n:=by have:=(cy.1 ag).1;omega
     have ap:MemPlace.cell a.block (a.off+(i * R.n+j))∈MemPlace.row a ((elems.length+rest.length) * P.cellsOf e):=by unfold MemPlace.row;refine gm.2 ⟨i * R.n+j,jc.2 ?_,rfl⟩;rw[Z,D,U];have:(i+1) * R.n<=(len+(L - len)) * R.n:=iJ _ (by omega);rw[h_]at this;omega
     have I:=V a.block (a.off+(i * R.n+j)) (gY _ ap);rw[Addr.nQ];unfold World.frozen? at I|-;rw[Addr.jv];have am:(a.add (i * R.n+j)).off=a.off+(i * R.n+j):=by unfold Addr.add;split<;>simp_all
     rw[am];exact I
    .have aE:0<es.length:=by omega
     have:=World.block_lt_of_cell? _ _ (aa 0 es[0] (ek aE));rwa [Addr.jv,Addr.jv]at this
   obtain⟨Y,A⟩:∃Y:List α,Y.length=len/\∀i (y:α),Y[i]? =some y->wf y/\∃es,eO w (a.add (i * R.n)) es/\R.rel (λ_=>True) y es w/\a.block<w.heap.size:=by
    clear ae O V D U ac;have:∀n,n<=len->∃Y:List α,Y.length=n/\∀i (y:α),Y[i]? =some y->wf y/\∃es,eO w (a.add (i * R.n)) es/\R.rel (λ_=>True) y es w/\a.block<w.heap.size:=by
     intro n;induction n with
     |zero=>intro _;exact⟨[],rfl,λi y hy=>by simp at hy⟩
     |succ n aA=>
      intro Z;obtain⟨Y,D,A⟩:=aA (by omega);obtain⟨z,W,av⟩:=al n (by omega);refine⟨Y++[z],by simp[D],λi y hy=>?_⟩;by_cases E:i<Y.length
      .rw[m8 E]at hy;exact A i y hy
      .rw[oY (by omega)]at hy;have:i=n:=by have:=(cy.1 hy).1;simp at this;omega
       subst this;rw[D]at hy;simp at hy;subst hy;exact⟨W,av⟩
    exact this len (bh _)
   refine⟨Y,⟨by rw[A.1];have:=ak.2.2;simp only[maxLen]at this;omega,λy hy=>?_⟩,?_⟩
   .obtain⟨i,E⟩:=qL hy;exact(A.2 i y E).1
   .refine⟨some a,L,by rw[A.1],by rw[A.1];exact ak.2.1,(λh=>by cases h),?_⟩;intro ad ar i y hy;cases ar;obtain⟨_,es,aF,az,aC⟩:=A.2 i y hy;exact⟨trivial,aC,es,aF,az⟩
  |_=>simp at hx
end
section
open Go Go.ChangeShapes Go.WideShapes Go.ChangeAt Go.RowKit
theorem T6{t:TypeId}[R:Rp α](D:Ty P t α){W:World}{r:Reach}{A:Nat}(h:Value.okWide P W r A t v):v=cL R.agg v.cells.toList:=by
 obtain⟨d,hd,z⟩:=D.cE;unfold Value.okWide at h;rw[hd]at h;cases d with
 |struct fs=>obtain⟨cs,rfl,_⟩:=h;rw[<-z];simp[qX,cL,y9]
 |array n e=>obtain⟨cs,rfl,_⟩:=h;rw[<-z];simp[qX,cL,y9]
 |_=>
  rw[<-z];simp only[qX,cL];unfold Cell.okWide at h;rw[hd]at h;cases v<;>first
   |(simp[y9];done)
   |(exfalso;simp[Cell.ok,hd]at h)
theorem Ct{t:TypeId}[R:Rp α]{wf:α->Prop}(D:Ty P t α)(ho:mM P t α wf){H:Type}{enc:TypeId×Value->H}{W:World}{r:Reach}{A:Nat}{d:DataW H}{p:List MemPlace}(z:Value.okWide P W r A t v)(h:DataW.Trod enc P W 0 (λ_=>true) true t v d p)(E:W.noneFrozen p):∃y:α,wf y/\cX (λ_=>True) y v W:=by obtain⟨fuel,I⟩:=h;obtain⟨y,hy,L⟩:=ho enc W fuel v.cells.toList (d,p) I E;exact⟨y,hy,v.cells.toList,L,T6 D z⟩
theorem KN{H:Type}{enc:TypeId×Value->H}{P:Program}(E:laidOutB P=true){W W':World}(I:Below W.heap.size W W'):∀(ts:List TypeId) (z:List Value) (ds:List (DataW H)) (p:List MemPlace),
  (∀t,t∈ts->P.readableRec t=true/\t<P.types.size)->DataW.TrodAll enc P W 0 (λ_=>true) true ts z ds p->(∀x∈p,x.block<W.heap.size)->
  DataW.TrodAll enc P W' 0 (λb=>decide (b<W.heap.size)) true ts z ds p
 |[],[],[],p,_,h,_=>h
 |t::ts,v::z,d::ds,p,A,h,D=>by
  obtain⟨p1,p2,U,O,rfl⟩:=h;exact⟨p1,p2,Below.trod E (A t (by simp)).1 (A t (by simp)).2 U I (λx hx=>D x (by simp[hx])),
   KN E I ts z ds p2 (λt' L=>A t' (by simp[L])) O (λx hx=>D x (by simp[hx])),rfl⟩
 |[],[],_::_,_,_,h,_=>h.elim
 |[],_::_,_,_,_,h,_=>h.elim
 |_::_,[],_,_,_,h,_=>h.elim
 |_::_,_::_,[],_,_,h,_=>h.elim
theorem Ln{H:Type}{enc:TypeId×Value->H}{P:Program}{W:World}{D:Nat->Bool}:∀(ts:List TypeId) (z:List Value) (ds:List (DataW H)) (p:List MemPlace),
  DataW.TrodAll enc P W 0 D true ts z ds p->ds.length=ts.length
 |[],[],[],_,_=>rfl
 |t::ts,v::z,d::ds,p,h=>by obtain⟨p1,p2,_,A,_⟩:=h;simp[Ln ts z ds p2 A]
 |[],[],_::_,_,h=>h.elim
 |[],_::_,_,_,h=>h.elim
 |_::_,[],_,_,h=>h.elim
 |_::_,_::_,[],_,h=>h.elim
theorem Y1{f:FuncId}{fn:Func}{s:ChangeSpec}{tb:TypeId}{H:Type}{enc:TypeId×Value->H}{W:World}{args:Array Value}{ds gs:List (DataW H)}{before:List MemPlace}(ae:laidOutB P=true)(ag:(fn.params.toList.all λt=>P.readableRec t&&decide (t<P.types.size))=true)(V:fn.resultTypes= #[tb])(Z:P.underlying tb=some .bool)(E:s.vars=[])(aa:∀ds:List (DataW H),ds.length=fn.params.toList.length->s.fn H ds={results:=[.lit (.bool true)],args:=ds})(O:DataW.Whole enc P fn.params.toList s.vars false W args.toList ds gs before)(h:Calls P f args W λe z=>e= .returned (.bool true)/\Fr fW W z):
  Calls P f args W λe z=>∃v,e= .returned v/\s.post enc P fn false true false false W args v z:=by
 refine h.mono ?_;rintro e z ⟨rfl,ad⟩;refine⟨_,rfl,?_⟩;have D:=O;obtain⟨p,q,U,I,rfl,_,_⟩:=O;rw[E]at I;obtain⟨rfl,rfl⟩:=trodVars_none I;have L:=ad.below;have Y:=Ln _ _ _ _ U;have A:=aa ds Y;have ac:∀x∈p,x.block<W.heap.size:=λx hx=>D.lt x (by simp[hx]);refine⟨ds,[],p++[],[],p,[],D,?_,?_,?_,L.frame _,λh=>by cases h⟩
 .rw[jb,A,V];exact⟨[],[],shut_bool Z _,rfl,rfl⟩
 .rw[jb,A];refine KN ae L _ _ _ _ (λt ak=>?_) U ac;have:=i_.1 ag t ak;simpa using this
 .rw[jb,A,E];rfl
def tV:Gh:=⟨λ_=>0,λ_=>undef⟩
theorem Yh{f:FuncId}{I:List Nat}(E:gl P f pre (.fl true) I){W:World}{z:List Value}(L:ft [0] tV W pre z):
  Calls P f z.toArray W (λe A=>e= .returned (.bool true)/\Fr fW W A):=by
 refine(E W tV [0] z L).mono ?_;rintro e A ⟨v,rfl,D,cls,O⟩;refine⟨?_,D⟩;have:=O (da [0]) ⟨λ_=>0,λ_=>undef⟩ (λb _ _=>by simp[da]) (λb _ _ _ _=>by simp[da]);rw[dw.1 this]
theorem TS{W:World}:ft [0] tV W [] []:=trivial
theorem Dm[Rp α]{W:World}{z:List Value}(h:cX (λ_=>True) y v W)(k:ft [0] tV W pre z):ft [0] tV W (.rep 0 y::pre) (v::z):=
 ⟨h.mono (λ_ _ _=>by simp[tV,da]),k⟩
end
theorem bg{x:Int}(A: -9223372036854775808<=x)(z:x<=9223372036854775807):wI x=x:=by
 have h:wI x=(if x%18446744073709551616>=9223372036854775808 then x%18446744073709551616 - 18446744073709551616 else x%18446744073709551616):=by unfold wI yY;simp[qH,yZ]
 rw[h];split<;>omega
structure hZ where
 {α:Type}
 R:Rp α
 y:α
def mA(F:Nat->Prop):List hZ->List Value->World->Prop
 |[],cs,_=>cs=[]
 |e::es,cs,w=>∃c1 z,cs=c1++z/\e.R.rel F e.y c1 w/\mA F es z w
structure Ch{α:Type}[R:Rp α](y:α)(es:List hZ):Prop where
 ag:R.agg=true
 rel:∀F cs w,R.rel F y cs w↔mA F es cs w
structure ox{α:Type}[R:Rp α](y:α)(es:List hZ):Prop where
 rel:∀F cs w,R.rel F y cs w↔mA F es cs w
theorem ox.one[R:Rp α](y:α):ox y [⟨R,y⟩]:=⟨λF cs w=>by simp[mA]⟩
theorem ox.cons[A:Rp α][B:Rp β]{z:β}{es:List hZ}(h:ox z es):ox (y,z) (⟨A,y⟩::es):=
 ⟨λF cs w=>by show(∃c1 D,cs=c1++D/\A.rel F y c1 w/\B.rel F z D w)↔∃c1 D,cs=c1++D/\A.rel F y c1 w/\mA F es D w;simp only[h.rel]⟩
theorem Ch.via{B:Rp β}{f:α->β}{es:List hZ}(h: @ox β B (f y) es): @Ch α (Rp.dH B f) y es:=
 @Ch.mk α (Rp.dH B f) y es rfl (λF cs w=>h.rel F cs w)
abbrev Ls:=List (Bool×Nat×aa)
def bk(g:Gh)(w:World):Ls->List Value->Prop
 |[],cs=>cs=[]
 |l::ls,cs=>∃c1 z,cs=c1++z/\c1.length=l.2.1/\(∀c∈c1,c.oneCell'=true)/\(l.1=false->l.2.1=1)/\l.2.2.p g (cL l.1 c1) w/\bk g w ls z
theorem bk.aD{g g':Gh}{w w':World}:∀(ls:Ls) (cs:List Value),Jd (ls.flatMap λl=>l.2.2.bj) (ls.flatMap λl=>l.2.2.ids) g g' w w'->bk g w ls cs->bk g' w' ls cs
 |[],_,_,h=>h
 |l::ls,cs,A,h=>by obtain⟨c1,E,V,L,U,I,W,O⟩:=h;refine⟨c1,E,V,L,U,I,l.2.2.aD g g' _ w w' ⟨A.size,λb D z=>A.block b D (by simp[qM,z]),λt z=>A.ids t (by simp[qM,z])⟩ W,?_⟩;exact bk.aD ls E ⟨A.size,λb D z=>A.block b D (by rw[qM];exact gh _ z),λt z=>A.ids t (by rw[qM];exact gh _ z)⟩ O
theorem bk.one{g:Gh}{w:World}:∀(ls:Ls) (cs:List Value),bk g w ls cs->∀c∈cs,c.oneCell'=true
 |[],cs,h=>by rw[show cs=[] from h];simp
 |l::ls,cs,h=>by
  obtain⟨c1,D,rfl,_,E,_,_,A⟩:=h;intro c z;rcases dx.1 z with z|z
  .exact E c z
  .exact bk.one ls D A c z
def g7:Ls->Nat
 |[]=>0
 |l::ls=>l.2.1+g7 ls
theorem bk.len{g:Gh}{w:World}:∀(ls:Ls) (cs:List Value),bk g w ls cs->cs.length=g7 ls
 |[],cs,h=>by rw[show cs=[] from h];rfl
 |l::ls,cs,h=>by obtain⟨c1,z,rfl,A,_,_,_,D⟩:=h;rw[bY,A,bk.len ls z D];rfl
def aa.aK(ls:Ls):aa where
 bj:=ls.flatMap λl=>l.2.2.bj
 ids:=ls.flatMap λl=>l.2.2.ids
 p:=λg v w=>∃cs,v= .agg cs.toArray/\bk g w ls cs
 aD:=λg g' v w w' D h=>by obtain⟨cs,A,z⟩:=h;exact⟨cs,A,z.aD ls cs D⟩
def Cv(G:List It)(f f':aa):Prop:=∀a w g v,aQ G g a w->f.p g v w->f'.p g v w
theorem aV(h:Has G x f)(k:Cv G f f'):Has G x f':=λa w g z=>k a w g _ z (h a w g z)
theorem Cv.refl:Cv G f f:=λ_ _ _ _ _ h=>h
theorem bq{z:aa}(h:Cv G f f')(k:Cv G f' z):Cv G f z:=λa w g v A D=>k a w g v A (h a w g v A D)
theorem Cv.m[R:Rp α]{T:List Nat}(A:ep T T'=true):Cv G (aa.rep T y) (aa.rep T' y):=
 λ_ _ _ _ _ h=>cX.mono h (λ_ _ z=>fH A _ z)
theorem Cv.fl[R:Rp α][D:Flat α]{T:List Nat}:Cv G (aa.rep T y) (aa.rep T' y):=
 λ_ _ _ _ _ ⟨cs,A,z⟩=>⟨cs,D.flat _ _ _ _ _ _ A,z⟩
theorem Nq[R:Rp α]{te:List Nat}{e:TypeId}(h:(aa.own t te e l).p g v w):cX (λb=>g.om b∈t::te) l (g.ga t) w:=by
 obtain⟨xs,L,U,O⟩:=h;rcases L.2 with⟨al,am⟩|⟨b,Y,E,D,_,A,W,ao,an,I⟩
 .have:l=[]:=y8 am;subst this;rw[al];exact CK
 .rw[D];refine⟨_,⟨some ⟨b,0,none⟩,Y,rfl,W,λh=>(by cases h),?_⟩,rfl⟩;intro ad V i x hx;cases V;have Z:b<w.heap.size:=(Array.getElem?_eq_some_iff.1 A).1;have ac:g.om b=t:=O b (by rw[D];rfl);obtain⟨es,ak,ag⟩:=aR.get l xs U i x hx;refine⟨by simp[ac],Z,es,λj u ae=>?_,R.aD _ _ x es w w (bh _) (λb _ h=>⟨rfl,fM _ h⟩) ak⟩;have z:=ag j u ae;rw[Addr.nQ,Go.Addr.add_lit];simp only[dQ];refine⟨?_,frozen_of_row w b _ E e A⟩;rw[cell_of_row w b _ E e (0,0) A];rw[<-I]at z;rw[o8]at z;split at z
  .simpa using z
  .cases z
theorem Cv.own[R:Rp α]{te:List Nat}{e:TypeId}(z:ay G (rs t)=some (.own t te e l)):Cv G (.aL t) (aa.rep (t::te) l):=
 λa w g v D E=>by have A:=Nq (D _ _ z);show cX _ l v w;rw[show v=g.ga t from E];exact A
def aX(G:List It):Ls->Ls->Prop
 |[],[]=>True
 |l::ls,m::ms=>l.1=m.1/\l.2.1=m.2.1/\Cv G l.2.2 m.2.2/\aX G ls ms
 |_,_=>False
theorem aX.nil:aX G [] []:=trivial
theorem aX.cons{ag:Bool}{ls ms:Ls}(h:Cv G f f')(k:aX G ls ms):aX G ((ag,n,f)::ls) ((ag,n,f')::ms):=⟨rfl,rfl,h,k⟩
theorem di{ls ms:Ls}(h:aX G ls ms):Cv G (.aK ls) (.aK ms):=λa w g v Y Z=>by
 obtain⟨cs,A,E⟩:=Z;refine⟨cs,A,?_⟩;clear A;induction ls generalizing ms cs with
 |nil=>cases ms with
  |nil=>exact E
  |cons m ms=>exact h.elim
 |cons l ls W=>cases ms with
  |nil=>exact h.elim
  |cons m ms=>
   obtain⟨D,z,U,aa⟩:=h;obtain⟨c1,I,e1,e2,e3,L,V,O⟩:=E;exact⟨c1,I,e1,by rw[<-z];exact e2,e3,by rw[<-D,<-z];exact L,by rw[<-D];exact U a w g _ Y V,W aa I O⟩
def yp(T:List Nat)(es:List hZ):Ls:=es.map λe=>(e.R.agg,e.R.n, @aa.rep e.α e.R T e.y)
theorem Am{g:Gh}{w:World}{T:List Nat}:∀(es:List hZ) (cs:List Value),bk g w (yp T es) cs↔mA (λb=>g.om b∈T) es cs w
 |[],cs=>Iff.rfl
 |e::es,cs=>by
  constructor
  .rintro⟨c1,D,I,A,O,_,⟨ds,V,z⟩,Y⟩;have U:=e.R.len _ _ _ _ V;have:c1=ds:=by
    cases E:e.R.agg with
    |true=>simp[E,cL]at z;exact z
    |false=>
     have W:=e.R.na E;have L:c1.length=e.R.n:=A;simp only[E,cL]at z;rw[W]at U L
     match c1,ds,L,U with
     |[a],[b],_,_=>simp at z;rw[z]
   subst this;exact⟨c1,D,I,V,(Am es D).1 Y⟩
  .rintro⟨c1,D,I,A,O⟩;exact⟨c1,D,I,e.R.len _ _ _ _ A,e.R.one _ _ _ _ A,e.R.na,⟨c1,A,rfl⟩,(Am es D).2 O⟩
theorem Cv.Q2[R:Rp α]{T:List Nat}{es:List hZ}(h:Ch y es):Cv G (aa.rep T y) (.aK (yp T es)):=λa w g v E A=>by obtain⟨cs,D,z⟩:=A;exact⟨cs,by rw[z,h.ag];rfl,(Am es cs).2 ((h.rel _ _ _).1 D)⟩
theorem dG[R:Rp α]{T:List Nat}{es:List hZ}(h:Ch y es):Cv G (.aK (yp T es)) (aa.rep T y):=λa w g v E A=>by obtain⟨cs,D,z⟩:=A;exact⟨cs,(h.rel _ _ _).2 ((Am es cs).1 z),by rw[D,h.ag];rfl⟩
def aa.at(i:Nat)(f:aa):aa where
 bj:=f.bj
 ids:=i::f.ids
 p:=λg _ w=>f.p g (g.ga i) w
 aD:=λg g' v w w' z h=>by rw[z.ids i (by simp)];exact f.aD g g' _ w w' ⟨z.size,z.block,λt A=>z.ids t (fM _ A)⟩ h
def dJ(G:List It)(i:Nat)(f:aa):Prop:=∀a w g,aQ G g a w->f.p g (g.ga i) w
theorem aW(h:ay G (rs i)=some (.at i f)):dJ G i f:=λ_ _ _ z=>z _ _ h
theorem dJ.cv(h:dJ G i f)(k:Cv G f f'):dJ G i f':=λa w g z=>k a w g _ z (h a w g z)
theorem Has.at(h:dJ G i f):Has G x (.at i f):=h
def ki(t:Nat):Ls->List It->List It
 |[],G=>G
 |l::ls,G=> .ae (rs t) (.at t l.2.2)::ki (t+1) ls G
def ia:List Nat->List It->List It
 |[],G=>G
 |t::ts,G=> .bp t::ia ts G
abbrev Ps:=List (Bool×Nat)
def eT(g:Gh)(i:Nat):Ps->List Value->Prop
 |[],cs=>cs=[]
 |l::ls,cs=>∃c1 z,cs=c1++z/\c1.length=l.2/\(∀c∈c1,c.oneCell'=true)/\(l.1=false->l.2=1)/\g.ga i=cL l.1 c1/\eT g (i+1) ls z
def iX(t:Nat):Ps->List Nat
 |[]=>[]
 |_::ls=>t::iX (t+1) ls
theorem eT.aD{g g':Gh}:∀(ls:Ps) (i:Nat) (cs:List Value),(∀t,t∈iX i ls->g'.ga t=g.ga t)->eT g i ls cs->eT g' i ls cs
 |[],_,_,_,h=>h
 |l::ls,i,cs,z,h=>by obtain⟨c1,A,O,E,L,D,U,I⟩:=h;exact⟨c1,A,O,E,L,D,by rw[z i (by simp[iX])];exact U,eT.aD ls (i+1) A (λt V=>z t (by simp[iX,V])) I⟩
def kH:Ps->Nat
 |[]=>0
 |l::ls=>l.2+kH ls
theorem eT.len{g:Gh}:∀(ls:Ps) (i:Nat) (cs:List Value),eT g i ls cs->cs.length=kH ls
 |[],_,cs,h=>by rw[show cs=[] from h];rfl
 |l::ls,i,cs,h=>by obtain⟨c1,z,rfl,A,_,_,_,D⟩:=h;rw[bY,A,eT.len ls (i+1) z D];rfl
def aa.obj(t:Nat)(ps:Ps):aa where
 bj:=[t]
 ids:=t::iX (t+1) ps
 p:=λg _ w=>∃b ty cs,g.ga t= .pointer (some ⟨b,0,none⟩)/\w.heap[b]? =some (.cells cs ty (0,0))/\g.om b=t/\eT g (t+1) ps cs.toList
 aD:=λg g' v w w' z h=>by obtain⟨b,ty,cs,L,A,E,O⟩:=h;have I:b<w.heap.size:=(Array.getElem?_eq_some_iff.1 A).1;have D:=z.block b I (by rw[E];simp);exact⟨b,ty,cs,by rw[z.ids t (by simp)];exact L,by rw[D.1];exact A,by rw[D.2];exact E,O.aD ps (t+1) _ (λs U=>z.ids s (fM _ U))⟩
def partAt:Ps->Nat->Option (Nat×Bool×Nat)
 |[],_=>none
 |l::_,0=>some (0,l)
 |l::ls,i+1=>(partAt ls i).map λx=>(x.1+l.2,x.2)
theorem eT.part{g:Gh}:∀(ps:Ps) (t:Nat) (cs:List Value) (i:Nat) (off:Nat) (ag:Bool) (n:Nat),eT g t ps cs->partAt ps i=some (off,ag,n)->
  ∃c,g.ga (t+i)=cL ag c/\c.length=n/\off+n<=cs.length/\(∀j u,c[j]? =some u->cs[off+j]? =some u)
 |[],_,_,i,_,_,_,_,h=>by simp[partAt]at h
 |l::ls,t,cs,0,off,ag,n,A,h=>by obtain⟨c1,I,rfl,D,_,_,Y,_⟩:=A;simp only[partAt,Option.some.injEq,Prod.mk.injEq]at h;obtain⟨rfl,rfl⟩:=h;refine⟨c1,Y,D,by rw[bY];simp at D|-;omega,λj u z=>?_⟩;have L:j<c1.length:=(cy.1 z).1;rw[dQ,m8 L];exact z
 |l::ls,t,cs,i+1,off,ag,n,A,h=>by obtain⟨c1,I,rfl,D,_,_,_,V⟩:=A;simp only[partAt,iK]at h;obtain⟨⟨o,x⟩,O,E⟩:=h;simp only[Prod.mk.injEq]at E;obtain⟨rfl,rfl⟩:=E;obtain⟨c,W,Z,aa,U⟩:=eT.part ls (t+1) I i o ag n V O;refine⟨c,by rw[<-W];congr 1;omega,Z,by rw[bY];omega,λj u z=>?_⟩;rw[oY (by omega)];rw[show o+l.2+j - c1.length=o+j by omega];exact U j u z
variable {ls ls' ms:Ls}{ps:Ps}
structure mE(P:Program)(s:TypeId)(i off n:Nat):Prop where
 cE:∃fs f inf,P.underlying s=some (.struct fs)/\fs[i]? =some f/\f.offset=off/\P.info? f.type=some inf/\inf.size=n
 pos:0<n
theorem po{t:TypeId}[R:Rp α](h:Ty P t α){a:Addr}(D:eO w a cs)(z:cs.length=R.n):(loadVar t a).run P w= .ok (cL R.agg cs) w:=by
 unfold loadVar;simp only[cU,wq h,eA];cases I:R.agg with
 |true=>
  have A:=run_loadCells_list (P:=P) w a cs (λj v E=>(D j v E).1);rw[z]at A;simp[gD h,A,cL]
 |false=>
  have L:=R.na I;rw[L]at z
  match cs,z with
  |[c],_=>
   have:=(D 0 c rfl).1;simp only[Go.Addr.add_zero']at this;simp[cL,this]
theorem I6{s:TypeId}(h:mE P s i off n)(a:Addr)(w:World):
  (Instr.fieldAt s (.pointer (some a)) i).run P w= .ok (.pointer (some (a.add off))) w:=by
 obtain⟨fs,f,O,L,A,E,z,D⟩:=h.cE;have I:=h.pos;unfold Instr.fieldAt;simp only[cU,run_underlying L,eA,A,fL,gx];unfold fieldPlace;simp only[oX,typeInfo,z,cU];simp[z,D,E,Nat.pos_iff_ne_zero.1 I]
section
variable{d:Option Nat}
theorem Cv.eG(ho:ay G (rs t)=some (.obj t ps)):Cv G (.aL t) (.cJ t 0):=λa w g v A D=>by obtain⟨b,ty,cs,z,_⟩:=A _ _ ho;exact⟨b,by rw[z];rfl,by rw[show v=g.ga t from D,z]⟩
theorem ah.nm{s:TypeId}{o o':Nat}(h:mE X.P s i off n)(hx:Has G x (.cJ t o))(ho:o+off=o':=by rfl):ah X G ⟨d, .fieldAddr s x i,ty,pos,af,gd⟩ (.cJ t o'):=
 bL λa w g A=>by subst ho;obtain⟨b,z,D⟩:=hx a w g A;refine⟨.pointer (some ⟨b,o+off,none⟩),?_,b,z,rfl⟩;unfold execOp;simp only[D,Sem.run_bind,I6 h,Result.andThen_ok];rw[Go.Addr.add_lit];rfl
def qC:List hZ->Nat->Option (Nat×hZ)
 |[],_=>none
 |e::_,0=>some (0,e)
 |e::es,i+1=>(qC es i).map λx=>(x.1+e.R.n,x.2)
theorem mA.at{F:Nat->Prop}{w:World}:∀(es:List hZ) (cs:List Value) (i off:Nat) (e:hZ),mA F es cs w->qC es i=some (off,e)->
  ∃c,e.R.rel F e.y c w/\(∀j u,c[j]? =some u->cs[off+j]? =some u)
 |[],_,i,_,_,_,h=>by simp[qC]at h
 |l::ls,cs,0,off,e,A,h=>by obtain⟨c1,I,rfl,D,_⟩:=A;simp only[qC,Option.some.injEq,Prod.mk.injEq]at h;obtain⟨rfl,rfl⟩:=h;refine⟨c1,D,λj u z=>?_⟩;have L:j<c1.length:=(cy.1 z).1;rw[dQ,m8 L];exact z
 |l::ls,cs,i+1,off,e,A,h=>by obtain⟨c1,I,rfl,D,V⟩:=A;have Y:=l.R.len _ _ _ _ D;simp only[qC,iK]at h;obtain⟨⟨o,x⟩,O,E⟩:=h;simp only[Prod.mk.injEq]at E;obtain⟨rfl,rfl⟩:=E;obtain⟨c,W,U⟩:=mA.at ls I i o x V O;refine⟨c,W,λj u z=>?_⟩;rw[oY (by omega)];rw[show o+l.R.n+j - c1.length=o+j by omega];exact U j u z
theorem eO.sub{a:Addr}{c:List Value}(h:eO w a cs)(z:∀j u,c[j]? =some u->cs[off+j]? =some u):eO w (a.add off) c:=λj u A=>by rw[Addr.nQ];exact h _ _ (z j u A)
theorem ah.WQ{s:TypeId}{T:List Nat}[R:Rp α][W:Rp β]{z:β}{es:List hZ}(h:mE X.P s i off n)(O:Ch y es)(Z:qC es i=some (off,⟨W,z⟩))(hx:Has G x (aa.ptr T y)):ah X G ⟨d, .fieldAddr s x i,ty,pos,af,gd⟩ (aa.ptr T z):=
 bL λa w g V=>by obtain⟨ad,U,Y,L,cs,D,A⟩:=hx a w g V;obtain⟨c,I,E⟩:=mA.at es cs i off _ ((O.rel _ _ _).1 A) Z;refine⟨.pointer (some (ad.add off)),?_,ad.add off,rfl,by rw[Addr.jv];exact Y,by rw[Addr.jv];exact L,c,D.sub E,I⟩;unfold execOp;simp[U,I6 h]
theorem FG(h:(aa.obj t ps).p g v w){ag:Bool}(I:partAt ps i=some (off,ag,n)):
  ∃b c,g.ga t= .pointer (some ⟨b,0,none⟩)/\g.ga (t+1+i)=cL ag c/\c.length=n/\eO w ⟨b,off,none⟩ c:=by
 obtain⟨b,ty,cs,L,z,W,O⟩:=h;obtain⟨c,D,U,V,A⟩:=O.part ps (t+1) _ i off ag n I;refine⟨b,c,L,D,U,λj u E=>?_⟩;rw[Go.Addr.add_lit];refine⟨?_,frozen_of_row w b _ cs ty z⟩;rw[cell_of_row w b _ cs ty (0,0) z];have:=A j u E;simpa using this
theorem ic{e:TypeId}[R:Rp α](D:Ty X.P e α)(U:partAt ps i=some (off,R.agg,R.n))(hx:Has G x (.cJ t off))(ho:ay G (rs t)=some (.obj t ps))(O:dJ G (t+1+i) f):ah X G ⟨d, .load e x,ty,pos,af,gd⟩ f:=
 bL λa w g z=>by obtain⟨b,A,L⟩:=hx a w g z;obtain⟨Y,c,V,E,I,W⟩:=FG (z _ _ ho) U;rw[V]at A;simp only[ix,Option.some.injEq]at A;subst A;refine⟨cL R.agg c,?_,by rw[<-E];exact O a w g z⟩;unfold execOp;simp[L,lE,fL,po D W I]
def bJ(G:List It)(i:Nat):Ls->Prop
 |[]=>True
 |l::ls=>dJ G i l.2.2/\bJ G (i+1) ls
theorem bJ.nil:bJ G i []:=trivial
theorem bJ.cons{ag:Bool}(h:dJ G i f)(k:bJ G (i+1) ls):bJ G i ((ag,n,f)::ls):=⟨h,k⟩
def fk(ls:Ls):Ps:=ls.map λl=>(l.1,l.2.1)
theorem eT.aK{g:Gh}{a:Act}{w:World}(A:aQ G g a w):∀(ls:Ls) (t:Nat) (cs:List Value),bJ G t ls->eT g t (fk ls) cs->bk g w ls cs
 |[],_,_,_,h=>h
 |l::ls,t,cs,z,h=>by obtain⟨c1,D,U,I,O,E,V,L⟩:=h;exact⟨c1,D,U,I,O,E,by have:=z.1 a w g A;rw[V]at this;exact this,eT.aK A ls (t+1) D z.2 L⟩
theorem ah.FJ{e:TypeId}[R:Rp α](I:Ty X.P e α)(L:R.agg=true)(W:g7 ls=R.n)(hx:Has G x (.aL t))(ho:ay G (rs t)=some (.obj t (fk ls)))(Z:bJ G (t+1) ls):ah X G ⟨d, .load e x,ty,pos,af,gd⟩ (.aK ls):=
 bL λa w g z=>by
  have Y:a.eval x=g.ga t:=hx a w g z;obtain⟨b,A,cs,aa,D,ad,ac⟩:=z _ _ ho;have E:=ac.aK z ls _ _ Z;have U:=E.len;refine⟨cL R.agg cs.toList,?_,cs.toList,by rw[L];rfl,E⟩;unfold execOp;have O:eO w ⟨b,0,none⟩ cs.toList:=λj u V=>by rw[Go.Addr.add_lit];refine⟨?_,frozen_of_row w b _ cs A D⟩;rw[cell_of_row w b _ cs A (0,0) D];simpa using V
  simp[Y,aa,lE,fL,po I O (by rw[U,W])]
theorem ah.Wy(hx:Has G x (.aL t))(ho:ay G (rs t)=some (.obj t ps)):ah X G ⟨d, .nilCheck x,ty,pos,af,gd⟩ (.aL t):=
 bL λa w g z=>by have A:a.eval x=g.ga t:=hx a w g z;obtain⟨b,E,cs,D,_⟩:=z _ _ ho;refine⟨g.ga t,?_,rfl⟩;unfold execOp;simp[A,D]
def kG:Ls->Nat->Option (Nat×Bool×Nat×aa)
 |[],_=>none
 |l::_,0=>some (0,l)
 |l::ls,i+1=>(kG ls i).map λx=>(x.1+l.2.1,x.2)
end
def PV(g:Gh)(w:World):Ls->List Value->List Value->Prop
 |[],cs,z=>cs=[]/\z=[]
 |l::ls,cs,z=>∃c1 A v vr,cs=c1++A/\z=v::vr/\c1.length=l.2.1/\(∀c∈c1,c.oneCell'=true)/\(l.1=false->l.2.1=1)/\v=cL l.1 c1/\l.2.2.p g v w/\PV g w ls A vr
theorem bk.pv{g:Gh}{w:World}:∀(ls:Ls) (cs:List Value),bk g w ls cs->∃z,PV g w ls cs z
 |[],cs,h=>⟨[],h,rfl⟩
 |l::ls,cs,h=>by obtain⟨c1,A,U,E,L,D,V,I⟩:=h;obtain⟨z,O⟩:=bk.pv ls A I;exact⟨_::z,c1,A,_,z,U,rfl,E,L,D,rfl,V,O⟩
theorem PV.len{g:Gh}{w:World}:∀(ls:Ls) (cs z:List Value),PV g w ls cs z->z.length=ls.length
 |[],_,z,h=>by rw[h.2];rfl
 |l::ls,_,z,h=>by obtain⟨c1,A,v,vr,_,rfl,_,_,_,_,_,D⟩:=h;simp[PV.len ls A vr D]
def mP(ga:Nat->Value)(i:Nat)(z:List Value):Nat->Value:=λs=>if i<=s/\s<i+z.length then z.getD (s - i) undef else ga s
theorem pw(ga:Nat->Value)(i:Nat)(z:List Value)(j:Nat)(v:Value)(h:z[j]? =some v):mP ga i z (i+j)=v:=by have A:=(cy.1 h).1;unfold mP;rw[if_pos (by omega),Q3,show i+j - i=j by omega,h];rfl
theorem tp(ga:Nat->Value)(i:Nat)(z:List Value)(s:Nat)(h: ¬(i<=s/\s<i+z.length)):mP ga i z s=ga s:=if_neg h
theorem PV.vA{g g0:Gh}{w:World}:∀(ls:Ls) (cs z:List Value) (i:Nat),PV g w ls cs z->(∀j v,z[j]? =some v->g0.ga (i+j)=v)->eT g0 i (fk ls) cs
 |[],cs,z,i,h,_=>h.1
 |l::ls,cs,z,i,h,A=>by obtain⟨c1,D,v,vr,V,rfl,I,O,E,W,_,L⟩:=h;refine⟨c1,D,V,I,O,E,by rw[<-W];exact A 0 v rfl,PV.vA ls D vr (i+1) L (λj u U=>?_)⟩;rw[show i+1+j=i+(j+1) by omega];exact A (j+1) u (by simpa using U)
theorem AL:∀(ts:List Nat) (G:List It) (K z:List Nat) (s:Nat) (f:aa),eh (ia ts G) K z s=some f->∃A,(∀x,x∈z->x∈A)/\(∀x,x∈ts->x∈A)/\eh G K A s=some f
 |[],_,_,z,_,_,h=>⟨z,λ_ h=>h,(λx hx=>absurd hx (by simp)),h⟩
 |t::ts,G,K,z,s,f,h=>by
  obtain⟨A,D,E,I⟩:=AL ts G K (t::z) s f h;exact⟨A,λx hx=>D x (fM _ hx),λx hx=>by
   rcases fp.1 hx with rfl|hx
   .exact D _ (by simp)
   .exact E x hx,I⟩
theorem Vb(ts:List Nat)(h:aQ G g a w)(Y:w.heap.size<=w'.heap.size)(V:∀b,b<w.heap.size->w'.heap[b]? =w.heap[b]?)(L:∀b,b<w.heap.size->g'.om b=g.om b)(I:∀s,s∉ts->g'.ga s=g.ga s):aQ (ia ts G) g' a w':=λs f U=>by obtain⟨D,_,O,A⟩:=AL ts G [] [] s f U;have hd:=mH G [] D s f A;exact f.aD g g' _ w w' ⟨Y,λb z _=>⟨V b z,L b z⟩,λW E=>I W (λZ=>ju hd.2 (O _ Z) E)⟩ (h s f (kz G [] [] D [] s f (by simp) (by simp) A))
theorem sD(ts:List Nat)(h:aQ G g a w)(ac:w.heap.size<=w'.heap.size)(Z:∀b,b<w.heap.size->g.om b≠t->w'.heap[b]? =w.heap[b]?)(U:∀b,b<w.heap.size->g'.om b=g.om b)(O:∀s,s∉ts->g'.ga s=g.ga s):aQ (.av t::ia ts G) g' a w':=λs f W=>by have I:eh (ia ts G) [t] [] s=some f:=W;obtain⟨E,_,V,D⟩:=AL ts G [t] [] s f I;have hd:=mH G [t] E s f D;exact f.aD g g' _ w w' ⟨ac,λb A aa=>⟨Z b A (λz=>ju hd.1 (show t∈[t] by simp) (z▸aa)),U b A⟩,λY L=>O Y (λz=>ju hd.2 (V _ z) L)⟩ (h s f (kz G [t] [] E [] s f (by simp) (by simp) D))
theorem vC{G:List It}{g':Gh}{a:Act}{w':World}:∀(ls:Ls) (i:Nat),aQ G g' a w'->(∀(j:Nat) (l:Bool×Nat×aa),ls[j]? =some l->l.2.2.p g' (g'.ga (i+j)) w')->aQ (ki i ls G) g' a w'
 |[],_,h,_=>h
 |l::ls,i,h,z=>by refine aQ.db ?_ (λ_=>z 0 l rfl);exact vC ls (i+1) h (λj m A=>by rw[show i+1+j=i+(j+1) by omega];exact z (j+1) m (by simpa using A))
def jt(t:Nat)(lo n:Nat)(ls:Ls):Bool:=ls.all λl=>(l.2.2.ids.all λi=>bt i lo||bx (lo+n) i)&& !(l.2.2.bj.elem t)
theorem H5{lo:Nat}(h:jt t lo n ls=true){l:Bool×Nat×aa}(z:l∈ls):(∀i∈l.2.2.ids, ¬(lo<=i/\i<lo+n))/\t∉l.2.2.bj:=by
 have:=i_.1 h l z;simp only[gg,i_,Ey,Nat.ble_eq,fu,m6]at this;refine⟨λi A=>?_,?_⟩
 .have:=this.1 i A;omega
 .have:=this.2;simpa using this
theorem PV.facts{g g':Gh}{w w':World}{t lo n:Nat}:∀(ls:Ls) (cs I:List Value),PV g w ls cs I->jt t lo n ls=true->w.heap.size<=w'.heap.size->(∀b,b<w.heap.size->g.om b≠t->w'.heap[b]? =w.heap[b]?)->(∀b,b<w.heap.size->g'.om b=g.om b)->
  (∀s, ¬(lo<=s/\s<lo+n)->g'.ga s=g.ga s)->∀(j:Nat) (l:Bool×Nat×aa) (v:Value),ls[j]? =some l->I[j]? =some v->l.2.2.p g' v w'
 |[],_,_,_,_,_,_,_,_,j,l,v,z,_=>by simp at z
 |m::ls,cs,I,h,D,A,V,U,L,j,l,v,z,E=>by
  obtain⟨c1,ac,u,vr,al,rfl,ag,ak,ae,am,W,ad⟩:=h;cases j with
  |zero=>
   simp only[List.getElem?_cons_zero,Option.some.injEq]at z E;subst z E;have:=H5 D (l:=m) (by simp);exact m.2.2.aD g g' _ w w' ⟨A,λb O Y=>⟨V b O (λZ=>this.2 (Z▸Y)),U b O⟩,λs A=>L s (this.1 s A)⟩ W
  |succ j=>
   refine PV.facts ls ac vr ad ?_ A V U L j l v (by simpa using z) (by simpa using E);simp only[jt,List.all_cons,gg]at D|-;exact D.2
theorem qq:∀(ps:Ps) (i s:Nat),s∈iX i ps↔i<=s/\s<i+ps.length
 |[],i,s=>by simp only[iX,vl,List.length_nil,false_iff];omega
 |p::ps,i,s=>by simp only[iX,fp,qq ps (i+1) s,jq];omega
def eY(G:List It)(x:Operand)(ls:Ls):Prop:=∀a w g,aQ G g a w->∃cs,(a.eval x).cells=cs.toArray/\bk g w ls cs
theorem eY.aK(h:Has G x (.aK ls)):eY G x ls:=λa w g z=>by obtain⟨cs,D,A⟩:=h a w g z;exact⟨cs,by rw[D];rfl,A⟩
theorem eY.one[R:Rp α]{T:List Nat}(h:Has G x (aa.rep T y))(A:R.agg=false)(hx:Has G x f):eY G x [(false,1,f)]:=λa w g I=>by obtain⟨cs,z,E⟩:=h a w g I;have L:=z8 z;have D:=R.len _ _ _ _ z;have O:=R.one _ _ _ _ z;rw[R.na A]at D;refine⟨cs,by rw[E];exact L,cs,[],by simp,D,O,λ_=>rfl,?_,rfl⟩;have:=hx a w g I;rw[E,A]at this;exact this
theorem D6:∀(ts:List Nat) (G:List It),ia ts []++G=ia ts G
 |[],_=>rfl
 |t::ts,G=>by simp only[ia,kE,D6 ts G]
theorem CZ:∀(ls:Ls) (t:Nat) (H G:List It),ki t ls H++G=ki t ls (H++G)
 |[],_,_,_=>rfl
 |l::ls,t,H,G=>by simp only[ki,kE,CZ ls (t+1) H G]
section
variable{Q:Exit->Act->World->Prop}{rest:List Oper}{dO:Option Nat}
theorem au.Q1(t:Nat)(av:bx 10 t=true)(hd:bt d X.n=true)(an:o.dst=some d)(ad:fk ls=ps)(ap:jt t t (ls.length+1) ls=true)(L:∀a w g,aQ G g a w->∃e cs,bk g w ls cs/\(execOp a.eval o).run X.P w= .ok (.value (.pointer (some ⟨w.heap.size,0,none⟩))) (w.alloc (.cells cs.toArray e))):
 au X G o ([.ae d (.aL t), .ae (rs t) (.obj t ps)]++ki (t+1) ls (ia (t::iX (t+1) ps) [])):=λG' am a w env K Q aw=>by
 have Z:10<=t:=by simpa using av
 have aq:d<X.n:=by simpa [fu]using hd
 obtain⟨g,ak,aa⟩:=env.facts;have ay:=am a w g aa;obtain⟨e,cs,ao,L⟩:=L a w g ay;obtain⟨A,V⟩:=ao.pv ls cs;have aA:=PV.len ls cs A V;have ar:ps.length=ls.length:=by rw[<-ad];simp[fk]
 unfold dy;rw[L];refine aw _ _ ?_;rw[an,fE,CZ,D6];have D:∀b,b<w.heap.size->(w.alloc (.cells cs.toArray e)).heap[b]? =w.heap[b]? :=λb D=>RowKit.Below.heap_alloc w _ b D
 let I:Value:= .pointer (some ⟨w.heap.size,0,none⟩)
 let z:Gh:=cR g w.heap.size t I
 let g2:Gh:=⟨z.om,mP z.ga (t+1) A⟩
 have U:ff X (w.alloc (.cells cs.toArray e)) z:=ak.own Z env.fr.size;have W:g2.ga t=I:=by show mP z.ga (t+1) A t=I;rw[tp _ _ _ _ (by omega)];simp[z,cR]
 have ac:∀b,b<w.heap.size->g2.om b=g.om b:=λb D=>by simp[g2,z,cR,D]
 have Y:∀s, ¬(t<=s/\s<t+(ls.length+1))->g2.ga s=g.ga s:=λs al=>by
  show mP z.ga (t+1) A s=g.ga s;rw[tp _ _ _ _ (by omega)];have:s≠t:=by omega
  simp[z,cR,this]
 refine⟨by simp[Act.put,env.size],env.defers,Fr.own env.fr ak Z (.inr trivial) rfl rfl rfl (by simp) (λb O _=>D b O),g2,⟨⟨U.ok.ec,U.ok.new⟩,U.om⟩,?_⟩;refine aQ.put (by rw[env.size];exact aq) ?_ (show I=g2.ga t from W.symm);refine aQ.db ?_ (λv=>⟨w.heap.size,e,cs.toArray,W,heap_alloc_new w _,by simp[g2,z,cR],?_⟩)
 .refine vC ls (t+1) ?_ (λj l ag=>?_)
  .refine Vb _ aa (by simp) D ac (λs al=>Y s (λhx=>al ?_));simp only[fp,qq,ar];omega
  .have az:j<ls.length:=(cy.1 ag).1;obtain⟨v,E⟩:∃v,A[j]? =some v:=⟨_,ek (by omega)⟩;rw[show g2.ga (t+1+j)=v from pw _ _ _ _ _ E];exact PV.facts ls cs A V ap (by simp) (λb O _=>D b O) ac Y j l v ag E
 .rw[<-ad];exact PV.vA ls cs A (t+1) V (λj v E=>pw _ _ _ _ _ E)
theorem au.pR{e:TypeId}(t:Nat)(L:bx 10 t=true)(hd:bt d X.n=true)(A:fk ls=ps)(z:jt t t (ls.length+1) ls=true)(hx:eY G x ls):
  au X G ⟨some d, .box e x,ty,pos,af,none⟩ ([.ae d (.aL t), .ae (rs t) (.obj t ps)]++ki (t+1) ls (ia (t::iX (t+1) ps) [])):=
 au.Q1 t L hd rfl A z (λa w g E=>by obtain⟨cs,I,D⟩:=hx a w g E;refine⟨e,cs,D,?_⟩;unfold execOp;simp[Instr.box,newVar,newRow,I])
structure B2(P:Program)(e:TypeId)(ls:Ls):Prop where
 z':∃cs,((P.info? e).bind (·.zero)).map (·.cells)=some cs.toArray/\∀g w,bk g w ls cs
theorem B2.z{e:TypeId}(b:B2 P e ls):∃i A cs,P.info? e=some i/\i.zero=some A/\A.cells=cs.toArray/\∀g w,bk g w ls cs:=by obtain⟨cs,D,E⟩:=b.z';simp only[iK,qK]at D;obtain⟨A,⟨it,I,O⟩,L⟩:=D;exact⟨it,A,cs,I,O,L,E⟩
theorem au.UM{e:TypeId}(t:Nat)(V:bx 10 t=true)(hd:bt d X.n=true)(D:fk ls=ps)(A:jt t t (ls.length+1) ls=true)(U:B2 X.P e ls):
  au X G ⟨some d, .alloc e,ty,pos,af,none⟩ ([.ae d (.aL t), .ae (rs t) (.obj t ps)]++ki (t+1) ls (ia (t::iX (t+1) ps) [])):=
 au.Q1 t V hd rfl D A (λa w g Y=>by obtain⟨i,W,cs,L,E,I,O⟩:=U.z;refine⟨e,cs,O g w,?_⟩;unfold execOp;simp[Instr.alloc,zeroValue,typeInfo,L,E,newVar,newRow,I])
theorem eT.set{g g':Gh}:∀(ps:Ps) (t:Nat) (cs es:List Value) (i off:Nat) (ag:Bool) (n:Nat),eT g t ps cs->partAt ps i=some (off,ag,n)->es.length=n->(∀c∈es,c.oneCell'=true)->g'.ga (t+i)=cL ag es->
  (∀s,s≠t+i->g'.ga s=g.ga s)->eT g' t ps (cs.take off++es++cs.drop (off+n))
 |[],_,_,_,i,_,_,_,_,h,_,_,_,_=>by simp[partAt]at h
 |l::ls,t,cs,es,0,off,ag,n,O,h,E,U,L,z=>by obtain⟨c1,A,rfl,e1,e2,D,e3,I⟩:=O;simp only[partAt,Option.some.injEq,Prod.mk.injEq]at h;obtain⟨rfl,rfl⟩:=h;have Y:c1.length=n:=e1;refine⟨es,A,?_,E,U,D,L,eT.aD ls (t+1) A (λs W=>z s (by have:=(qq ls (t+1) s).1 W;omega)) I⟩;simp only[mi,gZ,dQ];rw[<-Y,y7]
 |l::ls,t,cs,es,i+1,off,ag,n,O,h,E,U,L,z=>by obtain⟨c1,A,rfl,e1,e2,D,e3,I⟩:=O;simp only[partAt,iK]at h;obtain⟨⟨o,x⟩,Z,V⟩:=h;simp only[Prod.mk.injEq]at V;obtain⟨rfl,rfl⟩:=V;have:=eT.set (g:=g) (g':=g') ls (t+1) A es i o ag n I Z E U (by rw[<-L];congr 1;omega) (λs W=>z s (by omega));refine⟨c1,_,?_,e1,e2,D,by rw[z t (by omega)];exact e3,this⟩;rw[show o+l.2=c1.length+o by omega,oZ,fm (by omega),show c1.length+o - c1.length=o by omega];rw[show c1.length+o+n=c1.length+(o+n) by omega,EA,kb (by omega),show c1.length+(o+n) - c1.length=o+n by omega];simp
theorem au.nj{e:TypeId}[R:Rp α]{T:List Nat}(aM:bx 10 t=true)(aH:Ty X.P e α)(al:partAt ps i=some (off,R.agg,R.n))(aB:Has G p (.cJ t off))(ho:ay G (rs t)=some (.obj t ps))(aJ:Has G x (aa.rep T y))(hx:Has G x f)(az:jt t (t+1+i) 1 [(R.agg,R.n,f)]=true):
 au X G ⟨none, .store e p x,ty,pos,af,none⟩ [.ae (rs (t+1+i)) (.at (t+1+i) f), .ae (rs t) (.obj t ps), .av t, .bp (t+1+i)]:=λG' aq a w env K Q aO=>by
 have aC:10<=t:=by simpa using aM
 obtain⟨g,L,ac⟩:=env.facts;have O:=aq a w g ac;obtain⟨b,z,aI⟩:=aB a w g O;obtain⟨A,ad,cs,Z,ao,ak,Y⟩:=O _ _ ho;rw[Z]at z;simp only[ix,Option.some.injEq]at z;subst z;obtain⟨aU,aR,aZ,aL,aY⟩:=Y.part ps (t+1) _ i off _ _ al;obtain⟨es,aw,ag,ar⟩:=pF (P:=X.P) aH ao (aJ a w g O) (show off+R.n<=cs.size by simpa using aL);have aN:=R.len _ _ _ _ ag;have U:=R.one _ _ _ _ ag;have aG:=hx a w g O;have W:=H5 az (l:=(R.agg,R.n,f)) (by simp);have ap:(execOp a.eval ⟨none, .store e p x,ty,pos,af,none⟩).run X.P w= .ok .skip (w.setRow A (cs.toList.take off++es++cs.toList.drop (off+R.n)).toArray):=by unfold execOp;simp only[aI,o9,fL,cU,gx,eA];rw[ar];rfl
 unfold dy;rw[ap];refine aO undef _ ?_;have z:∀b,b<w.heap.size->g.om b≠t->(w.setRow A (cs.toList.take off++es++cs.toList.drop (off+R.n)).toArray).heap[b]? =w.heap[b]? :=λb z aF=>setRow_other w A b _ (λh=>aF (by rw[h];exact ak));have I:(w.setRow A (cs.toList.take off++es++cs.toList.drop (off+R.n)).toArray).heap.size=w.heap.size:=by simp
 let g2:Gh:=⟨g.om,λs=>if s=t+1+i then a.eval x else g.ga s⟩
 have V:g2.ga (t+1+i)=a.eval x:=if_pos rfl;have E:∀s,s≠t+1+i->g2.ga s=g.ga s:=λs D=>if_neg D;refine⟨by simp[Act.put,env.size],env.defers,Fr.own env.fr L aC (.inr trivial) rfl rfl rfl (by rw[I];exact bh _) z,g2,⟨⟨L.ok.ec,λb U am=>L.ok.new b U (by rw[I]at am;exact am)⟩,L.om⟩,?_⟩;show aQ _ g2 a _;refine aQ.db ?_ (λv=>?_)
 .refine aQ.db ?_ (λv=>⟨A,ad,_,by rw[E t (by omega)];exact Z,setRow_heap w A cs _ ad (0,0) ao,ak,?_⟩)
  .exact sD [t+1+i] ac (by rw[I];exact bh _) z (λ_ _=>rfl) (λs D=>E s (by simpa using D))
  .have:=eT.set (g:=g) (g':=g2) ps (t+1) cs.toList es i off _ _ Y al aN U (by rw[V];exact aw) E;simpa using this
 .show f.p g2 (g2.ga (t+1+i)) _;rw[V];exact f.aD g g2 _ w _ ⟨by rw[I];exact bh _,λb aA aE=>⟨z b aA (λan=>W.2 (an▸aE)),rfl⟩,λs D=>E s (λan=>W.1 s D (by omega))⟩ aG
theorem ER:∀ls:Ls,kH (fk ls)=g7 ls
 |[]=>rfl
 |l::ls=>by have:=ER ls;simp only[fk,fh,kH,g7]at this|-;rw[this]
theorem au.Ms{e:TypeId}[R:Rp α](aH:bx 10 t=true)(aF:Ty X.P e α)(Z:fk ls=ps)(ap:g7 ls=R.n)(aB:Has G p (.aL t))(ho:ay G (rs t)=some (.obj t ps))(hx:eY G x ls)(aA:jt t (t+1) ls.length ls=true):
 au X G ⟨none, .store e p x,ty,pos,af,none⟩ ([.ae (rs t) (.obj t ps)]++ki (t+1) ls (.av t::ia (iX (t+1) ps) [])):=λG' ar a w env K Q aI=>by
 have aC:10<=t:=by simpa using aH
 obtain⟨g,L,ag⟩:=env.facts;have aa:=ar a w g ag;have A:a.eval p=g.ga t:=aB a w g aa;obtain⟨z,W,cs,ad,ao,al,aw⟩:=aa _ _ ho;obtain⟨es,az,Y⟩:=hx a w g aa;have ak:es.length=R.n:=by rw[Y.len,ap]
 have aN:cs.size=R.n:=by have:=aw.len;rw[Array.length_toList]at this;rw[this,<-ap,<-Z];exact ER ls
 have ac:=bk.one ls es Y;obtain⟨E,V⟩:=Y.pv ls es;have aM:=PV.len ls es E V;have aG:ps.length=ls.length:=by rw[<-Z];simp[fk]
 have aq:(execOp a.eval ⟨none, .store e p x,ty,pos,af,none⟩).run X.P w= .ok .skip (w.setRow z es.toArray):=by have D:=run_storeCells_at X.P z 0 W es 0 cs w ao (by omega) ac;simp only[ja,mi,gZ,dQ,ak]at D;rw[kb (by simp;omega),jb]at D;unfold execOp;simp only[A,ad,o9,fL,cU,gx,eA];unfold storeVar;simp[gD aF,az,ak,D]
 unfold dy;rw[aq];refine aI undef _ ?_;rw[fE,CZ];simp only[kE,gZ,D6];have O:∀b,b<w.heap.size->g.om b≠t->(w.setRow z es.toArray).heap[b]? =w.heap[b]? :=λb O aE=>setRow_other w z b _ (λh=>aE (by rw[h];exact al));have I:(w.setRow z es.toArray).heap.size=w.heap.size:=by simp
 let g2:Gh:=⟨g.om,mP g.ga (t+1) E⟩
 have U:∀s, ¬(t+1<=s/\s<t+1+ls.length)->g2.ga s=g.ga s:=λs an=>tp _ _ _ _ (by omega);refine⟨by simp[Act.put,env.size],env.defers,Fr.own env.fr L aC (.inr trivial) rfl rfl rfl (by rw[I];exact bh _) O,g2,⟨⟨L.ok.ec,λb ac D=>L.ok.new b ac (by rw[I]at D;exact D)⟩,L.om⟩,?_⟩;show aQ _ g2 a _;refine aQ.db ?_ (λv=>⟨z,W,_,by rw[U t (by omega)];exact ad,setRow_heap w z cs _ W (0,0) ao,al,?_⟩)
 .refine vC ls (t+1) ?_ (λj l am=>?_)
  .refine sD _ ag (by rw[I];exact bh _) O (λ_ _=>rfl) (λs an=>U s (λhx=>an ?_));rw[qq,aG];exact hx
  .have aJ:j<ls.length:=(cy.1 am).1;obtain⟨v,A⟩:∃v,E[j]? =some v:=⟨_,ek (by omega)⟩;rw[show g2.ga (t+1+j)=v from pw _ _ _ _ _ A];exact PV.facts (g':=g2) ls es E V aA (by rw[I];exact bh _) O (λ_ _=>rfl) U j l v am A
 .rw[<-Z];exact PV.vA ls es E (t+1) V (λj v A=>pw _ _ _ _ _ A)
end
class Sc(α:Type)[R:Rp α]where
 k:IntKind
 val:α->Int
 of:Int->α
 rel:∀(F:Nat->Prop) (x:α) (v:Value) (w:World),cX F x v w↔v= .int k (val x)
 wrap:∀n:Int,k.wrap n=val (of n)
instance:Sc Int:=⟨.i64,λx=>x,wI,λ_ _ _ _=>cD,λ_=>rfl⟩
instance:Sc UInt8:=⟨.u8,λx=>(x.toNat:Int),λn=>qG (n%256).toNat,λ_ _ _ _=>sd,λn=>by
 have h:IntKind.u8.wrap n=n%256:=by simp[yY,yZ,qH]
 rw[h];simp;omega⟩
instance:Sc UInt32:=⟨.u32,λx=>(x.toNat:Int),λn=>vk (n%4294967296).toNat,λ_ _ _ _=>pV,λn=>by
 have h:IntKind.u32.wrap n=n%4294967296:=by simp[yY,yZ,qH]
 rw[h];simp;omega⟩
section
variable{d:Option Nat}
theorem ah.nM{op:BinOp}{y:Operand}{t:TypeId}{T:List Nat}[R:Rp α][S:Sc α]{m n:α}[Rp β]{r:β}(hx:Has G x (aa.rep T m))(hy:Has G y (aa.rep T' n))(I:∀w,(binOp op t (.int S.k (S.val m)) (.int S.k (S.val n))).run X.P w= .ok v w)(D:∀w F,cX F r v w):
  ah X G ⟨d, .binOp op t x y t',ty,pos,af,gd⟩ (aa.rep [] r):=
 bL λa w g z=>⟨v,by have E:=(S.rel _ _ _ _).1 (hx a w g z);have A:=(S.rel _ _ _ _).1 (hy a w g z);unfold execOp;simp[E,A,eqGuard_at_int,I],D w _⟩
section
variable{y:Operand}{t:TypeId}{T:List Nat}[R:Rp α][S:Sc α]{m n:α}(hx:Has G x (aa.rep T m))(hy:Has G y (aa.rep T' n))
include hx hy
theorem ah.TZ:ah X G ⟨d, .binOp .eql t x y t',ty,pos,af,gd⟩ (aa.rep [] (S.val m==S.val n)):=
 ah.nM hx hy (λw=>by simp[binOp,lB];try rfl) (λ_ _=>dw.2 rfl)
theorem ah.Z0:ah X G ⟨d, .binOp .neq t x y t',ty,pos,af,gd⟩ (aa.rep [] (S.val m !=S.val n)):=
 ah.nM hx hy (λw=>by simp[binOp,lB];try rfl) (λ_ _=>dw.2 rfl)
theorem ah.XM:ah X G ⟨d, .binOp .lss t x y t',ty,pos,af,gd⟩ (aa.rep [] (decide (S.val m<S.val n))):=
 ah.nM hx hy (λw=>by simp[binOp,lB];try rfl) (λ_ _=>dw.2 rfl)
theorem ah.Y_:ah X G ⟨d, .binOp .leq t x y t',ty,pos,af,gd⟩ (aa.rep [] (decide (S.val m<=S.val n))):=
 ah.nM hx hy (λw=>by simp[binOp,lB];try rfl) (λ_ _=>dw.2 rfl)
theorem ah.XX:ah X G ⟨d, .binOp .gtr t x y t',ty,pos,af,gd⟩ (aa.rep [] (decide (S.val m>S.val n))):=
 ah.nM hx hy (λw=>by simp[binOp,lB];try rfl) (λ_ _=>dw.2 rfl)
theorem ah.Zz:ah X G ⟨d, .binOp .geq t x y t',ty,pos,af,gd⟩ (aa.rep [] (decide (S.val m>=S.val n))):=
 ah.nM hx hy (λw=>by simp[binOp,lB];try rfl) (λ_ _=>dw.2 rfl)
theorem ah.YE:ah X G ⟨d, .binOp .add t x y t',ty,pos,af,gd⟩ (aa.rep [] (S.of (S.val m+S.val n))):=
 ah.nM hx hy (λw=>by simp[binOp,Ez,S.wrap];try rfl) (λ_ _=>(S.rel _ _ _ _).2 rfl)
theorem ah.Ut:ah X G ⟨d, .binOp .sub t x y t',ty,pos,af,gd⟩ (aa.rep [] (S.of (S.val m - S.val n))):=
 ah.nM hx hy (λw=>by simp[binOp,Ez,S.wrap];try rfl) (λ_ _=>(S.rel _ _ _ _).2 rfl)
end
theorem ah.conv{s t:TypeId}{T:List Nat}[R:Rp α][S:Sc α][L:Rp β][z:Sc β]{m:α}{ds:TypeDesc}(I:X.P.underlying s=some ds)(E:X.P.underlying t=some (.int z.k))(hx:Has G x (aa.rep T m)):
  ah X G ⟨d, .convert s t x,ty,pos,af,gd⟩ (aa.rep [] (z.of (S.val m))):=
 bL λa w g A=>by have D:=(S.rel _ _ _ _).1 (hx a w g A);refine⟨.int z.k (z.val (z.of (S.val m))),?_,(z.rel _ _ _ _).2 rfl⟩;unfold execOp;simp only[D,convert,cU,run_underlying I,run_underlying E,eA];simp[Conv.intToInt,z.wrap]
theorem ah.Se{y:Operand}{t:TypeId}{T:List Nat}{m n:Bool}(hx:Has G x (aa.rep T m))(hy:Has G y (aa.rep T' n))(E:X.P.underlying t=some .bool):ah X G ⟨d, .binOp .eql t x y t',ty,pos,af,gd⟩ (aa.rep [] (m==n)):=
 bL λa w g z=>⟨.bool (m==n),by have D:=dw.1 (hx a w g z);have A:=dw.1 (hy a w g z);unfold execOp;simp[D,A,eqGuard_at_bool,binOp,run_equal_bool w t _ _ E,bne],dw.2 rfl⟩
theorem ah.Nw{y:Operand}{t:TypeId}{T:List Nat}{m n:Bool}(hx:Has G x (aa.rep T m))(hy:Has G y (aa.rep T' n))(E:X.P.underlying t=some .bool):ah X G ⟨d, .binOp .neq t x y t',ty,pos,af,gd⟩ (aa.rep [] (m !=n)):=
 bL λa w g z=>⟨.bool (m !=n),by have D:=dw.1 (hx a w g z);have A:=dw.1 (hy a w g z);unfold execOp;simp[D,A,eqGuard_at_bool,binOp,run_equal_bool w t _ _ E,bne],dw.2 rfl⟩
theorem ah.ZT(hx:Has G x (aa.eV f1 f2 f3)):ah X G ⟨d, .extract x 0,ty,pos,af,gd⟩ f1:=
 bL λa w g A=>by obtain⟨E,L,I,z,D,_,_⟩:=hx a w g A;exact⟨E,by unfold execOp;simp[z,nV],D⟩
theorem ah.ZS(hx:Has G x (aa.eV f1 f2 f3)):ah X G ⟨d, .extract x 1,ty,pos,af,gd⟩ f2:=
 bL λa w g E=>by obtain⟨L,A,I,D,_,z,_⟩:=hx a w g E;exact⟨A,by unfold execOp;simp[D,nV],z⟩
theorem ah.Ug(hx:Has G x (aa.eV f1 f2 f3)):ah X G ⟨d, .extract x 2,ty,pos,af,gd⟩ f3:=
 bL λa w g E=>by obtain⟨L,I,z,D,_,_,A⟩:=hx a w g E;exact⟨z,by unfold execOp;simp[D,nV],A⟩
def BP(G:List It)(pl:List (Nat×Nat))(ls:Ls)(us:List (Nat×Operand))(ls':Ls):Prop:=
 ∀a w g,aQ G g a w->∀cs,bk g w ls cs->∃z,m_ (pl.toArray[·]?) cs.toArray (us.map λu=>(u.1,a.eval u.2))=some z.toArray/\bk g w ls' z
theorem BP.nil:BP G pl ls [] ls:=λ_ _ _ _ cs h=>⟨cs,rfl,h⟩
theorem bk.set{g:Gh}{w:World}:∀(ls:Ls) (cs es:List Value) (i off:Nat) (ag:Bool) (n:Nat) (f0 f:aa),bk g w ls cs->kG ls i=some (off,ag,n,f0)->es.length=n->(∀c∈es,c.oneCell'=true)->f.p g (cL ag es) w->
  off+n<=cs.length/\bk g w (ls.set i (ag,n,f)) (cs.take off++es++cs.drop (off+n))
 |[],_,_,i,_,_,_,_,_,_,h,_,_,_=>by simp[kG]at h
 |l::ls,cs,es,0,off,ag,n,f0,f,I,h,D,L,E=>by obtain⟨c1,O,rfl,e1,e2,z,e3,A⟩:=I;simp only[kG,Option.some.injEq,Prod.mk.injEq]at h;obtain⟨rfl,rfl⟩:=h;have V:c1.length=n:=e1;refine⟨by rw[bY];omega,es,O,?_,D,L,z,E,A⟩;simp only[mi,gZ,dQ];rw[<-V,y7]
 |l::ls,cs,es,i+1,off,ag,n,f0,f,I,h,D,L,E=>by obtain⟨c1,O,rfl,e1,e2,z,e3,A⟩:=I;simp only[kG,iK]at h;obtain⟨⟨o,x⟩,W,U⟩:=h;simp only[Prod.mk.injEq]at U;obtain⟨rfl,rfl⟩:=U;obtain⟨Z,Y⟩:=bk.set ls O es i o ag n f0 f A W D L E;refine⟨by rw[bY];omega,c1,_,?_,e1,e2,z,e3,Y⟩;rw[show o+l.2.1=c1.length+o by omega,oZ,fm (by omega),show c1.length+o - c1.length=o by omega];rw[show c1.length+o+n=c1.length+(o+n) by omega,EA,kb (by omega),show c1.length+(o+n) - c1.length=o+n by omega];simp
theorem BP.cons[R:Rp α]{T:List Nat}(Z:kG ls i=some (off,R.agg,R.n,f0))(ac:pl[i]? =some (off,R.n))(ad:Has G x (aa.rep T y))(hx:Has G x f)(k:BP G pl (ls.set i (R.agg,R.n,f)) us ls'):BP G pl ls ((i,x)::us) ls':=λa w g D cs h=>by
 obtain⟨es,z,L⟩:=ad a w g D;have Y:=z8 z;have A:=R.len _ _ _ _ z;have ae:=R.one _ _ _ _ z;have E:=hx a w g D;rw[L]at E;obtain⟨ak,ag⟩:=bk.set ls cs es i off _ _ f0 f h Z A ae E;obtain⟨U,W,V⟩:=k a w g D _ ag;refine⟨U,?_,V⟩;rw[<-W];simp only[fh,m_];have O:pl.toArray[i]? =some (off,R.n):=by simpa using ac
 simp only[O,L,Y];rw[if_neg (by simp[A];omega)];have I:=yj es off cs.toArray 0 (by simp;omega);simp only[ja,A]at I;congr 1;apply Array.toList_inj.1;simpa using I
structure D_(P:Program)(t:TypeId)(pl:List (Nat×Nat))(ls:Ls):Prop where
 h':∃fs U,((P.info? t).bind (·.zero)).map (·.cells)=some U.toArray/\P.underlying t=some (.struct fs)/\(∀g w,bk g w ls U)/\
  fs.toList.mapM (λf=>(P.info? f.type).map λi=>(f.offset,i.size))=some pl
theorem D_.h{t:TypeId}(b:D_ P t pl ls):∃it fs z U,P.info? t=some it/\P.underlying t=some (.struct fs)/\it.zero=some z/\z.cells=U.toArray/\(∀g w,bk g w ls U)/\
  fs.toList.mapM (λf=>(P.info? f.type).map λi=>(f.offset,i.size))=some pl:=by
 obtain⟨fs,U,A,D,I,V⟩:=b.h';simp only[iK,qK]at A;obtain⟨z,⟨it,E,O⟩,L⟩:=A;exact⟨it,fs,z,U,E,D,O,L,I,V⟩
theorem ah.build{t:TypeId}{A:Array (Nat×Operand)}(ac:D_ X.P t pl ls)(hu:A=us.toArray)(h:BP G pl ls us ls'):
  ah X G ⟨d, .build t A,ty,pos,af,gd⟩ (.aK ls'):=
 bL λa w g V=>by
  obtain⟨it,fs,ad,U,W,D,L,Y,I,E⟩:=ac.h;obtain⟨z,O,Z⟩:=h a w g V U (I g w);refine⟨.agg z.toArray,?_,z,rfl,Z⟩;unfold execOp;have aa:X.P.built t ((A.map λ(i,x)=>(i,a.eval x)).toList)=some z.toArray:=by unfold Program.built;simp only[W,D,L,E,Y];rw[<-O,hu];simp
  simp only[cU,run_build w t _ _ aa,eA];simp
end
section
def yw(tmps:Array Value):ResultVar->Sem Value
 | .tmp t=>pure (tmps.getD t undef)
 | .cell p t=>do loadVar t (<-asAddr (tmps.getD p undef))
theorem m4(fn:Func)(tmps:Array Value):results fn tmps=(do
  let z<-fn.results.mapM (yw tmps)
  pure (if h:z.size=1 then z[0]else .tuple z)):=by
 unfold results;congr 1
def bW(P:Program)(G:List It)(r:ResultVar)(f:aa):Prop:=∀a w g,aQ G g a w->∃v,(yw a.tmps r).run P w= .ok v w/\f.p g v w
theorem bW.tmp(h:Has G (.tmp t) f):bW P G (.tmp t) f:=λa w g z=>⟨_,rfl,h a w g z⟩
theorem bW.cv{r:ResultVar}(h:bW P G r f)(k:Cv G f f'):bW P G r f':=λa w g z=>by obtain⟨v,D,A⟩:=h a w g z;exact⟨v,D,k a w g v z A⟩
theorem bW.obj{p:Nat}{e:TypeId}[R:Rp α](I:Ty P e α)(L:R.agg=true)(W:g7 ls=R.n)(hx:Has G (.tmp p) (.aL t))(ho:ay G (rs t)=some (.obj t (fk ls)))(Z:bJ G (t+1) ls):bW P G (.cell p e) (.aK ls):=λa w g z=>by
 have Y:a.tmps.getD p undef=g.ga t:=hx a w g z;obtain⟨b,A,cs,aa,D,ad,ac⟩:=z _ _ ho;have E:=ac.aK z ls _ _ Z;have U:=E.len;refine⟨cL R.agg cs.toList,?_,cs.toList,by rw[L];rfl,E⟩;have O:eO w ⟨b,0,none⟩ cs.toList:=λj u V=>by rw[Go.Addr.add_lit];refine⟨?_,frozen_of_row w b _ cs A D⟩;rw[cell_of_row w b _ cs A (0,0) D];simpa using V
 unfold yw;simp only[cU,Y,aa,asAddr,gx,eA,po I O (by rw[U,W])]
theorem bW.Va{p:Nat}{e:TypeId}[R:Rp α](D:Ty P e α)(A:R.agg=false)(hx:Has G (.tmp p) (.aL t))(ho:ay G (rs t)=some (.obj t [(false,1)]))(U:dJ G (t+1) f):bW P G (.cell p e) f:=λa w g z=>by have O:a.tmps.getD p undef=g.ga t:=hx a w g z;obtain⟨b,c,V,E,I,W⟩:=FG (i:=0) (off:=0) (n:=1) (ag:=false) (z _ _ ho) rfl;have L:=R.na A;refine⟨cL R.agg c,?_,by rw[A,<-E];exact U a w g z⟩;unfold yw;simp only[cU,O,V,asAddr,gx,eA,po D W (by rw[I,L])]
variable{fn:Func}{T:List (List Nat)}{w0:World}{om:Nat->Nat}{C:Nat->Prop}
theorem aH.PQ{r:ResultVar}(I:fn.results= #[r])(h:bW P G r (out.f (λc=>T.getD c []))):aH ⟨P,n,w0,C,om,none,[]⟩ G (bodyPost P fn (kP ⟨P,n,w0,C,om,none,[]⟩ out T)) .ret:=λa w e=>by obtain⟨g,A,D⟩:=e.facts;obtain⟨v,E,z⟩:=h a w g D;refine⟨e.defers,v,?_,_,rfl,e.fr,g,A,z⟩;rw[m4,I];simp[Array.mapM_eq_mapM_toList,nb,E]
theorem aH.wU{s1 s2:bm}{r1 r2:ResultVar}(V:fn.results= #[r1,r2])(U:bW P G r1 (s1.f (λc=>T.getD c [])))(E:bW P G r2 (s2.f (λc=>T.getD c []))):aH ⟨P,n,w0,C,om,none,[]⟩ G (bodyPost P fn (kP ⟨P,n,w0,C,om,none,[]⟩ (.cP s1 s2) T)) .ret:=λa w e=>by obtain⟨g,L,z⟩:=e.facts;obtain⟨Y,I,A⟩:=U a w g z;obtain⟨O,W,D⟩:=E a w g z;refine⟨e.defers, .tuple #[Y,O],?_,_,rfl,e.fr,g,L,_,_,rfl,A,D⟩;rw[m4,V];simp[Array.mapM_eq_mapM_toList,nb,I,W]
theorem aH.Vl{s1 s2 s3:bm}{r1 r2 r3:ResultVar}(aa:fn.results= #[r1,r2,r3])(Z:bW P G r1 (s1.f (λc=>T.getD c [])))(I:bW P G r2 (s2.f (λc=>T.getD c [])))(U:bW P G r3 (s3.f (λc=>T.getD c []))):aH ⟨P,n,w0,C,om,none,[]⟩ G (bodyPost P fn (kP ⟨P,n,w0,C,om,none,[]⟩ (.eV s1 s2 s3) T)) .ret:=λa w e=>by obtain⟨g,W,z⟩:=e.facts;obtain⟨ad,V,D⟩:=Z a w g z;obtain⟨Y,ac,E⟩:=I a w g z;obtain⟨L,O,A⟩:=U a w g z;refine⟨e.defers, .tuple #[ad,Y,L],?_,_,rfl,e.fr,g,W,_,_,_,rfl,D,E,A⟩;rw[m4,aa];simp[Array.mapM_eq_mapM_toList,nb,V,ac,O]
end
def fQ(g:Gh)(w:World):List aa->List Value->Prop
 |[],z=>z=[]
 |f::fs,z=>∃v vr,z=v::vr/\f.p g v w/\fQ g w fs vr
theorem fQ.aD{g g':Gh}{w w':World}:∀(fs:List aa) (D:List Value),Jd (fs.flatMap λf=>f.bj) (fs.flatMap λf=>f.ids) g g' w w'->fQ g w fs D->fQ g' w' fs D
 |[],_,_,h=>h
 |f::fs,D,A,h=>by
  obtain⟨v,vr,O,I,L⟩:=h;exact⟨v,vr,O,f.aD g g' _ w w' ⟨A.size,λb E z=>A.block b E (by simp[qM,z]),λt z=>A.ids t (by simp[qM,z])⟩ I,
   fQ.aD fs vr ⟨A.size,λb E z=>A.block b E (by rw[qM];exact gh _ z),λt z=>A.ids t (by rw[qM];exact gh _ z)⟩ L⟩
theorem fQ.app{g:Gh}{w:World}:∀(fs D:List aa) (A z:List Value),fQ g w fs A->fQ g w D z->fQ g w (fs++D) (A++z)
 |[],_,A,_,h,k=>by rw[show A=[] from h];exact k
 |f::fs,D,A,z,h,k=>by obtain⟨v,vr,rfl,E,I⟩:=h;exact⟨v,vr++z,rfl,E,fQ.app fs D vr z I k⟩
def aa.ef(k:FuncId)(fs cs:List aa):aa where
 bj:=(fs++cs).flatMap λf=>f.bj
 ids:=(fs++cs).flatMap λf=>f.ids
 p:=λg v w=>∃us D,v= .func (.func k) us.toArray D.toArray/\fQ g w fs us/\fQ g w cs D
 aD:=λg g' v w w' z h=>by
  obtain⟨us,D,L,O,I⟩:=h;rw[List.flatMap_append]at z;rw[List.flatMap_append]at z;exact⟨us,D,L,O.aD fs us ⟨z.size,λb E A=>z.block b E (gY _ A),λt A=>z.ids t (gY _ A)⟩,
   I.aD cs D ⟨z.size,λb E A=>z.block b E (gh _ A),λt A=>z.ids t (gh _ A)⟩⟩
def aa.da(z:Value)(f:aa):aa where
 bj:=f.bj
 ids:=f.ids
 p:=λg _ w=>f.p g z w
 aD:=λg g' _ w w' A h=>f.aD g g' z w w' A h
def p_(f:aa):Prop:=∀g v z w,f.p g v w->f.p g z w
section
variable{d:Option Nat}
def cl(G:List It):List Operand->List aa->Prop
 |[],fs=>fs=[]
 |x::xs,fs=>∃f fr,fs=f::fr/\Has G x f/\cl G xs fr
theorem cl.nil:cl G [] []:=rfl
theorem cl.cons{xs:List Operand}(h:Has G x f)(k:cl G xs fs):cl G (x::xs) (f::fs):=⟨f,fs,rfl,h,k⟩
theorem cl.all:∀(xs:List Operand) (fs:List aa),cl G xs fs->∀{a:Act} {w:World} {g:Gh},aQ G g a w->fQ g w fs (xs.map a.eval)
 |[],fs,h,_,_,_,_=>by rw[show fs=[] from h];rfl
 |x::xs,fs,h,a,w,g,z=>by obtain⟨f,fr,rfl,D,A⟩:=h;exact⟨_,_,rfl,D a w g z,cl.all xs fr A z⟩
theorem ah.makeFunc{k:FuncId}{xs ys:List Operand}{cs:List aa}{I ya:Array Operand}(E:I=xs.toArray)(D:ya=ys.toArray)(O:cl G xs fs)(L:cl G ys cs)(A:∀(us vs:Array Value) w,(Instr.makeFunc (.func k) us vs).run X.P w= .ok (.func (.func k) us vs) w):ah X G ⟨d, .makeFunc (.func k) I ya,ty,pos,af,gd⟩ (.ef k fs cs):=
 bL λa w g z=>by refine⟨.func (.func k) (xs.map a.eval).toArray (ys.map a.eval).toArray,?_,_,_,rfl,O.all xs fs z,L.all ys cs z⟩;unfold execOp;simp[E,D,A]
def fe(X:Cx)(G:List It)(o:Oper)(k:FuncId)(A:List aa):Prop:=
 ∀a w g,aQ G g a w->∃z,(execOp a.eval o).run X.P w= .ok (.enter k z.toArray) w/\fQ g w A z
theorem fe.fn{k:FuncId}{xs:List Operand}(A:enters X.P k=true)(h:cl G xs fs):
  fe X G ⟨d, .call {callee:= .value (.func k),args:=xs.toArray,argTypes:=ats},ty,pos,af,gd⟩ k fs:=λa w g z=>by
 refine⟨xs.map a.eval,?_,h.all xs fs z⟩;unfold execOp;simp[resolve,nT,Act.eval,invoke,mq A]
theorem fe.val{k:FuncId}{xs:List Operand}{us cs:List aa}(I:enters X.P k=true)(hx:Has G x (.ef k us cs))(h:cl G xs fs):
  fe X G ⟨d, .call {callee:= .value x,args:=xs.toArray,argTypes:=ats},ty,pos,af,gd⟩ k (us++(fs++cs)):=λa w g z=>by
 obtain⟨D,cv,E,L,A⟩:=hx a w g z;refine⟨D++(xs.map a.eval++cv),?_,L.app _ _ _ _ ((h.all xs fs z).app _ _ _ _ A)⟩;unfold execOp;simp[resolve,nT,E,invoke,mq I]
def pG(i:Nat):List aa->List It->List It
 |[],G=>G
 |f::fs,G=> .ae i f::pG (i+1) fs G
def Carry(G:List It)(u:Nat->Value)(Gc:List It):Prop:=∀a w g z,aQ G g a w->(∀s,a.tmps.getD s undef=u s)->aQ Gc g z w
theorem Carry.nil{u:Nat->Value}:Carry G u []:=λ_ _ _ _ _ _=>Ei
theorem Carry.slot{u:Nat->Value}{Gc:List It}{D s:Nat}(h:Has G (.tmp s) f)(k:Carry G u Gc):Carry G u (.ae (D+s) (.da (u s) f)::Gc):=λa w g A z hu=>
 aQ.db (k a w g A z hu) (λ_=>by have:=h a w g z;show f.p g (u s) w;rw[<-hu s];exact this)
theorem Carry.g_{u:Nat->Value}{Gc:List It}{s:Nat}(h:ay G s=some f)(D:p_ f)(k:Carry G u Gc):Carry G u (.ae s f::Gc):=λa w g A z hu=>
 aQ.db (k a w g A z hu) (λ_=>D _ _ _ _ (z s f h))
def jj{S:Type}(X:Cx)(J:S->List It)(F:S->Prop)(d:Option Nat)(u:Nat->Value):Ending->World->Prop:=λe w'=>
 ∃v,e= .returned v/\∃p,F p/\∀z:Act,z.tmps.size=X.n->z.defers=X.ds->(∀s,z.tmps.getD s undef=u s)->Env X (J p) (z.put d v) w'
theorem DC{G:List It}{g:Gh}{a:Act}{w:World}:∀(fs:List aa) (A:List Value) (i:Nat),aQ G g a w->fQ g w fs A->(∀j v,A[j]? =some v->a.tmps.getD (i+j) undef=v)->aQ (pG i fs G) g a w
 |[],_,_,h,_,_=>h
 |f::fs,A,i,h,L,D=>by
  obtain⟨v,vr,rfl,O,E⟩:=L;intro s f' z;rcases kO z with⟨rfl,rfl⟩|⟨_,z⟩
  .have:=D 0 v rfl;simp only[ja]at this;rw[this];exact O
  .exact DC fs vr (i+1) h E (λj x I=>by rw[show i+1+j=i+(j+1) by omega];exact D (j+1) x (by simpa using I)) s f' z
theorem fQ.len{g:Gh}{w:World}:∀(fs:List aa) (z:List Value),fQ g w fs z->z.length=fs.length
 |[],z,h=>by rw[show z=[] from h];rfl
 |f::fs,z,h=>by obtain⟨v,vr,rfl,_,A⟩:=h;simp[fQ.len fs vr A]
theorem br.inline{Q:Exit->Act->World->Prop}{rest:List Oper}(J:S->List It)(F:S->Prop)(Gc:(Nat->Value)->List It){k:FuncId}{fn:Func}{z:List aa}(ae:o.guard=none)(an:X.P.funcs[k]? =some fn)(ag:fn.body=some c)(am:fn.ntmps=n)(al:Nat.ble z.length n=true)(ad:fe X G o k z)(V:∀u,Carry G u (Gc u))(O:∀u:Nat->Value,aO ⟨X.P,n,X.w0,X.C,X.dE,none,[]⟩ (pG 0 z (Gc u)) c (bodyPost X.P fn (jj X J F o.dst u)))(U:∀p,F p->br X ops Q (J p) rest)(Z:eC o.op=true:=by rfl):br X ops Q G (o::rest):=λa w env=>
 wpListIn_plain ae λK ao=>sB Z<|by
  obtain⟨g,I,E⟩:=env.facts;obtain⟨A,W,D⟩:=ad a w g E;have ap:=fQ.len z A D;have aq:z.length<=n:=by simpa using al
  unfold Oper.wp;rw[W];refine Calls.mono (calls_of_wp an ag (R:=jj X J F o.dst (λs=>a.tmps.getD s undef)) (wpIn_wide (n:=0).1 (O (λs=>a.tmps.getD s undef) _ w ?_))) ?_
  .subst am;refine⟨by simp;omega,rfl,env.fr,g,⟨I.ok,I.om⟩,?_⟩;refine DC z A 0 (V _ a w g _ E (λ_=>rfl)) D (λj v L=>?_);have Y:j<A.length:=(List.getElem?_eq_some_iff.1 L).1;simp only[Nat.zero_add];rw[Array.getD_eq_getD_getElem?,Array.getElem?_append_left (by simpa using Y)];simp[L]
  .rintro e w' ⟨v,rfl,p,ac,ak⟩;exact ao _ _ (U p ac _ _ (ak a env.size env.defers (λ_=>rfl)))
def gB(G:List It)(z:Value)(f:aa):Prop:=∀a w g,aQ G g a w->f.p g z w
theorem gB.s{z:Value}{s:Nat}(h:ay G s=some (.da z f)):gB G z f:=λ_ _ _ A=>A _ _ h
theorem gB.cv{A:Value}(h:gB G A f)(k:Cv G f f'):gB G A f':=λa w g z=>k a w g _ z (h a w g z)
theorem Has.da{z:Value}(h:gB G z f):Has G x (.da z f):=h
def bK(G:List It)(u:Nat->Value)(d:Option Nat)(f0:aa)(J:List It):Prop:=
 ∀a w g (z:Act) v,aQ G g a w->f0.p g v w->(∀s,z.tmps.getD s undef=u s)->(∀e,d=some e->e<z.tmps.size)->aQ J g (z.put d v) w
theorem bK.nil{u:Nat->Value}:bK G u d f0 []:=λ_ _ _ _ _ _ _ _ _=>Ei
theorem bK.Ev{u:Nat->Value}{e:Nat}(k:bK G u (some e) f0 J):bK G u (some e) f0 (.ae e f0::J):=λa w g E v D A hu hd s f z=>by
 rcases kO z with⟨rfl,rfl⟩|⟨_,z⟩
 .rw[Act.GR (hd _ rfl),if_pos rfl];exact A
 .exact k a w g E v D A hu hd s f z
def oM:Option Nat->Nat->Bool
 |none,_=>true
 |some e,s=> !(ct e s)
theorem bK.slot{u:Nat->Value}{s:Nat}(O:oM d s=true)(h:gB G (u s) f)(k:bK G u d f0 J):bK G u d f0 (.ae s f::J):=λa w g D v A I hu hd L f' z=>by
 rcases kO z with⟨rfl,rfl⟩|⟨_,z⟩
 .have E:(D.put d v).tmps.getD s undef=u s:=by
   cases d with
   |none=>exact hu s
   |some e=>
    rw[Act.GR (hd _ rfl),if_neg (λU=>by subst U;simp[oM]at O)];exact hu s
  rw[E];exact h a w g A
 .exact k a w g D v A I hu hd L f' z
theorem bK.g_{u:Nat->Value}{s:Nat}(h:∀a w g v,aQ G g a w->f.p g v w)(k:bK G u d f0 J):bK G u d f0 (.ae s f::J):=λa w g A v z D hu hd=>
 aQ.db (k a w g A v z D hu hd) (λ_=>h a w g _ z)
theorem bK.ay{s:Nat}(h:ay G s=some f)(A:p_ f):∀a w g v,aQ G g a w->f.p g v w:=λa w g v z=>A _ _ _ _ (z s f h)
variable{J:S->List It}{F:S->Prop}{u:Nat->Value}{fn:Func}
theorem yH{p:S}(hd:∀e,d=some e->e<X.n)(env:Env ⟨X.P,n,X.w0,X.C,X.dE,none,[]⟩ G a w)(A:ff ⟨X.P,n,X.w0,X.C,X.dE,none,[]⟩ w g)(O:aQ G g a w)(L:f0.p g v w)(I:bK G u d f0 (J p))(z:Act)(D:z.tmps.size=X.n)(E:z.defers=X.ds)(hu:∀s,z.tmps.getD s undef=u s):Env X (J p) (z.put d v) w:=
 ⟨by cases d<;>simp[Act.put,D],by cases d<;>exact E,env.fr,g,⟨A.ok,A.om⟩,I a w g z v O L hu (λe U=>by rw[D];exact hd e U)⟩
def mg(d:Option Nat)(n:Nat):Bool:=match d with
 |none=>true
 |some e=>bt e n
theorem yR(h:mg d n=true):∀e,d=some e->e<n:=λe z=>by subst z;simpa [mg,fu]using h
theorem aH.XN{r:ResultVar}(p:S)(L:F p)(hd:mg d X.n=true)(U:fn.results= #[r])(h:bW X.P G r f0)(E:bK G u d f0 (J p)):
  aH ⟨X.P,n,X.w0,X.C,X.dE,none,[]⟩ G (bodyPost X.P fn (jj X J F d u)) .ret:=λa w e=>by
 obtain⟨g,I,z⟩:=e.facts;obtain⟨v,O,D⟩:=h a w g z;refine⟨e.defers,v,?_,v,rfl,p,L,λV W A hu=>yH (yR hd) e I z D E V W A hu⟩;rw[m4,U];simp[Array.mapM_eq_mapM_toList,nb,O]
theorem aH.XK(p:S)(I:F p)(hd:mg d X.n=true)(L:fn.results= #[])(h:∀g w,f0.p g (.tuple #[]) w)(A:bK G u d f0 (J p)):
  aH ⟨X.P,n,X.w0,X.C,X.dE,none,[]⟩ G (bodyPost X.P fn (jj X J F d u)) .ret:=λa w e=>by
 obtain⟨g,D,E⟩:=e.facts;refine⟨e.defers, .tuple #[],?_, .tuple #[],rfl,p,I,λO U z hu=>yH (yR hd) e D E (h g w) A O U z hu⟩;rw[m4,L];simp
theorem aH.U9{r1 r2:ResultVar}(p:S)(Y:F p)(hd:mg d X.n=true)(aa:fn.results= #[r1,r2])(Z:bW X.P G r1 f1)(O:bW X.P G r2 f2)(V:bK G u d (.cP f1 f2) (J p)):
  aH ⟨X.P,n,X.w0,X.C,X.dE,none,[]⟩ G (bodyPost X.P fn (jj X J F d u)) .ret:=λa w e=>by
 obtain⟨g,W,z⟩:=e.facts;obtain⟨D,U,I⟩:=Z a w g z;obtain⟨A,ac,L⟩:=O a w g z;refine⟨e.defers, .tuple #[D,A],?_,_,rfl,p,Y,λad ae E hu=>yH (f0:= .cP f1 f2) (yR hd) e W z ⟨D,A,rfl,I,L⟩ V ad ae E hu⟩;rw[m4,aa];simp[Array.mapM_eq_mapM_toList,nb,U,ac]
theorem aH.ZR{r1 r2 r3:ResultVar}(p:S)(Z:F p)(hd:mg d X.n=true)(W:fn.results= #[r1,r2,r3])(am:bW X.P G r1 f1)(ac:bW X.P G r2 f2)(ak:bW X.P G r3 f3)(al:bK G u d (.eV f1 f2 f3) (J p)):
  aH ⟨X.P,n,X.w0,X.C,X.dE,none,[]⟩ G (bodyPost X.P fn (jj X J F d u)) .ret:=λa w e=>by
 obtain⟨g,ad,z⟩:=e.facts;obtain⟨D,V,I⟩:=am a w g z;obtain⟨A,ae,L⟩:=ac a w g z;obtain⟨E,Y,U⟩:=ak a w g z;refine⟨e.defers, .tuple #[D,A,E],?_,_,rfl,p,Z,λaa ag O hu=>yH (f0:= .eV f1 f2 f3) (yR hd) e ad z ⟨D,A,E,rfl,I,L,U⟩ al aa ag O hu⟩;rw[m4,W];simp[Array.mapM_eq_mapM_toList,nb,V,ae,Y]
theorem eW{z:List It}(h:aH ⟨X.P,n,X.w0,X.C,X.dE,none,[]⟩ z (bodyPost X.P fn (jj X J F d u)) .ret):aH ⟨X.P,n,X.w0,X.C,X.dE,none,[]⟩ z (bodyPost X.P fn (jj X J F d u)) .normal:=h
end
def aa.dM:aa where
 bj:=[]
 ids:=[]
 p:=λ_ v _=>v= .slice none 0 0
 aD:=λ_ _ _ _ _ _ h=>h
theorem Has.dM:Has G (.const (.slice none 0 0)) .dM:=λ_ _ _ _=>rfl
theorem Cv.nil[Rp α]{T:List Nat}:Cv G .dM (aa.rep T ([]:List α)):=λ_ _ _ v _ h=>by rw[show v= .slice none 0 0 from h];exact CK
theorem bk.M(k:bk g w ls cs):bk g w ((false,1, .dM)::ls) (.slice none 0 0::cs):=
 ⟨[.slice none 0 0],cs,rfl,rfl,by simp[j_],λ_=>rfl,rfl,k⟩
theorem bk.zr[R:Rp α]{T:List Nat}(h:∀F w,R.rel F y [v] w)(k:bk g w ls cs)(z:R.agg=false:=by rfl):bk g w ((false,1,aa.rep T y)::ls) (v::cs):=
 ⟨[v],cs,rfl,rfl,λc A=>R.one _ _ _ w (h (λ_=>False) w) c A,λ_=>rfl,⟨[v],h _ w,by rw[z]⟩,k⟩
def aa.H6{α:Type}(l:List α):aa where
 bj:=[]
 ids:=[]
 p:=λ_ v _=>∃b:Bool,v= .bool b/\(b=true->l=[])
 aD:=λ_ _ _ _ _ _ h=>h
def ny.of(n:Int):UInt8:=qG (n%256).toNat
def dP.of(n:Int):UInt32:=vk (n%4294967296).toNat
section
variable{Q:Exit->Act->World->Prop}{d:Option Nat}
theorem ah.YQ[Rp α]{T:List Nat}{t e:TypeId}(E:X.P.underlying t=some (.slice e))(hx:Has G x (aa.rep T l)):
  ah X G ⟨d, .binOp .eql t x (.const (.slice none 0 0)) t',ty,pos,af,gd⟩ (.H6 l):=
 bL λa w g A=>by
  obtain⟨ad,c,D,_,z,_⟩:=jQ (hx a w g A);refine⟨.bool ad.isNone,?_,ad.isNone,rfl,λh=>?_⟩
  .unfold execOp;simp[D,eval_const,eqGuard_at_slice,binOp,run_equal_slice_nil w t e _ _ _ E]
  .cases ad with
   |none=>exact(z rfl).1
   |some _=>cases h
theorem aO.qv{x y:Code}(I:ay G t=some (.H6 l))(L:l=[]->aO X G x Q)(E:aO X G y Q):aO X G (.cond (.tmp t) x y) Q:=λa w e=>by obtain⟨g,_,z⟩:=e.facts;obtain⟨b,D,A⟩:=z t _ I;exact wpIn_cond_split (show a.eval (.tmp t)= .bool b from D) (λh=>L (A h) a w e) (λh=>E a w e)
theorem ah.XI{y:Operand}{T:List Nat}{m n:Int}{ts:Array TypeId}(hx:Has G x (aa.rep T m))(hy:Has G y (aa.rep T' n)):
  ah X G ⟨d, .call {callee:= .builtin .min,args:= #[x,y],argTypes:=ts},ty,pos,af,gd⟩ (aa.rep [] (min m n)):=
 bL λa w g z=>by
  have D:=cD.1 (hx a w g z);have A:=cD.1 (hy a w g z);refine⟨.int .i64 (min m n),?_,cD.2 rfl⟩;unfold execOp;have:(if n<m then n else m)=min m n:=by omega
  simp[resolve,invoke,builtin,D,A,Builtin.min_,Builtin.min2,this]
end
instance{α β:Type} [A:Rp α] [B:Rp β] [I:Flat α] [L:Flat β]:Flat (α×β):=⟨λF F' x cs w w' h=>by obtain⟨c1,O,E,z,D⟩:=h;exact⟨c1,O,E,I.flat _ _ _ _ _ _ z,L.flat _ _ _ _ _ _ D⟩⟩
def H8(P:Program)(fs:Array Field)(i off n:Nat):Bool:=
 match fs[i]? with
 |some f=>ct f.offset off&&(match P.info? f.type with
  |some z=>ct z.size n
  |none=>false)
 |none=>false
theorem mE.of{s:TypeId}{fs:Array Field}(hu:P.underlying s=some (.struct fs))(h:H8 P fs i off n=true)(E:bt 0 n=true):mE P s i off n:=by
 unfold H8 at h;cases z:fs[i]? with
 |none=>simp[z]at h
 |some f=>
  cases A:P.info? f.type with
  |none=>simp[z,A]at h
  |some D=>
   simp only[z,A,gg]at h;exact⟨⟨fs,f,D,hu,z,iI h.1,A,iI h.2⟩,by simpa [fu]using E⟩
section
variable{Q:Exit->Act->World->Prop}{rest:List Oper}{dO:Option Nat}
theorem au.od[R:Rp α](t:Nat){ts e:TypeId}(W:bx 10 t=true)(hd:bt d X.n=true)(E:gu X.P ts e α):
 au X G ⟨some d, .buildSlice ts 0 #[],ty,pos,af,none⟩ [.ae d (.aL t), .ae (rs t) (.own t [] e ([]:List α)), .bp t]:=λG' O a w env K Q Y=>by
 have D:10<=t:=by simpa using W
 have V:d<X.n:=by simpa [fu]using hd
 obtain⟨g,L,I⟩:=env.facts;have ad:=O a w g I;have U:(execOp a.eval ⟨some d, .buildSlice ts 0 #[],ty,pos,af,none⟩).run X.P w= .ok (.value (.slice (some ⟨w.heap.size,0,none⟩) 0 0)) (w.alloc (.cells #[] e)):=by
  unfold execOp;have Z:Array.range 0= #[]:=by apply Array.toList_inj.1;simp
  simp[Instr.buildSlice,run_underlying E.cE,gD E.el,m_,newRow,Z]
 unfold dy;rw[U];refine Y _ _ ?_;have z:∀b,b<w.heap.size->(w.alloc (.cells #[] e)).heap[b]? =w.heap[b]? :=λb z=>RowKit.Below.heap_alloc w _ b z;refine⟨by simp[Act.put,env.size],env.defers,Fr.own env.fr L D (.inr trivial) rfl rfl rfl (by simp) (λb A _=>z b A),
  cR g w.heap.size t (.slice (some ⟨w.heap.size,0,none⟩) 0 0),L.own D env.fr.size,?_⟩
 refine aQ.put (by rw[env.size];exact V) ?_ (by simp[aa.aL,cR]);refine aQ.db ?_ (λv=>⟨[],?_,rfl,?_⟩)
 .exact si I (by simp) (λb A=>z b A) (λb z=>by simp[cR,z]) (λs ac=>by simp[cR,ac])
 .refine⟨by simp, .inr ⟨w.heap.size,0, #[],by simp[cR],jM _,heap_alloc_new w _,bh _,jM _,by simp,by simp⟩⟩
 .simp only[cR,if_true];intro b A;simp only[kB,Option.some.injEq]at A;rw[if_neg (by omega)]
structure rl(P:Program)(t e:TypeId)(n m:Nat):Prop where
 cE:P.underlying t=some (.array n e)
 XL:(P.info? e).map (·.size)=some m
theorem rl.sz{t e:TypeId}{m:Nat}(h:rl P t e n m):∃i,P.info? e=some i/\i.size=m:=by simpa using h.XL
theorem ah.Ac{ts e:TypeId}{m o o':Nat}(h:rl X.P ts e n m)(D:Nat.blt i n=true)(hx:Has G x (.cJ t o))(ho:o+i * m=o':=by rfl):ah X G ⟨dO, .indexAddr ts x (.const (.int .i64 (i:Int))),ty,pos,af,gd⟩ (.cJ t o'):=
 bL λa w g I=>by
  subst ho;obtain⟨b,L,E⟩:=hx a w g I;obtain⟨U,A,z⟩:=h.sz;have O:i<n:=by simpa [Nat.blt_eq]using D
  refine⟨.pointer (some ⟨b,o+i * m,none⟩),?_,b,L,rfl⟩;unfold execOp;simp only[E,eval_const,Instr.indexAt,asIntOf,Sem.run_bind,Sem.run_pure,Result.andThen_ok,run_underlying h.cE,Instr.sureAddr,Sem.run_map];rw[if_pos (by omega)];simp only[Go.sizeOf,typeInfo,A,z];simp[A,z,Go.Addr.add_lit]
structure A3(P:Program)(t:TypeId)(pl:List (Nat×Nat))(ls:Ls):Prop where
 h':∃e n m U,((P.info? t).bind (·.zero)).map (·.cells)=some U.toArray/\P.underlying t=some (.array n e)/\(P.info? e).map (·.size)=some m/\(∀g w,bk g w ls U)/\pl=(m9 n).map λi=>(i * m,m)
theorem A3.h{t:TypeId}(b:A3 P t pl ls):∃it e n z A U,P.info? t=some it/\P.underlying t=some (.array n e)/\it.zero=some A/\P.info? e=some z/\A.cells=U.toArray/\(∀g w,bk g w ls U)/\
  ∀i x,pl[i]? =some x->x=(i * z.size,z.size):=by
 obtain⟨e,n,m,U,I,O,E,ad,Y⟩:=b.h';simp only[iK,qK]at I E;obtain⟨A,⟨it,V,ac⟩,aa⟩:=I;obtain⟨z,W,L⟩:=E;refine⟨it,e,n,z,A,U,V,O,ac,W,aa,ad,λi x hx=>?_⟩;rw[Y,lG]at hx;simp only[iK]at hx;obtain⟨j,Z,rfl⟩:=hx;have:=cy.1 Z;obtain⟨ae,D⟩:=this;simp at D;rw[L,D]
end
theorem M9{p q:Nat->Option (Nat×Nat)}(h:∀i x,p i=some x->q i=some x):∀(us:List (Nat×Value)) (cs r:Array Value),m_ p cs us=some r->m_ q cs us=some r
 |[],_,_,z=>z
 |(i,v)::us,cs,r,z=>by
  simp only[m_]at z|-;cases A:p i with
  |none=>simp[A]at z
  |some x=>
   rw[h i x A];simp only[A]at z;simp only;split at z
   .cases z
   .rename_i D;rw[if_neg D];exact M9 h us _ r z
section
variable{d:Option Nat}
theorem ah.yx{t:TypeId}{A:Array (Nat×Operand)}(ae:A3 X.P t pl ls)(hu:A=us.toArray)(h:BP G pl ls us ls'):
  ah X G ⟨d, .build t A,ty,pos,af,gd⟩ (.aK ls'):=
 bL λa w g Y=>by
  obtain⟨it,e,n,D,ag,U,Z,I,V,E,aa,O,L⟩:=ae.h;obtain⟨z,W,ac⟩:=h a w g Y U (O g w);refine⟨.agg z.toArray,?_,z,rfl,ac⟩;unfold execOp;have ad:X.P.built t ((A.map λ(i,x)=>(i,a.eval x)).toList)=some z.toArray:=by unfold Program.built;simp only[Z,I,V,E,aa];have:=M9 (q:=λi=>some (i * D.size,D.size)) (λi x hx=>by rw[L i x (by simpa using hx)]) _ _ _ W;rw[<-this,hu];simp
  simp only[cU,run_build w t _ _ ad,eA];simp
end
def aa.sl{α:Type}[R:Rp α](T Te:List Nat)(l:List α):aa where
 bj:=T++Te
 ids:=[]
 p:=λg v w=>ik (λb=>g.om b∈T) (λb=>g.om b∈Te) l v w
 aD:=λg g' v w w' D h=>ik.aD D.size
  (λb A z=>⟨(D.block b A (gY _ z)).1,by rw[(D.block b A (gY _ z)).2];exact z⟩)
  (λb A z=>⟨(D.block b A (gh _ z)).1,by rw[(D.block b A (gh _ z)).2];exact z⟩) h
def fx{α:Type}[R:Rp α](F Fe:Nat->Prop)(e:TypeId)(l:List α)(v:Value)(w:World):Prop:=
 ∃xs,w.ownsRow 0 e R.n v l.length xs/\aR Fe l xs w/\∀b,v.ownBlock=some b->F b
theorem fx.aD[R:Rp α]{F Fe':Nat->Prop}{e:TypeId}(aa:w.heap.size<=w'.heap.size)(I:∀b,b<w.heap.size->F b->w'.heap[b]? =w.heap[b]? /\F' b)(L:∀b,b<w.heap.size->Fe b->w'.heap[b]? =w.heap[b]? /\Fe' b)(h:fx F Fe e l v w):fx F' Fe' e l v w':=by
 obtain⟨xs,A,W,D⟩:=h;refine⟨xs,⟨A.1,?_⟩,aR.aD aa L l xs W,λb z=>(I b (A.lt b z).2 (D b z)).2⟩;rcases A.2 with Y|⟨b,U,O,E,Z,z,rest⟩
 .exact .inl Y
 .refine .inr ⟨b,U,O,E,Z,?_,rest⟩;have V:b<w.heap.size:=(Array.getElem?_eq_some_iff.1 z).1;rw[(I b V (D b (by rw[E];rfl))).1];exact z
theorem fx.sl[R:Rp α]{F:Nat->Prop}{e:TypeId}(h:fx F Fe e l v w):ik F Fe l v w:=by
 obtain⟨xs,L,U,O⟩:=h;rcases L.2 with⟨ag,ak⟩|⟨b,Y,E,D,_,A,W,am,al,I⟩
 .have:l=[]:=y8 ak;subst this;exact⟨none,0,ag,bh _,λ_=>⟨rfl,rfl⟩,λ_ h=>by cases h⟩
 .refine⟨some ⟨b,0,none⟩,Y,D,W,λh=>(by cases h),?_⟩;intro ad V i x hx;cases V;have Z:b<w.heap.size:=(Array.getElem?_eq_some_iff.1 A).1;obtain⟨es,ae,ac⟩:=aR.get l xs U i x hx;refine⟨O b (by rw[D];rfl),Z,es,λj u aa=>?_,ae⟩;have z:=ac j u aa;rw[Addr.nQ,Go.Addr.add_lit];simp only[dQ];refine⟨?_,frozen_of_row w b _ E e A⟩;rw[cell_of_row w b _ E e (0,0) A];rw[<-I]at z;rw[o8]at z;split at z
  .simpa using z
  .cases z
theorem fx.nil[R:Rp α]{F:Nat->Prop}{e:TypeId}:fx F Fe e ([]:List α) (.slice none 0 0) w:=
 ⟨[],World.ownsRow_nil w 0 e R.n,rfl,λb z=>by cases z⟩
def aa.ow{α:Type}[R:Rp α](T te:List Nat)(e:TypeId)(l:List α):aa where
 bj:=T++te
 ids:=[]
 p:=λg v w=>fx (λb=>g.om b∈T) (λb=>g.om b∈te) e l v w
 aD:=λg g' v w w' D h=>fx.aD D.size
  (λb A z=>⟨(D.block b A (gY _ z)).1,by rw[(D.block b A (gY _ z)).2];exact z⟩)
  (λb A z=>⟨(D.block b A (gh _ z)).1,by rw[(D.block b A (gh _ z)).2];exact z⟩) h
section
variable[R:Rp α]{T te:List Nat}{e:TypeId}
theorem Cv.iS:Cv G (aa.ow T te e l) (aa.sl T te l):=λ_ _ _ _ _ h=>fx.sl h
theorem Cv.iR(D:ep T T'=true)(A:ep te T'=true):Cv G (aa.sl T te l) (aa.rep T' l):=λ_ _ _ _ _ h=>ik.rep (λ_ z=>fH D _ z) (λ_ z=>fH A _ z) h
theorem Cv.Gp(D:ep T T'=true)(A:ep te te'=true):Cv G (aa.sl T te l) (aa.sl T' te' l):=λ_ _ _ _ _ h=>
 ik.aD (bh _) (λ_ _ z=>⟨rfl,fH D _ z⟩) (λ_ _ z=>⟨rfl,fH A _ z⟩) h
theorem Cv.gT(D:ep T T'=true)(A:ep te te'=true):Cv G (aa.ow T te e l) (aa.ow T' te' e l):=λ_ _ _ _ _ h=>
 fx.aD (bh _) (λ_ _ z=>⟨rfl,fH D _ z⟩) (λ_ _ z=>⟨rfl,fH A _ z⟩) h
theorem Cv.FT[E:Flat α](U:ep T T'=true):Cv G (aa.sl T te l) (aa.sl T' te' l):=λ_ _ _ _ _ h=>by obtain⟨a,c,A,I,W,D⟩:=h;refine⟨a,c,A,I,W,λad L i x hx=>?_⟩;obtain⟨O,z,es,Y,V⟩:=D ad L i x hx;exact⟨fH U _ O,z,es,Y,E.flat _ _ _ _ _ _ V⟩
theorem Cv.d_[L:Flat α](D:ep T T'=true):Cv G (aa.ow T te e l) (aa.ow T' te' e l):=λ_ _ _ _ _ h=>by obtain⟨xs,z,A,E⟩:=h;exact⟨xs,z,aR.flat l xs A,λb I=>fH D _ (E b I)⟩
theorem Cv.Ql:Cv G .dM (aa.sl T te ([]:List α)):=λ_ w g v _ h=>by rw[show v= .slice none 0 0 from h];show ik (λb=>g.om b∈T) (λb=>g.om b∈te) ([]:List α) _ w;exact fx.sl (α:=α) (e:=0) fx.nil
theorem Cv.OD:Cv G .dM (aa.ow T te e ([]:List α)):=λ_ _ _ v _ h=>by rw[show v= .slice none 0 0 from h];exact fx.nil
theorem Cv.qd(z:ay G (rs t)=some (.own t te e l)):Cv G (.aL t) (aa.ow [t] te e l):=λa w g v I E=>by obtain⟨xs,L,A,D⟩:=I _ _ z;rw[show v=g.ga t from E];exact⟨xs,L,A,λb O=>by simp[D b O]⟩
end
def oc(T:Tg):Option Nat->List Nat
 |none=>[]
 |some c=>T c
def bm.sl{α:Type}[Rp α](c:Nat)(D:Option Nat)(l:List α):bm where
 f:=λT=>aa.sl (T c) (oc T D) l
 tg:=λT t h=>(dx.1 h).elim (λh=>⟨c,h⟩) (λh=>by cases D with
  |none=>cases h
  |some d=>exact⟨d,h⟩)
 gK:=λ_=>rfl
 re:=λT T' g g' v w E h=>ik.aD (bh _) (λb A z=>⟨rfl,E c b A z⟩) (λb A z=>⟨rfl,by cases D with
  |none=>cases z
  |some d=>exact E d b A z⟩) h
def bm.own{α:Type}[Rp α](c:Nat)(D:Option Nat)(e:TypeId)(l:List α):bm where
 f:=λT=>aa.ow (T c) (oc T D) e l
 tg:=λT t h=>(dx.1 h).elim (λh=>⟨c,h⟩) (λh=>by cases D with
  |none=>cases h
  |some d=>exact⟨d,h⟩)
 gK:=λ_=>rfl
 re:=λT T' g g' v w E h=>fx.aD (bh _) (λb A z=>⟨rfl,E c b A z⟩) (λb A z=>⟨rfl,by cases D with
  |none=>cases z
  |some d=>exact E d b A z⟩) h
abbrev Ss:=List (Bool×Nat×bm)
def nH(T:Tg)(z:Ss):Ls:=z.map λl=>(l.1,l.2.1,l.2.2.f T)
theorem GS{T T':Tg}{g g':Gh}{w:World}(A:∀c b,b<w.heap.size->g.om b∈T c->g'.om b∈T' c):∀(z:Ss) (cs:List Value),bk g w (nH T z) cs->bk g' w (nH T' z) cs
 |[],_,h=>h
 |s::z,cs,h=>by obtain⟨c1,D,U,I,O,E,V,L⟩:=h;exact⟨c1,D,U,I,O,E,s.2.2.re T T' g g' _ w A V,GS A z D L⟩
def bm.aK(z:Ss):bm where
 f:=λT=>aa.aK (nH T z)
 tg:=λT t h=>by obtain⟨x,hx,I⟩:=List.mem_flatMap.1 h;obtain⟨s,L,rfl⟩:=gm.1 hx;exact s.2.2.tg T t I
 gK:=λT=>by show((nH T z).flatMap λl=>l.2.2.ids)=[];rw[List.flatMap_eq_nil_iff];intro x hx;obtain⟨s,L,rfl⟩:=gm.1 hx;exact s.2.2.gK T
 re:=λT T' g g' v w D h=>by obtain⟨cs,A,E⟩:=h;exact⟨cs,A,GS D z cs E⟩
def Ad(X:Cx)(G G':List It):Prop:=∀a w,Env X G a w->Env X G' a w
section
variable{G':List It}{Q:Exit->Act->World->Prop}{rest:List Oper}
theorem ei(h:Ad X G G')(k:aO X G' c Q):aO X G c Q:=λa w e=>k a w (h a w e)
theorem br.ad(h:Ad X G G')(k:br X ops Q G' rest):br X ops Q G rest:=λa w e=>k a w (h a w e)
theorem aH.ad{e:Exit}(h:Ad X G G')(k:aH X G' Q e):aH X G Q e:=λa w env=>k a w (h a w env)
end
def fV:List Nat->List It->List It
 |[],G=>G
 |t::ts,G=> .av t::fV ts G
theorem Ds:∀(ts:List Nat) (G:List It) (K A:List Nat) (s:Nat) (f:aa),eh (fV ts G) K A s=some f->∃z,(∀x,x∈K->x∈z)/\(∀x,x∈ts->x∈z)/\eh G z A s=some f
 |[],_,K,_,_,_,h=>⟨K,λ_ h=>h,(λ_ h=>nomatch h),h⟩
 |t::ts,G,K,A,s,f,h=>by
  simp only[fV,eh]at h;obtain⟨z,D,E,I⟩:=Ds ts G (t::K) A s f h;exact⟨z,λx hx=>D x (fM _ hx),λx hx=>by
   rcases fp.1 hx with rfl|hx
   .exact D _ (by simp)
   .exact E x hx,I⟩
theorem Aw{T:List Nat}(h:aQ G g a w)(O:∀b,g.om b∉T->g'.om b=g.om b)(E:∀s,s≠t->g'.ga s=g.ga s):aQ (.bp t::fV T G) g' a w:=λs f Y=>by have L:eh (fV T G) [] [t] s=some f:=Y;obtain⟨z,_,U,A⟩:=Ds T G [] [t] s f L;have hd:=mH G z [t] s f A;have Z:=ju hd.2 (show t∈[t] by simp);have I:ay G s=some f:=kz G z [] [t] [] s f (by simp) (by simp) A;refine f.aD g g' _ w w ⟨bh _,λb _ W=>⟨rfl,O b (λV=>ju hd.1 (U _ V) W)⟩,λaa D=>E aa (λac=>Z (ac▸D))⟩ (h s f I)
def ev{α:Type}[R:Rp α](T te:List Nat):Prop:=∀(x:α) (es:List Value) (g g':Gh) (w:World),(∀b,g.om b∉T->g'.om b=g.om b)->R.rel (λb=>g.om b∈te) x es w->R.rel (λb=>g'.om b∈te) x es w
theorem ev.flat[R:Rp α][z:Flat α]{T te:List Nat}:ev (α:=α) T te:=λ_ _ _ _ _ _ h=>z.flat _ _ _ _ _ _ h
theorem ev.bj[R:Rp α]{T te:List Nat}(h:dX te T=true):ev (α:=α) T te:=λx es g g' w E A=>
 R.aD _ _ x es w w (bh _) (λb _ z=>⟨rfl,by rw[E b (λD=>ju h D z)];exact z⟩) A
theorem ev.rel{α:Type}[R:Rp α]{T te:List Nat}(h:ev (α:=α) T te){g g':Gh}{w:World}(z:∀b,g.om b∉T->g'.om b=g.om b):∀(l:List α) (cs:List Value),aR (λb=>g.om b∈te) l cs w->aR (λb=>g'.om b∈te) l cs w
 |[],_,k=>k
 |x::l,cs,k=>by obtain⟨c1,A,E,I,D⟩:=k;exact⟨c1,A,E,h x c1 g g' w z I,ev.rel h z l A D⟩
section
variable[R:Rp α]{T te:List Nat}{e:TypeId}
def jV:List Nat->Bool
 |[]=>true
 |t::ts=>bx 10 t&&jV ts
theorem nB{ts:List Nat}(h:jV ts=true)(z:t∈ts):10<=t:=by
 induction ts with
 |nil=>cases z
 |cons u ts A=>
  simp only[jV,gg]at h;rcases fp.1 z with rfl|z
  .simpa using h.1
  .exact A h.2 z
def jg(g:Gh)(t:Nat)(v:Value)(o:Option Nat):Gh:=⟨λb=>if o=some b then t else g.om b,λu=>if u=t then v else g.ga u⟩
theorem ff.re(h:ff X w g){o:Option Nat}(E:10<=t)(ho:∀b,o=some b->10<=g.om b):ff X w (jg g t v o):=by
 have A:∀b,b<X.w0.heap.size-> ¬o=some b:=λb z I=>by have:=ho b I;have:=h.ok.ec b z;omega
 refine⟨⟨λb z=>?_,λb z D=>?_⟩,λb z=>?_⟩
 .simp only[jg];rw[if_neg (A b z)];exact h.ok.ec b z
 .simp only[jg];split
  .exact E
  .exact h.ok.new b z D
 .simp only[jg];rw[if_neg (A b z)];exact h.om b z
theorem ML(D:ev (α:=α) T te)(h:fx (λb=>g.om b∈T) (λb=>g.om b∈te) e l v w):
  (∀b,v.ownBlock=some b->g.om b∈T)/\∃xs,w.ownsRow 0 e R.n v l.length xs/\aR (λb=>(jg g t v v.ownBlock).om b∈te) l xs w/\∀b,v.ownBlock=some b->(jg g t v v.ownBlock).om b=t:=by
 obtain⟨xs,I,E,A⟩:=h;refine⟨A,xs,I,D.rel (λb z=>?_) l xs E,λb z=>if_pos z⟩;exact if_neg (λL=>z (A b L))
theorem Ad.ow{s:Nat}(t:Nat)(W:bx 10 t=true)(V:jV T=true)(O:ev (α:=α) T te)(I:ay G s=some f)(Y:Cv G f (aa.ow T te e l)):
  Ad X G (.ae s (.aL t):: .ae (rs t) (.own t te e l):: .bp t::fV T G):=λa w env=>by
 obtain⟨g,ac,E⟩:=env.facts;obtain⟨L,xs,ad,U,Z⟩:=ML (t:=t) O (Y a w g _ E (E s _ I));have A:(jg g t (a.tmps.getD s undef) (a.tmps.getD s undef).ownBlock).ga t=a.tmps.getD s undef:=if_pos rfl;refine⟨env.size,env.defers,env.fr,jg g t (a.tmps.getD s undef) (a.tmps.getD s undef).ownBlock,ac.re (by simpa using W) (λb z=>nB V (L b z)),?_⟩;have z:aQ (.ae (rs t) (.own t te e l):: .bp t::fV T G) (jg g t (a.tmps.getD s undef) (a.tmps.getD s undef).ownBlock) a w:=
  aQ.db (Aw E (λb z=>if_neg (λak=>z (L b ak))) (λ_ I=>if_neg I)) (λv=>⟨xs,by rw[A];exact ad,U,by rw[A];exact Z⟩)
 intro ag f' D;rcases kO D with⟨rfl,rfl⟩|⟨_,D⟩
 .exact A.symm
 .exact z ag f' D
theorem Ad.d_(t:Nat)(O:ct i t=false)(ag:bx 10 t=true)(W:jV T=true)(U:ev (α:=α) T te)(E:ay G (rs i)=some (.at i f))(Z:Cv G f (aa.ow T te e l)):
  Ad X G (.ae (rs i) (.at i (.aL t)):: .ae (rs t) (.own t te e l):: .bp t::fV T G):=λa w env=>by
 have L:i≠t:=λh=>by subst h;simp at O
 obtain⟨g,ac,A⟩:=env.facts;obtain⟨I,xs,ad,V,Y⟩:=ML (t:=t) U (Z a w g (g.ga i) A (show f.p g (g.ga i) w from A (rs i) _ E));have z:(jg g t (g.ga i) (g.ga i).ownBlock).ga t=g.ga i:=if_pos rfl;refine⟨env.size,env.defers,env.fr,jg g t (g.ga i) (g.ga i).ownBlock,ac.re (by simpa using ag) (λb D=>nB W (I b D)),?_⟩;refine aQ.db (aQ.db (Aw A (λb D=>if_neg (λak=>D (I b ak))) (λ_ E=>if_neg E)) (λv=>⟨xs,by rw[z];exact ad,V,by rw[z];exact Y⟩)) (λv=>?_);show(jg g t (g.ga i) (g.ga i).ownBlock).ga i=(jg g t (g.ga i) (g.ga i).ownBlock).ga t;rw[z];exact if_neg L
end
theorem ft.app{T:List Nat}{g:Gh}{w:World}:∀(D A:List bm) (E z:List Value),ft T g w D E->ft T g w A z->ft T g w (D++A) (E++z)
 |[],_,[],_,_,k=>k
 |s::D,A,v::E,z,h,k=>⟨h.1,ft.app D A E z h.2 k⟩
 |[],_,_::_,_,h,_=>h.elim
 |_::_,_,[],_,h,_=>h.elim
theorem fQ.nz{T:List Nat}{g:Gh}{w:World}:∀(A:List bm) (z:List Value),fQ g w (A.map λs=>s.f (da T)) z->ft T g w A z
 |[],z,h=>by rw[show z=[] from h];trivial
 |s::A,z,h=>by obtain⟨v,vr,rfl,E,D⟩:=h;exact⟨E,fQ.nz A vr D⟩
theorem ft.uz{T:List Nat}{g:Gh}{w w':World}(L:w.heap.size<=w'.heap.size)(E:∀b,b<w.heap.size->g.om b∈T->w'.heap[b]? =w.heap[b]?){g':Gh}{T':List Nat}
  (I:∀b,b<w'.heap.size->g.om b∈T->g'.om b∈T'):∀(z:List bm) (A:List Value),ft T g w z A->ft T' g' w' z A
 |[],[],_=>trivial
 |s::z,v::A,h=>⟨s.re (da T) (da T') g g' v w' (λ_ b D h=>I b D h) (s.g_ L (λb D ⟨_,h⟩=>E b D h) h.1),ft.uz L E I z A h.2⟩
 |[],_::_,h=>h.elim
 |_::_,[],h=>h.elim
def sr(P:Program){A β:Type}[Rp β](pre:A->List bm)(f:A->Option β)(F:Nat->Prop)(v:Value)(w:World):Prop:=
 ∃k us cs,v= .func (.func k) us cs/\enters P k=true/\∀(x:A) (r:β),f x=some r->∀(w':World) (g':Gh) (T:List Nat) (xs:List Value),w.heap.size<=w'.heap.size->
  (∀b,b<w.heap.size->F b->w'.heap[b]? =w.heap[b]?)->ft T g' w' (pre x) xs->Calls P k (us++xs.toArray++cs) w' (λe z=>∃D,e= .returned D/\Fr fW w' z/\cX (λ_=>False) r D z)
theorem sr.aD{A:Type}[Rp β]{pre:A->List bm}{f:A->Option β}{F:Nat->Prop}(I:w.heap.size<=w'.heap.size)(D:∀b,b<w.heap.size->F b->w'.heap[b]? =w.heap[b]? /\F' b)(h:sr P pre f F v w):sr P pre f F' v w':=by obtain⟨k,us,cs,W,aa,V⟩:=h;refine⟨k,us,cs,W,aa,λx r Z O g' T xs U L Y=>V x r Z O g' T xs (m5 I U) (λb z E=>?_) Y⟩;rw[L b (nR z I) (D b z E).2];exact(D b z E).1
def aa.fn(P:Program){A β:Type}[Rp β](pre:A->List bm)(T:List Nat)(f:A->Option β):aa where
 bj:=T
 ids:=[]
 p:=λg v w=>sr P pre f (λb=>g.om b∈T) v w
 aD:=λg g' v w w' D h=>sr.aD D.size (λb E z=>⟨(D.block b E z).1,by rw[(D.block b E z).2];exact z⟩) h
def bm.fn(P:Program){A β:Type}[Rp β](pre:A->List bm)(c:Nat)(f:A->Option β):bm where
 f:=λT=>aa.fn P pre (T c) f
 tg:=λ_ _ h=>⟨c,h⟩
 gK:=λ_=>rfl
 re:=λT T' g g' v w E h=>sr.aD (bh _) (λb z D=>⟨rfl,E c b z D⟩) h
def jE{α:Type}[Rp α](x:α):List bm:=[.rep 0 x]
def Jo{α β:Type}[Rp α][Rp β](x:α×β):List bm:=[.rep 0 x.1, .rep 0 x.2]
def gf(G:List It):List aa->List aa->Prop
 |[],[]=>True
 |f::fs,m::ms=>Cv G f m/\gf G fs ms
 |_,_=>False
theorem gf.nil:gf G [] []:=trivial
theorem gf.cons{ms:List aa}(h:Cv G f f')(k:gf G fs ms):gf G (f::fs) (f'::ms):=⟨h,k⟩
theorem gf.all{G:List It}{a:Act}{w:World}{g:Gh}(D:aQ G g a w):∀(fs ms:List aa) (A:List Value),gf G fs ms->fQ g w fs A->fQ g w ms A
 |[],[],_,_,h=>h
 |f::fs,m::ms,A,z,h=>by obtain⟨v,vr,rfl,I,E⟩:=h;exact⟨v,vr,rfl,z.1 a w g v D I,gf.all D fs ms vr z.2 E⟩
 |[],_::_,_,z,_=>z.elim
 |_::_,[],_,z,_=>z.elim
theorem Cv.fn{A:Type}[R:Rp β][an:Flat β]{pre:A->List bm}{T:List Nat}{f:A->Option β}{k:FuncId}{cs:List aa}{pu pc:List bm}(am:enters P k=true)(hu:gf G fs (pu.map λs=>s.f (da T)))(Z:gf G cs (pc.map λs=>s.f (da T)))(ao:∀(x:A) (r:β),f x=some r->gl P k (pu++(pre x++pc)) (.fl r) shc):Cv G (.ef k fs cs) (aa.fn P pre T f):=λa w g v V L=>by
 obtain⟨us,z,ae,U,O⟩:=L;have U:=(gf.all V _ _ _ hu U).nz;have O:=(gf.all V _ _ _ Z O).nz;refine⟨k,us.toArray,z.toArray,ae,am,λx r ak w' g' T' xs ap ad ag=>?_⟩
 classical
 let g2:Gh:=⟨λb=>if(b<w.heap.size/\g.om b∈T)\/g'.om b∈T' then 0 else 1,g.ga⟩
 have e1:∀D z,ft T g w D z->ft [0] g2 w' D z:=λD z h=>by
  let E:Gh:=⟨λb=>if b<w.heap.size/\g.om b∈T then 0 else 1,g.ga⟩
  have ar:ft [0] E w D z:=ft.uz (bh _) (λ_ _ _=>rfl) (λb I al=>by simp[E,I,al]) D z h;refine ft.uz (T:=[0]) (g:=E) ap (λb I h=>?_) (λb I h=>?_) D z ar
  .simp only[E,dz]at h;split at h
   .rename_i h';exact ad b I h'.2
   .cases h
  .simp only[E,dz]at h;split at h
   .rename_i h';simp[g2,h']
   .cases h
 have e2:ft [0] g2 w' (pre x) xs:=ft.uz (bh _) (λ_ _ _=>rfl) (λb _ h=>by simp[g2,h]) _ _ ag;have W:=ft.app _ _ _ _ (e1 pu us U) (ft.app _ _ _ _ e2 (e1 pc z O));have Y:(us++(xs++z)).toArray=us.toArray++xs.toArray++z.toArray:=by apply Array.toList_inj.1;simp
 have:=ao x r ak w' g2 [0] _ W;rw[Y]at this;refine this.mono ?_;rintro e az ⟨av,rfl,ac,cls,L⟩;obtain⟨aw,aq,ay⟩:=L (da [0]) ⟨λ_=>0,λ_=>undef⟩ (λb _ _=>by simp[da]) (λb c _ _ _=>by simp[da]);exact⟨av,rfl,ac,aw,an.flat _ _ _ _ _ _ aq,ay⟩
section
variable{d:Option Nat}
theorem ah.UU{A:Type}[R:Rp β]{pre:A->List bm}{f:A->Option β}{y:Operand}{xs:List Operand}{x:A}{r:β}{T:List Nat}(T':List Nat)(t:Nat)(ae:bx 10 t=true)(ac:f x=some r)(hy:Has G y (aa.fn X.P pre T f))(hx:bX G T' xs (pre x)):
  ah X G ⟨d, .call {callee:= .value y,args:=xs.toArray,argTypes:=ats},ty,pos,af,gd⟩ (aa.rep [] r):=λa w g ak O Y D K Q ag=>by
 have L:10<=t:=by simpa using ae
 obtain⟨k,us,cs,V,W,U⟩:=hy a w g D;have E:=U x r ac w g T' _ (bh _) (λ_ _ _=>rfl) (hx.nz D);have I:(execOp a.eval ⟨d, .call {callee:= .value y,args:=xs.toArray,argTypes:=ats},ty,pos,af,gd⟩).run X.P w= .ok (.enter k (us++(xs.map a.eval).toArray++cs)) w:=by unfold execOp;simp[resolve,nT,V,invoke,mq W]
 unfold dy;rw[I];refine kZ E ?_;rintro e w' ⟨v,rfl,z,Z⟩;exact ag v w' ⟨z,GL.cM g w.heap.size t,Y.cM L z.size O.size,λb ad=>by simp[GL.cM,ad],λ_=>rfl,cX.mono Z (λ_ _ h=>h.elim)⟩
theorem fD{k:FuncId}:Has G (.func k) (.ef k [] []):=λ_ _ _ _=>⟨[],[],rfl,rfl,rfl⟩
end
def dB(H H':List It):Prop:=∀K z s f,eh H' K z s=some f->(∀g v w,f.p g v w)\/eh H K z s=some f
theorem dB.refl:dB H H:=λ_ _ _ _ h=> .inr h
theorem dB.trans{A B C:List It}(h:dB A B)(k:dB B C):dB A C:=λK D s f E=>by
 rcases k K D s f E with z|z
 .exact .inl z
 .exact h K D s f z
theorem dB.sub{A:List It}(h:dB H A):Sub H A:=λa w g E s f D=>by
 rcases h [] [] s f D with z|z
 .exact z _ _ _
 .exact E s f z
theorem dB.F2{E:List It}(x:It)(h:dB H E):dB (x::H) (x::E):=λK A s f z=>by
 cases x with
 |ae d f0=>
  simp only[eh]at z|-;cases D:ct d s with
  |true=>rw[D]at z;exact .inr z
  |false=>rw[D]at z;exact h K A s f z
 |av t=>exact h (t::K) A s f z
 |bp t=>exact h K (t::A) s f z
theorem dB.app{H H':List It}(h:dB H H'):∀x:List It,dB (x++H) (x++H')
 |[]=>h
 |a::x=>dB.F2 a (dB.app h x)
def qx:List It->List It
 |[]=>[]
 | .ae d _::l=> .ae d aa.top::qx l
 | .av t::l=> .av t::qx l
 | .bp t::l=> .bp t::qx l
theorem dB.Ap{H H':List It}(h:dB H H'):∀x:List It,dB H (qx x++H')
 |[]=>h
 | .ae d f0::x=>λK D s f z=>by
  simp only[qx,kE,eh]at z;cases I:ct d s with
  |true=>
   simp only[I,cond_true]at z;left;cases E:(dX aa.top.bj K&&dX aa.top.ids D)with
   |true=>simp only[E,cond_true,Option.some.injEq]at z;subst z;exact λ_ _ _=>trivial
   |false=>simp[E]at z
  |false=>simp only[I,cond_false]at z;exact dB.Ap h x K D s f z
 | .av t::x=>λK D s f z=>by
  rcases dB.Ap h x (t::K) D s f z with A|A
  .exact .inl A
  .exact .inr (kz H _ _ _ _ s f (λ_ hx=>fM _ hx) (λ_ hx=>hx) A)
 | .bp t::x=>λK D s f z=>by
  rcases dB.Ap h x K (t::D) s f z with A|A
  .exact .inl A
  .exact .inr (kz H _ _ _ _ s f (λ_ hx=>hx) (λ_ hx=>fM _ hx) A)
theorem dB.BS{H H':List It}(h:dB H H'):∀x:List It,dB (x++H) (qx x++H')
 |[]=>h
 | .ae d f0::x=>λK A s f z=>by
  simp only[qx,kE,eh]at z|-;cases E:ct d s with
  |true=>
   simp only[E,cond_true]at z;left;cases D:(dX aa.top.bj K&&dX aa.top.ids A)with
   |true=>simp only[D,cond_true,Option.some.injEq]at z;subst z;exact λ_ _ _=>trivial
   |false=>simp[D]at z
  |false=>simp only[E,cond_false]at z|-;exact dB.BS h x K A s f z
 | .av t::x=>λK A s f z=>dB.BS h x (t::K) A s f z
 | .bp t::x=>λK A s f z=>dB.BS h x K (t::A) s f z
def pU:It->It->Bool
 | .ae d _, .ae z _=> !(ct d z)
 | .ae _ f, .av t=> !(f.bj.elem t)
 | .ae _ f, .bp t=> !(f.ids.elem t)
 | .av t, .ae _ f=> !(f.bj.elem t)
 | .bp t, .ae _ f=> !(f.ids.elem t)
 |_,_=>true
theorem DV{l K:List Nat}(h:l.elem t=false):dX l (t::K)=dX l K:=by
 have h':t∉l:=by simpa using h
 clear h;induction l with
 |nil=>rfl
 |cons a l z=>
  simp only[fp,not_or]at h';simp only[dX,z h'.2];have:(t::K).elem a=K.elem a:=by rw[nU];simp[Ne.symm h'.1]
  rw[this]
theorem dB.TA(a b:It)(h:pU a b=true):dB (a::b::H) (b::a::H):=λK O s f z=>by
 right;cases a with
 |ae d I=>cases b with
  |ae E L=>
   simp only[pU,m6]at h;simp only[eh]at z|-;cases A:ct d s with
   |true=>
    cases D:ct E s with
    |true=>
     have e1:=iI A;have e2:=iI D;subst e1 e2;simp at h
    |false=>simp only[A,D,cond_false,cond_true]at z|-;exact z
   |false=>
    cases D:ct E s with
    |true=>simp only[A,D,cond_false,cond_true]at z|-;exact z
    |false=>simp only[A,D,cond_false]at z|-;exact z
  |av t=>
   simp only[pU,m6]at h;simp only[eh]at z|-;cases A:ct d s with
   |true=>simp only[A,cond_true,DV h]at z|-;exact z
   |false=>simp only[A,cond_false]at z|-;exact z
  |bp t=>
   simp only[pU,m6]at h;simp only[eh]at z|-;cases A:ct d s with
   |true=>simp only[A,cond_true,DV h]at z|-;exact z
   |false=>simp only[A,cond_false]at z|-;exact z
 |av t=>cases b with
  |ae d f=>
   simp only[pU,m6]at h;simp only[eh]at z|-;cases A:ct d s with
   |true=>simp only[A,cond_true,DV h]at z|-;exact z
   |false=>simp only[A,cond_false]at z|-;exact z
  |av t'=>
   simp only[eh]at z|-;exact kz H _ _ _ _ s f (λx hx=>by simp at hx|-;rcases hx with rfl|rfl|hx<;>simp_all) (λ_ hx=>hx) z
  |bp t'=>exact z
 |bp t=>cases b with
  |ae d f=>
   simp only[pU,m6]at h;simp only[eh]at z|-;cases A:ct d s with
   |true=>simp only[A,cond_true,DV h]at z|-;exact z
   |false=>simp only[A,cond_false]at z|-;exact z
  |av t'=>exact z
  |bp t'=>
   simp only[eh]at z|-;exact kz H _ _ _ _ s f (λ_ hx=>hx) (λx hx=>by simp at hx|-;rcases hx with rfl|rfl|hx<;>simp_all) z
def yM(x y:List It):Bool:=x.all λa=>y.all λb=>pU a b
theorem dB.Nv{H:List It}(a:It):∀y:List It,(y.all λb=>pU a b)=true->dB (a::(y++H)) (y++a::H)
 |[],_=>dB.refl
 |b::y,h=>by simp only[List.all_cons,gg]at h;exact dB.trans (dB.TA a b h.1) (dB.F2 b (dB.Nv a y h.2))
theorem dB.QY{H:List It}(y:List It):∀x:List It,yM x y=true->dB (x++(y++H)) (y++(x++H))
 |[],_=>dB.refl
 |a::x,h=>by simp only[yM,List.all_cons,gg]at h;exact dB.trans (dB.F2 a (dB.QY y x h.2)) (dB.Nv a y h.1)
def gG(Is:List (List It))(i:Nat):List It:=(Is[i]?).getD []
def ij(AH:List (List Nat))(i:Nat):List Nat:=(AH[i]?).getD []
def gz(Is:List (List It))(L:Array Bool)(G:List It):Nat->List It
 |0=>G
 |n+1=>if L.getD n false=true then gG Is n++gz Is L G n else gz Is L G n
def cB(AH:List (List Nat))(Is:List (List It))(G:List It)(i:Nat):Nat->List It
 |0=>G
 |n+1=>bif ct n i||(ij AH n).elem i then cB AH Is G i n else bif(ij AH i).elem n then gG Is n++cB AH Is G i n else qx (gG Is n)++cB AH Is G i n
def p8(Is:List (List It))(G:List It):List It:=Is.foldl (λH z=>z++H) G
theorem HV{AH:List (List Nat)}{Is:List (List It)}{G:List It}{L:Array Bool}{i:Nat}(O:L.getD i false=false)(E:∀j,j∈ij AH i->L.getD j false=true)
  (D:∀j,L.getD j false=true->i∉ij AH j):∀n,dB (gz Is L G n) (cB AH Is G i n)
 |0=>dB.refl
 |n+1=>by
  have A:=HV (Is:=Is) (G:=G) O E D n;unfold gz cB;cases z:L.getD n false with
  |true=>
   simp only[if_true];have U:ct n i=false:=by
    cases h:ct n i with
    |false=>rfl
    |true=>have:=iI h;subst this;rw[O]at z;cases z
   have V:(ij AH n).elem i=false:=by
    cases h:(ij AH n).elem i with
    |false=>rfl
    |true=>exact(D n z (by simpa using h)).elim
   simp only[U,V,Bool.or_self,cond_false];cases I:(ij AH i).elem n with
   |true=>exact dB.app A _
   |false=>exact dB.BS A _
  |false=>
   simp only[kY,if_false];cases U:(ct n i||(ij AH n).elem i)with
   |true=>exact A
   |false=>
    simp only[cond_false];cases I:(ij AH i).elem n with
    |true=>have:=E n (by simpa using I);rw[z]at this;cases this
    |false=>exact dB.Ap A _
theorem NN{L:Array Bool}(h:i≠n):(L.setIfInBounds i true).getD n false=L.getD n false:=by simp[Array.getD_eq_getD_getElem?,Array.getElem?_setIfInBounds,h]
theorem XS{L:Array Bool}(h:i<L.size):(L.setIfInBounds i true).getD i false=true:=by simp[h]
theorem LB{Is:List (List It)}{G:List It}{L:Array Bool}{i:Nat}:∀n,n<=i->gz Is (L.setIfInBounds i true) G n=gz Is L G n
 |0,_=>rfl
 |n+1,h=>by unfold gz;rw[NN (by omega),LB n (by omega)]
theorem Hn{Is:List (List It)}{G:List It}{L:Array Bool}{i:Nat}(E:i<L.size)(D:L.getD i false=false)(z:∀j,i<j->L.getD j false=true->yM (gG Is i) (gG Is j)=true):
  ∀n,i<n->dB (gG Is i++gz Is L G n) (gz Is (L.setIfInBounds i true) G n)
 |0,h=>by omega
 |n+1,h=>by
  by_cases hin:i=n
  .subst hin;unfold gz;rw[XS E,D,LB i (bh _)];exact dB.refl
  .have A:=Hn (G:=G) E D z n (by omega);unfold gz;rw[NN hin];cases I:L.getD n false with
   |true=>exact dB.trans (dB.QY _ _ (z n (by omega) I)) (dB.app A _)
   |false=>exact A
def vw(ops:Array Oper)(AH:List (List Nat))(Is:List (List It)):Bool:=
 (AH.length==ops.size)&&(Is.length==ops.size)&&
 ((m9 ops.size).all λi=>
  ((ij AH i).all λj=>bt j i&&(((ops[i]?).map λo=>o.after.toList.any λe=>sL .any e&&(ct e.on j||(ij AH e.on).elem j)).getD false))&&
  (((ops[i]?).map λo=>o.after.toList.all λe=> !sL .any e||bt e.on i).getD false)&&
  ((m9 i).all λj=>(ij AH i).elem j||yM (gG Is j) (gG Is i)))
structure Co(ops:Array Oper)(AH:List (List Nat))(Is:List (List It)):Prop where
 Fz:Is.length=ops.size
 mr:∀i o,ops[i]? =some o->∀j,j∈ij AH i->j<i/\∃e∈o.after,sL .any e=true/\(e.on=j\/j∈ij AH e.on)
 after:∀i o,ops[i]? =some o->∀e∈o.after,sL .any e=true->e.on<i
 pair:∀i j,i<ops.size->j<i->j∈ij AH i\/yM (gG Is j) (gG Is i)=true
theorem Lv(h:vw ops AH Is=true):Co ops AH Is:=by
 unfold vw at h;simp only[gg]at h;obtain⟨⟨_,V⟩,I⟩:=h;have get:∀i o,ops[i]? =some o->i<ops.size:=λi o ho=>(Array.getElem?_eq_some_iff.1 ho).1;refine⟨by simpa using V,?_,?_,?_⟩
 .intro i o ho j E;have A:=i_.1 I i (jc.2 (get i o ho));simp only[gg]at A;have z:=i_.1 A.1.1 j E;simp only[ho,jd,Option.getD_some,gg,List.any_eq_true]at z;obtain⟨D,e,O,L,U⟩:=z;simp only[Ey]at U;refine⟨by simpa using D,e,by simpa using O,L,?_⟩;rcases U with h|h
  .exact .inl (iI h)
  .exact .inr (by simpa using h)
 .intro i o ho e O L;have A:=i_.1 I i (jc.2 (get i o ho));simp only[gg]at A;have z:=A.1.2;simp only[ho,jd,Option.getD_some]at z;have D:=i_.1 z e (by simpa using O);rw[L]at D;simpa using D
 .intro i j W E;have A:=i_.1 I i (jc.2 W);simp only[gg]at A;have z:=i_.1 A.2 j (jc.2 E);simp only[Ey]at z;rcases z with h|h
  .exact .inl (by simpa using h)
  .exact .inr h
section
variable{Q:Exit->Act->World->Prop}
def cI(X:Cx)(ops:Array Oper)(G:List It)(o:Oper)(z:List It):Prop:=∀G',Sub G' G->∀a w,Env X G' a w->
 (gH o (yielded ops a.tmps)=true->Yields X.P o a w (λv w'=>Env X (z++G') (a.put o.dst v) w'))/\
 (gH o (yielded ops a.tmps)=false->Env X (z++G') (a.put o.dst undef) w)
theorem cI.st{d:Option Nat}{op:Op}{z:List It}(h:au X G ⟨d,op,ty,pos,af,none⟩ z):cI X ops G ⟨d,op,ty,pos,af,none⟩ z:=
 λG' D a w e=>⟨λ_=>h G' D a w e,λA=>by simp[gH]at A⟩
theorem au.u_{op:Op}(hd:bt d X.n=true)(h:ah X G ⟨some d,op,ty,pos,af,gd⟩ f):au X G ⟨some d,op,ty,pos,af,gd⟩ [.ae d f]:=
 λG' U a w e K Q V=>by obtain⟨g,L,z⟩:=e.facts;exact h a w g e.size e.fr L (U a w g z) K Q (λv w' ⟨I,g',D,E,A,O⟩=>V v w' (Env.put (by simpa [fu]using hd) e.size e.defers e.fr z I D E A O))
theorem cI.op{op:Op}(hd:bt d X.n=true)(h:ah X G ⟨some d,op,ty,pos,af,none⟩ f):cI X ops G ⟨some d,op,ty,pos,af,none⟩ [.ae d f]:=
 cI.st (au.u_ hd h)
theorem cI.Qv(D:o.dst=some d)(hd:bt d X.n=true)(h:sj X ops G o f):cI X ops G o [.ae d f]:=
 λG' Z a w e=>by
  obtain⟨g,I,A⟩:=e.facts;have E:d<X.n:=by simpa [fu]using hd
  obtain⟨Y,V⟩:=h a w g e.size e.fr I (Z a w g A);refine⟨λz K Q aa=>?_,λz=>?_⟩
  .exact Y z K Q (λv w' ⟨z,g',O,U,L,W⟩=>aa v w' (by rw[D];exact Env.put E e.size e.defers e.fr A z O U L W))
  .rw[D];exact Env.put E e.size e.defers e.fr A (Fr.refl _ _) I (λ_ _=>rfl) (λ_=>rfl) (V z)
theorem cI.mX{T:List Nat}{op:Op}(hd:bt d X.n=true)(A:(ops[j]?).bind (·.dst)=some dj)(z:ay G dj=some (aa.rep T b))(h:b=want->ah X G ⟨some d,op,ty,pos,af,some (j,want)⟩ f):cI X ops G ⟨some d,op,ty,pos,af,some (j,want)⟩ [.ae d (f.c_ (b=want))]:=
 cI.Qv rfl hd (sj.mX A z h)
theorem cI.jY{c:Prop}{T:List Nat}{op:Op}(hd:bt d X.n=true)(A:(ops[j]?).bind (·.dst)=some dj)(z:ay G dj=some ((aa.rep T b).c_ c))(h:c/\b=want->ah X G ⟨some d,op,ty,pos,af,some (j,want)⟩ f):cI X ops G ⟨some d,op,ty,pos,af,some (j,want)⟩ [.ae d (f.c_ (c/\b=want))]:=
 cI.Qv rfl hd (sj.jY A z h)
def jR(X:Cx)(ops:Array Oper)(AH:List (List Nat))(Is:List (List It))(G:List It)(n:Nat):List Oper->Nat->Prop
 |[],_=>True
 |o::l,i=>cI X ops (cB AH Is G i n) o (gG Is i)/\jR X ops AH Is G n l (i+1)
theorem jR.nil:jR X ops AH Is G n [] k:=trivial
theorem jR.get{ops:Array Oper}{AH:List (List Nat)}{Is:List (List It)}{n:Nat}:∀(l:List Oper) (k:Nat),jR X ops AH Is G n l k->∀(i:Nat) (o:Oper),l[i]? =some o->cI X ops (cB AH Is G (k+i) n) o (gG Is (k+i))
 |[],_,_,i,o,h=>by simp at h
 |x::l,k,z,i,o,h=>by
  cases i with
  |zero=>simp at h;subst h;exact z.1
  |succ i=>
   have:=jR.get l (k+1) z.2 i o (by simpa using h);rwa [show k+1+i=k+(i+1) by omega]at this
structure BL(X:Cx)(ops:Array Oper)(AH:List (List Nat))(Is:List (List It))(G:List It)(L:Array Bool)(a:Act)(w:World):Prop where
 env:Env X (gz Is L G ops.size) a w
 im:L.size=ops.size
 mr:∀i,i<ops.size->L.getD i true=true->∀j,j∈ij AH i->L.getD j true=true
theorem mY{L:Array Bool}(z:i<L.size)(b c:Bool):L.getD i b=L.getD i c:=by simp[Array.getD_eq_getD_getElem?,z]
theorem IB(V:Co ops AH Is){L:Array Bool}(ad:L.size=ops.size)(h:iV ops L≠0):qN .any ops L≠[]:=by
 unfold iV at h;have U:∃i,i<ops.size/\L.getD i true=false:=by obtain⟨i,al,Y⟩:=List.countP_pos_iff.1 (Nat.pos_of_ne_zero h);exact⟨i,jc.1 al,by simpa using Y⟩
 have I:∀n:Nat,(∃i,i<=n/\i<ops.size/\L.getD i true=false)->∃i,(i<ops.size/\L.getD i true=false)/\∀j,j<i->L.getD j true=true:=by
  intro n;induction n with
  |zero=>
   rintro⟨i,D,A,z⟩;have:i=0:=by omega
   subst this;exact⟨0,⟨A,z⟩,λj W=>by omega⟩
  |succ n aa=>
   rintro⟨i,D,A,z⟩;by_cases hlow:∃i,i<=n/\i<ops.size/\L.getD i true=false
   .exact aa hlow
   .refine⟨i,⟨A,z⟩,λj W=>?_⟩;cases Z:L.getD j true with
    |true=>rfl
    |false=>exact(hlow ⟨j,by omega,by omega,Z⟩).elim
 obtain⟨E,D,A⟩:=U;obtain⟨i,⟨z,am⟩,O⟩:=I E ⟨E,bh _,D,A⟩;have:i∈qN .any ops L:=by refine mem_ready.2 ⟨am,ops[i],Array.getElem?_eq_getElem z,λe ae ac=>?_⟩;have:=V.after i _ (Array.getElem?_eq_getElem z) e ae ac;have ag:=O e.on this;rw[<-ag];exact mY (by rw[ad];omega) _ _
 intro ak;rw[ak]at this;cases this
theorem H9{Is:List (List It)}{L:Array Bool}:∀n,n<=Is.length->(∀i,i<n->L.getD i false=true)->gz Is L G n=p8 (Is.take n) G
 |0,_,_=>by simp[gz,p8]
 |n+1,A,h=>by unfold gz;rw[h n (by omega),if_pos rfl,H9 n (by omega) (λi z=>h i (by omega))];rw[aah (by omega)];simp only[p8,List.foldl_append,k9,List.foldl_nil];congr 1;simp[gG,ek (show n<Is.length by omega)]
theorem HC{Is:List (List It)}{L:Array Bool}:∀n,(∀i,i<n->L.getD i false=false)->gz Is L G n=G
 |0,_=>rfl
 |n+1,h=>by unfold gz;rw[h n (by omega),if_neg (by simp),HC n (λi z=>h i (by omega))]
end
section
theorem ah.jI{k:FuncId}{d:Option Nat}{xs:List Operand}(T:List Nat)(t:Nat)(D:Nat.ble 10 t=true)(E:enters X.P k=true)(z:gl X.P k pre out shc)(hx:bX G T xs pre)(A:out.f (cT t T shc)=f:=by rfl):
 ah X G ⟨d, .call {callee:= .value (.func k),args:=xs.toArray,argTypes:=ats},ty,pos,af,gd⟩ f:=A▸ah.call T t D E z hx
end
theorem cI.yJ{d:Option Nat}{op:Op}{I I':List It}(h:au X G ⟨d,op,ty,pos,af,none⟩ I)(z:I=I':=by rfl):cI X ops G ⟨d,op,ty,pos,af,none⟩ I':=
 z▸cI.st h
theorem fe.iD{d:Option Nat}{k:FuncId}{xs:List Operand}{us cs FA:List aa}(A:enters X.P k=true)(hx:Has G x (.ef k us cs))(h:cl G xs fs)(z:us++(fs++cs)=FA:=by rfl):
 fe X G ⟨d, .call {callee:= .value x,args:=xs.toArray,argTypes:=ats},ty,pos,af,gd⟩ k FA:=z▸fe.val A hx h
def bm.ptr{α:Type}[R:Rp α](c:Nat)(x:α):bm where
 f:=λT=>aa.ptr (T c) x
 tg:=λ_ _ h=>⟨c,h⟩
 gK:=λ_=>rfl
 re:=λT T' g g' v w A h=>by obtain⟨ad,D,O,z,es,U,I⟩:=h;exact⟨ad,D,A c _ z O,z,es,U,R.aD _ _ x es w w (bh _) (λb L E=>⟨rfl,A c b L E⟩) I⟩
section
theorem Cv.mR[R:Rp α]{x:α}{T:List Nat}(h:ep T T'=true):Cv G (aa.ptr T x) (aa.ptr T' x):=λa w g v _ D=>by obtain⟨ad,A,L,z,es,O,I⟩:=D;exact⟨ad,A,fH h _ L,z,es,O,R.aD _ _ x es w w (bh _) (λb _ E=>⟨rfl,fH h _ E⟩) I⟩
theorem Cv.Nk{A:Type}[Rp β]{pre:A->List bm}{f:A->Option β}{T:List Nat}(h:ep T T'=true):Cv G (aa.fn P pre T f) (aa.fn P pre T' f):=λ_ _ _ _ _ D=>
 sr.aD (bh _) (λ_ _ z=>⟨rfl,fH h _ z⟩) D
theorem Has.X8[R:Rp α]{te:List Nat}(h:Has G x (.M7 t te l))(D:ep te te'=true):Has G x (.M7 t te' l):=λa w g A=>
 ik.aD (F':=λb=>g.om b=t) (Fe':=λb=>g.om b∈te') (bh _) (λ_ _ z=>⟨rfl,z⟩) (λ_ _ z=>⟨rfl,fH D _ z⟩) (h a w g A)
theorem Mw{z:List Value}(h:cs.toArray=z.toArray):cs=z:=by simpa using congrArg Array.toList h
theorem Cv.vP[R:Rp α]{T:List Nat}(U:fk ls=ps)(ho:ay G (rs t)=some (.obj t ps))(ac:bJ G (t+1) ls)(W:Cv G (.aK ls) (aa.rep T y))(L:R.agg=true:=by rfl):
  Cv G (.aL t) (aa.ptr (t::T) y):=λa w g v A Z=>by
 subst U;obtain⟨b,ty,cs,ae,z,V,ak⟩:=A _ _ ho;have E:=ak.aK A ls _ _ ac;obtain⟨I,ad,D⟩:=W a w g (.agg cs.toList.toArray) A ⟨cs.toList,rfl,E⟩;rw[L]at D;simp only[cL,if_true]at D;have O:cs.toList=I:=Mw (by injection D);subst O;refine⟨⟨b,0,none⟩,by rw[show v=g.ga t from Z,ae],by simp[V],(Array.getElem?_eq_some_iff.1 z).1,cs.toList,λj u Y=>?_,R.aD _ _ y _ w w (Nat.le_refl _) (λb _ ag=>⟨rfl,List.mem_cons_of_mem _ ag⟩) ad⟩;rw[Go.Addr.add_lit];refine⟨?_,frozen_of_row w b _ cs ty z⟩;rw[cell_of_row w b _ cs ty (0,0) z];simpa using Y
theorem Cv.YF[R:Rp α]{T:List Nat}(Y:[(false,1)]=ps)(ho:ay G (rs t)=some (.obj t ps))(ak:dJ G (t+1) f)(ag:Cv G f (aa.rep T y))(D:R.agg=false:=by rfl):
  Cv G (.aL t) (aa.ptr (t::T) y):=λa w g v A ac=>by
 subst Y;obtain⟨b,ty,cs,aq,z,ap,ar⟩:=A _ _ ho;obtain⟨c1,an,e1,e2,e3,_,Z,ad⟩:=ar;have U:an=[]:=ad;subst U;obtain⟨V,E,I⟩:=ag a w g _ A (ak a w g A);rw[Z,D]at I;have L:=R.len _ _ _ _ E;rw[R.na D]at L;have O:c1.length=1:=e2
 match c1,V,O,L with
 |[u],[am],_,_=>
  have W:u=am:=I;subst W;refine⟨⟨b,0,none⟩,by rw[show v=g.ga t from ac,aq],by simp[ap],(Array.getElem?_eq_some_iff.1 z).1,[u],λj x ae=>?_,R.aD _ _ y _ w w (Nat.le_refl _) (λb _ al=>⟨rfl,List.mem_cons_of_mem _ al⟩) E⟩;rw[Go.Addr.add_lit];refine⟨?_,frozen_of_row w b _ cs ty z⟩;rw[cell_of_row w b _ cs ty (0,0) z];have:cs.toList=[u]:=by simpa using e1
  have ao:cs.toList[0+j]? =some x:=by rw[this];simpa using ae
  simpa using ao
end
section
variable{u:Nat->Value}{d:Option Nat}{s:Nat}
theorem bK.Nz(h:dJ G i f)(k:bK G u d f0 J):bK G u d f0 (.ae s (.at i f)::J):=bK.g_ (λa w g _ z=>h a w g z) k
theorem bK.Z9{z:Value}(h:gB G z f)(k:bK G u d f0 J):bK G u d f0 (.ae s (.da z f)::J):=bK.g_ (λa w g _ A=>h a w g A) k
theorem bK.Eb(A:p_ f)(h:Has G (.tmp s) f)(k:bK G u d f0 J):bK G u d f0 (.ae s f::J):=bK.g_ (λa w g _ z=>A _ _ _ _ (h a w g z)) k
end
def gn{α:Type}[R:Rp α](T te te':List Nat):Prop:=∀(F':Nat->Prop) (g:Gh) (w w':World) (l:List α) (cs:List Value),w.heap.size<=w'.heap.size->
 (∀b,b<w.heap.size->g.om b∉T->w'.heap[b]? =w.heap[b]?)->(∀b,b<w.heap.size->g.om b∈te'->F' b)->aR (λb=>g.om b∈te) l cs w->aR F' l cs w'
theorem gn.flat[R:Rp α][Flat α]{T te:List Nat}:gn (α:=α) T te te':=λ_ _ _ _ l cs _ _ _ h=>h.flat l cs
theorem gn.bj[R:Rp α]{T te:List Nat}(L:ep te te'=true)(D:dX te T=true):gn (α:=α) T te te':=λF' g w w' l cs U O I h=>
 aR.aD U (λb z A=>⟨O b z (λE=>ju D E A),I b z (fH L _ A)⟩) l cs h
theorem z7{T:List Nat}(h:aQ G g a w)(aa:w.heap.size<=w'.heap.size)(U:∀b,b<w.heap.size->g.om b∉T->w'.heap[b]? =w.heap[b]?)(L:∀b,b<w.heap.size->g'.om b=g.om b)(E:∀s,g'.ga s=g.ga s):aQ (fV T G) g' a w':=λs f Y=>by obtain⟨A,_,O,D⟩:=Ds T G [] [] s f Y;have hd:=mH G A [] s f D;have I:ay G s=some f:=kz G A [] [] [] s f (by simp) (by simp) D;exact f.aD g g' _ w w' ⟨aa,λb z W=>⟨U b z (λV=>ju hd.1 (O _ V) W),L b z⟩,λZ _=>E Z⟩ (h s f I)
theorem wv:∀(ts:List Nat) (G:List It),fV ts []++G=fV ts G
 |[],_=>rfl
 |t::ts,G=>by simp only[fV,kE,wv ts G]
theorem Fr.Bc(z:Fr X.C X.w0 w)(h:ff X w g){T:List Nat}(L:jV T=true)(I:w'.os=w.os)(D:w'.tape=w.tape)(E:w'.output=w.output)(O:w.heap.size<=w'.heap.size)(V:∀b,b<w.heap.size->g.om b∉T->w'.heap[b]? =w.heap[b]?):Fr X.C X.w0 w':=
 ⟨I.trans z.os,D.trans z.tape,E.trans z.output,m5 z.size O,λk A U=>
  (V k (nR A z.size) (λW=>by have:=h.ok.ec k A;have:=nB L W;omega)).trans (z.block k A U)⟩
section
variable{Q:Exit->Act->World->Prop}{rest:List Oper}{dO:Option Nat}
theorem au.T4[R:Rp α]{s:Operand}{T te Tx:List Nat}{m r:List α}{ts e:TypeId}(D:app l m=some r)(O:jV T=true)(av:T.isEmpty=false)(hd:bt d X.n=true)(aB:gu X.P ts e α)(aF:Has G s (aa.ow T te e l))(hx:Has G x (aa.rep Tx m))(aw:gn (α:=α) T te te')(aC:gn (α:=α) T Tx te'):
  au X G ⟨some d, .call {callee:= .builtin .append,args:= #[s,x],argTypes:= #[ts,ts]},ty,pos,af,none⟩ (.ae d (aa.ow T te' e r)::fV T []):=λG' ap a w env K Q aH=>by
 have aE:d<X.n:=by simpa [fu]using hd
 obtain⟨g,ad,W⟩:=env.facts;have ag:=ap a w g W;obtain⟨xs,U,ar,V⟩:=aF a w g ag;obtain⟨t,ac⟩:∃t,t∈T:=by
  cases T with
  |nil=>simp at av
  |cons t _=>exact⟨t,by simp⟩
 have ay:10<=t:=nB O ac;unfold app at D;split at D
 case isFalse=>cases D
 rename_i an;cases D;obtain⟨Y,w',E,aq,ak,A,am,ao⟩:=Fu (ty:=ty) aB an U (hx a w g ag);have al:(execOp a.eval ⟨some d, .call {callee:= .builtin .append,args:= #[s,x],argTypes:= #[ts,ts]},ty,pos,af,none⟩).run X.P w= .ok (.value Y) w':=by unfold execOp;simp[resolve,invoke,builtin,aq]
 unfold dy;rw[al];refine aH Y w' ?_;rw[kE,wv];have z:∀b,b<w.heap.size->g.om b∉T->w'.heap[b]? =w.heap[b]? :=λb z aA=>A.block b z (λaG=>aA (V b aG.symm));have I:∀b,b<w.heap.size->(cM g w.heap.size t).om b=g.om b:=λb z=>by simp[cM,z]
 refine⟨by simp[Act.put,env.size],env.defers,Fr.Bc env.fr ad O A.os A.tape A.output A.size z,cM g w.heap.size t,ad.cM ay A.size env.fr.size,?_⟩;refine aQ.put (by rw[env.size];exact aE) (z7 W A.size z I (λ_=>rfl)) ?_;have Z:∀b,b<w.heap.size->g.om b∈te'->(cM g w.heap.size t).om b∈te':=λb z h=>by rw[I b z];exact h
 refine⟨xs++E,by rw[bY];exact ak,aR.app l m xs E (aw _ g w w' l xs A.size z Z ar) (aC _ g w w' m E A.size z Z am),?_⟩;intro b az;rcases ao b az with L|L
 .rw[I b (U.lt b L).2];exact V b L
 .show(cM g w.heap.size t).om b∈T;simp only[cM];rw[if_neg (by omega)];exact ac
theorem ah.OZ[R:Rp α]{s:Operand}{T:List Nat}{m r:List α}(t:Nat){ts e:TypeId}(E:app [] m=some r)(ap:bx 10 t=true)(ak:gu X.P ts e α)(ar:Has G s .dM)(hx:Has G x (aa.rep T m))(an:cC (α:=α) t T te'):
  ah X G ⟨dO, .call {callee:= .builtin .append,args:= #[s,x],argTypes:= #[ts,ts]},ty,pos,af,gd⟩ (aa.ow [t] te' e r):=λa w g aw al aq U K Q av=>by
 have ag:10<=t:=by simpa using ap
 unfold app at E;split at E
 case isFalse=>cases E
 rename_i ac;cases E;have am:a.eval s= .slice none 0 0:=ar a w g U;obtain⟨O,w',I,ae,W,A,Z,ad⟩:=Fu (ty:=ty) (n:=0) (xs:=[]) ak (by simpa using ac) (World.ownsRow_nil w 0 e R.n) (hx a w g U);have Y:(execOp a.eval ⟨dO, .call {callee:= .builtin .append,args:= #[s,x],argTypes:= #[ts,ts]},ty,pos,af,gd⟩).run X.P w= .ok (.value O) w':=by unfold execOp;simp[resolve,invoke,builtin,am,ae]
 unfold dy;rw[Y];have D:∀b,b<w.heap.size->w'.heap[b]? =w.heap[b]? :=λb z=>A.block b z (by simp[kB]);have L:∀b,b<w.heap.size->(cM g w.heap.size t).om b=g.om b:=λb z=>by simp[cM,z]
 refine av O w' ⟨⟨A.os,A.tape,A.output,A.size,λb z _=>D b z⟩,cM g w.heap.size t,aq.cM ag A.size al.size,L,λ_=>rfl,?_⟩;have ao:∀b,b<w.heap.size->g.om b∈te'->(cM g w.heap.size t).om b∈te':=λb z h=>by rw[L b z];exact h
 have z:∀b,b<w.heap.size->g.om b≠t->w'.heap[b]? =w.heap[b]? :=λb z _=>D b z;refine⟨I,by simpa using W,by simpa using an _ g w w' m I A.size z ao Z,λb D=>?_⟩;rcases ad b D with V|V
 .cases V
 .show(cM g w.heap.size t).om b∈[t];simp only[cM];rw[if_neg (by omega)];simp
def jJ(f:aa):Prop:=∀g v w,f.p g v w->v.cells= #[v]/\v.oneCell'=true
theorem jJ.ef{k:FuncId}{cs:List aa}:jJ (.ef k fs cs):=λg v w h=>by obtain⟨us,z,rfl,_⟩:=h;exact⟨rfl,rfl⟩
theorem eY.QV(ho:jJ f)(hx:Has G x f):eY G x [(false,1,f)]:=λa w g A=>by have h:=hx a w g A;obtain⟨D,z⟩:=ho _ _ _ h;exact⟨[a.eval x],by rw[D],[a.eval x],[],rfl,rfl,by simpa using z,λ_=>rfl,h,rfl⟩
theorem eY.ef{k:FuncId}{cs:List aa}(hx:Has G x (.ef k fs cs)):eY G x [(false,1, .ef k fs cs)]:=eY.QV jJ.ef hx
theorem ah.Ya[Rp α]{T:List Nat}(hx:Has G x (aa.ptr T y)):ah X G ⟨dO, .nilCheck x,ty,pos,af,gd⟩ (aa.ptr T y):=
 bL λa w g A=>by obtain⟨ad,z,h⟩:=hx a w g A;refine⟨a.eval x,?_,ad,z,h⟩;unfold execOp;simp[z]
theorem ah.M8[R:Rp α]{te:List Nat}{ts e:TypeId}{z:α}(A:jh X.P ts e N α z)(hx:Has G x (.aL t))(E:ay G (rs t)=some (.arr t te N l)):ah X G ⟨dO, .slice ts x none none none,ty,pos,af,gd⟩ (aa.sl [t] te l):=
 bL λa w g D=>by
  have ac:a.eval x=g.ga t:=hx a w g D;have V:=D _ _ E;obtain⟨b,am,cs,I,ag,al,Y,Z⟩:=V;have O: ¬(N=0):=by have:=A.yD;simp at this;omega
  refine⟨.slice (some ⟨b,0,none⟩) N N,?_,some ⟨b,0,none⟩,N,by rw[Z],by omega,(λh=>by cases h),?_⟩
  .unfold execOp;simp only[ac,I,cU,o_];unfold pd;simp[run_underlying A.cE,fL,pe,gD A.el,O,Go.Addr.add_zero']
  .intro ad U i r ae;cases U;have W:b<w.heap.size:=(Array.getElem?_eq_some_iff.1 ag).1;obtain⟨es,ak,L⟩:=N7 (D _ _ E) (b:=b) (by rw[I];rfl) ae;refine⟨by simp[Y],W,es,?_,L⟩;rw[Go.Addr.add_lit,dQ];exact ak
theorem UK{b:Nat}{z:Array Value}{te:TypeId}(A:w.heap[b]? =some (.cells z te (0,0))){es:List Value}(E:es.length<=z.size)(D:∀c∈es,c.oneCell'=true):
  (storeCells ⟨b,0,none⟩ es).run P w= .ok () (w.setRow b (es++z.toList.drop es.length).toArray):=by
 have:=run_storeCells_at P b 0 te es 0 z w A (by omega) D;simpa using this
theorem au.Z_[R:Rp α]{te:List Nat}{z:α}{ts e:TypeId}(W:gu X.P ts e α)(a8:nq X.P e z)(a6:bx 10 t=true)(hx:Has G x (.aL t))(aY:ay G (rs t)=some (.own t te e l)):
  au X G ⟨none, .call {callee:= .builtin .clear,args:= #[x],argTypes:= #[ts]},ty,pos,af,none⟩ [.ae (rs t) (.own t [] e (dr l.length z)), .av t]:=λG' aG a w env K Q am=>by
 have aJ:10<=t:=by simpa using a6
 obtain⟨g,I,V⟩:=env.facts;have aF:=aG a w g V;have ag:a.eval x=g.ga t:=hx a w g aF;obtain⟨xs,Z,ba,O⟩:=aF _ _ aY;obtain⟨i,A,aC,az,a',bc,aa⟩:=W.info;obtain⟨bb,ac,ar⟩:=a8;rw[aC]at ac;simp only[bo,az,Option.some.injEq]at ac;subst ac;rcases Z.2 with⟨ao,aE⟩|⟨b,aw,cs,U,a9,aB,ap,aN,aI,a_⟩
 .have L:(execOp a.eval ⟨none, .call {callee:= .builtin .clear,args:= #[x],argTypes:= #[ts]},ty,pos,af,none⟩).run X.P w= .ok (.value (.tuple #[])) w:=by unfold execOp;simp[resolve,invoke,builtin,ag,ao,nW,run_underlying W.cE]
  unfold dy;rw[L];refine am _ w ?_;refine⟨by simp[Act.put,env.size],env.defers,env.fr,g,I,?_⟩;show aQ _ g a w;refine aQ.db (kA V (bh _) (λ_ _ _=>rfl)) (λv=>⟨[],?_,?_,O⟩)
  .rw[ao,qI,aE];exact World.ownsRow_nil w 0 e R.n
  .rw[aE];rfl
 .by_cases hl0:l.length=0
  .have L:(execOp a.eval ⟨none, .call {callee:= .builtin .clear,args:= #[x],argTypes:= #[ts]},ty,pos,af,none⟩).run X.P w= .ok (.value (.tuple #[])) w:=by unfold execOp;simp[resolve,invoke,builtin,ag,U,hl0,nW,run_underlying W.cE]
   unfold dy;rw[L];refine am _ w ?_;refine⟨by simp[Act.put,env.size],env.defers,env.fr,g,I,?_⟩;show aQ _ g a w;refine aQ.db (kA V (bh _) (λ_ _ _=>rfl)) (λv=>⟨xs,?_,?_,O⟩)
   .rw[qI];exact Z
   .have:xs=[]:=y8 (by rw[Z.1,hl0,Nat.zero_mul]);rw[hl0,this];rfl
  .have aO:(madeCells A.cells (l.length * R.n)).toList=(dr l.length A.cells.toList).flatten:=by have al:=Eh A.cells.toList l.length;simpa [aa]using al
   have aZ:∀c∈A.cells.toList,c.oneCell'=true:=R.one _ _ _ _ (ar w);have D:((dr l.length A.cells.toList).flatten).length=l.length * R.n:=by simp[aa]
   have aH:l.length * R.n<=cs.size:=by rw[aI];exact iJ _ ap
   have ad:=GL.UK (P:=X.P) (w:=w) aB (es:=(dr l.length A.cells.toList).flatten) (by rw[D];exact aH) (λc a7=>by obtain⟨y,hy,aq⟩:=List.mem_flatten.1 a7;exact aZ c (by rw[(vm.1 hy).2]at aq;exact aq))
   have an:(kF A.cells l.length).toList=(dr l.length A.cells.toList).flatten:=by rw[<-aO,<-aa];rfl
   have L:(execOp a.eval ⟨none, .call {callee:= .builtin .clear,args:= #[x],argTypes:= #[ts]},ty,pos,af,none⟩).run X.P w= .ok (.value (.tuple #[])) (w.setRow b ((dr l.length A.cells.toList).flatten++cs.toList.drop (l.length * R.n)).toArray):=by
    rw[D]at ad;unfold execOp;have aU:(zeroValue e).run X.P w= .ok A w:=by simp[zeroValue,typeInfo,aC,az]
    have a4:(nW #[ts] ty #[.slice (some ⟨b,0,none⟩) l.length aw]).run X.P w= .ok (.tuple #[]) (w.setRow b ((dr l.length A.cells.toList).flatten++cs.toList.drop (l.length * R.n)).toArray):=by obtain⟨m,a5⟩:∃m,l.length=m+1:=⟨l.length - 1,by omega⟩;rw[a5]at an ad|-;unfold nW;simp[run_underlying W.cE,aU,an,ad]
    simp[resolve,invoke,builtin,ag,U,a4]
   unfold dy;rw[L];refine am _ _ ?_;have a0:g.om b=t:=O b (by rw[U];rfl);have ak:∀E,E<w.heap.size->g.om E≠t->(w.setRow b ((dr l.length A.cells.toList).flatten++cs.toList.drop (l.length * R.n)).toArray).heap[E]? =w.heap[E]? :=λE ak aM=>setRow_other w b E _ (λh=>aM (by rw[h];exact a0));have Y:(w.setRow b ((dr l.length A.cells.toList).flatten++cs.toList.drop (l.length * R.n)).toArray).heap.size=w.heap.size:=by simp
   refine⟨by simp[Act.put,env.size],env.defers,Fr.own env.fr I aJ (.inr trivial) rfl rfl rfl (by rw[Y];exact bh _) ak,g,⟨⟨I.ok.ec,λb al aA=>I.ok.new b al (by rw[Y]at aA;exact aA)⟩,I.om⟩,?_⟩;show aQ _ g a _;refine aQ.db (kA V (by rw[Y];exact bh _) ak) (λv=>⟨(dr l.length A.cells.toList).flatten,⟨by rw[D,qI], .inr ⟨b,aw,_,by rw[U,qI],a9,setRow_heap w b cs _ e (0,0) aB,by rw[qI];exact ap,aN,?_,?_⟩⟩,?_,O⟩)
   .simp only[g5,bY,D,eH,Array.length_toList];omega
   .rw[qI,iM (by rw[D];exact bh _),fm (by rw[D];exact bh _)]
   .exact aR.rep (R.aD _ _ z _ w _ (by rw[Y];exact bh _) (λ_ _ h=>h.elim) (ar w)) l.length
end
section
variable{u:Nat->Value}{d:Option Nat}{s:Nat}
theorem lf[R:Rp α][Flat α]{T:List Nat}(k:bK G u d f0 J)(h:ay G (rs i)=some (.at i (aa.rep T y)):=by rfl):bK G u d f0 (.ae s (.at i (aa.rep T' y))::J):=bK.Nz (dJ.cv (aW h) Cv.fl) k
theorem lo(k:bK G u d f0 J)(h:ay G s=some (.obj t ps):=by rfl):bK G u d f0 (.ae s (.obj t ps)::J):=bK.Eb (λ_ _ _ _ h=>h) (ai h) k
variable{G':List It}
theorem sf[R:Rp α][Flat α]{T:List Nat}(k:Sub G G')(h:ay G (rs i)=some (.at i (aa.rep T y)):=by rfl):Sub G (.ae s (.at i (aa.rep T' y))::G'):=Sub.cons (Has.at (dJ.cv (aW h) Cv.fl)) k
theorem sn(k:Sub G G')(h:ay G s=some f:=by rfl):Sub G (.ae s f::G'):=Sub.cons (ai h) k
theorem st[R:Rp α][Flat α]{T:List Nat}(k:Sub G G')(h:ay G s=some (aa.rep T y):=by rfl):Sub G (.ae s (aa.rep T' y)::G'):=Sub.cons (aV (ai h) Cv.fl) k
variable{Gc:List It}
end
section
variable{Q:Exit->Act->World->Prop}{rest:List Oper}{op:Op}
theorem wo(h:ah X G ⟨some d,op,ty,pos,af,none⟩ f)(k:br X ops Q (.ae d f::G) rest)(hd:Nat.blt d X.n=true:=by rfl)(z:eC op=true:=by rfl):br X ops Q G (⟨some d,op,ty,pos,af,none⟩::rest):=br.op hd h k z
theorem ws{z:List It}(h:au X G o z)(k:br X ops Q (z++G) rest)(D:o.guard=none:=by rfl)(A:eC o.op=true:=by rfl):br X ops Q G (o::rest):=br.Q0 D h k A
theorem wg{T:List Nat}(A:(ops[j]?).bind (·.dst)=some dj)(D:ay G dj=some (aa.rep T b))(h:b=want->ah X G ⟨some d,op,ty,pos,af,some (j,want)⟩ f)(k:br X ops Q (.ae d (f.c_ (b=want))::G) rest)(hd:Nat.blt d X.n=true:=by rfl)(z:eC op=true:=by rfl):br X ops Q G (⟨some d,op,ty,pos,af,some (j,want)⟩::rest):=br.mX hd A D h k z
theorem mv{x:Nat}(k:br X ops Q (.ae d f::G) rest)(h:ay G x=some f:=by rfl)(hd:Nat.blt d X.n=true:=by rfl):br X ops Q G (⟨some d, .move (.tmp x),ty,pos,af,none⟩::rest):=br.op hd (ah.move (ai h)) k
theorem ao{l:List Oper}(h:cI X ops (cB AH Is G k n) o (gG Is k))(r:jR X ops AH Is G n l (k+1)):jR X ops AH Is G n (o::l) k:=⟨h,r⟩
theorem so(h:ah X G ⟨some d,op,ty,pos,af,none⟩ f)(hd:Nat.blt d X.n=true:=by rfl):cI X ops G ⟨some d,op,ty,pos,af,none⟩ [.ae d f]:=cI.op hd h
end
def cK(ls fl:Ls):Prop:=∀g w cs,bk g w ls cs↔bk g w fl cs
theorem cK.nil:cK [] []:=λ_ _ _=>Iff.rfl
theorem cK.cons{l:Bool×Nat×aa}{fl:Ls}(h:cK ls fl):cK (l::ls) (l::fl):=λg w cs=>by
 constructor
 .rintro⟨c1,z,L,A,I,O,E,D⟩;exact⟨c1,z,L,A,I,O,E,(h g w z).1 D⟩
 .rintro⟨c1,z,L,A,I,O,E,D⟩;exact⟨c1,z,L,A,I,O,E,(h g w z).2 D⟩
theorem bk.append{g:Gh}{w:World}:∀(l m:Ls) (cs:List Value),bk g w (l++m) cs↔∃c1 z,cs=c1++z/\bk g w l c1/\bk g w m z
 |[],m,cs=>⟨λh=>⟨[],cs,rfl,rfl,h⟩,λ⟨c1,z,A,D,E⟩=>by rw[show c1=[] from D]at A;rw[A];exact E⟩
 |a::l,m,cs=>by
  constructor
  .rintro⟨c1,z,A,D,E,U,O,I⟩;obtain⟨d1,d2,Y,W,L⟩:=(bk.append l m z).1 I;exact⟨c1++d1,d2,by rw[A,Y,fE],⟨c1,d1,rfl,D,E,U,O,W⟩,L⟩
  .rintro⟨e1,e2,A,⟨c1,z,V,D,E,U,O,I⟩,L⟩;exact⟨c1,z++e2,by rw[A,V,fE],D,E,U,O,(bk.append l m _).2 ⟨z,e2,rfl,I,L⟩⟩
theorem cK.sub{inner z fl:Ls}(O:cK inner z)(Y:g7 z=n)(h:cK ls fl):cK ((true,n, .aK inner)::ls) (z++fl):=λg w cs=>by
 constructor
 .rintro⟨c1,A,E,D,L,aa,⟨V,I,U⟩,W⟩;have:c1=V:=by simp only[cL,if_true]at I;exact Mw (by injection I)
  subst this;exact(bk.append z fl cs).2 ⟨c1,A,E,(O g w c1).1 U,(h g w A).1 W⟩
 .intro Z;obtain⟨c1,A,E,D,L⟩:=(bk.append z fl cs).1 Z;exact⟨c1,A,E,by rw[D.len];exact Y,bk.one _ _ D,(λh=>by cases h),⟨c1,rfl,(O g w c1).2 D⟩,(h g w A).2 L⟩
theorem Cv.flat{fl:Ls}(h:cK ls fl):Cv G (.aK ls) (.aK fl):=λ_ w g _ _ ⟨cs,A,z⟩=>⟨cs,A,(h g w cs).1 z⟩
theorem Cv.pI{fl:Ls}(h:cK ls fl):Cv G (.aK fl) (.aK ls):=λ_ w g _ _ ⟨cs,A,z⟩=>⟨cs,A,(h g w cs).2 z⟩
theorem bk.zs{inner:Ls}{c1 c2:List Value}(z:bk g w inner c1)(k:bk g w ls c2)(A:c1.length=n:=by rfl):bk g w ((true,n, .aK inner)::ls) (c1++c2):=
 ⟨c1,c2,rfl,A,bk.one _ _ z,(λh=>by cases h),⟨c1,rfl,z⟩,k⟩
section
variable{d:Option Nat}
theorem ah.pI{fl:Ls}(h:cK ls fl)(k:ah X G o (.aK fl)):ah X G o (.aK ls):=λa w g W z I L K Q Y=>
 k a w g W z I L K Q (λv w' ⟨O,g',A,D,V,⟨cs,E,U⟩⟩=>Y v w' ⟨O,g',A,D,V,⟨cs,E,(h g' w' cs).2 U⟩⟩)
theorem eT.append{g:Gh}:∀(a b:Ps) (t:Nat) (cs:List Value),eT g t (a++b) cs↔∃c1 z,cs=c1++z/\eT g t a c1/\eT g (t+a.length) b z
 |[],b,t,cs=>⟨λh=>⟨[],cs,rfl,rfl,h⟩,λ⟨c1,z,A,D,E⟩=>by rw[show c1=[] from D]at A;rw[A];exact E⟩
 |l::a,b,t,cs=>by
  have e:t+(l::a).length=t+1+a.length:=by simp;omega
  constructor
  .rintro⟨c1,z,A,D,E,U,O,I⟩;obtain⟨d1,d2,Y,W,L⟩:=(eT.append a b (t+1) z).1 I;exact⟨c1++d1,d2,by rw[A,Y,fE],⟨c1,d1,rfl,D,E,U,O,W⟩,by rw[e];exact L⟩
  .rintro⟨e1,e2,A,⟨c1,z,V,D,E,U,O,I⟩,L⟩;exact⟨c1,z++e2,by rw[A,V,fE],D,E,U,O,(eT.append a b (t+1) _).2 ⟨z,e2,rfl,I,by rw[<-e];exact L⟩⟩
theorem ah.HR{e:TypeId}[R:Rp α]{a b:Ps}(Z:Ty X.P e α)(aa:R.agg=true)(ad:a++fk ls++b=ps)(ar:a.length=i)(ac:kH a=off)(aq:g7 ls=R.n)(hx:Has G x (.cJ t off))(ho:ay G (rs t)=some (.obj t ps))(av:bJ G (t+1+i) ls):ah X G ⟨d, .load e x,ty,pos,af,gd⟩ (.aK ls):=
 bL λak w g A=>by
  subst ad ar ac;obtain⟨az,E,ag⟩:=hx ak w g A;obtain⟨D,I,cs,aw,O,aC,V⟩:=A _ _ ho;rw[aw]at E;simp only[ix,Option.some.injEq]at E;subst E;rw[fE]at V;obtain⟨c1,aB,e1,ae,an⟩:=(eT.append _ _ _ _).1 V;obtain⟨z,aE,e2,al,aA⟩:=(eT.append _ _ _ _).1 an;have U:=al.aK A ls _ _ av;have ap:=U.len;have Y:=ae.len;refine⟨cL R.agg z,?_,z,by rw[aa];rfl,U⟩;have am:eO w ⟨D,kH a,none⟩ z:=λj u L=>by
   have W:j<z.length:=(cy.1 L).1;rw[Go.Addr.add_lit];refine⟨?_,frozen_of_row w D _ cs I O⟩;rw[cell_of_row w D _ cs I (0,0) O];have ao:cs.toList[kH a+j]? =some u:=by rw[e1,e2,oY (by omega),Y,Nat.add_sub_cancel_left,m8 W];exact L
   simpa using ao
  unfold execOp;simp[ag,lE,fL,po Z am (by rw[ap,aq])]
end
def gA(P:Program)(k:Nat)(t:TypeId)(α:Type)[R:Rp α]:Prop:=∀d,k<=d->∀(x y:α) (F F':Nat->Prop) (cs ds:List Value) (w0 w1 w:World),R.rel F x cs w0->R.rel F' y ds w1->
 ∃b:Bool,(nX d t (cL R.agg cs) (cL R.agg ds)).run P w= .ok b w/\(b=true↔x=y)
def mo(P:Program)(k:Nat)(off:Nat)(fs:List Field)(α:Type)[R:Rp α]:Prop:=∀d,k<=d->∀(x y:α) (F F':Nat->Prop) (pa qa cs ds pb qb:List Value) (w0 w1 w:World),pa.length=off->qa.length=off->R.rel F x cs w0->R.rel F' y ds w1->
 ∃b:Bool,(EB d (pa++(cs++pb)).toArray (qa++(ds++qb)).toArray fs).run P w= .ok b w/\(b=true↔x=y)
theorem gA.i64{t:TypeId}(h:P.underlying t=some (.int .i64)):gA P 1 t Int:=λd hd x y F F' cs ds w0 D w A z=>by obtain⟨d,rfl⟩:∃e,d=e+1:=⟨d - 1,by omega⟩;rw[show cs=_ from A,show ds=_ from z];exact⟨_,run_equalIn_int w d t .i64 .i64 x y h,by simp⟩
theorem gA.u8{t:TypeId}(h:P.underlying t=some (.int .u8)):gA P 1 t UInt8:=λd hd x y F F' cs ds w0 D w A z=>by obtain⟨d,rfl⟩:∃e,d=e+1:=⟨d - 1,by omega⟩;rw[show cs=_ from A,show ds=_ from z];exact⟨_,run_equalIn_int w d t .u8 .u8 _ _ h,by simp[<-UInt8.toNat_inj];omega⟩
theorem gA.mono{k':Nat}{t:TypeId}[R:Rp α](h:gA P k t α)(z:k<=k'):gA P k' t α:=λd hd=>h d (m5 z hd)
theorem CD{t:TypeId}[R:Rp α](A:Ty P t α){F:Nat->Prop}{x:α}{pa pb:List Value}{w0:World}(h:R.rel F x cs w0):
  (part t (pa++(cs++pb)).toArray pa.length).run P w= .ok (cL R.agg cs) w:=by
 have z:=R.len _ _ _ _ h;unfold part;simp only[cU,wq A,eA];cases D:R.agg with
 |true=>
  simp only[if_true,cU,gD A,eA,gx,cL];congr 2;apply Array.toList_inj.1;simp[List.extract_eq_take_drop,<-z]
 |false=>
  have E:=R.na D;rw[E]at z
  match cs,z with
  |[c],_=>
   simp[cL]
theorem L0(d:Nat)(xs ys:Array Value)(f:Field)(fs:List Field)(w:World)(I:(f.name== "_")=false)(u v:Value)(b:Bool)(D:(part f.type xs f.offset).run P w= .ok u w)(z:(part f.type ys f.offset).run P w= .ok v w)(A:(nX d f.type u v).run P w= .ok b w):(EB d xs ys (f::fs)).run P w=if b then(EB d xs ys fs).run P w else .ok false w:=by
 have E:f.name≠ "_" :=by simpa using I
 simp only[EB,cU,Sem.run_ite,D,z,A,eA];cases b<;>simp[E,D,z,A]
theorem mo.one{f:Field}[R:Rp α](O:gA P k f.type α)(z:Ty P f.type α)(ho:f.offset=off)(W:(f.name== "_")=false):mo P k off [f] α:=λd hd x y F F' pa L cs ds pb Y w0 E w U Z D A=>by subst ho;have e1:=CD (P:=P) (w:=w) z (pa:=pa) (pb:=pb) D;have e2:=CD (P:=P) (w:=w) z (pa:=L) (pb:=Y) A;rw[U]at e1;rw[Z]at e2;obtain⟨b,I,V⟩:=O d hd x y F F' cs ds w0 E w D A;refine⟨b,?_,V⟩;rw[L0 d _ _ f [] w W _ _ _ e1 e2 I];cases b<;>simp[EB]
theorem mo.cons{f:Field}{fs:List Field}[A:Rp α][B:Rp β](aa:gA P k f.type α)(E:Ty P f.type α)(ho:f.offset=off)(ak:(f.name== "_")=false)(h:mo P k (off+A.n) fs β):mo P k off (f::fs) (α×β):=λd hd x y F F' pa W cs ds pb I w0 V w O U an ae=>by subst ho;obtain⟨c1,Y,rfl,z,ag⟩:=an;obtain⟨d1,d2,rfl,D,ac⟩:=ae;have e1:=CD (P:=P) (w:=w) E (pa:=pa) (pb:=Y++pb) z;have e2:=CD (P:=P) (w:=w) E (pa:=W) (pb:=d2++I) D;rw[O]at e1;rw[U]at e2;obtain⟨L,am,ao⟩:=aa d hd x.1 y.1 F F' c1 d1 w0 V w z D;obtain⟨ad,Z,al⟩:=h d hd x.2 y.2 F F' (pa++c1) (W++d1) Y d2 pb I w0 V w (by rw[bY,O,A.len _ _ _ _ z]) (by rw[bY,U,A.len _ _ _ _ D]) ag ac;rw[fE,fE]at Z;refine⟨L&&ad,?_,by rw[gg,ao,al,Prod.ext_iff]⟩;rw[fE,fE,L0 d _ _ f fs w ak _ _ _ e1 e2 am,Z];cases L<;>simp
theorem gA.via{t:TypeId}{B:Rp β}{f:α->β}(V:P.underlying t=some (.struct (P.fieldsOf t)))(L:P.stoodInHeld t=false)(I: @mo P k 0 (P.fieldsOf t).toList β B)(z:∀x y,f x=f y->x=y): @gA P (k+1) t α (Rp.dH B f):=λd hd x y F F' cs ds w0 D w O A=>by obtain⟨d,rfl⟩:∃e,d=e+1:=⟨d - 1,by omega⟩;obtain⟨b,E,U⟩:=I d (by omega) (f x) (f y) F F' [] [] cs ds [] [] w0 D w rfl rfl O A;refine⟨b,?_,U.trans ⟨z x y,λh=>by rw[h]⟩⟩;show(nX (d+1) t (.agg cs.toArray) (.agg ds.toArray)).run P w=_;rw[run_equalIn_agg w d t _ _ V L];simpa using E
theorem gA.S9{t:TypeId}{fs:Array Field}{B:Rp β}{f:α->β}(hu:P.underlying t=some (.struct fs))(E:P.stoodInHeld t=false)(D: @mo P k 0 fs.toList β B)(A:∀x y,f x=f y->x=y): @gA P (k+1) t α (Rp.dH B f):=by
 have z:P.fieldsOf t=fs:=by unfold Program.fieldsOf;rw[hu]
 exact gA.via (by rw[z];exact hu) E (by rw[z];exact D) A
section
variable{d:Option Nat}{y:Operand}{t:TypeId}{T:List Nat}[R:Rp α][DecidableEq α]{m n:α}
theorem ah.K_(Z:gA X.P k t α)(V:X.P.eqGuardType X.P.depth t=false)(W:Nat.ble k 10000=true)(hx:Has G x (aa.rep T m))(hy:Has G y (aa.rep T' n))(O:R.agg=true:=by rfl):
  ah X G ⟨d, .binOp .eql t x y t',ty,pos,af,gd⟩ (aa.rep [] (decide (m=n))):=
 bL λa w g E=>by
  obtain⟨cs,Y,A⟩:=hx a w g E;obtain⟨ds,U,D⟩:=hy a w g E;obtain⟨b,z,I⟩:=Z 10000 (by simpa using W) m n _ _ cs ds w w w Y U;have L:b=decide (m=n):=by rw[Bool.eq_iff_iff,I];simp
  subst L;rw[O]at A D z;refine⟨.bool (decide (m=n)),?_,dw.2 rfl⟩;unfold execOp;simp only[cL,if_true]at A D z;simp[A,D,run_eqGuard_agg w _ t _ _ _ _ V,run_eql_struct w t,z]
end
section
open Go Go.ChangeShapes Go.WideShapes Go.ChangeAt Go.RowKit
def n_(P:Program)(off:Nat)(fs:List Field)(α:Type)[R:Rp α](wf:α->Prop):Prop:=
 ∀{H:Type} (enc:TypeId×Value->H) (w:World) (fuel:Nat) (cs:List Value) (xs:List (DataW H×List MemPlace)),cs.length=off+R.n->
  fs.mapM (λf=>k_ enc P w 0 (λ_=>true) true fuel f.type ((cs.drop f.offset).take (P.cellsOf f.type)))=some xs->w.noneFrozen (xs.flatMap (·.2))->∃y:α,wf y/\R.rel (λ_=>True) y (cs.drop off) w
theorem n_.one{f:Field}[R:Rp α]{A:α->Prop}(I:mM P f.type α A)(ho:f.offset=off)(D:P.cellsOf f.type=R.n):n_ P off [f] α A:=λenc w fuel cs xs L z E=>by rw[nb]at z;simp only[J1,qK,J2,Option.some.injEq,List.mapM_nil]at z;obtain⟨x,hx,_,rfl,rfl⟩:=z;rw[ho,D,fm (by simp;omega)]at hx;exact I enc w fuel _ x hx (λb o h=>E b o (by simp[h]))
theorem n_.cons{f:Field}{fs:List Field}[A:Rp α][B:Rp β]{L:α->Prop}{I:β->Prop}(ae:mM P f.type α L)(ho:f.offset=off)(ac:P.cellsOf f.type=A.n)(h:n_ P (off+A.n) fs β I):n_ P off (f::fs) (α×β) (λx=>L x.1/\I x.2):=λenc w fuel cs xs aa D O=>by
 have U:cs.length=off+A.n+B.n:=by rw[aa];exact(Nat.add_assoc _ _ _).symm
 rw[nb]at D;simp only[J1,qK,J2,Option.some.injEq]at D;obtain⟨x,hx,Z,W,rfl⟩:=D;rw[ho,ac]at hx;obtain⟨y,hy,ad⟩:=ae enc w fuel _ x hx (λb o E=>O b o (by simp[E]));obtain⟨z,Y,V⟩:=h enc w fuel cs Z U W (λb o E=>O b o (by rw[qM];exact gh _ E));refine⟨(y,z),⟨hy,Y⟩,(cs.drop off).take A.n,cs.drop (off+A.n),?_,ad,V⟩;rw[<-qO,sM]
theorem YN{t:TypeId}{fs:Array Field}{B:Rp β}{A:β->Prop}{f:α->β}(g:β->α)(h:P.underlying t=some (.struct fs))(O:P.cellsOf t=B.n)(U: @n_ P 0 fs.toList β B A)(D:∀y,f (g y)=y):
  @mM P t α (Rp.dH B f) (λx=>A (f x)):=by
 intro H enc w fuel cs x hx I;cases fuel with
 |zero=>simp[k_]at hx
 |succ fuel=>
  unfold k_ at hx;rw[h]at hx;have z:(if cs.length=P.cellsOf t then(fs.toList.mapM λf=>k_ enc P w 0 (λ_=>true) true fuel f.type ((cs.drop f.offset).take (P.cellsOf f.type))).map λxs=>(DataW.agg (xs.map (·.1)),xs.flatMap (·.2))else none)=some x:=by rw[<-hx]
  split at z
  case isFalse=>cases z
  rename_i L;simp only[iK]at z;obtain⟨xs,E,rfl⟩:=z;obtain⟨y,hy,V⟩:=U enc w fuel cs xs (by rw[L,O];omega) E I;refine⟨g y,(by show A (f (g y));rw[D];exact hy),?_⟩;show B.rel _ (f (g y)) cs w;rw[D];simpa using V
structure OT(P:Program)(t:TypeId)(α:Type)[R:Rp α](wf:α->Prop):Prop where
 h:mM P t α wf
structure OF(P:Program)(off:Nat)(fs:List Field)(α:Type)[R:Rp α](wf:α->Prop):Prop where
 h:n_ P off fs α wf
theorem OF.one{f:Field}[R:Rp α]{z:α->Prop}(D:OT P f.type α z)(ho:f.offset=off)(A:P.cellsOf f.type=R.n):OF P off [f] α z:=⟨n_.one D.h ho A⟩
theorem OF.cons{f:Field}{fs:List Field}[A:Rp α][B:Rp β]{D:α->Prop}{z:β->Prop}(I:OT P f.type α D)(ho:f.offset=off)(E:P.cellsOf f.type=A.n)(h:OF P (off+A.n) fs β z):OF P off (f::fs) (α×β) (λx=>D x.1/\z x.2):=⟨n_.cons I.h ho E h.h⟩
theorem OT.struct{t:TypeId}{fs:Array Field}{B:Rp β}{z:β->Prop}{f:α->β}(g:β->α)(h:P.underlying t=some (.struct fs))(D:P.cellsOf t=B.n)(A: @OF P 0 fs.toList β B z)(E:∀y,f (g y)=y):
 @OT P t α (Rp.dH B f) (λx=>z (f x)):= @OT.mk P t α (Rp.dH B f) _ (YN g h D A.h E)
theorem OT.i64{t:TypeId}(h:P.underlying t=some (.int .i64)):OT P t Int Nh:=⟨S0 h⟩
theorem OT.u8{t:TypeId}(h:P.underlying t=some (.int .u8)):OT P t UInt8 (λ_=>True):=⟨UL h⟩
theorem OT.u32{t:TypeId}(h:P.underlying t=some (.int .u32)):OT P t UInt32 (λ_=>True):=⟨Uz h⟩
theorem OT.bool{t:TypeId}(h:P.underlying t=some .bool):OT P t Bool (λ_=>True):=⟨open_bool h⟩
theorem OT.slice{t e:TypeId}[R:Rp α]{wf:α->Prop}(h:P.underlying t=some (.slice e))(D:P.cellsOf e=R.n)(z:0<R.n)(A:OT P e α wf):
 OT P t (List α) (λl=>l.length<=9223372036854775807/\∀x∈l,wf x):=⟨UB h D z A.h⟩
end
def qe:Nat->Value->Prop
 |0,u=>∃n:Int,u= .int .i64 n
 |1,u=>∃n:UInt8,u= .int .u8 (n.toNat:Int)
 |2,u=>∃n:UInt32,u= .int .u32 (n.toNat:Int)
 |_,u=>∃b:Bool,u= .bool b
def rQ(u v:Value):Prop:=u=v\/∃c,qe c u/\qe c v
theorem VL{c:Nat}{u:Value}(h:qe c u)(k:qe d u):∀v,qe d v->qe c v:=by
 intro v A
 match c,d with
 |0,0=>exact A
 |1,1=>exact A
 |2,2=>exact A
 |c+3,d+3=>exact A
 |0,1=>obtain⟨n,rfl⟩:=h;obtain⟨m,z⟩:=k;cases z
 |0,2=>obtain⟨n,rfl⟩:=h;obtain⟨m,z⟩:=k;cases z
 |0,d+3=>obtain⟨n,rfl⟩:=h;obtain⟨m,z⟩:=k;cases z
 |1,0=>obtain⟨n,rfl⟩:=h;obtain⟨m,z⟩:=k;cases z
 |1,2=>obtain⟨n,rfl⟩:=h;obtain⟨m,z⟩:=k;cases z
 |1,d+3=>obtain⟨n,rfl⟩:=h;obtain⟨m,z⟩:=k;cases z
 |2,0=>obtain⟨n,rfl⟩:=h;obtain⟨m,z⟩:=k;cases z
 |2,1=>obtain⟨n,rfl⟩:=h;obtain⟨m,z⟩:=k;cases z
 |2,d+3=>obtain⟨n,rfl⟩:=h;obtain⟨m,z⟩:=k;cases z
 |c+3,0=>obtain⟨n,rfl⟩:=h;obtain⟨m,z⟩:=k;cases z
 |c+3,1=>obtain⟨n,rfl⟩:=h;obtain⟨m,z⟩:=k;cases z
 |c+3,2=>obtain⟨n,rfl⟩:=h;obtain⟨m,z⟩:=k;cases z
theorem rQ.sc{c:Nat}{u:Value}(h:rQ u v)(k:qe c u):qe c v:=by
 rcases h with rfl|⟨d,A,z⟩
 .exact k
 .exact VL k A v z
theorem rQ.trans{u x:Value}(h:rQ u v)(k:rQ v x):rQ u x:=by
 rcases h with rfl|⟨c,A,z⟩
 .exact k
 .exact .inr ⟨c,A,k.sc z⟩
structure AR(w w':World)(F F':Nat->Prop):Prop where
 size:w.heap.size<=w'.heap.size
 f:∀b,b<w.heap.size->F b->F' b
 cell:∀(ad:Addr) (u:Value),ad.block<w.heap.size->F ad.block->w.cell? ad=some u->w.frozen? ad=false->∃u',w'.cell? ad=some u'/\w'.frozen? ad=false/\rQ u u'
theorem AR.trans{a b c:World}{F G H:Nat->Prop}(h:AR a b F G)(k:AR b c G H):AR a c F H:=
 ⟨m5 h.size k.size,λx hx z=>k.f x (nR hx h.size) (h.f x hx z),λad u A z L V=>by obtain⟨u1,U,D,I⟩:=h.cell ad u A z L V;obtain⟨u2,O,W,E⟩:=k.cell ad u1 (nR A h.size) (h.f _ A z) U D;exact⟨u2,O,W,I.trans E⟩⟩
section
variable{d:Option Nat}
theorem Ad.cv{s:Nat}(U:ay G s=some f)(E:Cv G f f'):Ad X G (.ae s f'::G):=λa w env=>by
 obtain⟨g,L,z⟩:=env.facts;refine⟨env.size,env.defers,env.fr,g,L,λO A I=>?_⟩;rcases kO I with⟨rfl,rfl⟩|⟨_,D⟩
 .exact E a w g _ z (z _ _ U)
 .exact z O A D
end
end GL
