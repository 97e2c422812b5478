/- Part of the proof of TopAny. -/
import Derived.Test.YthpphdegpinepaaGreatL1
namespace Go.Proofs.YthpphdegpinepaaGreat
open Go GL
open List renaming mem_append -> dx, mem_singleton -> dz, getElem?_of_mem -> qL, mem_filter -> lH, length_filter_le -> qU, filter_eq_self -> qR, take_append_of_le_length -> iM, mem_map -> gm, length_append -> bY, mem_cons_self -> ml, mem_cons -> fp, nil_append -> gZ, getElem?_map -> lG, mem_cons_of_mem -> fM, map_cons -> fh, sum_cons -> nZ, length_cons -> jq
open Nat renaming le_trans -> m5
open Option renaming bind_some -> bo, bind -> ab, map_eq_some_iff -> iK
open UInt8 renaming ofNat -> qG
open Int renaming mul_nonneg -> zD, mul_le_mul_of_nonneg_right -> Kb, mul_le_mul_of_nonneg_left -> Kd
set_option linter.all false
abbrev IS:=gQ [243,245,247] au
instance(l:List IS) (f:IS->Option Bool):Sp (Ec l f) (l.length<4294967296/\∀x∈l,T (f x) λ_=>True) (lq l f)where
 h h:=T.index h
def nK(d:N)(x:IS):Prop:=(∃h∈d.aE,∃k:UInt8,(k=2\/k=3\/k=5)/\x=⟨1,⟨k,0,0,h.L⟩⟩)\/(∃k:UInt8,(k=4\/k=6\/k=7)/\x=⟨2,⟨k,0,0,0⟩⟩)
section
variable{d:N}(hi:Inv d)
include hi
theorem Xg:T (AU d) (λr=>(∀x,x∈r↔nK d x)/\r.length<=30):=by
 obtain⟨Q,X,V,N,W,S,Z⟩:=hi.1;have Y:d.J.aE<=8:=Q.2.2.2.2.2.2.2.1;have U:=N.1;unfold AU;refine aS (bN (λs=>s=([],0)) (λ_=>0) (λs o=>?_));subst o;unfold NV;rw[S];refine aj (λk=>by cases k) λ_=>bu ?_;refine aS (bN (λs=>0<=s.2/\s.2<=d.aE.length/\(s.1.length:Int)=3 * s.2/\∀x,x∈s.1↔∃h∈d.aE.take s.2.toNat,∃k:UInt8,(k=2\/k=3\/k=5)/\x=⟨1,⟨k,0,0,h.L⟩⟩) (λs=>(d.aE.length - s.2).toNat) (λ⟨D,A⟩ o=>?_) ⟨by simp,by simp,by simp,by simp⟩ (by unfold aP;dsimp only;omega));obtain⟨q1,q2,q3,q4⟩:=o;dsimp only at q1 q2 q3 q4;unfold Oy;refine aj (λq=>?_) λq=>bu ?_
 .have q:=of_decide_eq_true q;refine ar ⟨q1,q⟩ λE K=>?_;rw[bg (x:=A+1) (by omega) (by omega)];refine aS (bN (λs=>0<=s.2/\s.2<=3/\(s.1.length:Int)=3 * A+s.2/\∀x,x∈s.1↔x∈D\/∃k:UInt8,k∈([2,3,5]:List UInt8).take s.2.toNat/\x=⟨1,⟨k,0,0,E.L⟩⟩) (λs=>(3 - s.2).toNat) (λ⟨O,w⟩ o=>?_) ⟨by simp,by simp,by dsimp only;omega,by simp⟩);obtain⟨u,p2,p3,p4⟩:=o;dsimp only at u p2 p3 p4;unfold MO;refine aj (λp=>?_) λp=>bu ?_
  .have p:=of_decide_eq_true p;refine ar ⟨u,by simp;omega⟩ λC B=>ar (by simp;omega) λI z=>?_;rw[bg (x:=w+1) (by omega) (by omega)];refine bF ⟨by dsimp only;omega,by dsimp only;omega,by dsimp only;rw[z];simp;omega,λx=>?_⟩ (by dsimp only;omega);dsimp only;rw[z,dx,p4 x,dz,take_at B.1 u];simp only[dx,dz];constructor
   .rintro((h|⟨k,j,a⟩)|h)
    .exact .inl h
    .exact .inr ⟨k, .inl j,a⟩
    .exact .inr ⟨C, .inr rfl,h⟩
   .rintro(h|⟨k,j|rfl,a⟩)
    .exact .inl (.inl h)
    .exact .inl (.inr ⟨k,j,a⟩)
    .exact .inr a
  .have:w=3:=by simp at p;omega
   subst this;refine bF ⟨by dsimp only;omega,by dsimp only;omega,by dsimp only;omega,λx=>?_⟩ (by dsimp only;omega);dsimp only;rw[p4 x,q4 x,take_at K.1 q1];simp only[dx,dz];constructor
   .rintro(⟨h,j,a⟩|⟨k,j,a⟩)
    .exact⟨h, .inl j,a⟩
    .exact⟨E, .inr rfl,k,by simpa using j,a⟩
   .rintro⟨h,j|rfl,k,a,G⟩
    .exact .inl ⟨h,j,k,a,G⟩
    .exact .inr ⟨k,by simpa using a,G⟩
 .have:A=d.aE.length:=by simp at q;omega
  subst this;rw[show((d.aE.length:Nat):Int).toNat=d.aE.length from rfl,List.take_length]at q4;refine aS (bN (λs=>0<=s.2/\s.2<=3/\(s.1.length:Int)=3 * d.aE.length+s.2/\∀x,x∈s.1↔x∈D\/∃k:UInt8,k∈([4,6,7]:List UInt8).take s.2.toNat/\x=⟨2,⟨k,0,0,0⟩⟩) (λs=>(3 - s.2).toNat) (λ⟨O,w⟩ o=>?_) ⟨by simp,by simp,by dsimp only;omega,by simp⟩);obtain⟨u,p2,p3,p4⟩:=o;dsimp only at u p2 p3 p4;unfold Qd;refine aj (λp=>?_) λp=>bu (ax ?_)
  .have p:=of_decide_eq_true p;refine ar ⟨u,by simp;omega⟩ λC B=>ar (by simp;omega) λI z=>?_;rw[bg (x:=w+1) (by omega) (by omega)];refine bF ⟨by dsimp only;omega,by dsimp only;omega,by dsimp only;rw[z];simp;omega,λx=>?_⟩ (by dsimp only;omega);dsimp only;rw[z,dx,p4 x,dz,take_at B.1 u];simp only[dx,dz];constructor
   .rintro((h|⟨k,j,a⟩)|h)
    .exact .inl h
    .exact .inr ⟨k, .inl j,a⟩
    .exact .inr ⟨C, .inr rfl,h⟩
   .rintro(h|⟨k,j|rfl,a⟩)
    .exact .inl (.inl h)
    .exact .inl (.inr ⟨k,j,a⟩)
    .exact .inr a
  .have:w=3:=by simp at p;omega
   subst this;refine⟨λx=>?_,by omega⟩;rw[p4 x,q4 x];unfold nK;constructor
   .rintro(h|⟨k,j,a⟩)
    .exact .inl h
    .exact .inr ⟨k,by simpa using j,a⟩
   .rintro(h|⟨k,j,a⟩)
    .exact .inl h
    .exact .inr ⟨k,by simpa using j,a⟩
theorem Inv.oO{h:aM}(a:h∈d.aE):d.X.cn=false:=by
 cases e:d.X.cn with
 |false=>rfl
 |true=>rw[(hi.2.1 e).1]at a;cases a
def Good(d:N)(x:IS):Prop:=(∃h∈d.aE,(h.aG=0/\true∈h.a_/\x=⟨1,⟨2,0,0,h.L⟩⟩)\/(h.aG=3/\x=⟨1,⟨5,0,0,h.L⟩⟩)\/((∃r,ud d h.L=some r/\r.2.2=0)/\x=⟨1,⟨3,0,0,h.L⟩⟩))\/
 (d.X.cn=false/\(∃y∈d.K.j,y.dC=false)/\x=⟨2,⟨4,0,0,0⟩⟩)\/((∃h∈d.aE,h.aG=4)/\x=⟨2,⟨6,0,0,0⟩⟩)\/(d.X.cn=false/\(∃y l,d.K.j=y::l/\y.cH=true)/\x=⟨2,⟨7,0,0,0⟩⟩)
theorem Zs{x:IS}(hx:nK d x):T (mC x d) (λb=>b=true↔Good d x):=by
 have aa:=hi.uN;obtain⟨S,am,ac,I,af,al,ak⟩:=hi.1;have ag:d.J.aE<=8:=S.2.2.2.2.2.2.2.1;have Z:=I.1;have key:∀{h g:aM} {k C:UInt8},(⟨1,⟨k,0,0,h.L⟩⟩:IS)=⟨1,⟨C,0,0,g.L⟩⟩->k=C/\h.L=g.L:=λe=>by injection e with _ e;injection e with e1 _ _ e2;exact⟨e1,e2⟩
 have E:∀{s t:au},(⟨1,s⟩:IS)≠⟨2,t⟩:=λe=>by injection e with e1 _;cases e1
 have A:∀{k C:UInt8},(⟨2,⟨k,0,0,0⟩⟩:IS)=⟨2,⟨C,0,0,0⟩⟩->k=C:=λe=>by injection e with _ e;injection e with e1 _ _ _
 rcases hx with⟨h,u,k,N,rfl⟩|⟨k,N,rfl⟩
 .have O:=hi.oO u;have ho:=hi.nA O u;have G:∀{g:aM},g∈d.aE->h.L=g.L->g=h:=λ{g} w e=>by obtain⟨i,e1⟩:=qL w;obtain⟨C,e2⟩:=qL u;have:=q_ I.2.2 e1 e2 e.symm;rw[this,e2]at e1;exact(Option.some.inj e1).symm
  show T (Ef ⟨k,0,0,h.L⟩ d) _;unfold Ef CL;refine aS (bQ (Bp S I u) λY U=>aj (λk=>by simp[U.1]at k) λ_=>aS (show T (idx d.aE Y.1) _ from⟨h,kg U.2.2.2 U.2.1,ax ?_⟩));refine aj (λk=>by cases k) λ_=>?_;dsimp only;rw[contains_eq (v9 S ho)];rcases N with rfl|rfl|rfl
  .refine aj (λ_=>ar (λ_=>trivial) λW z=>ax ⟨λe=> .inl ⟨h,u, .inl ?_⟩,λe=>?_⟩) λk=>by cases k
   .simp at e;have:=z (by simpa using e.1);rw[e.2]at this;exact⟨e.1,by simpa using this.symm,rfl⟩
   .rcases e with⟨g,w,⟨e1,e2,e3⟩|⟨_,e3⟩|⟨_,e3⟩⟩|⟨_,_,e3⟩|⟨_,e3⟩|⟨_,_,e3⟩
    .have:=G w (key e3).2;subst this;rw[z (by simpa using e1),e1];simpa using e2
    .exact absurd (key e3).1 (by decide)
    .exact absurd (key e3).1 (by decide)
    all_goals exact absurd e3 E
  .refine aj (λk=>by cases k) λ_=>aj (λk=>by cases k) λ_=>aS ?_;obtain⟨r,e,ad⟩:=ID hi O u;refine⟨r,e,ax ⟨λk=> .inl ⟨h,u, .inr (.inr ⟨⟨r,e,by simpa using k⟩,rfl⟩)⟩,λk=>?_⟩⟩;rcases k with⟨g,w,⟨_,_,e3⟩|⟨_,e3⟩|⟨⟨ae,e1,e2⟩,e3⟩⟩|⟨_,_,e3⟩|⟨_,e3⟩|⟨_,_,e3⟩
   .exact absurd (key e3).1 (by decide)
   .exact absurd (key e3).1 (by decide)
   .have:=G w (key e3).2;subst this;rw[e]at e1;rw[Option.some.inj e1,e2];rfl
   all_goals exact absurd e3 E
  .refine aj (λk=>by cases k) λ_=>aj (λ_=>bQ (Q:=λb=>(!(h.aG==3)&&(h.aG==1))=true->b=true) ?_ λX D=>ax ⟨λe=> .inl ⟨h,u, .inr (.inl ?_)⟩,λe=>?_⟩) λk=>by cases k
   .unfold rW;rw[O];cases(!(h.aG==3)&&(h.aG==1))with
    |true=>exact⟨true,rfl,λ_=>rfl⟩
    |false=>exact⟨default,rfl,λk=>by cases k⟩
   .simp at e;refine⟨?_,rfl⟩;rcases e with e|⟨e1,e2⟩
    .exact e
    .have:=D (by rw[e1];rfl);rw[e2]at this;cases this
   .rcases e with⟨g,w,⟨_,_,e3⟩|⟨e1,e3⟩|⟨_,e3⟩⟩|⟨_,_,e3⟩|⟨_,e3⟩|⟨_,_,e3⟩
    .exact absurd (key e3).1 (by decide)
    .have:=G w (key e3).2;subst this;rw[e1];rfl
    .exact absurd (key e3).1 (by decide)
    all_goals exact absurd e3 E
 .show T (Cf ⟨k,0,0,0⟩ d) _;unfold Cf rW;have o:∀{h:aM} {k':UInt8} {P:Prop},(⟨2,⟨k,0,0,0⟩⟩:IS)=⟨1,⟨k',0,0,h.L⟩⟩->P:=λe=>by injection e with e1 _;cases e1
  rcases N with rfl|rfl|rfl
  .refine aj (λ_=>aS (ax (ar (λ_=>⟨by omega,λy _=>⟨_,rfl,trivial⟩⟩) λW z=>ax ⟨λe=> .inr (.inl ?_),λe=>?_⟩))) λk=>by cases k
   .simp at e;have z:=z (by simpa using e.1);rcases z with⟨_,y,q,a⟩|⟨e2,_⟩
    .exact⟨e.1,⟨y,q,by have:=Option.some.inj a;simpa using this⟩,rfl⟩
    .rw[e.2]at e2;cases e2
   .rcases e with⟨g,_,⟨_,_,e3⟩|⟨_,e3⟩|⟨_,e3⟩⟩|⟨e1,⟨y,q,a⟩,_⟩|⟨_,e3⟩|⟨_,_,e3⟩
    .exact o e3
    .exact o e3
    .exact o e3
    .rw[e1];rcases z (by simpa using e1)with h|⟨_,h⟩
     .rw[h.1];rfl
     .have:some (!y.dC)=some false:=h y q;rw[a]at this;cases this
    .exact absurd (A e3) (by decide)
    .exact absurd (A e3) (by decide)
  .refine aj (λk=>by cases k) λ_=>aj (λ_=>ar ⟨by omega,λy _=>⟨_,rfl,trivial⟩⟩ λX D=>ax ⟨λe=> .inr (.inr (.inl ?_)),λe=>?_⟩) λk=>by cases k
   .rcases D with⟨_,y,q,a⟩|⟨e2,_⟩
    .exact⟨⟨y,q,by have:=Option.some.inj a;simpa using this⟩,rfl⟩
    .rw[e]at e2;cases e2
   .rcases e with⟨g,_,⟨_,_,e3⟩|⟨_,e3⟩|⟨_,e3⟩⟩|⟨_,_,e3⟩|⟨⟨y,q,a⟩,_⟩|⟨_,_,e3⟩
    .exact o e3
    .exact o e3
    .exact o e3
    .exact absurd (A e3) (by decide)
    .rcases D with h|⟨_,h⟩
     .exact h.1
     .have:some (y.aG==4)=some false:=h y q;rw[a]at this;cases this
    .exact absurd (A e3) (by decide)
  .refine aj (λk=>by cases k) λ_=>aj (λk=>by cases k) λ_=>aS (ax (ar (λk=>by simp at k;exact⟨by omega,by omega⟩) λV B=>ax ⟨λe=> .inr (.inr (.inr ?_)),λe=>?_⟩))
   .simp at e;have B:=(B (by simp;exact e.1)).1;cases el:d.K.j with
    |nil=>rw[el]at e;simp at e
    |cons y l=>
     rw[el]at B;have:y=V:=by simpa using B
     exact⟨e.1.1,⟨y,l,rfl,by rw[this];exact e.2⟩,rfl⟩
   .rcases e with⟨g,_,⟨_,_,e3⟩|⟨_,e3⟩|⟨_,e3⟩⟩|⟨_,_,e3⟩|⟨_,e3⟩|⟨e1,⟨y,l,q,a⟩,_⟩
    .exact o e3
    .exact o e3
    .exact o e3
    .exact absurd (A e3) (by decide)
    .exact absurd (A e3) (by decide)
    .rw[e1,q]at B|-;have:=(B (by simp)).1;have:y=V:=by simpa using this
     rw[<-this,a];simp
end
section
variable{d:N}(hi:Inv d)
include hi
theorem QR:T (v5 d) (λr=>(∀x,x∈r↔nK d x/\Good d x)/\r.length<=30):=by
 have G:=hi.1.2.2.1;unfold v5;refine aj (λk=>by simp[G]at k) λ_=>bQ (Xg hi) λj u=>?_;have w:∀x∈j,∃b,mC x d=some b/\(b=true↔Good d x):=λx hx=>Zs hi ((u.1 x).1 hx);have B:∀r,r=j.filter (λx=>(mC x d).getD false)->T (Em r) (λr=>(∀x,x∈r↔nK d x/\Good d x)/\r.length<=30):=λr D=>ax ⟨λx=>by
   rw[D,lH,<-u.1 x];constructor
   .rintro⟨a,b⟩;obtain⟨c,e,A⟩:=w x a;rw[e]at b;exact⟨a,A.1 b⟩
   .rintro⟨a,b⟩;obtain⟨c,e,A⟩:=w x a;rw[e];exact⟨a,A.2 b⟩,by rw[D];exact m5 (qU _ _) u.2⟩
 have neg:∀x∈j,qV x d=some (!((mC x d).getD false)):=λx hx=>by obtain⟨b,e,_⟩:=w x hx;unfold qV;rw[e];rfl
 refine ar ⟨by have:=u.2;omega,λx hx=>⟨_,neg x hx,trivial⟩⟩ λo S=>?_;have C:(o= -1/\∀x∈j,(mC x d).getD false=true)\/(0<=o/\o<j.length/\∃x,j[o.toNat]? =some x/\x∈j/\(mC x d).getD false=false/\∀y∈j.take o.toNat,(mC y d).getD false=true):=by
  rcases S with⟨a,b⟩|⟨a,b,x,c,e,f,g⟩
  .refine .inl ⟨a,λx hx=>?_⟩;have:qV x d=some false:=b x hx;rw[neg x hx]at this;simpa using this
  .refine .inr ⟨a,b,x,c,e,?_,λy q=>?_⟩
   .have:qV x d=some true:=f;rw[neg x e]at this;simpa using this
   .have:qV y d=some false:=g y q;rw[neg y (List.mem_of_mem_take q)]at this;simpa using this
 refine aj (λk=>?_) λk=>?_
 .rcases C with⟨_,h⟩|⟨h,_⟩
  .exact B _ (qR.2 h).symm
  .simp at k;omega
 .obtain⟨Q,K,x,L,ac,O,U⟩:=C.resolve_left (λh=>by rw[h.1]at k;cases k);have aa:=u.2;rw[bg (x:=o+1) (by omega) (by omega)];refine bQ (T.QZ (λx=>(mC x d).getD false) (by omega) ⟨Q,K⟩ U (λy q=>?_) (λl i V y Z ad N Y I J=>?_) (λl i=>?_)) λb z=>?_
  .rw[L]at q;rw[<-Option.some.inj q];exact O
  .unfold EY JP AQ;dsimp only;obtain⟨v,e,_⟩:=w y J;rw[decide_eq_true N,cond_true,kg I (by omega),bo,e,bo,bg (x:=V+1) (by omega) (by omega),bg (x:=i+1) (by omega) (by omega)];cases v with
   |true=>simp only[Bool.not_true,Bool.not_false,cond_true,Option.getD_some];rw[show GL.b_ l.length i=some i.toNat by unfold GL.b_;rw[if_pos (by omega)]];rfl
   |false=>rfl
  .unfold EY;simp
  .refine ar ⟨z.1,z.2.1,by omega⟩ λW _=>ar ⟨by omega,z.1,by simp;omega⟩ λX E=>B _ ?_;rw[E,iM (by simp;omega),List.take_take,Nat.min_self,z.2.2.2];rfl
theorem Lq{x:IS}(hx:nK d x):Bq x=some x.x:=by rcases hx with⟨h,_,k,_,rfl⟩|⟨k,_,rfl⟩<;>rfl
theorem TJ:T (As d) (λr=>r.2=0/\r.1.length<=30/\(∀s,s∈r.1↔∃x,nK d x/\Good d x/\x.x=s)):=by
 unfold As;rw[mB hi,bo];refine aj (λk=>by cases k) λ_=>bQ (QR hi) λj a=>?_;refine aS (bN (λs=>0<=s.2/\s.2<=j.length/\s.1=(j.take s.2.toNat).map (·.x)) (λs=>(j.length - s.2).toNat) (λ⟨s3,u⟩ D=>?_) (by simp) (by unfold aP;have:=a.2;dsimp only;omega));obtain⟨q1,q2,q3⟩:=D;dsimp only at q1 q2 q3;have A:=a.2;unfold P7;refine aj (λq=>?_) λq=>bu (ax ⟨rfl,?_,λs=>?_⟩)
 .have q:=of_decide_eq_true q;refine ar ⟨q1,q⟩ λE z=>?_;rw[Lq hi ((a.1 E).1 z.2.1).1,bo,bg (x:=u+1) (by omega) (by omega)];exact ar (by rw[q3];simp;omega) λG B=>bF ⟨by dsimp only;omega,by dsimp only;omega,by dsimp only;rw[B,q3,take_at z.1 q1];simp⟩ (by dsimp only;omega)
 .have q: ¬u<j.length:=by simpa using q
  rw[kS (by omega)]at q3;dsimp only;rw[q3];simp;exact A
 .have q: ¬u<j.length:=by simpa using q
  rw[kS (by omega)]at q3;dsimp only;rw[q3,gm];constructor
  .rintro⟨x,o,w⟩;exact⟨x,((a.1 x).1 o).1,((a.1 x).1 o).2,w⟩
  .rintro⟨x,o,w,C⟩;exact⟨x,(a.1 x).2 ⟨o,w⟩,C⟩
theorem YC{x:IS}(ds:List aU)(K:fq d.J ds)(G:iB d.J d.X ds)(C:Good d x):T (HF x d ds) (iQ d):=by
 have w:∀{y:Option (N×(List cd)×Int)},T y (iQ d)->T (ab y λu=>some (u.1,u.2.1,u.2.2)) (iQ d):=λh=>bQ h λr E=>ax E;rcases C with⟨h,j,⟨o,hd,rfl⟩|⟨o,rfl⟩|⟨⟨r,e,D⟩,rfl⟩⟩|⟨a,⟨y,z,q⟩,rfl⟩|⟨⟨h,j,o⟩,rfl⟩|⟨a,⟨y,l,z,q⟩,rfl⟩
 .have a:=hi.oO j;show T (pr ⟨2,0,0,h.L⟩ d ds) _;unfold pr;refine aj (λ_=>bQ (TV hi a j ds K G o hd) λr ⟨b,I,e⟩=>ax ?_) λk=>by cases k
  rw[e];exact RY hi a j o hd I
 .have a:=hi.oO j;show T (pr ⟨5,0,0,h.L⟩ d ds) _;unfold pr;exact aj (λk=>by cases k) λ_=>aj (λ_=>w (VV hi a j o)) λk=>by cases k
 .have a:=hi.oO j;show T (pr ⟨3,0,0,h.L⟩ d ds) _;unfold pr;refine aj (λk=>by cases k) λ_=>aj (λk=>by cases k) λ_=>w ?_;obtain⟨O,A,B⟩:=ID hi a j;rw[e]at A;obtain rfl:=Option.some.inj A;exact⟨r,e,YG hi a j B D⟩
 .show T (pQ ⟨4,0,0,0⟩ d ds) _;unfold pQ;exact aj (λ_=>w (ZX hi a z q)) λk=>by cases k
 .have a:=hi.oO j;show T (pQ ⟨6,0,0,0⟩ d ds) _;unfold pQ;exact aj (λk=>by cases k) λ_=>aj (λ_=>w (Y4 hi a j o)) λk=>by cases k
 .show T (pQ ⟨7,0,0,0⟩ d ds) _;unfold pQ;exact aj (λk=>by cases k) λ_=>aj (λk=>by cases k) λ_=>w (X1 hi a z q)
theorem VJ:xQ d=some (d,[]):=T.eq (by
 obtain⟨j,E,A,z,q,o,D⟩:=hi.1;unfold xQ;rw[o];refine aS (bN (λs=>s=([],[])) (λ_=>0) (λs a=>?_));subst a;unfold Nl;dsimp only;refine bQ (Q:=λr=>r=([],[],0)) ?_ λB u=>aj (λ_=>bu (ax (by rw[<-o]))) λk=>by subst u;simp at k
 unfold JY;rw[Ge j,bo];refine aj (λk=>by cases k) λ_=>ar ⟨j,q⟩ λC w=>aj (λk=>by simp[w]at k) λ_=>?_;refine aS (bN (λs=>s=([],[],0)) (λ_=>0) (λs a=>?_));subst a;unfold N8;refine bu ?_;unfold F7;dsimp only;refine aS (bN (λs=>s=([],0)) (λ_=>0) (λs a=>?_));subst a;unfold K3;refine bu ?_;rw[P9];exact ax rfl)
theorem Sk{s:au}(ds:List aU)(q:fq d.J ds)(I:iB d.J d.X ds)(D:∃x,nK d x/\Good d x/\x.x=s):T (uJ d ds s) (λr=>iQ d (r.1,r.2.1,r.2.2.2)/\r.2.2.1=[]):=by
 have u:=hi.1.2.2.1;unfold uJ;rw[mB hi,bo];refine aj (λk=>by cases k) λ_=>ar (by have:=q.2.1;have:=hi.1.1.2.1;omega) λB L=>?_;have:B=0:=by grind
 subst this;unfold Bk;refine aj (λk=>by cases k) λ_=>aj (λk=>by simp[u]at k) λ_=>bQ (QR hi) λA a=>?_;have tl:∀y∈A,vN y s=some (decide (y.x=s)):=λy j=>by unfold vN;rw[Lq hi ((a.1 y).1 j).1];rfl
 refine ar ⟨by have:=a.2;omega,λy j=>⟨_,tl y j,trivial⟩⟩ λO G=>?_;obtain⟨x,t1,t2,E⟩:=D;rcases G with⟨_,h⟩|⟨w,C,y,N,S,_⟩
 .exfalso;have hx:=(a.1 x).2 ⟨t1,t2⟩;have:vN x s=some false:=h x hx;rw[tl x hx,E]at this;simp at this
 .refine aj (λk=>by simp at k;omega) λ_=>ar ⟨w,C⟩ λz K=>bQ (YC hi ds q I ((a.1 z).1 K.2.1).2) λQ o=>aj (λk=>by simp[o.1]at k) λ_=>?_;rw[VJ o.2.1,bo];exact ax ⟨⟨rfl,o.2⟩,rfl⟩
theorem FD(ds:List aU):T (ni ⟨d,ds⟩) (λr=>r.length<=2/\∀x∈r,(d.X.dt=true/\d.X.Pos<d.J.bz * d.J.bb/\x=⟨⟨8,0,0,d.X.Pos⟩,⟨1,⟨d,ds⟩⟩⟩)\/(d.X.dt=true/\d.X.cN<d.X.Pos/\x=⟨⟨9,0,0,0⟩,⟨2,⟨d,ds⟩⟩⟩)):=by
 obtain⟨C,U,D,z,K,O,N⟩:=hi.1;unfold ni;refine aj (λ_=>ax ⟨by simp,by simp⟩) λk=>?_;have q:d.X.dt=true:=by simp at k;exact k.2
 refine ar trivial λA B=>?_;unfold told at B;have u:∀l:List kV,l.length<=1->(∀x∈l,d.X.Pos<d.J.bz * d.J.bb/\x=⟨⟨8,0,0,d.X.Pos⟩,⟨1,⟨d,ds⟩⟩⟩)->T (uY ⟨d,ds⟩ l) (λr=>r.length<=2/\∀x∈r,(d.X.dt=true/\d.X.Pos<d.J.bz * d.J.bb/\x=⟨⟨8,0,0,d.X.Pos⟩,⟨1,⟨d,ds⟩⟩⟩)\/(d.X.dt=true/\d.X.cN<d.X.Pos/\x=⟨⟨9,0,0,0⟩,⟨2,⟨d,ds⟩⟩⟩)):=λl o a=>by
  unfold uY yL;refine aj (λk=>ar (by simp;omega) λG j=>ax ⟨by rw[j];simp;omega,λx hx=>?_⟩) λ_=>ax ⟨by omega,λx hx=> .inl ⟨q,a x hx⟩⟩;rw[j]at hx;rcases dx.1 hx with h|h
  .exact .inl ⟨q,a x h⟩
  .exact .inr ⟨q,of_decide_eq_true k,dz.1 h⟩
 refine bQ (Q:=λ_=>True) ?_ λI _=>aj (λk=>ar (by simp) λE w=>u _ (by rw[w];simp) λx hx=>?_) λ_=>u _ (by simp) (by simp)
 .cases e:decide (d.X.Pos<A.1)with
  |false=>exact⟨_,rfl,trivial⟩
  |true=>
   show T (w_ d d.X.Pos) _;unfold w_;refine bQ (MW C z d.X.Pos) λL o=>?_;rcases o with⟨h,_⟩|⟨o,a,j,x,S,_⟩
   .exact aj (λ_=>ax trivial) λk=>by simp[h]at k
   .exact aj (λk=>by simp[o]at k) λ_=>ar ⟨a,j⟩ λy _=>ax trivial
 .rw[w]at hx;simp at k hx;exact⟨by grind,hx⟩
theorem Uh{s:au}(ds:List aU)(B:fq d.J ds)(I:iB d.J d.X ds)(O:∀l,ni ⟨d,ds⟩=some l->∃x∈l,x.au=s):T (uA d ds s) (λr=>iQ d r\/r.2.2=9):=by
 have D:=hi.1.2.2.1;unfold uA JT;rw[mB hi,bo];refine aS (ar (λ_=>by have:=B.2.1;have:=hi.1.1.2.1;omega) λj N=>?_);have:j=0:=by have:=N rfl;grind
 subst this;refine aj (λk=>by cases k) λ_=>aj (λk=>by simp[D]at k) λ_=>ax (aj (λk=>by cases k) λ_=>?_);obtain⟨l,e,Q,C⟩:=FD hi ds;obtain⟨x,E,j⟩:=O l e;rw[e,bo];refine aS (bN (λk=>0<=k/\k<=l.length/\∀y∈l.take k.toNat,y.au≠s) (λk=>(l.length - k).toNat) (λk G=>?_) (by simp) (by unfold aP;omega));obtain⟨q1,q2,q3⟩:=G;unfold QL;refine aj (λq=>?_) λq=>?_
 .have q:=of_decide_eq_true q;refine ar ⟨q1,q⟩ λA z=>aj (λa=>?_) λa=>?_
  .have a:=of_decide_eq_true a;have key:T (FE A.tf s.L) (λr=>iQ d r\/r.2.2=9):=by
    rcases C A z.2.1 with⟨o,u,rfl⟩|⟨o,u,rfl⟩
    .rw[<-a];exact(ZG hi ds B I o u).mono λr h=> .inl h
    .exact Xj hi ds s.L o u
   exact bQ key λr K=>bu (T.inl (ax K))
  .rw[bg (x:=k+1) (by omega) (by omega)];refine bF ⟨by omega,by omega,λy w=>?_⟩ (by omega);rw[take_at z.1 q1]at w;rcases dx.1 w with h|h
   .exact q3 y h
   .rw[dz.1 h];exact of_decide_eq_false a
 .exfalso;have q: ¬k<l.length:=by simpa using q
  rw[kS (by omega)]at q3;exact q3 x E j
end
theorem TN(d:N)(ds:List aU):(ni ⟨d,ds⟩).map (λl=>l.map (·.au))=(ni ⟨d,[]⟩).map (λl=>l.map (·.au)):=by
 unfold ni uY yL;dsimp only;cases(d.X.cO|| !d.X.dt)with
 |true=>rfl
 |false=>
  simp only[cond_false];cases kv d.J with
  |none=>rfl
  |some a=>
   simp only[bo];cases gO (decide (d.X.Pos<a.1)) (w_ d d.X.Pos)with
   |none=>rfl
   |some j=>
    simp only[bo];cases(decide (d.X.Pos<a.1)&&(j==(0:UInt8)))<;>cases decide (d.X.cN<d.X.Pos)<;>rfl
section
variable{d:N}(hi:Inv d)
include hi
theorem NO(ds:List aU):T (CX d) (λr=>r.2=0/\r.1.length<=2/\∀s∈r.1,∀l,ni ⟨d,ds⟩=some l->∃x∈l,x.au=s):=by
 unfold CX;rw[mB hi,bo];refine aj (λk=>by cases k) λ_=>?_;obtain⟨l,e,w,B⟩:=FD hi [];rw[e,bo];refine aS (bN (λs=>0<=s.2/\s.2<=l.length/\s.1=(l.take s.2.toNat).map (·.au)) (λs=>(l.length - s.2).toNat) (λ⟨s3,j⟩ a=>?_) (by simp) (by unfold aP;dsimp only;omega));obtain⟨q1,q2,q3⟩:=a;dsimp only at q1 q2 q3;unfold Mg;refine aj (λq=>?_) λq=>bu (ax ?_)
 .have q:=of_decide_eq_true q;refine ar ⟨q1,q⟩ λD o=>?_;rw[bg (x:=j+1) (by omega) (by omega)];exact ar (by rw[q3];simp;omega) λC z=>bF ⟨by dsimp only;omega,by dsimp only;omega,by dsimp only;rw[z,q3,take_at o.1 q1];simp⟩ (by dsimp only;omega)
 .have q: ¬j<l.length:=by simpa using q
  rw[kS (by omega)]at q3;dsimp only;rw[q3];refine⟨rfl,by simpa using w,λs a A u=>?_⟩;have:=TN d ds;rw[e,u]at this;have:=Option.some.inj this;rw[show l.map (·.au)=A.map (·.au) from this.symm]at a;exact gm.1 a
def Nb(d:N)(r:List au):Prop:=r.length<=32/\(∀ds,fq d.J ds->iB d.J d.X ds->∀s∈r,(s.bG.toNat<8->T (uJ d ds s) λr=>iQ d (r.1,r.2.1,r.2.2.2)/\r.2.2.1=[])/\(¬s.bG.toNat<8->T (uA d ds s) λr=>iQ d r\/r.2.2=9))/\(r=[]->∀x,nK d x-> ¬Good d x)
theorem TE(ds:List aU)(u:Bool)(rs:List kQ):T (tv ⟨⟨d,ds,u⟩,rs⟩) (Nb d):=by
 unfold tv;refine bQ (TJ hi) λE j=>?_;obtain⟨C,e2,q⟩:=NO hi [];rw[e2,bo];refine ar (by have:=j.2.1;have:=q.2.1;omega) λI r=>ax ⟨by rw[r,bY];have:=j.2.1;have:=q.2.1;omega,λds A z s a=>?_,λe x t1 t2=>?_⟩
 .have o:∀{s:au},s∈E.1->s.bG.toNat<8:=λ{s} a=>by obtain⟨x,t,_,rfl⟩:=(j.2.2 s).1 a;rcases t with⟨h,_,k,o,rfl⟩|⟨k,o,rfl⟩<;>(rcases o with rfl|rfl|rfl<;>simp)
  have B:s∈C.1-> ¬s.bG.toNat<8:=λa=>by obtain⟨l,e,_,D⟩:=FD hi [];obtain⟨x,hx,rfl⟩:=q.2.2 s a l e;rcases D x hx with⟨_,_,rfl⟩|⟨_,_,rfl⟩<;>simp
  rw[r]at a;refine⟨λk=>?_,λk=>?_⟩
  .have a:=(dx.1 a).resolve_right λh=>B h k;exact Sk hi ds A z ((j.2.2 s).1 a)
  .have a:=(dx.1 a).resolve_left λh=>k (o h);obtain⟨J,w,G⟩:=NO hi ds;rw[e2]at w;obtain rfl:=Option.some.inj w;exact Uh hi ds A z (G.2.2 s a)
 .rw[r,List.append_eq_nil_iff]at e;have:=(j.2.2 x.x).2 ⟨x,t1,t2,rfl⟩;rw[e.1]at this;cases this
theorem Yu(o:∀x,nK d x-> ¬Good d x):d.K.j=[]\/d.K.Seq.toNat=2147483648:=by
 cases e:d.X.cn with
 |true=>exact .inl (hi.2.1 e).2
 |false=>
  obtain⟨c1,E,A⟩:=hi.2.2 e;by_cases hS:d.K.Seq.toNat=2147483648
  .exact .inr hS
  .refine .inl ?_;have sure:∀y∈d.K.j,y.dC=true:=λy z=>by
    cases k:y.dC with
    |true=>rfl
    |false=>exact(o _ (.inr ⟨4, .inl rfl,rfl⟩) (.inr (.inl ⟨e,⟨y,z,k⟩,rfl⟩))).elim
   have nd:∀h∈d.aE,h.aG.toNat=0/\ ¬true∈h.a_:=λh a=>by
    have ho:=hi.nA e a;have s:=c1 h a;have L:h.aG=0\/h.aG=1\/h.aG=2\/h.aG=3\/h.aG=4:=by have:=ho.1.2.2.2.2;have q:∀n:Nat,n<256->h.aG.toNat=n->h.aG=qG n:=λn _ k=>UInt8.toNat_inj.1 (by rw[k,UInt8.toNat_ofNat'];omega);rcases(by omega:h.aG.toNat=0\/h.aG.toNat=1\/h.aG.toNat=2\/h.aG.toNat=3\/h.aG.toNat=4)with k|k|k|k|k<;>simp[q _ (by omega) k]
    rcases L with p|p|p|p|p
    .exact⟨by rw[p];rfl,λhd=>o _ (.inl ⟨h,a,2, .inl rfl,rfl⟩) (.inl ⟨h,a, .inl ⟨p,hd,rfl⟩⟩)⟩
    .exfalso;obtain⟨r,G,u⟩:=ID hi e a;rcases u with u|u
     .exact o _ (.inl ⟨h,a,3, .inr (.inl rfl),rfl⟩) (.inl ⟨h,a, .inr (.inr ⟨⟨r,G,u.1⟩,rfl⟩)⟩)
     .exact hS (u.2 p).2
    .exfalso;obtain⟨x,I,_,_,_,N⟩:=s.2.2 (by rw[p];decide);have:=N.1 (sure x (qz I).1);rw[p]at this;exact absurd this (by decide)
    .exact(o _ (.inl ⟨h,a,5, .inr (.inr rfl),rfl⟩) (.inl ⟨h,a, .inr (.inl ⟨p,rfl⟩)⟩)).elim
    .exact(o _ (.inr ⟨6, .inr (.inl rfl),rfl⟩) (.inr (.inr (.inl ⟨⟨h,a,p⟩,rfl⟩)))).elim
   cases el:d.K.j with
   |nil=>rfl
   |cons y l=>
    exfalso;have z:y∈d.K.j:=by rw[el];exact ml
    have B:y.cH=false:=by
     cases k:y.cH with
     |false=>rfl
     |true=>exact(o _ (.inr ⟨7, .inr (.inr rfl),rfl⟩) (.inr (.inr (.inr ⟨e,⟨y,l,el,k⟩,rfl⟩)))).elim
    obtain⟨x,hx⟩:=H0 z;have J:x.bP=true:=by
     cases k:x.bP with
     |true=>rfl
     |false=>
      exfalso;obtain⟨h,a,D⟩:=(E _ _ hx).1 k;have s:=c1 h a;have:=s.2.1.2 ⟨x,by rw[D];exact hx,k⟩;exact(nd h a).2 ((s.1 (by have:=(nd h a).1;omega)).1 this)
    have C:x.cH=true:=by
     cases k:x.cH with
     |true=>rfl
     |false=>
      exfalso;obtain⟨h,a,D,O⟩:=(E _ _ hx).2 J k;have:=(nd h a).1;omega
    have w:=qz hx;unfold Lg at A;rw[el]at A w;rcases fp.1 w.1 with h|h
    .rw[h,B]at C;cases C
    .rw[(List.pairwise_cons.1 A).1 x h w.2.symm C]at B;cases B
end
theorem MH{d:N}{ds:List aU}{u:Bool}(A:ku d=some d)(a:jH ds):Ca ⟨d,ds,u⟩=some ⟨d,ds,u⟩:=T.eq (by
 have:=a.2.1;unfold Ca FU;dsimp only;rw[A,bo];refine aS (ar (by simp;omega) λr j=>ax ?_);simp only[gZ]at j;subst j;refine aS (T.Oj r id (by omega) (λk o x B z C q w=>?_) ?_)
 .unfold Fy;dsimp only;rw[decide_eq_true z,cond_true,show GL.b_ o.length k=some k.toNat by unfold GL.b_;rw[if_pos (by omega)],bo,w,bo,OB (a.2.2 x q),bo,bo,bg (x:=k+1) (by omega) (by omega)];rfl
 .unfold Fy;dsimp only;exact aj (λk=>by simp at k) λ_=>bu (ax (by simp)))
theorem KB{l l':List aU}(h:dd l'=dd l){i:Nat}{x:aU}(hx:l'[i]? =some x):∃y,l[i]? =some y/\x.dS=y.dS:=by
 have a:(dd l)[i]? =some x.dS:=by rw[<-h];unfold dd;rw[lG,hx];rfl
 unfold dd at a;rw[lG]at a;obtain⟨y,e1,e2⟩:=iK.1 a;exact⟨y,e1,e2.symm⟩
abbrev Fs:=Int×UInt32×Int×Int×Int×Int×Int×Bool×UInt32×Int×Bool×Int×Int×Bool×Bool×(List aM)×UInt32×UInt32×Int×Int×(List j)×(List dq)×Int×Bool×(List aU)×(List kQ)
def un(k:Int)(d:N)(ds:List aU):Fs:=
 (k,d.J.Id,d.J.aw,d.J.bz,d.J.bb,d.J.K,d.J.aE,d.ee,d.X.cZ,d.X.bZ,d.X.dt,d.X.Pos,d.X.cN,d.X.cn,d.X.cO,d.aE,d.K.bR,d.K.Seq,d.K.ca,d.K.cg,d.K.j,d.du,d.Next,d.eU,ds,[])
def Pd(r:eQ×(List kQ)×Int):Prop:=r.2.2=9\/(r.2.2=0/\r.1.Up=true/\Inv r.1.N/\fq r.1.N.J r.1.f_/\Nb r.1.N []/\tv ⟨r.1,[]⟩=some [])
abbrev Wt:=UInt32×Int×Int×Int×Int×Int×Bool×UInt32×Int×Bool×Int×Int×Bool×Bool×(List aM)×UInt32×UInt32×Int×Int×(List j)×(List dq)×Int×Bool×(List aU)×(List kQ)
def RI(w:Int)(s:Fs):Prop:=∃k d ds,s=un k d ds/\0<=k/\k+W d<=w/\Inv d/\fq d.J ds/\iB d.J d.X ds
def RB(j:eQ)(b:Fs⊕Wt):Prop:=T (Sum.elim (λa=>v8 j a) (λo=>none) b) Pd
theorem YS{d:N}{ds:List aU}(hi:Inv d)(E:fq d.J ds)(af:iB d.J d.X ds){C:eQ}(hu:C.Up=true){u:iA}(aA:u.B=1500)(I:0<=u.A/\u.A<=255){w k:Int}(k0:0<=k)(aH:k+W d<=w)(aG:w<1500):
  T (Hc u C (un k d ds)) (LP (RI w) (λs=>(1500 - s.1).toNat) (RB C) (un k d ds)):=by
 unfold Hc un;dsimp only;have hd:=E.ds;obtain⟨D,Q,V⟩:=TE hi ds C.Up [];refine aj (λ_=>aS ⟨D,Q,aj (λe=>?_) λe=>?_⟩) λq=>by simp[aA]at q;omega
 .have e:D=[]:=by
   have e:(D.length:Int)=0:=by simpa using e
   exact List.length_eq_zero_iff.1 (by omega)
  subst e;unfold oQ;refine aj (λk=>by cases k) λ_=>aj (λ_=>bu (T.inl ?_)) λk=>by cases k
  unfold v8;exact aj (λk=>by cases k) λ_=>ax (.inr ⟨rfl,hu,hi,E,V,Q⟩)
 .have aI:0<D.length:=by
   have e: ¬(D.length:Int)=0:=by simpa using e
   omega
  have e1:wI (k+1)=k+1:=bg (by omega) (by omega);have bA:0<=u.A * (k+1):=zD I.1 (by omega);have bB:u.A * (k+1)<=255 * (k+1):=Kb I.2 (by omega);rw[e1,bg (x:=u.A * (k+1)) (by omega) (by omega)];refine ar ⟨bA,by omega⟩ λaC S=>ar ⟨S.2.1,S.2.2⟩ λam ak=>?_;have ad:=V.2.1 ds E af am ak.2.1;have Y:∀{Z:List aU},T (oQ k (un 9 d Z)) (LP (RI w) (λs=>(1500 - s.1).toNat) (RB C) (un k d ds)):=λ{Z}=>by unfold oQ un;refine aj (λk=>by cases k) λ_=>aj (λk=>by cases k) λ_=>bu (T.inl ?_);unfold v8;exact aj (λ_=>ax (.inl rfl)) λk=>by cases k
  have go:∀{o:N} {gi:List cd} {e:Int},(iQ d (o,gi,e)\/e=9)->T (x' k d.J.Id d.J.aw d.J.bz d.J.bb d.J.K d.J.aE d.ee d.X.cZ d.X.bZ d.X.dt d.X.Pos d.X.cN d.X.cn d.X.cO d.aE d.K.bR d.K.Seq d.K.ca d.K.cg d.K.j d.du d.Next d.eU ds []
    (o.J,o.ee,o.X,o.aE,o.K.bR,o.K.Seq,o.K.ca,o.K.cg,o.K.j,o.du,o.Next,o.eU,gi,[],e)) (LP (RI w) (λs=>(1500 - s.1).toNat) (RB C) (un k d ds)):=λ{o gi e} h=>by
   unfold x';refine aj (λG=>?_) λG=>?_
   .have:e=9:=h.resolve_left λh=>by have:=h.1;dsimp only at this;rw[this]at G;cases G
    subst this;exact Y
   .have G:e=0:=by simpa using G
    obtain⟨_,aa,s2,s3,ay,ao,ac⟩:=h.resolve_right (by omega);dsimp only at aa s2 s3 ay ao ac;refine ar ⟨hd,by omega,λa I=>(ac a I).ok E,Int.min_self _⟩ λU al=>?_;unfold AN Hw Jc;dsimp only;rcases al with⟨ae,z2,z3,z4⟩|z|z
    .refine aj (λ_=>aj (λk=>by simp[ae]at k) λ_=>?_) λk=>by simp[ae]at k
     refine ar (by simp) λaF ag=>?_;subst ag;unfold oQ;refine aj (λ_=>?_) λk=>by cases k
     rw[e1];have an:fq d.J U.1:=E.sz z2 z3;refine bF ⟨k+1,o,U.1,rfl,by omega,by omega,aa,by rw[s2];exact an,?_⟩ (by unfold un;dsimp only;omega);rw[s2];refine s3 _ λi x av az ap=>?_;obtain⟨y,aB,aq⟩:=KB z4 az;exact af i y av aB (by rw[<-aq];exact ap)
    .exact aj (λk=>by simp[z]at k) λ_=>aj (λ_=>by rw[z];exact Y) λk=>by simp[z]at k
    .omega
  refine aj (λO=>bQ (ad.1 (by have:=of_decide_eq_true O;simp at this;omega)) λr L=>?_) λO=>bQ (ad.2 (by have:=of_decide_eq_false O;simp at this;omega)) λr L=>?_
  .rw[L.2];exact go (.inl L.1)
  .exact go L
theorem P_{d:N}{ds:List aU}{u:Bool}(hi:Inv d)(a:fq d.J ds):qE ⟨d,ds,u⟩=some 0:=T.eq (by have z:=a.2.1;have A:=hi.1.1.2.1;have r:d.Next=1:=hi.1.2.2.2.2.2.2;unfold qE;refine ar trivial λq w=>ar (λ_=>by dsimp only;omega) λo j=>?_;dsimp only at j|-;obtain rfl:q=0:=(w.resolve_right λh=>h.2 a.1).1;obtain rfl:o=0:=((j rfl).resolve_right λh=>h.2 a).1;rw[r,mB hi];cases u<;>exact ax rfl)
theorem S1{d:N}{ds:List aU}(hi:Inv d)(j:fq d.J ds)(E:iB d.J d.X ds)(L:W d<1500){a:iA}(D:a.bG=3)(o:a.B=1500)(C:0<=a.A/\a.A<=255):T (qs ⟨d,ds,true⟩ a) Pd:=by
 have w:=hi.1.2.2.1;unfold qs;rw[P_ hi j,bo];refine aj (λk=>by cases k) λ_=>?_;rw[D,show DT 3=some ⟨3⟩ from rfl,bo];refine aj (λk=>by cases k) λ_=>aS ⟨_,rfl,aj (λk=>by cases k) λ_=>?_⟩;rw[MH (oT hi) j.ds,bo];refine aj (λk=>by cases k) λ_=>aj (λ_=>?_) λk=>by cases k
 unfold GX;refine aS (aj (λk=>by simp[w]at k) λ_=>aj (λk=>by simp[o]at k;omega) λ_=>ax (aj (λk=>by cases k) λ_=>?_));refine aS (bN (RI (W d)) (λs=>(1500 - s.1).toNat) (λs G=>?_) ⟨0,d,ds,rfl,by omega,by omega,hi,j,E⟩ (by unfold aP;dsimp only;omega));obtain⟨k,K,I,rfl,k0,z,r,u,q⟩:=G;exact YS r u q rfl o C k0 z (by omega)
theorem Fh{α:Type}{w:α->Nat}{n:Nat}:∀{l:List α},(∀x∈l,w x<=n)->(l.map w).sum<=n * l.length
 |[],_=>by simp
 |x::l,h=>by have o:=h x ml;have j:=Fh (l:=l) λy a=>h y (fM _ a);simp only[fh,nZ,jq,Nat.mul_succ];omega
theorem W_{d:N}(hi:Inv d):W d<1500:=by
 obtain⟨a,o,z,q,r,D,C⟩:=hi.1;have I:(d.aE.map wt).sum<=7 * d.aE.length:=Fh λx _=>by unfold wt;(repeat' split)<;>omega
 have u:(d.K.j.map wl).sum<=2 * d.K.j.length:=Fh λx _=>by unfold wl;split<;>omega
 have A:d.J.bz * d.J.bb<=8 * 8:=Int.le_trans (Kb a.2.2.2.1 (by have:=a.2.2.2.2.1;omega)) (Kd a.2.2.2.2.2.1 (by omega));have L:wp d.J d.X<=129:=by
  have:=o.2.2.2.1;have:=o.2.2.2.2.1;unfold wp;repeat' split
  all_goals omega
 have B:=q.1;have w:=a.2.2.2.2.2.2.2.1;have G:=r.1.2.2.2.2.1;have E:=a.2.2.2.2.2.2.2.2.2;unfold W;omega
def sy(c:J)(b:Bool):N:=N.mk c b (X.mk (0:UInt32) (0:Int) false (0:Int) (0:Int) false false) ([]:List aM) (K.mk (0:UInt32) (0:UInt32) (0:Int) (0:Int) ([]:List j)) ([]:List dq) (1:Int) false
def TH(r:eQ×(List kQ)×Int):Prop:=(r.2.2≠0/\r.1.Up=false/\r.1.f_=[])\/(r.2.2=0/\r.1.Up=true/\Inv r.1.N/\fq r.1.N.J r.1.f_/\iB r.1.N.J r.1.N.X r.1.f_)
theorem Z3(c:J)(b:Bool)(ds:List aU)(Y:ds.length<=30){w:iA}(I:w.bG=5):T (qs ⟨sy c b,ds,false⟩ w) TH:=by
 unfold qs;refine bQ (Q:=λr=>r=8\/(r=0/\fq c ds)) ?_ λO o=>aj (λk=>ax (.inl ⟨by simpa using k,rfl,rfl⟩)) λk=>?_
 .unfold qE;refine ar trivial λO o=>ar (λ_=>by dsimp only;omega) λX j=>?_;dsimp only at j|-;rcases o with o|o
  .have j:=j (by rw[o.1];rfl);rw[show(sy c b).J=c from rfl]at j;rcases j with j|j
   .rw[o.1,j.1];exact ax (.inr ⟨rfl,j.2⟩)
   .rw[o.1,j.1];exact ax (.inl rfl)
  .rw[o.1];exact ax (.inl rfl)
 .have q:fq c ds:=(o.resolve_left λh=>by simp[h]at k).2;have hd:=q.ds;have V:4<=ds.length:=by have:=q.2.1;have:=q.1.1;omega
  rw[I,show DT 5=some ⟨5⟩ from rfl,bo];refine aj (λk=>by cases k) λ_=>aS ⟨_,rfl,aj (λk=>by cases k) λ_=>?_⟩;rw[MH rfl hd,bo];refine aj (λk=>by cases k) λ_=>aj (λk=>by cases k) λ_=>aj (λ_=>aj (λk=>by cases k) λ_=>?_) λk=>by cases k
  unfold CI;dsimp only;refine aS (bQ (Sy ds _ _ hd V) λx hx=>ax (aj (λk=>?_) λk=>?_))
  .unfold wJ;exact aj (λ_=>ax (.inl ⟨by simpa using k,rfl,rfl⟩)) λk'=>absurd k (by rw[k'];simp)
  .have e0:x.2.2=0:=by simpa using k
   obtain⟨hi,u,U,D,W⟩:=hx e0;have S:=hi.1.2.2.2.2.2.2;dsimp only;refine ar ⟨hd,by omega,λa h=>(D a h).ok u,Int.min_self _⟩ λC B=>?_;unfold AS GB HD wJ;dsimp only;rcases B with⟨A,z2,z3,z4⟩|z
   .refine aj (λ_=>aj (λk=>by simp[A]at k) λ_=>ax (.inr ⟨rfl,rfl,?_,?_,?_⟩)) λk=>by simp[A]at k
    .dsimp only[sy];rw[<-S];exact hi
    .exact u.sz z2 z3
    .refine λi x K L E=>?_;obtain⟨y,N,G⟩:=KB z4 L;exact U i y K N (by rw[<-G];exact E)
   .have zz:C.2≠0:=by omega
    refine aj (λk=>absurd (by simpa using k) zz) λ_=>aj (λ_=>ax (.inl ⟨zz,rfl,rfl⟩)) λk=>absurd (by simpa using k) zz
theorem Sh(d:aU):T (B' d) (λr=>r=false->d.aJ.length<=300/\d.eg.length<=1100):=by
 unfold B';refine aS (bN (λs=>0<=s.2/\s.2<=400) (λs=>(400 - s.2).toNat) (λ⟨q,s2⟩ a=>?_) (by simp));unfold O2;refine aj (λk=>?_) λk=>bu ?_
 .simp at k a;exact ar ⟨a.1,k.1⟩ λo _=>bF (by rw[bg (x:=s2+1) (by omega) (by omega)];dsimp only;omega) (by rw[bg (x:=s2+1) (by omega) (by omega)];dsimp only;omega)
 .refine aS (bN (λs=>0<=s.2/\s.2<=1200) (λs=>(1200 - s.2).toNat) (λ⟨u,j⟩ a=>?_) (by simp) (by unfold aP;dsimp only;omega));unfold K1;refine aj (λk=>?_) λk=>bu (ax λh=>?_)
  .simp at k a;exact ar ⟨a.1,k.1⟩ λo _=>bF (by rw[bg (x:=j+1) (by omega) (by omega)];dsimp only;omega) (by rw[bg (x:=j+1) (by omega) (by omega)];dsimp only;omega)
  .simp at h;omega
theorem WJ(c:J)(b:Bool)(ds:List aU):T (C' ⟨sy c b,ds,false⟩) (λr=>r=false->ds.length<=30):=by
 have E:Io (sy c b).aE=some false:=rfl;have a:Hr (sy c b).K=some false:=rfl;have C:F4 (sy c b).du=some false:=rfl;unfold C' G6;dsimp only;rw[E,bo,a,show gO (!false) (some false)=some false from rfl,bo,C,show gO (!(false||false)) (some false)=some false from rfl,bo];have:T (yr ds) (λr=>r=false->ds.length<=30):=by
  unfold yr;refine aS (bN (λs=>0<=s.2/\s.2<=30) (λs=>(30 - s.2).toNat) (λ⟨N,s2⟩ o=>?_) (by simp));unfold NZ;refine aj (λk=>?_) λk=>bu (T.inr (ax λh=>by simp at h;omega));simp at k o;have G:wI (s2+1)=s2+1:=bg (by omega) (by omega);refine ar ⟨o.1,k.1⟩ λj z=>bQ (Sh j) λO D=>aj (λ_=>bu (T.inl (ax (by simp)))) λw=>?_;have w:=D w;refine aS (bN (λs=>0<=s.2/\s.2<=j.aJ.length) (λs=>(j.aJ.length - s.2).toNat) (λ⟨Q,I⟩ q=>?_) (by simp) (by unfold aP;dsimp only;omega));unfold Mq;dsimp only at q|-;rw[kg z.1 o.1];dsimp only[bo];refine aj (λa=>?_) λa=>bu ?_
  .have a:=of_decide_eq_true a;rw[bg (x:=I+1) (by omega) (by omega)];exact ar ⟨q.1,a⟩ λA _=>bF (by dsimp only;omega) (by dsimp only;omega)
  .refine aS (bN (λs=>0<=s.2/\s.2<=j.eg.length) (λs=>(j.eg.length - s.2).toNat) (λ⟨L,B⟩ u=>?_) (by simp) (by unfold aP;dsimp only;omega));unfold Lb;dsimp only at u|-;rw[kg z.1 o.1];dsimp only[bo];refine aj (λa=>?_) λa=>bu (aj (λ_=>bu (T.inl (ax (by simp)))) λ_=>?_)
   .have a:=of_decide_eq_true a;rw[bg (x:=B+1) (by omega) (by omega)];exact ar ⟨u.1,a⟩ λA _=>bF (by dsimp only;omega) (by dsimp only;omega)
   .rw[G];exact bF (by dsimp only;omega) (by dsimp only;omega)
 exact aS (aS (show T (gO (!((false||false)||false)) (yr ds)) _ from this.mono λr h=>ax (ax λe=>h (by simpa using e))))
theorem U8(ds:List aU)(c:J)(b:Bool)(n:UInt8):zM ds c b n=some true:=T.eq (by
 unfold zM;rw[TP,bo];refine bQ (WJ c b ds) λK B=>aj (λ_=>ax rfl) λk=>bQ (Z3 c b ds (B (by simpa using k)) rfl) λa q=>aj (λk=>ax ?_) λk=>?_
 .rcases q with⟨_,u,l⟩|⟨e,_⟩
  .rw[u,l];rfl
  .simp[e]at k
 .have e3:a.2.2=0:=by simpa using k
  obtain⟨_,u,hi,I,E⟩:=q.resolve_left λh=>h.1 e3;have e:a.1=⟨a.1.N,a.1.f_,true⟩:=by rw[<-u]
  rw[e];refine bQ (S1 hi I E (W_ hi) rfl rfl ?_) λj w=>aj (λk=>ax ?_) λk=>?_
  .have:=n.toNat_lt;dsimp only;rw[bg (by omega) (by omega)];omega
  .rcases w with h|h
   .rw[h];rfl
   .rw[h.1]at k;cases k
  .have r:j.2.2=0:=by simpa using k
   obtain⟨_,A,o,z,D,G⟩:=w.resolve_left λh=>by rw[h]at r;cases r
   have C:Ak j.1=some ([],0):=by unfold Ak;rw[show qE j.1=some 0 from P_ o z,bo,A,G];rfl
   rw[C,bo];refine ax ?_;rcases Yu o (D.2.2 rfl)with h|h
   .rw[h];simp
   .rw[h];simp)
end Go.Proofs.YthpphdegpinepaaGreat
