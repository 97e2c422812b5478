/- Part of the proof of TopAny. -/
import Derived.Test.YthpphdegpinepaaGreatF
namespace Go.Proofs.YthpphdegpinepaaGreat
open Go GL
open Int renaming mul_le_mul -> zC, mul_nonneg -> zD, toNat -> qP, mul_le_mul_of_nonneg_right -> Kb, mul_le_mul_of_nonneg_left -> Kd
open UInt32 renaming reduceToNat -> pk
open List renaming mem_cons -> fp, not_mem_nil -> vl, mem_or_eq_of_mem_set -> pn, mem_append -> dx, mem_singleton -> dz, take_append_of_le_length -> iM, take_of_length_le -> fm, mem_of_mem_drop -> vq, getElem?_map -> lG, getElem?_eq_some_iff -> cy, ext_getElem? -> o0, getElem?_set -> lg, mem_of_getElem? -> iL, getElem_of_mem -> sS, getElem?_eq_getElem -> ek, length -> vt, length_map -> sR, mem_replicate -> vm, length_append -> bY, length_singleton -> je, length_take -> cf, length_drop -> eH, length_pos_iff -> Ke, take_append_drop -> sM, set_append_right -> J8, mem_map_of_mem -> pg, mem_map -> gm, mem_filter -> lH, length_filter_le -> qU, nodup_append -> vp, map_cons -> fh, find?_cons -> qQ, map_congr_left -> vj, cons_append -> kE, map_map -> vi, foldl_cons -> k9, filter_append -> ph, length_cons -> jq, sum_cons -> nZ, length_replicate -> qI, nil_append -> gZ, map_append -> mm, append_nil -> jb, getElem?_append_right -> oY, getElem?_drop -> ke, append_assoc -> fE, mem_iff_getElem? -> Kf, getElem?_append_left -> m8, getElem?_take_of_lt -> gI, nodup_cons -> qJ, replicate -> dr, take_zero -> mi, filter_cons -> jP, filter_eq_self -> qR, length_filter_eq_length_iff -> aai, mem_append_left -> gY, mem_cons_self -> ml, getElem_mem -> EE, range -> m9, filter_nil -> sQ, mem_range -> jc, mem_cons_of_mem -> fM, getElem?_of_mem -> qL, drop_drop -> qO
open Bool renaming eq_iff_iff -> nU, and_eq_true -> gg
open Option renaming bind_some -> bo, map_eq_some_iff -> iK, bind -> ab, map_some -> jd
open Nat renaming beq -> ct, add_zero -> ja, lt_or_ge -> mh, le_refl -> bh, zero_add -> dQ, le_trans -> m5, zero_le -> jM
open UInt8 renaming reduceToNat -> Kg
set_option linter.all false
theorem TP:Gr=some true:=by kernel_rfl
theorem T.go{α:Type}{x:Option α}{P:α->Prop}(h:T x P:=by
 with_reducible repeat' (first|refine bF ?_ ?_|refine bu ?_|(refine aj (λ_=>?_) (λ_=>?_))|refine aS ?_|refine T.inl ?_|refine T.inr ?_|refine ax ?_|(refine T.call ?_ (λ_ _=>?_))|fail)
 all_goals grind [ej,kN]):T x P:=h
def dp(b:List UInt8):Prop:=b.length=0\/b.length=128
instance(b:List UInt8):Sp (vD b) (dp b) (λr=>r.2=0/\r.1.l.length=128)where
 h h:=by
  unfold vD;refine aj (λk=>?_) λk=>ax ⟨rfl,?_⟩
  .unfold dp at h;grind
  .rw[se];simp
instance(a s:Int):Sp (xU a s) (0<=a/\1<=s/\s<=4/\a+s<=128) (λr=>r=true)where
 h h:=by unfold xU;exact T.go
instance(b:List UInt8) (a s:Int):Sp (iC b a s) (dp b/\0<=a/\1<=s/\s<=4/\a+s<=128) (λr=>r.2=0)where
 h h:=by unfold iC;refine bQ (Sp.h h.1) λx1 w=>?_;refine aj (λk=>by grind) λk=>bQ (Sp.h h.2) λu o=>aj (λk=>by grind) λ_=>?_;refine aS (bN (λj=>0<=j.2/\j.2<=s) (λj=>(s - j.2).toNat) λ⟨s3,q⟩ h=>?_);unfold M6;exact T.go
def cz(c:J):Prop:=3<=c.aw/\c.aw<=16/\1<=c.bz/\c.bz<=8/\1<=c.bb/\c.bb<=8/\2<=c.aE/\c.aE<=8/\(c.aw+1) * (c.aE+1)<=c.K/\c.K<=255
theorem l9{c:J}(h:cz c):1<=c.bz * c.bb/\c.bz * c.bb<=64:=by obtain⟨_,_,o,a,j,q,_⟩:=h;have u:c.bz * c.bb<=8 * 8:=zC a q (by omega) (by omega);have r:1 * 1<=c.bz * c.bb:=zC o j (by omega) (by omega);omega
theorem iZ{c:J}(h:cz c):12<=c.K/\c.K<=255:=by obtain⟨q,_,_,_,_,_,a,_,o,r⟩:=h;have j:(4:Int) * 3<=(c.aw+1) * (c.aE+1):=zC (by omega) (by omega) (by omega) (by omega);omega
instance(l:List iY):Sp (xx l) (l.length<9) (λr=>r=l.all λx=>decide (x.e1<=x.e0/\x.e0<=x.e2))where
 h h:=by unfold xx;refine aS (bN (λs=>0<=s/\s<=l.length/\(l.all λx=>decide (x.e1<=x.e0/\x.e0<=x.e2))=(l.drop s.toNat).all λx=>decide (x.e1<=x.e0/\x.e0<=x.e2)) (λs=>(l.length - s).toNat) λs h=>?_);unfold Km;exact T.go
theorem Wi{m h:Int}(r:3<=m)(a:m<=16)(q:2<=h)(u:h<=8):wI (wI (m+1) * wI (h+1))=(m+1) * (h+1):=by rw[bg (x:=m+1) (by omega) (by omega),bg (x:=h+1) (by omega) (by omega)];have o:(m+1) * (h+1)<=17 * 9:=zC (by omega) (by omega) (by omega) (by omega);have j:0<=(m+1) * (h+1):=zD (by omega) (by omega);exact bg (by omega) (by omega)
instance(c:J):Sp (ng c) True (λr=>(r=0/\cz c)\/(r=8/\ ¬cz c))where
 h _:=by
  unfold ng cz
  with_reducible repeat' (first|(refine aj (λ_=>?_) (λ_=>?_))|refine aS ?_|refine ax ?_|(refine T.call ?_ (λ_ _=>?_))|fail)
  all_goals grind [Wi]
def told(c:J)(n:Int)(r:Int×Int):Prop:=(r.2=0/\r.1=n/\cz c)\/(r.2=8/\r.1=0/\ ¬cz c)
instance(c:J) (n:Int):Sp (pW c n) True (told c n)where
 h _:=by unfold pW told;exact T.go
theorem Dc{c:J}{n:Int}{r:Int×Int}(h:told c (wI n) r)(k:cz c->0<=n/\n<=1000):told c n r:=by
 unfold told at h|-;rcases h with⟨o,a,j⟩|h
 .have:=k j;rw[bg (by omega) (by omega)]at a;exact .inl ⟨o,a,j⟩
 .exact .inr h
instance(c:J):Sp (kv c) True (told c (c.bz * c.bb))where
 h _:=bQ (Sp.h trivial) λr h=>ax (Dc h λhc=>by have:=l9 hc;omega)
instance(c:J):Sp (BX c) True (told c (c.bz * c.bb+1))where
 h _:=bQ (Sp.h trivial) λr h=>ax (by
  by_cases hc:cz c
  .have:=l9 hc;rw[bg (x:=c.bz * c.bb) (by omega) (by omega)]at h;exact Dc h λ_=>by omega
  .unfold told at h|-;grind)
instance(c:J):Sp (uT c) True (told c (c.K+1))where
 h _:=bQ (Sp.h trivial) λr h=>ax (Dc h λhc=>by have:=iZ hc;omega)
instance(b:List UInt8) (a s n:Int):Sp (rh b a s n) (dp b/\0<=a/\1<=s/\s<=4/\a+s<=128/\0<=n/\n<256^s.toNat) (λr=>r.2=0/\r.1.length=128)where
 h h:=by
  unfold rh;obtain⟨q,u,o,C,z,w,B⟩:=h;refine bQ (Sp.h q) λx1 q=>?_;refine aj (λk=>by grind) λk=>bQ (Sp.h ⟨u,o,C,z⟩) λI e=>?_;subst e;have E:wI (8 * s)=8 * s:=bg (by omega) (by omega);have D:n.fdiv (2^min (8 * s).toNat 64)=0:=by rw[Int.fdiv_eq_ediv_of_nonneg _ (by exact Int.pow_nonneg (by omega))];refine Int.ediv_eq_zero_of_lt w ?_;rw[show min (8 * s).toNat 64=8 * s.toNat by omega,Int.pow_mul];exact B
  have A:decide (n<0)=false:=by simp;omega
  rw[E,A];refine bQ (Sp.h (λ_=>by omega)) λJ o=>?_;have:=o rfl;rw[D]at this;subst this;refine aj (λk=>by cases k) λ_=>?_;refine aS (bN (λj=>0<=j.1/\j.1<=s/\j.2.length=128) (λj=>(s - j.1).toNat) λ⟨s3,G⟩ h=>?_);unfold QQ;exact T.go
instance(s:UInt32) (b:List UInt8):Sp (Af s b) (b.length<4294967296) (λ_=>True)where
 h h:=by
  unfold Af;refine bQ (Q:=λx=>x.l.length=16) ⟨_,rfl,rfl⟩ λx1 j=>?_;refine aS (bN (λs=>0<=s.2/\s.2<=b.length) (λs=>(b.length - s.2).toNat) λ⟨s2,s3⟩ h=>?_);unfold K6;have a:∀x:UInt32,(0:Int)<=((x&&&15).toNat:Int)/\((x&&&15).toNat:Int)<16:=λx=>by
   have:(x&&&15).toNat<=15:=by rw[UInt32.toNat_and];exact Nat.and_le_right
   omega
  with_reducible repeat' (first|refine bF ?_ ?_|refine bu ?_|(refine aj (λ_=>?_) (λ_=>?_))|refine aS ?_|(refine T.call (a _) (λ_ _=>?_))|refine ax ?_|(refine T.call ?_ (λ_ _=>?_))|fail)
  all_goals grind [ej]
instance(b:List UInt8):Sp (nt b) (b.length<4294967296) (λ_=>True)where
 h h:=bQ (Sp.h h) λ_ _=>ax trivial
def qA(l:cQ):J:=⟨l.Id,l.aw,l.bz,l.bb,l.K,2⟩
def jw(l:cQ):Prop:=cz (qA l)/\(l.cZ.toNat:Int)<=2147483648/\0<=l.Me/\l.Me<l.aw/\0<=l.cN/\l.cN<=l.bz * l.bb/\ -1<=l.bZ/\l.bZ<l.aw/\ ¬(l.bZ= -1/\0<l.cN)
instance(l:cQ):Sp (Bv l) True (λr=>(r=0/\jw l)\/(r=8/\ ¬jw l))where
 h _:=by
  unfold Bv jw;refine bQ (Sp.h trivial) λr h=>?_;unfold told at h;simp only[pk];refine aj (λ_=>ax ?_) λ_=>ax ?_
  all_goals grind [qA]
def okF(f:Field):Prop:=0<=f.at_/\1<=f.size/\f.size<=4/\f.at_+f.size<=128
instance(l:cQ):Sp (v_ l) True (λr=>r.length=11/\(∀f∈r,okF f)/\(jw l->∀f∈r,0<=f.n/\f.n<256^f.size.toNat))where
 h _:=by
  have key:∀j o:Int,(jw l->0<=j/\j<256)->0<=o/\o<2->T (CS l j o) (λr=>r.length=11/\(∀f∈r,okF f)/\(jw l->∀f∈r,0<=f.n/\f.n<256^f.size.toNat)):=by
   intro j o u A;refine ax ⟨rfl,?_,λz=>?_⟩
   .intro f a;simp only[fp,vl,or_false]at a;rcases a with rfl|rfl|rfl|rfl|rfl|rfl|rfl|rfl|rfl|rfl|rfl<;>(unfold okF;dsimp only;decide)
   .obtain⟨hc,q⟩:=z;have u:=u ⟨hc,q⟩;have:=l9 hc;have:=iZ hc;simp only[cz,qA]at hc this q;rename_i _ _ w;simp only[qA]at w;have B:=l.Id.toNat_lt;have C:=l.cZ.toNat_lt;intro f a;simp only[fp,vl,or_false]at a;rcases a with rfl|rfl|rfl|rfl|rfl|rfl|rfl|rfl|rfl|rfl|rfl
    all_goals simp only[Int.reduceToNat,Int.reducePow]
    all_goals first|omega|(rw[bg (by omega) (by omega)];omega)
  unfold v_ Cm;refine aj (λk=>?_) λk=>?_
  .exact aj (λ_=>key _ _ (λ_=>by omega) (by omega)) λ_=>key _ _ (λ_=>by omega) (by omega)
  .have:jw l->0<=l.bZ/\l.bZ<256:=λh=>by simp at k;simp only[jw,cz,qA]at h;omega
   exact aj (λ_=>key _ _ this (by omega)) λ_=>key _ _ this (by omega)
instance(l:cQ):Sp (uw l) True (λr=>(r.2=0/\r.1.length=128/\jw l)\/(r.2=8/\ ¬jw l))where
 h _:=by
  unfold uw;refine bQ (Sp.h trivial) λx1 A=>aj (λk=>ax (by grind)) λk=>bQ (Sp.h trivial) λu ⟨o,w,a⟩=>?_;have j:jw l:=by grind
  have a:=a j;refine aS (bN (λs=>0<=s.2/\s.2<=11/\dp s.1/\(0<s.2->s.1.length=128)) (λs=>(11 - s.2).toNat) (λ⟨s3,q⟩ h=>?_) (by unfold dp;grind));unfold LO;have z:∀x:UInt32,wI (x.toNat:Int)=(x.toNat:Int)/\(x.toNat:Int)<256^qP 4:=λx=>by have:=x.toNat_lt;exact⟨bg (by omega) (by omega),by simp only[Int.reduceToNat,Int.reducePow];omega⟩
  with_reducible repeat' (first|refine bF ?_ ?_|refine bu ?_|(refine aj (λ_=>?_) (λ_=>?_))|refine aS ?_|refine ax ?_|(refine T.call ?_ (λ_ _=>?_))|fail)
  all_goals grind [ej,okF,dp]
instance(b:List UInt8):Sp (Br b) (b.length=128) (λr=>r.2=0->jw r.1)where
 h hb:=by
  unfold Br;refine bQ (Sp.h trivial) λx1 ⟨a,o,_⟩=>?_;refine aS (bN (λs=>0<=s.2/\s.2<=11/\(s.1.length:Int)=s.2) (λs=>(11 - s.2).toNat) λ⟨s3,j⟩ h=>?_);unfold Lw;simp only[Dj,I0]
  with_reducible repeat' (first|refine bF ?_ ?_|refine bu ?_|(refine aj (λ_=>?_) (λ_=>?_))|refine aS ?_|refine ax ?_|(refine T.call ?_ (λ_ _=>?_))|fail)
  all_goals grind [ej,okF,dp]
theorem CA(x:UInt32):wI (x.toNat:Int)=(x.toNat:Int)/\(x.toNat:Int)<256^qP 4/\(x.toNat:Int)<4294967296:=by have:=x.toNat_lt;exact⟨bg (by omega) (by omega),by simp only[Int.reduceToNat,Int.reducePow];omega,by omega⟩
theorem G8(x:UInt8):wI (x.toNat:Int)=(x.toNat:Int)/\(x.toNat:Int)<256:=by have:=x.toNat_lt;exact⟨bg (by omega) (by omega),by omega⟩
theorem T.gp{α:Type}{x:Option α}{P:α->Prop}(h:T x P:=by
 with_reducible repeat' (first|refine bF ?_ ?_|refine bu ?_|(refine aj (λ_=>?_) (λ_=>?_))|refine aS ?_|refine T.inl ?_|refine T.inr ?_|refine ax ?_|(refine T.call ?_ (λ_ _=>?_))|fail)
 all_goals grind [ej,kN,dp,CA,G8]):T x P:=h
def gS(n:UInt32):Prop:=1<=(n.toNat:Int)/\(n.toNat:Int)<=2147483648
instance(n:UInt32):Sp (DI n) True (λr=>r=true↔gS n)where
 h _:=by refine ax ?_;have:=n.toNat_lt;unfold gS dP.of;simp only[pk,UInt32.toNat_ofNat',decide_eq_true_eq];omega
def jF(s:fT):Prop:=gS s.bR/\gS s.Seq/\0<=s.ca/\s.ca<255
instance(s:fT):Sp (wc s) True (λr=>(r=0/\jF s)\/(r=8/\ ¬jF s))where
 h _:=by unfold wc jF;exact T.gp
instance(c:lM) (n s:Int):Sp (oz c n s) (c.e=0/\dp c.b/\0<=c.at_/\1<=s/\s<=4/\c.at_+s<=128/\0<=n/\n<256^s.toNat) (λr=>r.e=0/\r.b.length=128/\r.at_=c.at_+s)where
 h h:=by unfold oz;exact T.gp
instance(c:lM):Sp (BR c) (c.e=0/\c.b.length=128) (λr=>r.2=0/\r.1.length=128)where
 h h:=by unfold BR;exact T.gp
instance(s:fT):Sp (rM s) True (λr=>(r.2=0/\r.1.length=128/\jF s)\/(r.2=8/\ ¬jF s))where
 h _:=by
  unfold rM;refine bQ (Sp.h trivial) λx1 a=>aj (λk=>ax (by grind)) λk=>?_;have:0<=s.ca/\s.ca<256:=by unfold jF at a;grind
  exact T.gp
instance(b:List UInt8):Sp (Dt b) (b.length=128) (λr=>(r.2=0/\jF r.1)\/r.2=90)where
 h h:=by unfold Dt;exact T.gp
instance(s a n:Int):Sp (oo s a n) (1<=s/\s<=255/\0<=a/\a<s/\0<=n/\n<=s) (λr=>r.2=0/\r.1=(a+n)%s/\0<=r.1/\r.1<s)where
 h h:=by unfold oo Hs Dz BA;exact T.gp
theorem Zk{α:Type}(l:List α)(n:Nat):(l.drop n).isEmpty=decide (l.length<=n):=by rw[nU];simp
def oF:Int->Bool->List fJ->Bool
 |_,_,[]=>true
 |a,f,x::l=>decide (a<x.Slot.toNat)&&(((x.Slot.toNat==255)&& !f&&l.isEmpty)||decide (x.Slot.toNat<=14))&&oF x.Slot.toNat false l
def oB(n:iO):Prop:=1<=n.fo.length/\n.fo.length<=16/\gS n.bR/\gS n.Seq/\0<=n.L/\n.L<64/\oF (-1) true n.fo=true
instance(n:iO):Sp (Bx n) (n.fo.length<4294967296) (λr=>(r=0/\oB n)\/(r=8/\ ¬oB n))where
 h h:=by
  unfold Bx;simp only[pk];obtain⟨a,e0⟩:∃a,a=((((((((decide (((n.fo).length:Int)>=(1:Int)))&&(decide (((n.fo).length:Int)<=(16:Int))))&&(decide ((n.bR.toNat:Int)>=((1:Nat):Int))))&&(decide ((n.bR.toNat:Int)<=((2147483648:Nat):Int))))&&(decide ((n.Seq.toNat:Int)>=((1:Nat):Int))))&&(decide ((n.Seq.toNat:Int)<=((2147483648:Nat):Int))))&&(decide (n.L>=(0:Int))))&&(decide (n.L<(64:Int)))):=⟨_,rfl⟩;rw[<-e0];refine aS (bN (λs=>0<=s.2.2/\s.2.2<=n.fo.length/\(a&&oF (-1) true n.fo)=(s.2.1&&oF s.1 (s.2.2==0) (n.fo.drop s.2.2.toNat))) (λs=>(n.fo.length - s.2.2).toNat) λ⟨j,s2,s3⟩ h=>?_);unfold KH;have e0:(a=true)↔1<=n.fo.length/\n.fo.length<=16/\gS n.bR/\gS n.Seq/\0<=n.L/\n.L<64:=by rw[e0];unfold gS;grind
  refine aj (λk=>aS (T.call (by grind) λx hx=>bF ⟨?_,?_,?_⟩ ?_)) λk=>bu ?_
  .grind [ej]
  .grind [ej]
  .dsimp only at h hx|-;have e1:wI (s3+1)=s3+1:=by grind [ej]
   have e2:wI ((n.fo.length:Int) - 1)=n.fo.length - 1:=by grind [ej]
   rw[h.2.2,hx.2.2,e1,e2,(G8 x.Slot).1,oF,Zk];have e3:(s3+1==0)=false:=by grind
   rw[e3,nU];simp;grind
  .grind [ej]
  .refine aj (λ_=>ax ?_) λ_=>ax ?_<;>grind [oF,oB,kN]
def Fits(a s:Int)(l:List Int):Prop:=0<=a/\1<=s/\s<=4/\a+s * l.length<=128/\l.length<9/\∀n∈l,0<=n/\n<256^s.toNat
instance(b:List UInt8) (a s:Int) (l:List Int):Sp (oj b a s l) (dp b/\Fits a s l) (λr=>dp r/\(l.length≠0->r.length=128))where
 h h:=by
  unfold oj;obtain⟨E,u,C,G,B,z,D⟩:=h;refine aS (bN (λs=>0<=s.2/\s.2<=l.length/\dp s.1/\(0<s.2->s.1.length=128)) (λs=>(l.length - s.2).toNat) λ⟨w,s2⟩ h=>?_);unfold Ov;have I:0<=s2->s2<=l.length->wI (s2 * s)=s2 * s/\wI (a+wI (s2 * s))=a+s2 * s/\0<=s2 * s/\(s2<l.length->s2 * s+s<=s * l.length):=λj q=>by have e1:0<=s2 * s:=zD j (by omega);have e2:s2 * s<=l.length * s:=Kb q (by omega);have e3:(l.length:Int) * s<=9 * 4:=zC (by omega) (by omega) (by omega) (by omega);have A:0<=s * (l.length:Int):=zD (by omega) (by omega);rw[bg (x:=s2 * s) (by omega) (by omega),bg (by omega) (by omega)];refine⟨rfl,rfl,e1,λk=>?_⟩;have o:(s2+1) * s<=l.length * s:=Kb (by omega) (by omega);rw[Int.add_mul,Int.mul_comm _ s]at o;grind
  with_reducible repeat' (first|refine bF ?_ ?_|refine bu ?_|(refine aj (λ_=>?_) (λ_=>?_))|refine aS ?_|refine ax ?_|(refine T.call ?_ (λ_ _=>?_))|fail)
  all_goals grind [ej,dp]
instance(n:iO):Sp (xV n) (n.fo.length<4294967296) (λr=>(r.2=0/\r.1.length=128/\oB n)\/(r.2=8/\ ¬oB n))where
 h h:=by
  unfold xV IU;refine bQ (Sp.h h) λx1 I=>aj (λk=>ax (by grind)) λk=>?_;have q:oB n:=by grind
  obtain⟨u,E,J,B,w,G,_⟩:=id q;refine bQ (Sp.h ⟨.inl rfl,by unfold Fits;grind⟩) λA j=>bQ (Sp.h ⟨j.1,by unfold Fits;grind [CA]⟩) λD o=>bQ (Sp.h ⟨o.1,by unfold Fits;grind⟩) λK z=>?_;refine aS (bN (λs=>0<=s.1/\s.1<=n.fo.length/\s.2.length=128) (λs=>(n.fo.length - s.1).toNat) λ⟨a,L⟩ h=>?_);unfold O9 D1;have e1:0<=a->a<=n.fo.length->wI (15+wI (6 * a))=15+6 * a/\wI (wI (15+wI (6 * a))+2)=17+6 * a:=λC j=>by rw[bg (x:=6 * a) (by omega) (by omega),bg (x:=15+6 * a) (by omega) (by omega),bg (by omega) (by omega)];omega
  with_reducible repeat' (first|refine bF ?_ ?_|refine bu ?_|(refine aj (λ_=>?_) (λ_=>?_))|refine aS ?_|refine ax ?_|(refine T.call ?_ (λ_ _=>?_))|fail)
  all_goals grind [ej,dp,Fits,G8,CA]
instance(b:List UInt8):Sp (CN b) (b.length=128) (λr=>r.2=0->oB r.1)where
 h hb:=by unfold CN JJ;refine bQ (Sp.h (by unfold dp;grind)) λx1 C=>aj (λk=>by grind) λk=>?_;refine bQ (Sp.h (by unfold dp;grind)) λu a=>?_;refine bQ (Sp.h (by unfold dp;grind [ej])) λz w=>?_;refine bQ (Sp.h (by unfold dp;grind [ej])) λE D=>?_;refine bQ (Sp.h (by unfold dp;grind [ej])) λA q=>?_;refine bQ (Sp.h (by unfold dp;grind [ej])) λI j=>?_;refine aS (bN (λs=>0<=s.1/\s.1<=17/\s.2.2=15+6 * s.1/\s.2.1.length=s.1.toNat) (λs=>(17 - s.1).toNat) (λ⟨B,o,G⟩ h=>?_) (by grind [ej]));unfold O';exact T.gp
instance(l:List (List UInt8)) (f:List UInt8->Option Bool):Sp (JZ l f) (l.length<4294967296/\∀x∈l,T (f x) λ_=>True) (lq l f)where
 h h:=T.index h
instance(l:List fB) (f:fB->Option Bool):Sp (Av l f) (l.length<4294967296/\∀x∈l,T (f x) λ_=>True) (lq l f)where
 h h:=T.index h
instance(l:List aU) (f:aU->Option Bool):Sp (FR l f) (l.length<4294967296/\∀x∈l,T (f x) λ_=>True) (lq l f)where
 h h:=T.index h
instance(l:List (List UInt8)) (f:List UInt8->Option Bool):Sp (sb l f) (l.length<4294967296/\∀x∈l,T (f x) λ_=>True) (nG l f)where
 h h:=T.vd (Sp.h h)
instance(l:List fB) (f:fB->Option Bool):Sp (IT l f) (l.length<4294967296/\∀x∈l,T (f x) λ_=>True) (nG l f)where
 h h:=T.vd (Sp.h h)
instance(l:List aU) (f:aU->Option Bool):Sp (FB l f) (l.length<4294967296/\∀x∈l,T (f x) λ_=>True) (nG l f)where
 h h:=T.vd (Sp.h h)
theorem T.of{α:Type}{x:Option α}{r:α}(h:x=some r):T x λ_=>True:=⟨r,h,trivial⟩
instance(b:List UInt8):Decidable (dp b):=inferInstanceAs (Decidable (_\/_))
theorem tk(b:List UInt8):tY b=some (decide (¬dp b)):=by unfold tY dp;congr 1;rw[nU];simp;omega
def q'(n:Nat)(w:fB):Prop:=0<=w.At/\w.At<n/\dp w.bO
instance(n:Nat) (w:fB):Decidable (q' n w):=inferInstanceAs (Decidable (_/\_))
def iq(d:aU):Prop:=1<=d.aJ.length/\d.aJ.length<=256/\d.eg.length<=1024/\(∀b∈d.aJ,dp b)/\(∀w∈d.eg,q' d.aJ.length w)/\(d.dS=true->d.eg.length=0/\∀b∈d.aJ,b.length=0)
theorem SC(w:fB)(n:Nat):DE w n=some (decide (¬q' n w)):=by unfold DE q' gO;rw[tk];cases h:(!(decide (w.At<0)||decide (w.At>=(n:Int))))<;>(simp only[cond_true,cond_false,bo];congr 1;rw[nU];simp at h|-;grind)
instance(d:aU):Sp (my d) True (λr=>(r=0/\iq d)\/(r=8/\ ¬iq d))where
 h _:=by
  unfold my iq;simp only[tk,SC,Im];have a:∀b:Bool,T (some b) λ_=>True:=λb=>⟨_,rfl,trivial⟩
  with_reducible repeat' (first|(refine aj (λ_=>?_) (λ_=>?_))|refine aS ?_|refine ax ?_|(refine T.call ?_ (λ_ _=>?_))|fail)
  all_goals grind [nG]
instance(b:List UInt8):Sp (js b) (b.length<4294967296) (λr=>r=b)where
 h h:=by unfold js;exact T.go
theorem vz{b:List UInt8}(h:dp b):b.length<4294967296:=by unfold dp at h;omega
theorem tX{b:List UInt8}(h:b.length<4294967296):js b=some b:=by unfold js app;rw[if_pos (by simpa using h)];rfl
theorem oI{α:Type}{l m:List α}(h:l.length+m.length<4294967296):app l m=some (l++m):=if_pos h
theorem kg{α:Type}{l:List α}{k:Int}{x:α}(h:l[k.toNat]? =some x)(a:0<=k):idx l k=some x:=by unfold idx;rw[if_pos a,h]
theorem OB{d:aU}(h:iq d):nE d=some d:=by
 unfold nE;obtain⟨B,w,A,u,o,z⟩:=h;have e1:T (bf (BN d) aP ((0:Int),([]:List (List UInt8)))) (λr=>r=d.aJ):=T.copy d.aJ (by omega) (λk x k0 a hx hm j q=>by unfold BN;simp only[decide_eq_true a,cond_true,kg hx k0,bo,tX (vz (u _ hm))];rw[oI (by simp;omega),bg (by omega) (by omega)];rfl) (by unfold BN;simp only[Int.lt_irrefl,decide_false,cond_false];exact bu rfl)
 have e2:T (bf (Be d) aP ((0:Int),([]:List fB))) (λr=>r=d.eg):=T.copy d.eg (by omega) (λk x k0 a hx hm j q=>by unfold Be;simp only[decide_eq_true a,cond_true,kg hx k0,bo,tX (vz (o _ hm).2.2)];rw[oI (by simp;omega),bg (by omega) (by omega)];rfl) (by unfold Be;simp only[Int.lt_irrefl,decide_false,cond_false];exact bu rfl)
 obtain⟨_,e1,rfl⟩:=e1;obtain⟨_,e2,rfl⟩:=e2;rw[e1,bo,e2];rfl
instance(d:aU):Sp (nE d) (iq d) (λr=>r=d)where
 h h:=⟨_,OB h,rfl⟩
instance(b:List UInt8):Sp (r_ b) (dp b) (λr=>r.length=128)where
 h h:=by unfold r_;exact T.gp
instance(d:aU) (a:Int):Sp (vL d a) (iq d/\0<=a/\a<d.aJ.length) (λr=>r=0)where
 h h:=by unfold vL;exact T.go
instance(d:aU) (a:Int) (b:List UInt8):Sp (yI d a b) (iq d/\0<=a/\a<d.aJ.length/\dp b/\d.dS=false) (λr=>r=0)where
 h h:=by unfold yI;rw[tk];exact T.go
instance(d:aU) (a:Int):Sp (oR d a) (iq d/\0<=a/\a<d.aJ.length) (λr=>(d.dS=true/\r.2=40)\/(d.dS=false/\r.2=0/\r.1.length=128))where
 h h:=by unfold oR ES I9;obtain⟨⟨E,w,B,u,q,z⟩,D⟩:=id h;refine aS (bQ (Sp.h h) λx1 e1=>aj (λk=>by grind) λ_=>aj (λk=>ax (aj (λ_=>ax (.inl ⟨k,rfl⟩)) λk=>by cases k)) λj=>?_);refine aS (T.call (by grind) λA e2=>aS (T.call (u _ e2.2.1) λC e3=>ax (aj (λk=>by cases k) λ_=>?_)));refine aS (bN (λs=> -1<=s/\s<d.eg.length) (λs=>(s+1).toNat) (λs h=>?_) (by grind [ej]) (by unfold aP;grind [ej]));unfold PR;refine aj (λk=>aS (T.call (by grind) λx hx=>aj (λ_=>aS (T.call (q _ hx.2.1).2.2 λy o=>bu (T.inl (ax (.inr ⟨by simpa using j,rfl,o⟩))))) λ_=>bF (by grind [ej]) (by grind [ej]))) λ_=>bu (T.inr (ax (.inr ⟨by simpa using j,rfl,e3⟩)))
def Nx(d d':aU):Prop:=iq d'/\d'.aJ.length=d.aJ.length/\d'.dS=false
theorem WC{d:aU}{n:Nat}{b:List UInt8}{w:List fB}(h:iq d)(u:dp b)(o:w.length<=1024)(a:∀x∈w,q' d.aJ.length x)(hd:d.dS=false):Nx d ⟨d.aJ.set n b,w,d.dS⟩:=by
 obtain⟨q,j,B,r,A,z⟩:=h;refine⟨⟨by simpa using q,by simpa using j,o,λx hx=>?_,by simpa using a,λk=>by rw[hd]at k;cases k⟩,by simp,hd⟩;rcases pn hx with h|rfl
 .exact r x h
 .exact u
instance(d:aU) (a:Int) (b:List UInt8):Sp (AO d a b) (iq d/\0<=a/\a<d.aJ.length/\dp b/\d.dS=false) (λr=>(r.2=0/\Nx d r.1)\/r.2=9)where
 h h:=by
  unfold AO;refine bQ (Sp.h h) λx1 z=>aj (λk=>by grind) λ_=>aj (λk=>ax (.inr rfl)) λk=>?_;refine bQ (Sp.h h.1) λB q=>bQ (Sp.h h.2.2.2.1) λL C=>?_;subst B;obtain⟨⟨z,q,I,G,A,J⟩,E,D,K,o⟩:=h;refine bQ (Sp.h (by simp;omega)) λN u=>ax (.inl ⟨rfl,⟨z,q,?_,G,?_,?_⟩,rfl,o⟩)
  .rw[u];simp at k|-;omega
  .rw[u];intro w j;rcases dx.1 j with j|j
   .exact A w j
   .rw[dz.1 j];exact⟨E,D, .inr C⟩
  .intro k;rw[o]at k;cases k
instance(d:aU) (a:Int) (b:List UInt8):Sp (uD d a b) (iq d/\0<=a/\a<d.aJ.length/\dp b/\d.dS=false) (λr=>r.2=0/\Nx d r.1)where
 h h:=by
  unfold uD;refine bQ (Sp.h h) λx1 ak=>aj (λk=>by grind) λ_=>?_;refine ar h.1 λI ae=>ar h.2.2.2.1 λJ Q=>?_;subst I;obtain⟨hd,L,V,ag,D⟩:=id h;have S:=hd.2.2.2.2.1;have U:=hd.2.2.1;refine ar ⟨L,V⟩ λE al=>?_;have key:∀w,w.length<=1024->(∀x∈w,q' d.aJ.length x)->T (CM d J E w) (λr=>r.2=0/\Nx d r.1):=λw o q=>ax ⟨rfl,WC hd (.inr Q) o q D⟩;refine ar ⟨by omega,λx _=>⟨_,rfl,trivial⟩⟩ λA B=>aj (λ_=>key _ U S) λk=>?_;unfold lq at B;have B:0<=A/\A<d.eg.length:=by grind
  refine aS (bN (λs=>0<=s.2.1/\s.2.1<s.2.2/\s.2.2<=s.1.length/\s.1.length=d.eg.length/\∀x∈s.1,q' d.aJ.length x) (λs=>(s.1.length - s.2.2).toNat) (λ⟨af,ad,z⟩ N=>?_) (by grind [ej]) (by unfold aP;grind [ej]));unfold Qy GP C9;obtain⟨o,q,G,K,j⟩:=N;dsimp only at o q G K j;have am:wI (z+1)=z+1:=by grind [ej]
  refine aj (λO=>ar (by grind) λX C=>?_) λO=>bu ?_
  .refine aj (λ_=>ar (by grind) λZ Y=>bF ?_ ?_) λ_=>bF ?_ ?_
   .refine⟨by grind [ej],by grind [ej],by simp;grind,by simp;omega,λx hx=>?_⟩;rcases pn hx with h|rfl
    .exact j x h
    .exact j _ C.2.1
   .simp;grind
   .exact⟨by grind,by grind,by grind,by grind,j⟩
   .simp;grind
  .refine ar (by grind) λac aa=>ar (by simp;omega) λW u=>key _ ?_ ?_
   .rw[u];simp;omega
   .intro x hx;rw[u,iM (by simp;omega),fm (by simp;omega)]at hx;exact j x (List.mem_of_mem_take (vq hx))
instance(d:aU):Sp (DS d) (iq d/\d.dS=false) (λr=>r.2=0/\Nx d r.1)where
 h h:=by
  unfold DS;obtain⟨h,hd⟩:=h;have A:=h.2.2.2.2.1;refine ar trivial λx1 K=>aj (λk=>by grind) λ_=>aj (λk=>by grind) λ_=>ar h λw e2=>?_;subst w;refine aS (bN (λs=>0<=s.1/\s.1<=d.eg.length/\s.2.length=d.aJ.length/\∀x∈s.2,dp x) (λs=>(d.eg.length - s.1).toNat) (λ⟨s3,q⟩ D=>?_) (by have:=h.2.2.2.1;grind) (by have:=h.2.2.1;unfold aP;grind));unfold Oz;obtain⟨z,B,a,j⟩:=D;dsimp only at z B a j;have G:wI (s3+1)=s3+1:=by have:=h.2.2.1;grind [ej]
  refine aj (λu=>ar (by grind) λL o=>?_) λu=>bu ?_
  .have:=A _ o.2.1;refine ar ⟨this.1,by have:=this.2.1;omega⟩ λI J=>bF ⟨by grind,by grind,by simpa using a,λx hx=>?_⟩ (by grind);rcases pn hx with h|rfl
   .exact j x h
   .exact this.2.2
  .have:iq ⟨q,[],d.dS⟩:=⟨by rw[a];exact h.1,by rw[a];exact h.2.1,by simp,j,by simp,λk=>by rw[hd]at k;cases k⟩;exact ar this λC E=>ax (by subst C;exact⟨rfl,this,a,hd⟩)
def sz(l:List aU):List Nat:=l.map λd=>d.aJ.length
def dd(l:List aU):List Bool:=l.map λd=>d.dS
def jH(l:List aU):Prop:=1<=l.length/\l.length<=17/\∀d∈l,iq d
def B1(S:List Nat)(a:cd):Prop:=∃n,0<=a.aU/\S[a.aU.toNat]? =some n/\((a.bG=3/\a.At=0/\a.bO.length=0)\/((a.bG=1\/a.bG=2)/\0<=a.At/\a.At<n/\dp a.bO))
theorem FV{l:List aU}{k:Nat}{n:Nat}(h:(sz l)[k]? =some n):∃d,l[k]? =some d/\d.aJ.length=n:=by unfold sz at h;rw[lG]at h;exact iK.1 h
instance(l:List aU):Sp (Da l) (jH l) (λr=>r=0)where
 h h:=by
  unfold Da;have a:∀d∈l,wx d=some false:=λd hd=>by
   unfold wx;obtain⟨r,e,k⟩:=(inferInstance:Sp (my d) True _).h trivial;have:=h.2.2 d hd;rw[e,bo];have:r=0:=by grind
   rw[this];rfl
  refine ar (λ_=>⟨by have:=h.2.1;omega,λd hd=>T.of (a d hd)⟩) λx hx=>?_;have o:=h.1;have j:=h.2.1;have:x=false:=by
   have:=hx (by simp;omega);unfold nG at this;rcases this with⟨_,d,hd,e⟩|h
   .have e:wx d=some true:=e;rw[a d hd]at e;cases e
   .exact h.1
  subst x;exact T.go
theorem Kw{k:UInt8}{P:bI [215,216,217]->Prop}(h:k=1\/k=2\/k=3)(j:k=1->P ⟨1⟩)(a:k=2->P ⟨2⟩)(o:k=3->P ⟨3⟩):T (vI k) P:=by
 rcases h with rfl|rfl|rfl
 .exact⟨_,rfl,j rfl⟩
 .exact⟨_,rfl,a rfl⟩
 .exact⟨_,rfl,o rfl⟩
instance(a:cd) (l:List aU):Sp (BF a l) (B1 (sz l) a) (λr=>r=true)where
 h h:=by
  unfold BF;obtain⟨n,o,q,j⟩:=h;obtain⟨d,e1,e2⟩:=FV q;have w:=(cy.1 e1).1;have u:a.bG=1\/a.bG=2\/a.bG=3:=by grind
  have hc:(decide (a.aU<0)||decide (a.aU>=(l.length:Int)))=false:=by simp;omega
  rw[hc];refine aS (show T (vI a.bG) _ from Kw u (λk=>?_) (λk=>?_) λk=>?_)
  all_goals refine aj (λk=>by simp[jl]at k) λ_=>?_
  .refine aj (λk'=>by simp[k]at k') λ_=>?_;rw[show decide (a.At>=0)=true by simp;grind];refine aS (show T (idx l a.aU) _ from⟨d,kg e1 o,ax ?_⟩);unfold dp at j;simp;grind
  .refine aj (λk'=>by simp[k]at k') λ_=>?_;rw[show decide (a.At>=0)=true by simp;grind];refine aS (show T (idx l a.aU) _ from⟨d,kg e1 o,ax ?_⟩);unfold dp at j;simp;grind
  .exact aj (λ_=>ax (by grind)) λk'=>by simp[k]at k'
instance(l:List cd) (ds:List aU):Sp (vJ l ds) (jH ds/\l.length<4294967296/\∀a∈l,B1 (sz ds) a) (λr=>(r=0/\l.length<=1024)\/(r=4/\1024<l.length))where
 h h:=by unfold vJ;refine ar h.1 λx1 q=>aj (λk=>by grind) λ_=>aj (λk=>ax (.inr ⟨rfl,by simp at k;omega⟩)) λk=>?_;refine aS (bN (λs=>0<=s/\s<=l.length) (λs=>(l.length - s).toNat) (λs j=>?_));unfold PG;refine aj (λk=>ar (by grind) λx hx=>ar (h.2.2 _ hx.2.1) λy o=>aj (λk=>by grind) λ_=>bF (by grind [ej]) (by grind [ej])) λ_=>bu (ax (by grind))
theorem YJ{l:List aU}(h:jH l):DR l=some l:=by
 unfold DR;have:T (bf (EI l) aP (([]:List aU),(0:Int))) (λr=>r=l):=by
  have A:=h.2.1;refine bN (λs=>0<=s.2/\s.2<=l.length/\s.1=l.take s.2.toNat) (λs=>(l.length - s.2).toNat) (λ⟨B,s2⟩ w=>?_) (by simp);obtain⟨j,q,a⟩:=w;dsimp only at j q a;unfold EI;refine aj (λk=>ar (by grind) λx hx=>ar (h.2.2 _ hx.2.1) λy o=>ar (by rw[a];simp;omega) λz u=>?_) λk=>bu (by rw[a,kS (by grind)]);have e:wI (s2+1)=s2+1:=by grind [ej]
  rw[e];exact bF ⟨by grind,by grind,by dsimp only;rw[u,o,a,take_at hx.1 j]⟩ (by grind)
 obtain⟨_,e,rfl⟩:=this;rw[e];rfl
theorem XB{l:List aU}{d d':aU}{k:Nat}(h:jH l)(a:l[k]? =some d)(n:Nx d d')(hd:d.dS=false):jH (l.set k d')/\sz (l.set k d')=sz l/\dd (l.set k d')=dd l:=by
 have key:∀{β:Type} (f:aU->β),f d'=f d->(l.set k d').map f=l.map f:=λf e=>by
  rw[List.map_set,e];apply o0;intro i;rw[lg];split
  .rename_i e;subst e;have:=(cy.1 a).1;rw[if_pos (by simpa using this),lG,a];rfl
  .rfl
 refine⟨⟨by simpa using h.1,by simpa using h.2.1,λx hx=>?_⟩,key _ n.2.1,key _ (n.2.2.trans hd.symm)⟩;rcases pn hx with h'|rfl
 .exact h.2.2 _ h'
 .exact n.1
instance(ds:List aU) (l:List cd) (n:Int):Sp (sW ds l n) (jH ds/\l.length<4294967296/\(∀a∈l,B1 (sz ds) a)/\n=l.length) (λr=>(r.2=0/\jH r.1/\sz r.1=sz ds/\dd r.1=dd ds)\/r.2=9\/(r.2=4/\1024<l.length))where
 h h:=by
  unfold sW;refine ar ⟨h.1,h.2.1,h.2.2.1⟩ λx1 ag=>aj (λk=>ax (by grind)) λk=>aj (λk=>by simp[h.2.2.2]at k;omega) λ_=>?_;rw[YJ h.1,bo];refine ar (by have:=h.2.2.2;omega) λG I=>?_;replace I:G=l:=by rw[I,h.2.2.2];simp
  subst G;refine aS (bN (λs=>0<=s.2/\s.2<=l.length/\jH s.1/\sz s.1=sz ds/\dd s.1=dd ds) (λs=>(l.length - s.2).toNat) (λ⟨B,w⟩ Y=>?_) (by grind));obtain⟨O,X,q,u,z⟩:=Y;dsimp only at O X q u z;unfold O5 D2;dsimp only;have ad:wI (w+1)=w+1:=by grind [ej]
  rw[ad];refine aj (λZ=>ar (by grind) λo ac=>?_) λZ=>bu (T.inr (ax (.inl ⟨rfl,q,u,z⟩)));obtain⟨n,W,J,ae⟩:=h.2.2.1 _ ac.2.1;rw[<-u]at J;obtain⟨d,e1,e2⟩:=FV J;have af:=(cy.1 e1).1;rw[kg e1 W,bo];have hd:iq d:=q.2.2 d (iL e1);have A:d.dS=false->∀C,Nx d C->T (ab (b_ B.length o.aU) λD=>(some (ak.next (B.set D C,w+1)):Option (ak (List aU×Int) (Int⊕List aU)))) (LP (λs=>0<=s.2/\s.2<=l.length/\jH s.1/\sz s.1=sz ds/\dd s.1=dd ds) (λs=>(l.length - s.2).toNat) (λa=>T (Sum.elim (λN=>some (([]:List aU),N)) (λL=>some (L,(0:Int))) a) λr=>(r.2=0/\jH r.1/\sz r.1=sz ds/\dd r.1=dd ds)\/r.2=9\/(r.2=4/\1024<l.length)) (B,w)):=λj C aa=>by refine ar (by omega) λD K=>?_;rw[K.1];obtain⟨S,V,Q⟩:=XB q e1 aa j;exact bF ⟨by grind,by grind,S,V.trans u,Q.trans z⟩ (by grind)
  refine aj (λ_=>bF ⟨by grind,by grind,q,u,z⟩ (by grind)) λj=>?_;have j:d.dS=false:=by simpa using j
  have U:o.bG=1\/o.bG=2\/o.bG=3:=by grind
  refine aS (Kw U (λk=>?_) (λk=>?_) λk=>?_)
  .refine aS (show T (Iu o d) _ from ar ⟨hd,by grind,by grind,by grind,j⟩ λr E=>ax ?_);exact aj (λ_=>bu (T.inl (ax (by grind)))) λk=>A j _ (by grind)
  .refine aS (show T (IL o d) _ from ar ⟨hd,by grind,by grind,by grind,j⟩ λr E=>ax ?_);exact aj (λ_=>bu (T.inl (ax (by grind)))) λk=>A j _ (by grind)
  .refine aS (show T (EJ o d) _ from ar ⟨hd,j⟩ λr E=>ax ?_);exact aj (λ_=>bu (T.inl (ax (by grind)))) λk=>A j _ (by grind)
def jy(c:J)(i:Int):Int:=if i=c.aw then c.K+1 else c.bz * c.bb+1
def fq(c:J)(l:List aU):Prop:=cz c/\(l.length:Int)=c.aw+1/\∀(i:Nat) d,l[i]? =some d->iq d/\(d.aJ.length:Int)=jy c i
theorem fq.ds{c:J}{l:List aU}(h:fq c l):jH l:=by obtain⟨a,o,j⟩:=h;unfold cz at a;refine⟨by omega,by omega,λd hd=>?_⟩;obtain⟨i,hi,rfl⟩:=sS hd;exact(j i _ (ek hi)).1
theorem fq.sz{c:J}{l l':List aU}(h:fq c l)(o:jH l')(a:sz l'=sz l):fq c l':=by
 refine⟨h.1,?_,λi d hd=>⟨o.2.2 d (iL hd),?_⟩⟩
 .have:=congrArg vt a;unfold Go.Proofs.YthpphdegpinepaaGreat.sz at this;rw[sR,sR]at this;rw[this];exact h.2.1
 .have q:(Go.Proofs.YthpphdegpinepaaGreat.sz l)[i]? =some d.aJ.length:=by rw[<-a];unfold Go.Proofs.YthpphdegpinepaaGreat.sz;rw[lG,hd];rfl
  obtain⟨j,e1,e2⟩:=FV q;rw[<-e2];exact(h.2.2 i j e1).2
instance(c:J) (l:List aU):Sp (nO c l) (l.length<4294967296) (λr=>(r=0/\fq c l)\/(r=8/\ ¬fq c l))where
 h h:=by
  unfold nO;refine ar trivial λx1 z=>?_;unfold told at z;have hm:cz c->wI (c.aw+1)=c.aw+1:=λh=>by unfold cz at h;exact bg (by omega) (by omega)
  refine aj (λk=>ax ?_) λk=>?_
  .unfold fq;grind
  have hc:cz c:=by grind
  have q:(l.length:Int)=c.aw+1:=by grind
  refine aS (bN (λs=>0<=s/\s<=l.length/\∀(i:Nat) d,(i:Int)<s->l[i]? =some d->iq d/\(d.aJ.length:Int)=jy c i) (λs=>(l.length - s).toNat) (λs o=>?_));unfold KV Aj;have e:0<=s->s<=l.length->wI (s+1)=s+1:=λ_ _=>bg (by omega) (by omega);refine aj (λk=>ar (by grind) λx hx=>?_) λk=>bu (T.inr (ax (.inl ⟨rfl,hc,q,λi d hi=>o.2.2 i d (by have:=(cy.1 hi).1;grind) hi⟩)));have key:∀j,j=jy c s->T (ab (gO (!((x.aJ.length:Int) !=j)) (my x)) λA=>(bif(((x.aJ.length:Int) !=j)||(A !=0))then some (ak.aT (Sum.inl ()))else some (ak.next (wI (s+1))):Option (ak Int (Unit⊕Unit)))) (LP (λs=>0<=s/\s<=l.length/\∀(i:Nat) d,(i:Int)<s->l[i]? =some d->iq d/\(d.aJ.length:Int)=jy c i) (λs=>(l.length - s).toNat) (λa=>T (Sum.elim (λD=>some (8:Int)) (λB=>some (0:Int)) a) λr=>(r=0/\fq c l)\/(r=8/\ ¬fq c l)) s):=λj G=>by
   refine ar (λ_=>trivial) λy C=>aj (λk=>bu (T.inl (ax (.inr ⟨rfl,λu=>?_⟩)))) λk=>bF ⟨by grind,by grind,λi d hi hd=>?_⟩ (by grind)
   .have:=u.2.2 s.toNat x hx.1;rw[show((s.toNat:Nat):Int)=s by omega]at this;grind
   .by_cases hi':(i:Int)<s
    .exact o.2.2 i d hi' hd
    .have:i=s.toNat:=by grind
     subst i;rw[hx.1]at hd;rw[show((s.toNat:Nat):Int)=s by omega];grind
  unfold jy at key;exact aj (λk'=>ar trivial λE w=>key _ (by unfold told at w;grind)) λk'=>key _ (by grind)
def jA(c:J)(l:X):Prop:=(l.cZ.toNat:Int)<=2147483648/\ -1<=l.bZ/\l.bZ<c.aw/\0<=l.cN/\l.cN<=l.Pos/\l.Pos<=c.bz * c.bb/\(l.dt=true->l.bZ≠ -1)/\(l.dt=true\/l.Pos=0)
instance(l:List aU) (i:Int):Sp (Eg l i) (jH l/\0<=i/\i<l.length) (λr=>r.2=true->jw r.1/\r.1.aw=l.length - 1/\∃d,l[i.toNat]? =some d/\d.dS=false)where
 h h:=by
  unfold Eg;obtain⟨⟨w,o,a⟩,j⟩:=h;refine ar j λx1 e1=>ar ⟨a _ e1.2.1,by omega,by have:=(a _ e1.2.1).1;omega⟩ λq e2=>aj (λk=>ax (by simp)) λk=>ar (by grind) λu e3=>ax λk=>?_;have:wI ((l.length:Int) - 1)=l.length - 1:=bg (by omega) (by omega);have hd:x1.dS=false:=by grind
  exact⟨by grind,by grind,x1,e1.1,hd⟩
instance(l:List cQ) (f:cQ×cQ->Option Int):Sp (DG l f) (1<=l.length/\l.length<4294967296/\∀x,T (f x) λ_=>True) (λr=>r∈l)where
 h h:=by
  unfold DG JS;refine aj (λk=>by simp at k;omega) λ_=>ar (by omega) λx1 w=>?_;refine aS (bN (λs=>1<=s.1/\s.1<=l.length/\cQ.mk s.2.1 s.2.2.1 s.2.2.2.1 s.2.2.2.2.1 s.2.2.2.2.2.1 s.2.2.2.2.2.2.1 s.2.2.2.2.2.2.2.1 s.2.2.2.2.2.2.2.2.1 s.2.2.2.2.2.2.2.2.2.1 s.2.2.2.2.2.2.2.2.2.2∈l) (λs=>(l.length - s.1).toNat) (λ⟨s2,s3,N,I,L,O,K,J,A,C,B⟩ u=>?_) (by exact⟨by omega,by omega,w.2.1⟩));unfold L1 DN;obtain⟨o,q,a⟩:=u;dsimp only at o q a;have Q:wI (s2+1)=s2+1:=by grind [ej]
  refine aj (λk=>ar (by grind) λE z=>bQ (h.2.2 _) λG _=>aj (λ_=>ar (by grind) λD j=>bF ⟨by grind,by grind,j.2.1⟩ (by grind)) λ_=>bF ⟨by grind,by grind,a⟩ (by grind)) λk=>bu (ax a)
theorem R6(x y:cQ):T (Aa x y) λ_=>True:=by unfold Aa Gg AV;exact T.go
def Rt(l:List aU)(b:List Bool):Prop:=∀i:Nat,b[i]? =some true->∃d,l[i]? =some d/\d.dS=false
theorem Rt.set{l:List aU}{b:List Bool}(h:Rt l b){k:Nat}{v:Bool}(a:v=true->∃d,l[k]? =some d/\d.dS=false):Rt l (b.set k v):=λi hi=>by
 rw[lg]at hi;split at hi
 .rename_i e;subst e;split at hi
  .exact a (Option.some.inj hi)
  .cases hi
 .exact h i hi
instance(l:List aU):Sp (DA l) (jH l) (λr=>r.2=true->jw r.1.cA/\r.1.cA.aw=l.length - 1/\r.1.right.l.length=16/\Rt l r.1.right.l)where
 h h:=by
  unfold DA;have af:=h.1;have ac:=h.2.1;have e1:wI ((l.length:Int) - 1)=l.length - 1:=bg (by omega) (by omega);refine aS (bN (λs=>0<=s.2.1/\s.2.1<=l.length - 1/\(s.1.length:Int)<=s.2.1/\(∀x∈s.1,jw x/\x.aw=l.length - 1)/\s.2.2.1.l.length=16/\s.2.2.2.l.length=16/\Rt l s.2.2.2.l) (λs=>(l.length - s.2.1).toNat) (λ⟨Z,s2,s3,ad⟩ w=>?_) ⟨by simp,by simp;omega,by simp,by simp,by simp,by simp,λi hi=>by have:=(vm.1 (iL hi)).2;cases this⟩);obtain⟨J,L,K,a,u,o,j⟩:=w;dsimp only at J L K a u o j;unfold KZ Bd;rw[e1];have ag:wI (s2+1)=s2+1:=by grind [ej]
  refine aj (λk=>ar ⟨h,by grind⟩ λae q=>ar (by grind) λW S=>ar (by grind) λU C=>aj (λD=>ar (by simp;grind) λO z=>bF ⟨by grind,by grind,by simp[z];grind,λx hx=>?_,by simpa using u,by simpa using o,j.set λe=>by rw[C.1];exact(q e).2.2⟩ (by grind)) λ_=>bF ⟨by grind,by grind,by grind,a,by simpa using u,by simpa using o,j.set λe=>by rw[C.1];exact(q e).2.2⟩ (by grind)) λk=>bu ?_
  .rw[z]at hx;rcases dx.1 hx with h|h
   .exact a x h
   .rw[dz.1 h];exact⟨(q D).1,(q D).2.1⟩
  .refine aj (λ_=>ax (by simp)) λk0=>ar ⟨by simp at k0;grind,by grind,λx=>R6 _ _⟩ λV A=>?_;refine aS (bN (λs=>0<=s.1/\s.1<=16/\s.2.l.length=16/\Rt l s.2.l) (λs=>(16 - s.1).toNat) (λ⟨B,Q⟩ w=>?_) ⟨by simp,by simp,o,j⟩);obtain⟨q1,q2,q3,q4⟩:=w;dsimp only at q1 q2 q3 q4;unfold LF;have aa:wI (B+1)=B+1:=by grind [ej]
   exact aj (λk=>ar (by grind) λ_ _=>ar (by grind) λN I=>ar (by grind) λY G=>ar (by grind) λX E=>bF ⟨by grind,by grind,by simpa using q3,q4.set λe=>q4 _ (by simp at e;rw[E.1,<-I.1,G.1,e.1.1.1.1])⟩ (by grind)) λ_=>bu (ax λ_=>⟨(a _ A).1,(a _ A).2,q3,q4⟩)
theorem Tq(r:lU)(c:J)(hm:c.aw=r.cA.aw)(C:c.bz * c.bb=r.cA.bz * r.cA.bb)(h:jw r.cA/\r.right.l.length=16):T (Cj r) (λx=>(x.2=0/\jA c x.1/\x.1.cn=false/\x.1.cO=false/\∀i:Nat,(i:Int)<c.aw->r.right.l[i]? =some true\/((i:Int)=x.1.bZ/\x.1.dt=false))\/x.2=230):=by
 unfold Cj;obtain⟨h,S⟩:=h;have aa:3<=r.cA.aw/\r.cA.aw<=16:=⟨h.1.1,h.1.2.1⟩;obtain⟨_,A,Y,ac,E,D,W,Z,X⟩:=h;refine aS (bN (λs=>0<=s.1/\s.1<=r.cA.aw/\ -1<=s.2/\s.2<r.cA.aw/\(r.cA.bZ≠ -1->s.2=r.cA.bZ)/\∀i:Nat,(i:Int)<s.1->r.right.l[i]? =some true\/(i:Int)=s.2) (λs=>(r.cA.aw - s.1).toNat) (λ⟨a,s2⟩ C=>?_));obtain⟨I,K,u,B,w,j⟩:=C;dsimp only at I K u B w j;unfold LG Cl DX;have G:wI (a+1)=a+1:=by grind [ej]
 have z:∀(i:Nat),(i:Int)<a+1->(i:Int)<a\/i=a.toNat:=λi hi=>by omega
 refine aj (λk=>ar (by grind) λV E=>ar (by omega) λU D=>aj (λe=>bF ⟨by grind,by grind,u,B,w,λi hi=>?_⟩ (by grind)) λe=>aj (λ_=>bu (T.inl (ax (.inr rfl)))) λL=>bF ⟨by grind,by grind,by grind,by grind,by grind,λi hi=>?_⟩ (by grind)) λk=>bu (T.inr ?_)
 .rw[G]at hi;rcases z i hi with h|rfl
  .exact j i h
  .have:=D.1;rw[E.1,e]at this;exact .inl this
 .rw[G]at hi;dsimp only;rcases z i hi with h|rfl
  .rcases j i h with h'|h'
   .exact .inl h'
   .simp at L;exact .inr (by omega)
  .exact .inr (by omega)
 have Q:a=r.cA.aw:=by simp at k;omega
 refine ar (λk=>by simp at k;omega) λN o=>ar (λk=>by have:=(o k).2;omega) λO q=>?_;refine aj (λk=>ax (.inl ⟨rfl,?_,rfl,rfl,λi hi=>?_⟩)) λ_=>ax (.inl ⟨rfl,?_,rfl,rfl,λi hi=>?_⟩)
 .simp at k;exact⟨A,u,by dsimp only;omega,by dsimp only;omega,by dsimp only;omega,by dsimp only;omega,λ_=>by rw[w k.1];exact k.1, .inl rfl⟩
 .simp at k;rcases j i (by omega)with h|h
  .exact .inl h
  .rw[w k.1]at h;have o:=o (by simpa using k.1);have q:=(q (by simpa using k.1)).1;rw[o.1,k.2,<-h]at q;exact .inl q
 .refine⟨A,u,by dsimp only;omega,by simp,by simp,?_,by simp,by simp⟩;dsimp only;omega
 .exact(j i (by omega)).imp id λh=>⟨h,rfl⟩
def iB(c:J)(l:X)(ds:List aU):Prop:=∀(i:Nat) d,(i:Int)<c.aw->ds[i]? =some d->d.dS=true->(i:Int)=l.bZ/\l.dt=false
instance(l:List aU) (n:Int):Sp (AB l n) (jH l/\4<=l.length) (λr=>r.2.2.2=0->fq r.1 l/\jA r.1 r.2.1/\r.2.1.cn=false/\r.2.1.cO=false/\r.1.aE=n/\iB r.1 r.2.1 l)where
 h h:=by
  unfold AB;refine ar (λ_=>⟨h.1,by simp,by simp⟩) λx1 E=>aj (λk=>?_) λ_=>ar h.1 λa j=>aj (λ_=>ax (by simp)) λk=>ar (by have:=h.1.2.1;omega) λJ o=>aj (λ_=>ax (by simp)) λI=>?_
  .exfalso;have:=E (by simp;omega);simp at k this;rcases k with k|k
   .omega
   .exact k this
  .have j:=j (by simpa using k);replace o:=(o.resolve_right (by grind)).2;refine bQ (Tq a.1 ⟨a.1.cA.Id,a.1.cA.aw,a.1.cA.bz,a.1.cA.bb,a.1.cA.K,n⟩ rfl rfl ⟨j.1,j.2.2.1⟩) λL G=>aj (λ_=>ax (by grind)) λA=>ax λ_=>?_;obtain⟨_,B,D,C,z⟩:=G.resolve_right (by intro e;simp[e]at A);refine⟨o,B,D,C,rfl,λi d hi hd u=>(z i hi).resolve_left λe=>?_⟩;obtain⟨N,q,w⟩:=j.2.2.2 i e;rw[hd]at q;rw[Option.some.inj q,w]at u;cases u
def jm(m:Int):Int->List Int->Prop
 |_,[]=>True
 |a,x::l=>a<x/\x<=m/\jm m x l
theorem sx{m:Int}:∀{a:Int} {l:List Int},jm m a l->∀x∈l,a<x/\x<=m
 |_,[],_,x,h=>by cases h
 |a,y::l,h,x,hx=>by
  rcases fp.1 hx with rfl|hx
  .exact⟨h.1,h.2.1⟩
  .have:=sx h.2.2 x hx;have:=h.1;omega
def uh(c:J)(d:bl):Prop:=0<=d.L/\d.L<c.bz * c.bb/\jm (c.aw - 2) (-1) d.eD/\d.eD≠[]/\d.aJ.length=d.eD.length/\(∀b∈d.aJ,dp b)/\dp d.bP
instance(c:J) (l:List Int):Sp (Bi c l) (cz c/\l.length<4294967296) (λr=>r=true↔jm (c.aw - 2) (-1) l/\l≠[])where
 h h:=by
  unfold Bi;have a:wI (c.aw - 2)=c.aw - 2:=by unfold cz at h;exact bg (by omega) (by omega)
  refine aS (bN (λs=>0<=s.2/\s.2<=l.length/\(jm (c.aw - 2) (-1) l↔jm (c.aw - 2) s.1 (l.drop s.2.toNat))) (λs=>(l.length - s.2).toNat) λ⟨j,s2⟩ h=>?_);unfold MA;rw[a]
  with_reducible repeat' (first|refine bF ?_ ?_|refine bu ?_|(refine aj (λ_=>?_) (λ_=>?_))|refine aS ?_|refine T.inl ?_|refine T.inr ?_|refine ax ?_|(refine T.call ?_ (λ_ _=>?_))|fail)
  all_goals grind [ej,kN,jm]
instance(c:J) (d:bl):Sp (pS c d) (cz c/\d.aJ.length<4294967296/\d.eD.length<4294967296) (λr=>(r=0/\uh c d)\/(r=8/\ ¬uh c d))where
 h h:=by
  unfold pS uh;have e:(λy=>Fq y)=λb=>some (decide (¬dp b)):=funext λb=>tk b;rw[e];refine ar trivial λx1 E=>?_;unfold told at E;refine aj (λk=>by grind) λ_=>ar ⟨h.2.1,λx _=>⟨_,rfl,trivial⟩⟩ λB z=>ar (λ_=>⟨h.1,h.2.2⟩) λG C=>aj (λk=>ax ?_) λk=>ax ?_
  all_goals unfold nG at z
  .refine .inr ⟨rfl,λ⟨o,j,u,a,D,w,A⟩=>?_⟩;have:B=false:=by grind
   unfold dp at A;grind
  .refine .inl ⟨rfl,?_⟩;simp at k;obtain⟨⟨⟨⟨⟨o,j⟩,u⟩,a⟩,D⟩,w⟩:=k;have q:=C (by simp;exact⟨⟨o,j⟩,u⟩);refine⟨j,by grind,(q.1 a).1,(q.1 a).2,by omega,λb I=>?_,?_⟩
   .grind
   .by_cases hp:d.bP=[]
    .exact .inl (by rw[hp];rfl)
    .exact .inr (by have:=w hp;omega)
def fv(d:bl):Int:=1+d.eD.length+(if d.bP.length=0 then 0 else 1)
def jK(c:J)(d:bl):Prop:=uh c d/\∀b∈d.aJ,b.length=128
def B9(c:J)(s:Int×UInt32×UInt32×Int×(List Int)×(List (List UInt8))×(List UInt8)×Int×UInt32×UInt32×UInt32×Int×(List fJ)):Prop:=
 0<=s.1/\s.1<=c.K/\s.2.2.2.2.1.length=s.2.2.2.2.2.1.length/\(∀x∈s.2.2.2.2.2.1,x.length=128)/\dp s.2.2.2.2.2.2.1/\(s.1=0->s.2.2.2.2.1.length=0/\s.2.2.2.2.2.2.1.length=0)/\(0<s.1->(s.2.2.2.2.1.length:Int)+(if s.2.2.2.2.2.2.1.length=0 then 0 else 1)+1<=s.1/\s.1<=s.2.2.2.2.2.2.2.2.2.2.2.2.length+1/\s.2.2.2.2.2.2.2.2.2.2.2.2.length<=16)
instance(c:J) (E:aU) (at_:Int):Sp (Ej c E at_) (cz c/\iq E/\E.dS=false/\(E.aJ.length:Int)=c.K+1/\0<=at_/\at_<c.K) (λr=>r.2.2=0->jK c r.1.bl/\1<=r.2.1/\r.2.1<=17/\fv r.1.bl<=r.2.1)where
 h h:=by
  obtain⟨hc,aA,hd,D,az,ap⟩:=h;have a':=iZ hc;have ao:T (Ax c E at_ ()) (λr=>r.2.2=0->jK c r.1.bl/\1<=r.2.1/\r.2.1<=17/\fv r.1.bl<=r.2.1):=by
   unfold Ax;have key:∀(b:UInt32×UInt32×Int×(List Int)×(List (List UInt8))×(List UInt8)×Int×UInt32×UInt32×UInt32×Int×(List fJ)),b.2.2.2.1.length=b.2.2.2.2.1.length/\(∀x∈b.2.2.2.2.1,x.length=128)/\dp b.2.2.2.2.2.1/\b.2.2.2.1.length+(if b.2.2.2.2.2.1.length=0 then 0 else 1)<=b.2.2.2.2.2.2.2.2.2.2.2.length/\b.2.2.2.2.2.2.2.2.2.2.2.length<=16->
     T (vU c b) (λr=>r.2.2=0->jK c r.1.bl/\1<=r.2.1/\r.2.1<=17/\fv r.1.bl<=r.2.1):=by
    rintro⟨a8,a5,a_,a6,a2,a4,a3,a7,a9,a1,aR,ag⟩ ⟨I,C,u,j,B⟩;dsimp only at I C u j B;unfold vU;refine ar ⟨hc,by dsimp only;split at j<;>omega,by dsimp only;split at j<;>omega⟩ λx h=>aj (λ_=>ax (by simp)) λk=>ax λ_=>⟨⟨by grind,C⟩,?_⟩;have:wI (1+(ag.length:Int))=1+ag.length:=bg (by omega) (by omega);rw[this];unfold fv;dsimp only;refine⟨by omega,by omega,?_⟩;split at j<;>omega
   refine aS (bN (B9 c) (λs=>(c.K - s.1).toNat) (λ⟨a,W,Q,O,z,w,A,S,V,Y,U,X,o⟩ aB=>?_) (by simp[B9,dp];omega));obtain⟨I,C,u,j,B,aC,Z⟩:=aB;dsimp only at I C u j B aC Z;unfold Pu;have an:wI (a+1)=a+1:=by grind [ej]
   dsimp only;rw[an];have ad:0<a->z.length=w.length/\(∀x∈w,x.length=128)/\dp A/\z.length+(if A.length=0 then 0 else 1)<=o.length/\o.length<=16:=λk=>by have:=Z k;refine⟨u,j,B,?_,this.2.2⟩;split at this<;>simp_all<;>omega
   refine aj (λq=>?_) λq=>bu (T.inr (T.inr (key _ (ad (by simp at q;omega)))));refine ar ⟨by omega,by omega,az,ap,I,C⟩ λae aG=>?_;have e1:wI (1+ae.1)=1+ae.1:=bg (by omega) (by omega);rw[e1];refine ar ⟨aA,by omega,by omega⟩ λay G=>?_;have G:ay.1.length=128:=by grind
   refine aj (λq0=>ar G λaZ aw=>aj (λ_=>bu (T.inl (ax (by simp)))) λq1=>bF ?_ (by grind)) λq0=>?_
   .have aE:=aw (by simp at q1;exact q1.1);unfold oB at aE;simp at q0;refine⟨by dsimp only;omega,by dsimp only;grind,rfl,by simp, .inl rfl,λ_=>⟨rfl,rfl⟩,λ_=>?_⟩;simp;omega
   .have am:0<a:=by simp at q0;omega
    have N:=Z am;have f:=ad am;refine aj (λ_=>bu (T.inr (T.inl (key _ f)))) λq1=>?_;have e2:wI (a - 1)=a - 1:=by grind [ej]
    rw[e2];refine ar (by grind) λaf aI=>ar (by omega) λaH _=>ar (λ_=>by omega) λa0 _=>ar (λ_=>by omega) λaQ _=>aj (λ_=>bu (T.inl (ax (by simp)))) λ_=>?_;have aq:∀b:List UInt8,b.length=128->T (uC a W Q O z w A S V Y U X o af b) (λx=>∃L,x=ak.next L/\B9 c L/\L.1=a+1):=λb D=>by
     unfold uC;rw[an];have q:=of_decide_eq_true q;have q1:a<=o.length:=by simp at q1;exact q1
     refine aj (λ_=>ax ⟨_,rfl,⟨by dsimp only;omega,by dsimp only;omega,u,j, .inr D,λk=>by dsimp only at k;omega,λ_=>?_⟩,rfl⟩) λ_=>ar (by simp;split at N<;>omega) λaN ac=>ar (by simp;split at N<;>omega) λaF al=>ax ⟨_,rfl,⟨by dsimp only;omega,by dsimp only;omega,?_,?_,B,λk=>by dsimp only at k;omega,λ_=>?_⟩,rfl⟩
     .dsimp only;split at N<;>split<;>omega
     .dsimp only;rw[ac,al];simp[u]
     .dsimp only;rw[al];intro x hx;rcases dx.1 hx with h|h
      .exact j x h
      .rw[dz.1 h];exact D
     .dsimp only;rw[ac,bY,je];split at N<;>split<;>omega
    have aa:∀P (b:List UInt8),b.length=128->T (uC a W Q O z w A S V Y U X o af b) (LP (B9 c) (λs=>(c.K - s.1).toNat) P (a,W,Q,O,z,w,A,S,V,Y,U,X,o)):=λP b D=>
     (aq b D).mono λx ⟨L,e,i,m⟩=>by subst e;exact⟨i,by have:=of_decide_eq_true q;dsimp only;omega⟩
    exact aj (λ_=>ar (by omega) λaY _=>aa _ _ (by simp[G])) λ_=>aa _ _ G
  unfold Ej Ep DQ Fo;refine ar trivial λaO av=>?_;unfold told at av;refine aj (λk=>by grind) λ_=>ar trivial λaL aM=>aj (λk=>by grind) λ_=>aj (λk=>by grind) λ_=>aj (λk=>by simp at k;omega) λ_=>aj (λk=>by simp at k;omega) λ_=>aj (λk=>by grind) λ_=>ao
def F_(c:J)(a:aU):Prop:=iq a/\(a.aJ.length:Int)=c.K+1
instance(c:J) (a:aU):Sp (C0 c a) (cz c/\F_ c a) (λr=>r.2=0->a.dS=false/\jF r.1/\r.1.ca<c.K)where
 h h:=by unfold C0;obtain⟨hc,j,C⟩:=h;have D:=iZ hc;refine ar trivial λx1 o=>?_;unfold told at o;refine aj (λk=>by grind) λ_=>ar trivial λw q=>aj (λk=>by grind) λ_=>ar ⟨j,by omega,by omega⟩ λz u=>aj (λk=>ax (by grind)) λk=>ar (by grind) λB A=>aj (λ_=>ax (by simp)) λk=>ax (by grind)
def g9(l:List fj):Int:=(l.map λf=>fv f.bl).sum
theorem IE(d:bl):1<=fv d:=by unfold fv;split<;>omega
instance(c:J) (E:aU):Sp (A' c E) (cz c/\F_ c E) (λr=>r.2.2=0->jF r.1/\r.1.ca<c.K/\(r.2.1.length:Int)<=g9 r.2.1/\g9 r.2.1<=c.K/\∀f∈r.2.1,jK c f.bl)where
 h h:=by
  unfold A' EP Cu;have ac:=iZ h.1;refine ar h λx1 V=>aj (λk=>ax (by grind)) λk=>?_;obtain⟨hd,o,S⟩:=V (by simpa using k);have L:=o;unfold jF at L;refine aS (bN (λs=>0<=s.1/\s.1<=c.K/\(s.2.length:Int)<=g9 s.2/\g9 s.2<=s.1/\∀f∈s.2,jK c f.bl) (λs=>(c.K - s.1).toNat) (λ⟨s3,j⟩ o=>?_) (by simp[g9];omega));obtain⟨B,D,C,U,z⟩:=o;dsimp only at B D C U z;unfold Mk E0 A_;have u:jF x1.1/\x1.1.ca<c.K/\(j.length:Int)<=g9 j/\g9 j<=c.K/\∀f∈j,jK c f.bl:=⟨o,S,C,by omega,z⟩;refine aj (λq=>ar ⟨by omega,by omega,by omega,by omega,B,D⟩ λW X=>ar ⟨h.1,h.2.1,hd,h.2.2,by omega,by omega⟩ λa I=>aj (λq1=>?_) λ_=>aj (λk=>by cases k) λ_=>bu (T.inr (ax λ_=>u))) λ_=>bu (T.inr (ax λ_=>u));obtain⟨Q,aa,Y,Z⟩:=I (by simpa using q1);refine aj (λ_=>bu (T.inl (ax λ_=>u))) λq2=>ar (by simp;omega) λO w=>aj (λ_=>?_) λk=>by cases k
  have e:wI (s3+a.2.1)=s3+a.2.1:=bg (by omega) (by omega);rw[e]at q2|-;have N:s3+a.2.1<=c.K:=by grind
  have G:g9 O=g9 j+fv a.1.bl:=by rw[w];unfold g9;simp
  have:=IE a.1.bl;refine bF ⟨by dsimp only;omega,N,by dsimp only;rw[G,w];simp;omega,by dsimp only;omega,λf A=>?_⟩ (by dsimp only;omega);dsimp only at A;rw[w]at A;rcases dx.1 A with h|h
  .exact z f h
  .rw[dz.1 h];exact Q
instance(a s:UInt32) (t:Int):Sp (ue a s t) True (λr=>(r.2=0/\r.1=⟨a,s,t,0,[]⟩/\gS a/\gS s/\0<=t/\t<255)\/r.2=2)where
 h _:=by unfold ue;refine ar trivial λx h=>aj (λ_=>ax (by simp)) λk=>ax (.inl ⟨rfl,rfl,?_⟩);unfold jF at h;grind
instance(c:J) (l:X):Sp (oq c l) (cz c/\jA c l) (λr=>r=0)where
 h h:=by unfold oq;obtain⟨hc,A,j,u,B,q,o,z,w⟩:=h;simp only[pk];refine ar trivial λx1 a=>?_;unfold told at a;exact aj (λk=>by grind) λ_=>aj (λk=>by grind) λ_=>ax rfl
instance(c:J) (l:X) (s:Int):Sp (qD c l s) (cz c/\jA c l/\0<=s/\s<c.bz * c.bb) (λr=>r.2=0/\ -1<=r.1/\r.1<c.aw)where
 h h:=by unfold qD vu;obtain⟨hc,ho,z,q⟩:=h;refine ar ⟨hc,ho⟩ λx1 w=>aj (λk=>by grind) λ_=>ar trivial λu o=>?_;unfold told at o;have hm:=hc.1;obtain⟨_,a,j,_⟩:=ho;exact aj (λk=>by simp at k;omega) λ_=>aj (λk=>by grind) λ_=>aj (λ_=>ax ⟨rfl,by omega,by dsimp only;omega⟩) λ_=>ax ⟨rfl,a,j⟩
def eX(c:J)(a:cd):Prop:=0<=a.aU/\a.aU<=c.aw/\((a.bG=3/\a.At=0/\a.bO.length=0)\/((a.bG=1\/a.bG=2)/\0<=a.At/\a.At<jy c a.aU/\dp a.bO))
theorem eX.ok{c:J}{a:cd}{l:List aU}(h:eX c a)(o:fq c l):B1 (sz l) a:=by
 obtain⟨r,u,j⟩:=h;have q:a.aU.toNat<l.length:=by have:=o.2.1;omega
 have e:=ek q;have:=(o.2.2 _ _ e).2;rw[show((a.aU.toNat:Nat):Int)=a.aU by omega]at this;refine⟨_,r,by unfold sz;rw[lG,e];rfl,?_⟩;rw[<-this]at j;exact j
theorem EX{c:J}(h:cz c):(c.aw+1) * 3<=c.K:=by obtain⟨j,_,_,_,_,_,a,_,o,_⟩:=h;have:(c.aw+1) * 3<=(c.aw+1) * (c.aE+1):=Kd (by omega) (by omega);omega
instance(c:J) (l:X) (o:Bool):Sp (t_ c l o) (cz c/\jA c l/\l.cO=false) (λr=>(r.2.2=0/\r.1={l with cZ:=r.1.cZ}/\jA c r.1/\(r.2.1.length:Int)<=c.aw/\∀a∈r.2.1,eX c a)\/r.2.2=9)where
 h h:=by
  unfold t_;obtain⟨hc,ho,ag⟩:=h;refine ar ⟨hc,ho⟩ λx1 u=>aj (λk=>by grind) λ_=>aj (λk=>by grind) λ_=>aj (λ_=>ax (.inr rfl)) λq=>?_;obtain⟨ap,A,C,E,W,B,j,D⟩:=id ho;simp only[pk]at q|-;have al:(dP.of ((l.cZ.toNat:Int)+((1:Nat):Int))).toNat=l.cZ.toNat+1:=by rw[C_ (by omega) (by omega)];omega
  have q:(l.cZ.toNat:Int)≠2147483648:=by simpa using q
  have ao:=hc.1;have aa:=hc.2.1;have ak:=l9 hc;refine aS (bN (λs=>0<=s.2/\s.2<=c.aw/\(s.1.length:Int)<=s.2/\∀a∈s.1,eX c a) (λs=>(c.aw - s.2).toNat) (λ⟨s2,s3⟩ I=>?_) (by simp;omega));obtain⟨u,V,N,w⟩:=I;dsimp only at u V N w;unfold PX DZ;have Z:wI (s3+1)=s3+1:=bg (by omega) (by omega);dsimp only;rw[Z];refine aj (λq1=>aj (λ_=>bF ⟨by grind,by grind,by grind,w⟩ (by grind)) λ_=>ar trivial λae B=>?_) λ_=>bu (ax (.inl ⟨rfl,rfl,⟨by dsimp only;omega,A,C,E,W,B,j,D⟩,by dsimp only;omega,w⟩));have q1:=of_decide_eq_true q1;have an:jw ⟨c.Id,dP.of ((l.cZ.toNat:Int)+((1:Nat):Int)),c.aw,c.bz,c.bb,c.K,s3,l.bZ,l.cN,o⟩:=by
   refine⟨?_,by dsimp only;omega,u,q1,E,by dsimp only;omega,A,C,?_⟩
   .have:=EX hc;obtain⟨S,Y,U,Q,L,O,af,ac,ad,G⟩:=hc;exact⟨S,Y,U,Q,L,O,by simp[qA],by simp[qA],by simp only[qA];omega,G⟩
   .dsimp only;rintro⟨e1,e2⟩;rcases D with h|h
    .exact j h e1
    .omega
  refine aj (λk=>by grind) λ_=>ar (by simp;omega) λam j=>bF ⟨by dsimp only;omega,by dsimp only;omega,by dsimp only;rw[j];simp;omega,λa z=>?_⟩ (by dsimp only;omega);dsimp only at z;rw[j]at z;rcases dx.1 z with h|h
  .exact w a h
  .rw[dz.1 h];refine⟨u,by dsimp only;omega, .inr ⟨.inr rfl,by simp,?_, .inr (by grind)⟩⟩;unfold jy;dsimp only;have:=iZ hc;split<;>omega
instance(n b:Int):Sp (mz n b) (0<=n/\n<9223372036854775808/\0<b) (λr=>r.1=n/b/\r.2=n%b/\0<=r.1/\r.1<=n/\0<=r.2/\r.2<b)where
 h h:=by unfold mz;exact ar h λx hx=>ar ⟨h.1,h.2.2⟩ λy a=>ax (by grind)
instance(c:J) (s o b:Int):Sp (uP c s o b) (cz c/\0<=s/\s<c.bz * c.bb/\0<=o/\o<b) (λr=>r.2=0/\r.1.J=c/\0<=r.1.n/\r.1.n<=64)where
 h h:=by
  unfold uP tP;obtain⟨hc,q,w,z,A⟩:=h;have B:=l9 hc;refine ar trivial λx1 a=>?_;unfold told at a;have:∀b:Bool,b=false->T (bif b then none else ab (mz s c.bz) λj=>some ((jS.mk c j.1),(0:Int))) (λr=>r.2=0/\r.1.J=c/\0<=r.1.n/\r.1.n<=64):=λb u=>by subst u;exact ar ⟨q,by omega,by have:=hc.2.2.1;omega⟩ λx hx=>ax ⟨rfl,rfl,hx.2.2.1,by dsimp only;omega⟩
  exact aj (λk=>by grind) λ_=>aj (λk=>by simp at k;omega) λ_=>aj (λk=>by grind) λ_=>aj (λk=>by simp at k;omega) λ_=>this _ (by simp;omega)
instance(r:jS):Sp (yi r) (cz r.J/\0<=r.n/\r.n<=64) (λx=>0<=x/\x<r.J.aw)where
 h h:=by unfold yi;obtain⟨hc,a,o⟩:=h;have hm:=hc.1;have j:=hc.2.1;refine ar ⟨a,by omega,by omega⟩ λx hx=>ax ?_;rw[bg (x:=r.J.aw - 1) (by omega) (by omega),bg (by omega) (by omega)];omega
instance(r:jS) (s:Int):Sp (wM r s) (cz r.J/\0<=r.n/\r.n<=64/\0<=s/\s<=16) (λx=>0<=x/\x<r.J.aw)where
 h h:=by unfold wM;obtain⟨hc,o,j,u,w⟩:=h;have hm:=hc.1;have q:=hc.2.1;refine ar ⟨hc,o,j⟩ λx hx=>?_;rw[bg (x:=x+1) (by omega) (by omega),bg (by omega) (by omega)];exact ar ⟨by omega,by omega,by omega⟩ λy a=>ax ⟨a.2.2.2.2.1,a.2.2.2.2.2⟩
instance(c:J) (s o:Int):Sp (uO c s o) (cz c/\0<=s/\s<c.bz * c.bb/\0<=o/\o<c.aw) (λr=>r.2=0/\0<=r.1/\r.1<c.aw)where
 h h:=by unfold uO;refine ar h λx1 a=>aj (λk=>by grind) λ_=>?_;have q:=h.1.2.1;refine ar ⟨by rw[a.2.1];exact h.1,a.2.2.1,a.2.2.2,h.2.2.2.1,by omega⟩ λy j=>ax ⟨rfl,j.1,by rw[<-a.2.1];exact j.2⟩
theorem kT{m:Int}:∀{a:Int} {l:List Int},jm m a l->a<=m->a+l.length<=m
 |_,[],_,h=>by simpa using h
 |a,x::l,h,_=>by have:=kT h.2.2 h.2.1;have:=h.1;simp;omega
instance(c:J) (m:Int) (d:bl):Sp (vR c m d) (cz c/\jK c d/\d.bP.length=128) (λr=>r.2=0/\r.1.length<=17/\∀a∈r.1,eX c a)where
 h h:=by
  unfold vR z9 Hk;obtain⟨hc,⟨ho,V⟩,u⟩:=h;obtain⟨o1,E,w,ap,af,av,ay⟩:=ho;have hm:=hc.1;have Z:=hc.2.1;have ao:=l9 hc;have aq:=kT w (by omega);have z:∀(x:Int) (b:List UInt8),0<=x->x<c.aw->b.length=128->eX c ⟨x,1,wI (d.L+1),b⟩:=λx b X am W=>by rw[bg (by omega) (by omega)];refine⟨X,by dsimp only;omega, .inr ⟨.inl rfl,by dsimp only;omega,?_, .inr W⟩⟩;unfold jy;dsimp only;rw[if_neg (by omega)];omega
  refine aS (bN (λs=>0<=s.1/\s.1<=d.eD.length/\(s.2.length:Int)<=s.1/\∀a∈s.2,eX c a) (λs=>(d.eD.length - s.1).toNat) (λ⟨s2,s3⟩ N=>?_) (by simp));obtain⟨O,U,S,o⟩:=N;dsimp only at O U S o;unfold LL DK;have Y:wI (s2+1)=s2+1:=bg (by omega) (by omega);dsimp only;rw[Y];have oI:∀(a:cd),eX c a->∀x∈s3++[a],eX c x:=λa Q x hx=>by
   rcases dx.1 hx with h|h
   .exact o x h
   .rw[dz.1 h];exact Q
  refine aj (λq=>ar (by grind) λak I=>ar (by grind) λag j=>ar ⟨hc,o1,E,by have:=sx w _ I.2.1;omega,by have:=sx w _ I.2.1;omega⟩ λal K=>aj (λ_=>bF ⟨by grind,by grind,by grind,o⟩ (by grind)) λ_=>?_) λq=>bu ?_
  .have j:=V _ j.2.1;refine ar (by omega) λan G=>aj (λk=>by simp[G]at k;rw[k]at j;simp at j) λ_=>ar (by simp;omega) λad C=>bF ⟨by grind,by grind,by dsimp only;rw[C];simp;omega,?_⟩ (by grind);dsimp only;rw[C];exact oI _ (z _ _ K.2.1 K.2.2 (by rw[G];exact j))
  .rw[bg (x:=c.aw - 1) (by omega) (by omega)];refine ar ⟨hc,o1,E,by omega,by omega⟩ λaa B=>aj (λ_=>ax ⟨rfl,by dsimp only;omega,o⟩) λ_=>ar (by omega) λac D=>aj (λk=>by simp[D]at k;rw[k]at u;simp at u) λ_=>ar (by simp;omega) λae A=>ax ⟨rfl,by dsimp only;rw[A];simp;omega,?_⟩;dsimp only;rw[A];exact oI _ (z _ _ B.2.1 B.2.2 (by rw[D];exact u))
instance(c:J) (m:Int) (d:bl):Sp (Bl c m d) (cz c/\jK c d/\d.bP.length=128/\ -1<=m/\m<c.aw) (λr=>r.2=0/\r.1.length<=17/\∀a∈r.1,eX c a)where
 h h:=by unfold Bl xA;obtain⟨hc,ho,j,z,q⟩:=h;have u:=kT ho.1.2.2.1 (by have:=hc.1;omega);have o:=hc.2.1;refine ar ⟨hc,by rw[ho.1.2.2.2.2.1];omega,by omega⟩ λx1 w=>aj (λk=>by have:=ho.1;grind) λ_=>aS (ax (aj (λk=>by simp at k;omega) λ_=>aj (λk=>by simp at k;rw[k]at j;simp at j) λ_=>ar ⟨hc,ho,j⟩ λx h=>ax h))
instance(c:J):Sp (yy c) (cz c) (λr=>r.2=0/\r.1.length<=16/\∀a∈r.1,eX c a)where
 h hc:=by
  unfold yy;have D:=hc.2.1;have hm:=hc.1;refine ar trivial λx1 o=>aj (λk=>by grind) λ_=>?_;refine aS (bN (λs=>0<=s.2/\s.2<=c.aw/\(s.1.length:Int)=s.2/\∀a∈s.1,eX c a) (λs=>(c.aw - s.2).toNat) (λ⟨s2,s3⟩ z=>?_) (by simp;omega));obtain⟨o,B,A,j⟩:=z;dsimp only at o B A j;unfold LM;have C:wI (s3+1)=s3+1:=bg (by omega) (by omega);dsimp only;rw[C];refine aj (λq=>ar (by simp;omega) λE w=>bF ⟨by grind,by grind,by dsimp only;rw[w];simp;omega,λa u=>?_⟩ (by grind)) λ_=>bu (ax ⟨rfl,by dsimp only;omega,j⟩);dsimp only at u;rw[w]at u;rcases dx.1 u with h|h
  .exact j a h
  .rw[dz.1 h];exact⟨o,by grind, .inl ⟨rfl,rfl,rfl⟩⟩
theorem Hb{m x:Int}:∀{a:Int} {l1 l2:List Int},jm m a (l1++l2)->a<x->x<=m->(∀y∈l1,y<x)->(∀y∈l2,x<y)->jm m a (l1++x::l2)
 |a,[],[],_,o,j,_,_=>⟨o,j,trivial⟩
 |a,[],y::l2,h,o,j,_,q=>⟨o,j,q y (by simp),h.2.1,h.2.2⟩
 |a,y::l1,l2,h,o,j,r,q=>⟨h.1,h.2.1,Hb h.2.2 (r y (by simp)) j (λz u=>r z (by simp[u])) q⟩
theorem Eo{m:Int}:∀{a:Int} {l:List Int},jm m a l->∀(i j:Nat) (x y:Int),i<j->l[i]? =some x->l[j]? =some y->x<y
 |_,[],_,i,j,x,y,_,h,_=>by simp at h
 |a,z::l,h,0,j+1,x,y,_,q,o=>by simp at q o;subst q;exact(sx h.2.2 y (iL o)).1
 |a,z::l,h,i+1,j+1,x,y,r,q,o=>Eo h.2.2 i j x y (by omega) (by simpa using q) (by simpa using o)
theorem Yp{m:Int}{l:List Int}{x:Int}(h:jm m (-1) l)(X:l.length<4294967296):T (D7 l x) (λr=>0<=r.1/\r.1<=l.length/\(r.2=true->r.1<l.length)/\(r.2=false->(∀y∈l.take r.1.toNat,y<x)/\∀y∈l.drop r.1.toNat,x<y)):=by
 unfold D7;refine aS (bN (λs=>0<=s.1/\s.1<=s.2/\s.2<=l.length/\(∀y∈l.take s.1.toNat,y<x)/\∀y∈l.drop s.2.toNat,x<=y) (λs=>(s.2 - s.1).toNat) (λ⟨i,j⟩ J=>?_) (by simp));obtain⟨B,I,C,D,z⟩:=J;dsimp only at B I C D z;unfold Pz cmp_Less_int cmp_isNaN_int;have K:wI ((lL (oJ.of (wI (i+j))) 1).toNat:Int)=(i+j)/2:=by
  have e1:(oJ.of (wI (i+j))).toNat=(i+j).toNat:=by rw[bg (by omega) (by omega)];unfold oJ.of;rw[UInt64.toNat_ofNat'];omega
  have e2:(lL (oJ.of (wI (i+j))) 1).toNat=(i+j).toNat/2:=by unfold lL;rw[UInt64.toNat_ofNat',e1];simp only[show min 1 64=1 from rfl,Nat.pow_one];omega
  rw[e2,bg (by omega) (by omega)];omega
 dsimp only;rw[K];refine aj (λq=>?_) λq=>bu ?_
 .have q:=of_decide_eq_true q;refine ar (by omega) λo A=>bQ (Q:=λr=>r=decide (o<x)) ?_ λS G=>aj (λe=>?_) λe=>?_
  .refine aS (ax (ar (λ_=>trivial) λ_ _=>ax ?_));simp
  .rw[bg (by omega) (by omega)];have e:o<x:=by rw[G]at e;simpa using e
   refine bF ⟨by dsimp only;omega,by dsimp only;omega,C,λy a=>?_,z⟩ (by dsimp only;omega);dsimp only at a;rw[take_at A.1 (by omega)]at a;rcases dx.1 a with a|a
   .obtain⟨n,w,rfl⟩:=sS a;rw[cf]at w;have:=Eo h n ((i+j)/2).toNat _ o (by omega) (ek (by omega)) A.1;simp only[List.getElem_take];omega
   .rw[dz.1 a];exact e
  .have e:x<=o:=by rw[G]at e;simpa using e
   refine bF ⟨B,by dsimp only;omega,by dsimp only;omega,D,λy a=>?_⟩ (by dsimp only;omega);dsimp only at a;rw[A.2.2]at a;rcases fp.1 a with rfl|a
   .exact e
   .obtain⟨n,w,rfl⟩:=sS a;rw[eH]at w;have:=Eo h ((i+j)/2).toNat (((i+j)/2+1).toNat+n) o _ (by omega) A.1 (ek (by omega));simp only[List.getElem_drop];omega
 .have q: ¬i<j:=by simpa using q
  obtain rfl:i=j:=by omega
  unfold zX;refine ar (λk=>by simp at k;omega) λE u=>ar (λk=>by simp at k;omega) λU Y=>ar (λ_=>trivial) λV W=>ar (λ_=>trivial) λO _=>ax ⟨B,C,λk=>by simp at k;exact k.1,λk=>⟨D,λy a=>?_⟩⟩;by_cases hi:i<l.length
  .have u:=u (by simpa using hi);dsimp only at a k;rw[decide_eq_true hi,Bool.true_and]at k;have L:E≠x:=by intro e;simp[e]at k
   have N:=z E (by rw[u.2.2];simp);have:=z y a;rw[u.2.2]at a;rcases fp.1 a with rfl|a
   .omega
   .obtain⟨n,w,rfl⟩:=sS a;rw[eH]at w;have:=Eo h i.toNat ((i+1).toNat+n) E _ (by omega) u.1 (ek (by omega));simp only[List.getElem_drop];omega
  .dsimp only at a;rw[kN (by omega)]at a;cases a
instance(l:List fj) (f:fj->Option Int):Sp (Du l f) (l.length<4294967296/\∀x∈l,T (f x) λr=>r=0) (λr=>r=0)where
 h h:=by unfold Du;refine aS (bN (λs=>0<=s/\s<=l.length) (λs=>(l.length - s).toNat) (λs a=>?_));unfold OO;exact aj (λk=>ar (by grind) λx hx=>bQ (h.2 x hx.2.1) λy j=>aj (λk=>by grind) λ_=>bF (by grind [ej]) (by grind [ej])) λ_=>bu (ax rfl)
instance(l:List Int) (f:Int->Option Bool):Sp (Gv l f) (l.length<4294967296/\∀x∈l,T (f x) λ_=>True) (lq l f)where
 h h:=T.index h
theorem qk{L:List cW}{s:Int}:ez L s=true↔∃r∈L,r.1=s:=by unfold ez;simp
theorem Qx{L:List cW}{s:Int}(h:ez L s=true):jz L s∈L:=by
 unfold jz;cases e:L.find? λd=>d.1==s with
 |some r=>exact List.mem_of_find?_eq_some e
 |none=>
  obtain⟨r,j,a⟩:=qk.1 h;have:=List.find?_eq_none.1 e r j;simp[a]at this
def Rq(c:J)(r:cW):Prop:=jm (c.aw - 2) (-1) r.2.1/\r.2.2.length=r.2.1.length/\∀b∈r.2.2,b.length=128
def Rw(c:J)(r:cW):Prop:=Rq c r/\r.2.1≠[]
theorem Rq.len{c:J}{r:cW}(hc:cz c)(h:Rq c r):r.2.1.length<=15:=by have:=kT h.1 (by have:=hc.1;omega);have:=hc.2.1;omega
def Hh(c:J)(n:Int)(s:Int×(List cd)×(List Int)×(List cW)):Prop:=
 0<=s.1/\s.1<=n/\(s.2.1.length:Int)<=17 * s.1/\(∀a∈s.2.1,eX c a)/\s.2.2.1.Nodup/\(s.2.2.1.length:Int)<=s.1/\(∀x,x∈s.2.2.1↔ez s.2.2.2 x=true)/\(∀r∈s.2.2.2,Rw c r)/\∀x∈s.2.2.1,0<=x/\x<c.bz * c.bb
def BQ(c:J)(n k:Int):ak (Int×(List cd)×(List Int)×(List cW)) ((List cd)×(List Int)×(List cW))->Prop
 | .next s=>Hh c n s/\s.1=k+1
 | .aT _=>False
section
variable{c:J}{l:X}{n k:Int}{gi:List cd}{f:fj}
theorem HS(hc:cz c)(B:jA c l)(j:jK c f.bl)(k0:0<=k)(E:k<n)(G:n<=255)(I:(gi.length:Int)<=17 * k)(u:∀a∈gi,eX c a){o:List Int}{rs:List cW}
  (h:o.Nodup/\(o.length:Int)<=k+1/\(∀x,x∈o↔ez rs x=true)/\(∀r∈rs,Rw c r)/\∀x∈o,0<=x/\x<c.bz * c.bb):T (tS c l k gi f (o,rs)) (BQ c n k):=by
 unfold tS Dd;have D:wI (k+1)=k+1:=bg (by omega) (by omega);dsimp only;rw[D];refine aj (λ_=>aj (λk=>by cases k) λ_=>ax ⟨⟨by dsimp only;omega,by dsimp only;omega,by dsimp only;omega,u,h.1,h.2.1,h.2.2.1,h.2.2.2.1,h.2.2.2.2⟩,rfl⟩) λq=>?_;have C:f.bl.bP.length=128:=by
  have:=j.1.2.2.2.2.2.2;unfold dp at this;simp at q this;rcases this with h|h
  .exact absurd h q
  .exact h
 refine ar ⟨hc,B,j.1.1,j.1.2.1⟩ λx hx=>aj (λk=>by grind) λ_=>ar ⟨hc,j,C,hx.2.1,hx.2.2⟩ λy A=>ar (by omega) λz w=>aj (λk=>by grind) λ_=>ax ⟨⟨by dsimp only;omega,by dsimp only;omega,by dsimp only;rw[w];simp;omega,?_,h.1,h.2.1,h.2.2.1,h.2.2.2.1,h.2.2.2.2⟩,rfl⟩;dsimp only;rw[w];intro a h;rcases dx.1 h with h|h
 .exact u a h
 .exact A.2.2 a h
theorem Wn{b:List UInt8}(h:b.length<4294967296):og b=some b:=by unfold og app;rw[if_pos (by simpa using h)];rfl
theorem KQ(hc:cz c)(an:jA c l)(u:jK c f.bl)(k0:0<=k)(ag:k<n)(ao:n<=255)(ak:(gi.length:Int)<=17 * k)(af:∀a∈gi,eX c a){V:List Int}{X:List (List UInt8)}{o:List Int}{rs:List cW}
  (am:Rq c (0,V,X))(h:o.Nodup/\(o.length:Int)<=k+1/\(∀x,x∈o↔ez rs x=true)/\(∀r∈rs,r.1≠f.bl.L->Rw c r)/\∀x∈o,0<=x/\x<c.bz * c.bb)(az:ez rs f.bl.L=true):T (yk c l k gi f (V,X,o,rs)) (BQ c n k):=by
 unfold yk;have ay:=kT u.1.2.2.1 (by have:=hc.1;omega);have aA:=hc.2.1;have aw:0<f.bl.eD.length:=Ke.2 u.1.2.2.2.1;refine aS (bN (λs=>0<=s.1/\s.1<=f.bl.eD.length/\Rq c (0,s.2.1,s.2.2)/\(0<s.1->s.2.1≠[])) (λs=>(f.bl.eD.length - s.1).toNat) (λ⟨G,s2,s3⟩ ac=>?_) ⟨by dsimp only;omega,by dsimp only;omega,am,λh=>by dsimp only at h;omega⟩);obtain⟨q1,q2,q3,q4⟩:=ac;dsimp only at q1 q2 q3 q4;have al:=q3.len hc;obtain⟨C,I,B⟩:=q3;dsimp only at C I B al;unfold KJ DP;have aq:wI (G+1)=G+1:=bg (by omega) (by omega);dsimp only;rw[aq];refine aj (λq=>ar (by grind) λav aa=>bQ (Yp C (by omega)) λS w=>?_) λq=>bu ?_
 .have q:=of_decide_eq_true q;have W:G<f.bl.aJ.length:=by rw[u.1.2.2.2.2.1];exact q
  have hx:=sx u.1.2.2.1 _ aa.2.1;refine aj (λE=>ar ⟨w.1,w.2.1,by omega⟩ λae N=>ar ⟨w.1,by omega,by omega⟩ λad U=>ar ⟨q1,W⟩ λZ D=>?_) λE=>ar ⟨q1,W⟩ λZ D=>?_
  all_goals rw[Wn (vz (u.1.2.2.2.2.2.1 _ D.2.1)),bo]
  .have l1:ae.length=s2.length+1:=by rw[N];simp;omega
   have l2:ad.length=s3.length+1:=by rw[U];simp;omega
   refine ar ⟨w.1,by omega⟩ λY O=>bF ⟨by dsimp only;omega,by dsimp only;omega,⟨?_,by dsimp only;simp;omega,λb z=>?_⟩,λ_ e=>by dsimp only at e;rw[e]at l1;simp at l1⟩ (by dsimp only;omega)
   .dsimp only;rw[N];obtain⟨ap,p2⟩:=w.2.2.2 (by simpa using E);exact Hb (by rw[sM];exact C) hx.1 hx.2 ap p2
   .dsimp only at z;rw[U,O.1,J8 _ _ (by rw[cf];omega),show S.1.toNat - (List.take S.1.toNat s3).length=0 by simp;omega,List.set_cons_zero]at z;rcases dx.1 z with h|h
    .exact B b (List.mem_of_mem_take h)
    .rcases fp.1 h with rfl|h
     .exact u.2 _ D.2.1
     .exact B b (vq h)
  .have:=w.2.2.1 (by simpa using E);refine ar ⟨w.1,by omega⟩ λY O=>bF ⟨by dsimp only;omega,by dsimp only;omega,⟨C,by dsimp only;simpa using I,λb z=>?_⟩,λ_ e=>by dsimp only at e;rw[e]at this;simp at this;omega⟩ (by dsimp only;omega);rcases pn z with h|rfl
   .exact B b h
   .exact u.2 _ D.2.1
 .refine HS hc an u k0 ag ao ak af ⟨h.1,h.2.1,λx=>?_,λr Q=>?_,h.2.2.2.2⟩
  .rw[h.2.2.1 x,qk,qk];unfold pD;constructor
   .rintro⟨r,K,j⟩;refine⟨_,pg K,?_⟩;cases e:r.1==f.bl.L with
    |true=>simp only[cond_true];rw[<-j];simp at e;exact e.symm
    |false=>exact j
   .rintro⟨r,K,j⟩;obtain⟨A,J,rfl⟩:=gm.1 K;refine⟨A,J,?_⟩;cases e:A.1==f.bl.L with
    |true=>rw[e]at j;simp at e;simp only[cond_true]at j;rw[e];exact j
    |false=>rw[e]at j;exact j
  .unfold pD at Q;obtain⟨A,J,rfl⟩:=gm.1 Q;cases e:A.1==f.bl.L with
   |true=>simp only[cond_true];exact⟨⟨C,I,B⟩,q4 (by simp at q;omega)⟩
   |false=>simp only[cond_false];exact h.2.2.2.1 A J (by simpa using e)
end
def sY(c:J)(l:List bl):Prop:=l.length<=255/\(l.map (·.L)).Nodup/\∀d∈l,jK c d/\d.bP=[]
instance(c:J) (l:X) (z:List fj):Sp (D5 c l z) (cz c/\jA c l/\z.length<=255/\∀f∈z,jK c f.bl) (λr=>r.2.2=0/\r.1.length<=5000/\(∀a∈r.1,eX c a)/\sY c r.2.1)where
 h h:=by
  unfold D5 Gd;obtain⟨hc,S,aU,W⟩:=h;have aq:∀f∈z,T (HW f c) λr=>r=0:=λf h=>by have aL:=kT (W f h).1.2.2.1 (by have:=hc.1;omega);have aZ:=hc.2.1;exact ar ⟨hc,by rw[(W f h).1.2.2.2.2.1];omega,by omega⟩ λx hx=>ax (by have:=(W f h).1;grind)
  refine ar ⟨hc,S⟩ λx1 aN=>aj (λk=>by grind) λ_=>aj (λk=>by simp at k;omega) λ_=>ar ⟨by omega,aq⟩ λaO aR=>aj (λk=>by grind) λ_=>?_;refine aS (bN (Hh c z.length) (λs=>(z.length - s.1).toNat) (λ⟨K,ak,u,I⟩ aB=>?_) ⟨by simp,by simp,by simp,by simp,by simp,by simp,by simp[ez],by simp,by simp⟩);obtain⟨q1,q2,q3,q4,q5,q6,q7,q8,q9⟩:=aB;dsimp only at q1 q2 q3 q4 q5 q6 q7 q8 q9;have go:∀{x P},K<z.length->T x (BQ c z.length K)->T x (LP (Hh c z.length) (λs=>(z.length - s.1).toNat) P (K,ak,u,I)):=λaQ h=>h.mono λy C=>by
   cases y with
   |next s=>exact⟨C.1,by have:=C.2;dsimp only;omega⟩
   |aT b=>exact C.elim
  unfold Kv yg zO yg;refine aj (λq=>ar (by grind) λx18 ap=>?_) λq=>bu ?_
  .have q:=of_decide_eq_true q;refine go q ?_;have hx:=W _ ap.2.1;refine aj (λ_=>aj (λw=>ar ⟨by omega,λ_ _=>⟨_,rfl,trivial⟩⟩ λN Y=>?_) λ_=>HS hc S hx q1 q (by omega) q3 q4 ⟨q5,by omega,q7,q8,q9⟩) λ_=>aj (λw=>?_) λw=>?_
   .have hm:x18.bl.L∈u:=(q7 _).2 w;have del:∀o,o=u.filter (λx=> !(x==x18.bl.L))->T (tS c l K ak x18 (o,ly I x18.bl.L)) (BQ c z.length K):=λo ho=>by
     refine HS hc S hx q1 q (by omega) q3 q4 ⟨by rw[ho];exact q5.filter _,?_,λx=>?_,λr O=>q8 r (lH.1 O).1,λx hx=>q9 x (by rw[ho]at hx;exact(lH.1 hx).1)⟩
     .rw[ho];have:=qU (λx=> !(x==x18.bl.L)) u;omega
     .rw[ho,lH,q7 x,qk,qk];unfold ly;constructor
      .rintro⟨⟨r,G,A⟩,ad⟩;exact⟨r,lH.2 ⟨G,by rw[A];exact ad⟩,A⟩
      .rintro⟨r,G,A⟩;obtain⟨ad,aF⟩:=lH.1 G;exact⟨⟨r,ad,A⟩,by rw[<-A];exact aF⟩
    unfold lq EU at Y;refine aj (λe=>?_) λe=>?_
    .rcases Y with⟨_,h⟩|h
     .have:=h _ hm;simp at this
     .simp at e;omega
    .obtain⟨aE,ay,x,aA,aY,aC,av⟩:0<=N/\N<u.length/\∃x,u[N.toNat]? =some x/\x∈u/\some (x==x18.bl.L)=some true/\∀y∈u.take N.toNat,some (y==x18.bl.L)=some false:=by
      rcases Y with⟨h,_⟩|h
      .simp[h]at e
      .exact h
     rw[bg (x:=N+1) (by omega) (by omega)];refine bQ (T.QZ (λx=> !(x==x18.bl.L)) (by omega) ⟨aE,ay⟩ (λy C=>by have:=Option.some.inj (av y C);simp[this]) (λy C=>?_) (λl i j y Z am D V al _=>?_) (λl i=>?_)) λb B=>?_
     .rw[aA]at C;have:=Option.some.inj aC;rw[<-Option.some.inj C,this];rfl
     .unfold JE IA AX;dsimp only;rw[decide_eq_true D,cond_true,kg al (by omega),bo,bg (x:=j+1) (by omega) (by omega),bg (x:=i+1) (by omega) (by omega)];cases(!(y==x18.bl.L))with
      |true=>rw[cond_true,cond_true,show GL.b_ l.length i=some i.toNat by unfold GL.b_;rw[if_pos (by omega)]];rfl
      |false=>rfl
     .unfold JE;simp
     .refine ar ⟨B.1,B.2.1,by omega⟩ λaI _=>ar ⟨by omega,B.1,by simp;omega⟩ λaH ao=>del _ ?_;rw[ao,iM (by simp;omega),List.take_take,Nat.min_self,B.2.2.2];rfl
   .have w:ez I x18.bl.L=false:=by simpa using w
    refine ar (by simp;omega) λaM U=>aS (show T (pE I x18.bl.L) _ from⟨_,by unfold pE;rw[if_neg (by rw[w];simp)],?_⟩);refine KQ hc S hx q1 q (by omega) q3 q4 ⟨trivial,rfl,by simp⟩ ⟨?_,by rw[U];simp;omega,λx=>?_,λr O af=>?_,λx ae=>?_⟩ (qk.2 ⟨(x18.bl.L,[],[]),by simp,rfl⟩)
    .rw[U,vp];refine⟨q5,by simp,λa aw b B=>?_⟩;rw[dz.1 B];intro e;have:=(q7 a).1 aw;rw[e,w]at this;cases this
    .rw[U,dx,q7 x,qk,qk];constructor
     .rintro(⟨r,G,A⟩|h)
      .exact⟨r,by simp[G],A⟩
      .exact⟨(x18.bl.L,[],[]),by simp,(dz.1 h).symm⟩
     .rintro⟨r,G,A⟩;rcases dx.1 G with h|h
      .exact .inl ⟨r,h,A⟩
      .rw[dz.1 h]at A;exact .inr (by simp[<-A])
    .rcases dx.1 O with h|h
     .exact q8 r h
     .rw[dz.1 h]at af;exact absurd rfl af
    .rw[U]at ae;rcases dx.1 ae with h|h
     .exact q9 x h
     .rw[dz.1 h];exact⟨hx.1.1,hx.1.2.1⟩
   .have w:ez I x18.bl.L=true:=by simpa using w
    have E:=q8 _ (Qx w);exact KQ hc S hx q1 q (by omega) q3 q4 E.1 ⟨q5,by omega,q7,λr O _=>q8 r O,q9⟩ w
  .refine aS (bN (λs=>0<=s.2/\s.2<=u.length/\s.1.map (·.L)=u.take s.2.toNat/\∀d∈s.1,jK c d/\d.bP=[]) (λs=>(u.length - s.2).toNat) (λ⟨az,aa⟩ an=>?_) (by simp) (by unfold aP;dsimp only;omega));obtain⟨Z,am,D,V⟩:=an;dsimp only at Z am D V;have al:az.length=aa.toNat:=by have:=congrArg vt D;simp at this;omega
   unfold OX;dsimp only;refine aj (λq=>ar (by grind) λac Q=>aS (show T (rO I ac) _ from⟨_,by unfold rO;rw[if_pos ((q7 ac).1 Q.2.1)],ar (by simp;omega) λaJ ag=>?_⟩)) λq=>bu (ax ⟨rfl,by dsimp only;omega,q4,?_⟩)
   .rw[bg (x:=aa+1) (by omega) (by omega)];have E:=q8 _ (Qx ((q7 ac).1 Q.2.1));have q:=of_decide_eq_true q;refine bF ⟨by dsimp only;omega,by dsimp only;omega,by dsimp only;rw[ag,take_at Q.1 Z,<-D];simp,λd hd=>?_⟩ (by dsimp only;omega);dsimp only at hd;rw[ag]at hd;rcases dx.1 hd with h|h
    .exact V d h
    .rw[dz.1 h];exact⟨⟨⟨(q9 _ Q.2.1).1,(q9 _ Q.2.1).2,E.1.1,E.2,E.1.2.1,λb B=> .inr (E.1.2.2 b B), .inl rfl⟩,E.1.2.2⟩,rfl⟩
   .have q: ¬aa<u.length:=by simpa using q
    rw[kS (by omega)]at D;exact⟨by dsimp only;omega,by dsimp only;rw[D];exact q5,V⟩
def ry:Int->List j->Prop
 |_,[]=>True
 |n,x::l=>(x.Seq.toNat:Int)=n/\ry (n+1) l
def lx:Bool->List j->Prop
 |_,[]=>True
 |s,x::l=>(x.dC=true->s=true)/\lx x.dC l
def nP:List j->Prop
 |[]=>True
 |x::l=>(x.cH=true->x.dC=true/\(x.bP=true\/∃y∈l,y.L=x.L/\y.cH=true/\y.bP=true))/\nP l
def jC(a:List Int)(x:j):List Int:=bif x.bP then a.filter (λs=> !(s==x.L))else(if x.L∈a then a else a++[x.L])
def dk(l:List j):List Int:=l.foldl jC []
def kj(s:Int)(a:Option j)(x:j):Option j:=if x.L=s then some x else a
def eK(l:List j)(s:Int):Option j:=l.foldl (kj s) none
theorem Ha:∀(l:List j) (a:List Int) (f:Int->Option j),a.Nodup->(∀s,s∈a↔∃x,f s=some x/\x.bP=false)->(l.foldl jC a).Nodup/\∀s,s∈l.foldl jC a↔∃x,l.foldl (kj s) (f s)=some x/\x.bP=false
 |[],a,f,o,h=>⟨o,h⟩
 |x::l,a,f,o,h=>by
  refine Ha l (jC a x) (λs=>kj s (f s) x) ?_ (λs=>?_)
  .unfold jC;cases x.bP with
   |true=>exact o.filter _
   |false=>
    simp only[cond_false];split
    .exact o
    .rename_i h';rw[vp];exact⟨o,by simp,λb r d hd=>by rw[dz.1 hd];intro e;exact h' (e▸r)⟩
  .unfold jC kj;have h:=h s;cases q:x.bP with
   |true=>
    simp only[cond_true];rw[lH,h];by_cases e:x.L=s
    .rw[if_pos e];simp[e,q]
    .rw[if_neg e];simp[Ne.symm e]
   |false=>
    simp only[cond_false];by_cases e:x.L=s
    .rw[if_pos e,e];split
     .rename_i h';simp[h',q]
     .simp[q]
    .rw[if_neg e];split
     .exact h
     .rw[dx,h];simp[Ne.symm e]
theorem SE(l:List j):(dk l).Nodup:=(Ha l [] (λ_=>none) (by simp) (by simp)).1
theorem GA{l:List j}{s:Int}:s∈dk l↔∃x,eK l s=some x/\x.bP=false:=(Ha l [] (λ_=>none) (by simp) (by simp)).2 s
def gk(c:J)(g:K):Prop:=(gS g.bR/\gS g.Seq/\0<=g.ca/\g.ca<c.K/\(g.j.length:Int)<=c.K/\(g.j.length:Int)<g.Seq.toNat)/\
 (∀x∈g.j,0<=x.L/\x.L<c.bz * c.bb/\2<=x.aJ/\x.aJ<=c.aw+1)/\ry (g.Seq.toNat - g.j.length) g.j/\lx true g.j/\((g.j.map (·.aJ)).sum=g.cg/\0<=g.cg/\g.cg<=c.K)/\nP g.j/\
 (c.aw+1) * ((dk g.j).length:Int)<=c.K - g.cg
section
variable{β:Type}
theorem JI{L:List (Int×β)}{s t:Int}{x:β}:fU (ko L s x) t=if t=s then some x else fU L t:=by
 unfold ko fU;induction L with
 |nil=>by_cases e:t=s<;>simp[iN,e,Ne.symm]
 |cons d L a=>
  by_cases e1:d.1=s
  .have q:iN (d::L) s=true:=by simp[iN,e1]
   rw[q]at *;simp only[cond_true,fh,qQ];have e2:(d.1==s)=true:=by simpa using e1
   rw[e2];simp only[cond_true];by_cases e:t=s
   .rw[if_pos e];simp[e]
   .rw[if_neg e];have:(s==t)=false:=by simpa using Ne.symm e
    have j:(d.1==t)=false:=by rw[e1];exact this
    rw[this,j];simp only;cases o:iN L s with
    |true=>rw[o]at a;simp only[cond_true]at a;rw[a,if_neg e]
    |false=>
     have:L.map (λd=>bif d.1==s then(s,x)else d)=L:=by
      rw[vj (g:=id) (λy u=>?_),List.map_id];have r:(y.1==s)=false:=by
       cases h:y.1==s with
       |false=>rfl
       |true=>rw[show iN L s=true from List.any_eq_true.2 ⟨y,u,h⟩]at o;cases o
      rw[r];rfl
     rw[this]
  .have e2:(d.1==s)=false:=by simpa using e1
   have q:iN (d::L) s=iN L s:=by simp[iN,e2]
   rw[q];cases o:iN L s with
   |true=>
    rw[o]at a;simp only[cond_true,fh,e2,cond_false,qQ]at a|-;cases j:d.1==t with
    |true=>
     have: ¬t=s:=by intro e;rw[e]at j;rw[j]at e2;cases e2
     rw[if_neg this]
    |false=>exact a
   |false=>
    rw[o]at a;simp only[cond_false,kE,qQ]at a|-;cases j:d.1==t with
    |true=>
     have: ¬t=s:=by intro e;rw[e]at j;rw[j]at e2;cases e2
     rw[if_neg this]
    |false=>exact a
theorem NR{L:List (Int×β)}{s:Int}{x:β}:(ko L s x).map (·.1)=if s∈L.map (·.1)then L.map (·.1)else L.map (·.1)++[s]:=by
 have a:iN L s=true↔s∈L.map (·.1):=by unfold iN;simp
 unfold ko;cases h:iN L s with
 |true=>
  rw[if_pos (a.1 h)];simp only[cond_true,vi];refine vj λy j=>?_;simp only[Function.comp];cases e:y.1==s with
  |true=>simp only[cond_true];exact(by simpa using e:y.1=s).symm
  |false=>rfl
 |false=>
  rw[if_neg (λk=>by rw[a.2 k]at h;cases h)];simp
theorem SZ{L:List (Int×β)}{s:Int}:(kI L s).map (·.1)=(L.map (·.1)).filter (λt=> !(t==s)):=by unfold kI;rw[List.filter_map];rfl
end
instance(n:UInt32):Sp (AG n) (gS n) (λr=>r=true)where
 h h:=by unfold gS at h;exact ax (by simp only[pk];simp;omega)
instance(r:Ring):Sp (Bz r) (r.K.j.length<4294967296) (λx=>x=((dk r.K.j).length:Int))where
 h h:=by
  unfold Bz;refine aS (bN (λs=>0<=s.1/\s.1<=r.K.j.length/\(r.K.j.drop s.1.toNat).foldl jC (s.2.map (·.1))=dk r.K.j) (λs=>(r.K.j.length - s.1).toNat) (λ⟨o,s2⟩ z=>?_) (by refine⟨by simp,by simp,rfl⟩));obtain⟨u,w,a⟩:=z;dsimp only at u w a;unfold Mn By;have A:wI (o+1)=o+1:=bg (by omega) (by omega);dsimp only;rw[A];refine aj (λq=>ar (by grind) λx hx=>?_) λq=>bu (ax ?_)
  .have q:=of_decide_eq_true q;rw[hx.2.2,k9]at a;unfold jC at a;refine aj (λp=>bF ⟨by dsimp only;omega,by dsimp only;omega,?_⟩ (by dsimp only;omega)) λp=>bF ⟨by dsimp only;omega,by dsimp only;omega,?_⟩ (by dsimp only;omega)
   .rw[p]at a;dsimp only;rw[SZ,NR,<-a];simp only[cond_true];congr 1;split
    .rfl
    .rw[ph];simp
   .rw[p]at a;dsimp only;rw[NR,<-a];rfl
  .have q: ¬o<r.K.j.length:=by simpa using q
   rw[kN (by omega)]at a;rw[<-a];simp
theorem Bj:∀{l:List j} (k:Nat) (x:j),nP l->l[k]? =some x->x.cH=true->x.dC=true/\(x.bP=true\/∃y∈l.drop (k+1),y.L=x.L/\y.cH=true/\y.bP=true)
 |[],k,x,_,h,_=>by simp at h
 |y::l,0,x,h,e,hx=>by simp at e;subst e;exact h.1 hx
 |y::l,k+1,x,h,e,hx=>by simpa using Bj k x h.2 (by simpa using e) hx
instance(r:Ring):Sp (Dx r) (r.K.j.length<4294967296/\nP r.K.j) (λx=>x=true)where
 h h:=by
  unfold Dx JM;obtain⟨U,S⟩:=h;have e0:wI ((r.K.j.length:Int) - 1)=r.K.j.length - 1:=bg (by omega) (by omega);rw[e0];refine aS (bN (λs=> -1<=s.1/\s.1<r.K.j.length/\∀t,(∃y∈r.K.j.drop (s.1+1).toNat,y.L=t/\y.cH=true/\y.bP=true)->(fU s.2 t).getD 0=1) (λs=>(s.1+1).toNat) (λ⟨o,s2⟩ Q=>?_) (by refine⟨by dsimp only;omega,by dsimp only;omega,λt ⟨y,A,_⟩=>?_⟩;dsimp only at A;rw[kN (by omega)]at A;cases A));obtain⟨I,O,B⟩:=Q;dsimp only at I O B;unfold Ot Dy;have J:wI (o - 1)=o - 1:=bg (by omega) (by omega);dsimp only;rw[J];refine aj (λq=>ar (by grind) λx hx=>?_) λq=>bu (ax rfl);have q:=of_decide_eq_true q;have E:=Bj o.toNat x S hx.1;rw[show o.toNat+1=(o+1).toNat by omega]at E;have C:∀m:List (Int×Int),(∀t,(∃y∈r.K.j.drop o.toNat,y.L=t/\y.cH=true/\y.bP=true)->(fU m t).getD 0=1)->∀P,T (bif(x.cH&&((!x.dC)||(((fU m x.L).getD (0:Int))==(0:Int))))then none else some (ak.next (o - 1,m)):Option (ak (Int×(List (Int×Int))) ((List (Int×Int))))) (LP (λs=> -1<=s.1/\s.1<r.K.j.length/\∀t,(∃y∈r.K.j.drop (s.1+1).toNat,y.L=t/\y.cH=true/\y.bP=true)->(fU s.2 t).getD 0=1) (λs=>(s.1+1).toNat) P (o,s2)):=λm hm P=>by
   refine aj (λk=>?_) λ_=>bF ⟨by dsimp only;omega,by dsimp only;omega,?_⟩ (by dsimp only;omega)
   .exfalso;simp at k;obtain⟨D,w⟩:=k;obtain⟨u,a⟩:=E D;have:(fU m x.L).getD 0=1:=by
     refine hm x.L ?_;rw[hx.2.2];rcases a with a|⟨y,G,N⟩
     .exact⟨x,by simp,rfl,D,a⟩
     .exact⟨y,by simp[G],N⟩
    rcases w with w|w
    .rw[u]at w;cases w
    .rw[this]at w;cases w
   .dsimp only;rw[show(o - 1+1).toNat=o.toNat by omega];exact hm
  refine aj (λp=>C _ (λt z=>?_) _) λp=>C _ (λt z=>?_) _
  all_goals rw[hx.2.2]at z
  .rw[JI];by_cases e:t=x.L
   .rw[if_pos e];rfl
   .rw[if_neg e];refine B t ?_;obtain⟨y,u,a⟩:=z;rcases fp.1 u with rfl|u
    .exact absurd a.1.symm e
    .exact⟨y,u,a⟩
  .refine B t ?_;obtain⟨y,u,a⟩:=z;rcases fp.1 u with rfl|u
   .rw[a.2.1,a.2.2]at p;cases p
   .exact⟨y,u,a⟩
instance(c:J):Sp (BJ c) True (told c (c.aw+1))where
 h _:=bQ (Sp.h trivial) λr h=>ax (Dc h λhc=>by have:=hc.1;have:=hc.2.1;omega)
instance(r:Ring):Sp (wB r) (cz r.c/\r.K.j.length<=300/\0<=r.K.cg/\r.K.cg<=1000) (λx=>x=decide ((r.c.aw+1) * ((dk r.K.j).length:Int)<=r.c.K - r.K.cg))where
 h h:=by
  unfold wB;obtain⟨hc,E,G,u⟩:=h;have I:=iZ hc;have hm:=hc.1;have z:=hc.2.1;have hd:((dk r.K.j).length:Int)<=300:=by
   have key:∀(l:List j) (a:List Int),(l.foldl jC a).length<=a.length+l.length:=by
    intro l;induction l with
    |nil=>simp
    |cons x l q=>
     intro a;rw[k9];have u:=q (jC a x);have A:(jC a x).length<=a.length+1:=by
      unfold jC;cases x.bP with
      |true=>simp only[cond_true];exact Nat.le_succ_of_le (qU _ _)
      |false=>simp only[cond_false];split<;>simp
     simp only[jq];omega
   have:=key r.K.j [];unfold dk;simp at this;omega
  refine ar trivial λx1 o=>?_;unfold told at o;have e1:x1.1=r.c.aw+1:=by grind
  refine ar (λ_=>by omega) λD w=>ax ?_;have C:(r.c.aw+1) * ((dk r.K.j).length:Int)<=17 * 300:=zC (by omega) (by omega) (by omega) (by omega);have B:0<=(r.c.aw+1) * ((dk r.K.j).length:Int):=zD (by omega) (by omega);by_cases hu:r.K.cg<=r.c.K
  .rw[w (by simpa using hu),e1,decide_eq_true hu,Bool.true_and];rw[bg (x:=r.c.K - r.K.cg) (by omega) (by omega),bg (by omega) (by omega)]
  .rw[decide_eq_false hu,Bool.false_and]
   symm;simp;omega
instance(c:J) (g:K):Sp (oh c g) (cz c/\gk c g) (λx=>x=0)where
 h h:=by
  unfold oh;obtain⟨hc,⟨S,Y,ay,av,ak,N⟩,U,C,G,⟨E,X,aB⟩,V,D⟩:=h;have az:=iZ hc;have aa:=hc.2.1;have ac:=hc.1;have aA:=l9 hc;refine ar trivial λx1 ag=>aj (λ_=>?_) λk=>by grind
  refine bQ (Q:=λx=>x=true) ?_ λI r=>aj (λk=>by grind) λ_=>ax rfl;unfold FQ;refine ar trivial λW l1=>ar trivial λL l2=>ar S λI r=>ar (λ_=>Y) λam O=>?_;unfold told at l1 l2;dsimp only at l1 l2|-;have e1:W.1=c.bz * c.bb:=by grind
  have e2:L.1=c.aw+1:=by grind
  subst r;rw[O rfl];refine aj (λk=>by simp at k;omega) λ_=>?_;refine aS (bN (λs=>0<=s.2.2/\s.2.2<=g.j.length/\ry (g.Seq.toNat - g.j.length+s.2.2) (g.j.drop s.2.2.toNat)/\lx s.2.1 (g.j.drop s.2.2.toNat)/\s.1+((g.j.drop s.2.2.toNat).map (·.aJ)).sum=g.cg/\0<=s.1/\s.1<=17 * s.2.2) (λs=>(g.j.length - s.2.2).toNat) (λ⟨o,ap,a⟩ A=>?_) (by refine⟨by simp,by simp,by simpa using C,by simpa using G,by simpa using E,by simp,by simp⟩));obtain⟨q1,q2,q3,q4,q5,q6,q7⟩:=A;dsimp only at q1 q2 q3 q4 q5 q6 q7;unfold OP;have Z:wI (a+1)=a+1:=bg (by omega) (by omega);dsimp only;rw[Z];refine aj (λq=>ar (by grind) λx hx=>?_) λq=>bu ?_
  .have q:=of_decide_eq_true q;rw[hx.2.2]at q3 q4 q5;obtain⟨ao,aq,al,an⟩:=U x hx.2.1;have es:(dP.of ((g.Seq.toNat:Int) - ((dP.of (wI ((g.j.length:Int) - a))).toNat:Int))).toNat=x.Seq.toNat:=by rw[bg (x:=(g.j.length:Int) - a) (by omega) (by omega),C_ (n:=(g.j.length:Int) - a) (by omega) (by omega),C_ (by have:=g.Seq.toNat_lt;omega) (by have:=g.Seq.toNat_lt;omega)];have:=q3.1;omega
   rw[es,e1,e2];have ad:=q3.1;simp only[fh,nZ]at q5;refine aj (λk=>?_) λ_=>bF ⟨by dsimp only;omega,by dsimp only;omega,?_,q4.2,?_,?_,?_⟩ (by dsimp only;omega)
   .exfalso;simp only[pk]at k;have hu:=q4.1;simp at k;have:x.Seq.toNat≠0:=by omega
    grind
   .dsimp only;have:=q3.2;rw[show(g.Seq.toNat:Int) - (g.j.length:Int)+(a+1)=(g.Seq.toNat:Int) - (g.j.length:Int)+a+1 by omega];exact this
   all_goals
    dsimp only;rw[bg (x:=o+x.aJ) (by omega) (by omega)];omega
  .have q: ¬a<g.j.length:=by simpa using q
   rw[kN (by omega)]at q5;simp at q5;have z:(o==g.cg)=true:=by simpa using q5
   have w:decide (wI (g.Seq.toNat:Int)>(g.j.length:Int))=true:=by rw[(CA _).1];simpa using N
   rw[z,w];refine ar (λ_=>⟨by dsimp only;omega,V⟩) λae B=>?_;rw[B rfl];refine ar (λ_=>⟨hc,by dsimp only;omega,X,by dsimp only;omega⟩) λaf u=>ax ?_;rw[u rfl];simpa using D
theorem xT{g:K}(h:g.j.length<4294967296):qF g=some g:=by unfold qF rI app;rw[if_pos (by simpa using h)];rfl
instance(b:List UInt8):Sp (wS b) True (λr=>r.length=128)where
 h _:=by unfold wS;refine ar (by omega) λx hx=>aS (show T (tB x b) _ from⟨ob x b,by unfold tB;rw[show ct x.length 0=false by rw[hx,qI];rfl];rfl,ax ?_⟩);rw[se,hx];simp
theorem QE:∀{recs:List fJ} {a:Int} {f:Bool} (j:List fJ),jm 14 a (recs.map λr=>(r.Slot.toNat:Int))->(j=[]\/∃r,j=[r]/\r.Slot=255)->(f=true->recs≠[])->a<255->oF a f (recs++j)=true
 |[],a,f,j,_,h,w,u=>by
  rcases h with rfl|⟨r,rfl,e⟩
  .rfl
  .have:f=false:=by cases f with
    |false=>rfl
    |true=>exact absurd rfl (w rfl)
   subst this;simp only[gZ,oF,e];simp;omega
 |r::recs,a,f,j,o,h,_,u=>by have:=QE (recs:=recs) (a:=r.Slot.toNat) (f:=false) j o.2.2 h (by simp) (by have:=o.2.1;dsimp only at this;omega);simp only[kE,oF,this];have z:=o.1;have q:=o.2.1;dsimp only at z q;simp;omega
instance(c:J) (a s:UInt32) (d:bl):Sp (CC c a s d) (cz c/\uh c d/\gS a/\gS s) (λr=>r.2=0/\(r.1.length:Int)=fv d/\∀b∈r.1,b.length=128)where
 h h:=by
  unfold CC;obtain⟨hc,ho,an,ap⟩:=h;obtain⟨o1,aZ,B,aq,aU,a3,a4⟩:=id ho;have hm:=hc.1;have ay:=hc.2.1;have aA:=l9 hc;have a1:=kT B (by omega);refine ar ⟨hc,by omega,by omega⟩ λx1 aR=>aj (λk=>by grind) λ_=>?_;refine aS (bN (λs=>0<=s.1/\s.1<=d.eD.length/\s.2.1.map (λr=>(r.Slot.toNat:Int))=d.eD.take s.1.toNat/\(s.2.2.length:Int)=s.1/\∀b∈s.2.2,b.length=128) (λs=>(d.eD.length - s.1).toNat) (λ⟨s2,s3,w⟩ ae=>?_) (by refine⟨by simp,by simp,by simp,by simp,by simp⟩));obtain⟨q1,q2,q3,q4,q5⟩:=ae;dsimp only at q1 q2 q3 q4 q5;have q6:s3.length=s2.toNat:=by have:=congrArg vt q3;simp at this;omega
  have D:∀b:List UInt8,b.length=128->∀x∈w++[b],x.length=128:=λb o x hx=>by
   rcases dx.1 hx with h|h
   .exact q5 x h
   .rw[dz.1 h];exact o
  unfold Li AD EM;have aw:wI (s2+1)=s2+1:=bg (by omega) (by omega);dsimp only;rw[aw];refine aj (λq=>?_) λq=>bu ?_
  .have q:=of_decide_eq_true q;refine ar ⟨q1,q⟩ λaY a0=>ar (by omega) λav aa=>ar trivial λaM S=>ar (by omega) λaC aL=>?_;have aH:=sx B _ aa.2.1;have u:∀(b:List UInt8) (C:Bool) P,b.length=128->T (ab (nt b) λQ=>ab (app s3 [fJ.mk (ny.of av) C Q]) λV=>ab (app w [b]) λX=>some (ak.next (s2+1,V,X):ak (Int×(List fJ)×(List (List UInt8))) ((List fJ)×(List (List UInt8))))) (LP (λs=>0<=s.1/\s.1<=d.eD.length/\s.2.1.map (λr=>(r.Slot.toNat:Int))=d.eD.take s.1.toNat/\(s.2.2.length:Int)=s.1/\∀b∈s.2.2,b.length=128) (λs=>(d.eD.length - s.1).toNat) P (s2,s3,w)):=λb C P o=>by refine ar (by omega) λQ _=>ar (by simp;omega) λV af=>ar (by simp;omega) λX O=>bF ⟨by dsimp only;omega,by dsimp only;omega,?_,by dsimp only;rw[O];simp;omega,by dsimp only;rw[O];exact D b o⟩ (by dsimp only;omega);dsimp only;rw[af,mm,q3,take_at aa.1 q1];congr 2;unfold ny.of;simp only[fh,List.map_nil,UInt8.toNat_ofNat'];congr 1;omega
   exact aj (λ_=>ar (by omega) λaO _=>u _ _ _ (by simp[S])) λ_=>u _ _ _ S
  .have q: ¬s2<d.aJ.length:=by simpa using q
   have e2:s2=d.eD.length:=by omega
   rw[kS (by omega)]at q3;have U:s3≠[]:=λe=>by rw[e]at q3;exact aq (by rw[<-q3];rfl)
   have am:jm 14 (-1) (s3.map λr=>(r.Slot.toNat:Int)):=by
    rw[q3];have key:∀{a:Int} {l:List Int} {m n:Int},jm m a l->m<=n->jm n a l:=by
     intro a l m n h aI;induction l generalizing a with
     |nil=>trivial
     |cons x l ao=>exact⟨h.1,by have:=h.2.1;omega,ao h.2.2⟩
    exact key B (by omega)
   have Y:∀(j:List fJ) (z:List (List UInt8)),(j=[]\/∃r,j=[r]/\r.Slot=255)->(z.length:Int)+1=fv d->z.length<20->(∀b∈z,b.length=128)->T (uu c a s d (s3++j,z)) (λr=>r.2=0/\(r.1.length:Int)=fv d/\∀b∈r.1,b.length=128):=λj z Z o az ag=>by
    unfold uu;have aG:j.length<=1:=by rcases Z with rfl|⟨r,rfl,_⟩<;>simp
    have a2:oB ⟨c.Id,a,s,d.L,s3++j⟩:=⟨by have:=Ke.2 U;dsimp only;rw[bY];omega,by dsimp only;rw[bY];omega,an,ap,o1,by dsimp only;omega,QE j am Z (λ_=>U) (by omega)⟩;refine ar (by dsimp only;rw[bY];omega) λaQ aB=>aj (λk=>by grind) λ_=>ar ⟨by omega,by omega,by omega⟩ λaN N=>ax ⟨rfl,?_,?_⟩
    .dsimp only;rw[N];simp;omega
    .dsimp only;rw[N];intro b K;simp at K;rcases K with rfl|h
     .grind
     .exact ag b h
   unfold CU E8;refine aj (λp=>ar trivial λaE E=>ar (by omega) λal _=>?_) λp=>?_
   .have ac:fv d=2+s2:=by unfold fv;simp at p;rw[if_neg (by omega)];omega
    have u:∀b:List UInt8,b.length=128->T (ab (nt b) λI=>ab (app s3 [fJ.mk (ny.of (255:Int)) (al==(78:UInt8)) I]) λG=>ab (app w [b]) λW=>uu c a s d (G,W)) (λr=>r.2=0/\(r.1.length:Int)=fv d/\∀b∈r.1,b.length=128):=λb o=>by refine ar (by omega) λI _=>ar (by simp;omega) λG ad=>ar (by simp;omega) λW A=>?_;rw[ad];exact Y _ _ (.inr ⟨_,rfl,rfl⟩) (by rw[A];simp;omega) (by rw[A];simp;omega) (by rw[A];exact D b o)
    exact aj (λ_=>ar (by omega) λaF _=>u _ (by simp[E])) λ_=>u _ E
   .have ac:fv d=1+s2:=by unfold fv;simp at p;rw[if_pos (by rw[p];rfl)];omega
    have:=Y [] w (.inl rfl) (by omega) (by omega) q5;rw[jb]at this;exact this
theorem Nm:∀{n:Int} {l:List j} {x:j},ry n l->(x.Seq.toNat:Int)=n+l.length->ry n (l++[x])
 |n,[],x,_,h=>⟨by simpa using h,trivial⟩
 |n,y::l,x,h,hx=>⟨h.1,Nm h.2 (by rw[hx];simp;omega)⟩
theorem QI:∀{s:Bool} {l:List j} {x:j},lx s l->x.dC=false->lx s (l++[x])
 |s,[],x,_,h=>⟨λk=>by rw[h]at k;exact absurd k (by simp),trivial⟩
 |s,y::l,x,h,hx=>⟨h.1,QI h.2 hx⟩
theorem O7:∀{l:List j} {x:j},nP l->x.cH=false->nP (l++[x])
 |[],x,_,h=>⟨λk=>by rw[h]at k;exact absurd k (by simp),trivial⟩
 |y::l,x,h,hx=>⟨λk=>⟨(h.1 k).1,(h.1 k).2.imp id λ⟨z,o,a⟩=>⟨z,by simp[o],a⟩⟩,O7 h.2 hx⟩
theorem Pw{l:List j}(h:∀x∈l,2<=x.aJ):2 * (l.length:Int)<=(l.map (·.aJ)).sum:=by
 induction l with
 |nil=>simp
 |cons x l a=>
  have:=a λy o=>h y (by simp[o]);have:=h x (by simp);simp only[jq,fh,nZ];omega
def ji(g:K)(d:bl):j:=⟨g.Seq,d.L,fv d,decide ((d.bP.length:Int)>0),false,false⟩
def nk(g:K)(d:bl):K:=⟨g.bR,dP.of ((g.Seq.toNat:Int)+1),g.ca,g.cg+fv d,g.j++[ji g d]⟩
instance(c:J) (g:K) (d:bl):Sp (yz c g d) (cz c/\gk c g/\uh c d) (λr=>(r.2.2=0/\r.1=nk g d/\gk c r.1/\g.Seq.toNat<2147483648/\r.2.1.length<=17/\∀a∈r.2.1,eX c a)\/(r.2.2=9/\r.2.1=[]/\(g.Seq.toNat=2147483648\/ ¬(c.aw+1) * ((dk (g.j++[ji g d])).length:Int)<=c.K - (g.cg+fv d))))where
 h h:=by
  unfold yz Hm EG;obtain⟨hc,D,ho⟩:=h;obtain⟨⟨C,O,E,B,aB,aF⟩,G,Y,aa,⟨aE,ae,af⟩,ad,aC⟩:=id D;have aH:=iZ hc;have al:=EX hc;have hm:=hc.1;have ak:=hc.2.1;have aL:=kT ho.2.2.1 (by omega);have ap:=Ke.2 ho.2.2.2.1;have S:2<=fv d/\fv d<=c.aw+1:=by unfold fv;split<;>omega
  refine ar ⟨hc,D⟩ λag k=>aj (λk=>by grind) λ_=>?_;rw[xT (by omega),bo];refine ar ⟨hc,by rw[ho.2.2.2.2.1];omega,by omega⟩ λaA av=>aj (λk=>by grind) λ_=>ar ⟨hc,ho,C,O⟩ λu o=>?_;have e1:(wI (g.cg+(u.1.length:Int)))=g.cg+fv d:=by rw[o.2.1,bg (by omega) (by omega)]
  rw[e1];have aJ:=Pw (l:=g.j) (λx hx=>(G x hx).2.2.1);refine aj (λk=>ax (.inr ⟨rfl,rfl, .inl ?_⟩)) λk=>ar (by simp;omega) λaG N=>?_
  .simp only[pk]at k;rw[o.1]at k;simp at k;omega
  have ac:g.Seq.toNat<2147483648:=by simp only[pk]at k;rw[o.1]at k;have:=O.2;simp at k;omega
  rw[o.2.1,show j.mk g.Seq d.L (fv d) (decide ((d.bP.length:Int)>0)) false false=ji g d from rfl]at N;subst N;refine ar ⟨hc,by dsimp only;simp;omega,by dsimp only;omega,by dsimp only;omega⟩ λaI I=>aj (λk=>ax (.inr ⟨rfl,rfl, .inr ?_⟩)) λk=>?_
  .rw[I]at k;dsimp only at k;simp at k|-;omega
  have Q:(c.aw+1) * ((dk (g.j++[ji g d])).length:Int)<=c.K - (g.cg+fv d):=by rw[I]at k;dsimp only at k;simpa using k
  have aM:0<=(c.aw+1) * ((dk (g.j++[ji g d])).length:Int):=zD (by omega) (by omega);have A:(dP.of ((g.Seq.toNat:Int)+1)).toNat=g.Seq.toNat+1:=by rw[C_ (by omega) (by omega)];omega
  have U:gk c (nk g d):=by
   unfold gk nk;dsimp only;rw[A,bY,je];refine⟨⟨C,?_,E,B,by omega,by omega⟩,λx hx=>?_,?_,QI aa rfl,⟨by simp[ji];omega,by omega,by omega⟩,O7 ad rfl,Q⟩
   .unfold gS;rw[A];omega
   .rcases dx.1 hx with h|h
    .exact G x h
    .rw[dz.1 h];exact⟨ho.1,ho.2.1,S⟩
   .rw[show((g.Seq.toNat+1:Nat):Int) - ((g.j.length+1:Nat):Int)=g.Seq.toNat - g.j.length by omega];exact Nm Y (by unfold ji;dsimp only;omega)
  refine aS (bN (λs=>0<=s.2/\s.2<=u.1.length/\(s.1.length:Int)=s.2/\∀a∈s.1,eX c a) (λs=>(u.1.length - s.2).toNat) (λ⟨am,W⟩ X=>?_) (by simp) (by unfold aP;dsimp only;omega));obtain⟨q1,q2,q3,q4⟩:=X;dsimp only at q1 q2 q3 q4;unfold ME;refine aj (λq=>?_) λq=>bu (ax (.inl ⟨rfl,rfl,U,ac,by dsimp only;omega,q4⟩));have q:=of_decide_eq_true q;refine ar (by omega) λao V=>ar ⟨by omega,by omega,E,B,ae,af⟩ λaq w=>ar ⟨by omega,by omega,w.2.2.1,w.2.2.2,q1,by omega⟩ λaz an=>ar (by simp;omega) λay z=>?_;rw[bg (x:=W+1) (by omega) (by omega)];refine bF ⟨by dsimp only;omega,by dsimp only;omega,by dsimp only;rw[z];simp;omega,?_⟩ (by dsimp only;omega);dsimp only;rw[z];intro a Z;rcases dx.1 Z with h|h
  .exact q4 a h
  .rw[dz.1 h,bg (by omega) (by omega)];refine⟨by dsimp only;omega,by dsimp only;omega, .inr ⟨.inl rfl,by dsimp only;omega,?_, .inr (o.2.2 _ V.2.1)⟩⟩;unfold jy;dsimp only;rw[if_pos rfl];omega
def Kp(f:j->j):Prop:=∀x,(f x).Seq=x.Seq/\(f x).L=x.L/\(f x).aJ=x.aJ/\(f x).bP=x.bP
theorem SJ{f:j->j}(o:Kp f)(l:List j):dk (l.map f)=dk l:=by
 have:∀(l:List j) a,(l.map f).foldl jC a=l.foldl jC a:=by
  intro l;induction l with
  |nil=>intro a;rfl
  |cons x l q=>
   intro a;rw[fh,k9,k9,q];unfold jC;rw[(o x).2.1,(o x).2.2.2]
 exact this l []
theorem Al{f:j->j}(o:Kp f)(l:List j)(s:Int):eK (l.map f) s=(eK l s).map f:=by
 have:∀(l:List j) a,(l.map f).foldl (kj s) (a.map f)=(l.foldl (kj s) a).map f:=by
  intro l;induction l with
  |nil=>intro a;rfl
  |cons x l q=>
   intro a;rw[fh,k9,k9,<-q];unfold kj;rw[(o x).2.1];congr 1;split<;>rfl
 exact this l none
theorem Ny{f:j->j}(a:Kp f):∀{n:Int} {l:List j},ry n l->ry n (l.map f)
 |_,[],_=>trivial
 |n,x::l,h=>⟨by rw[(a x).1];exact h.1,Ny a h.2⟩
theorem X6{f:j->j}(a:Kp f)(l:List j):((l.map f).map (·.aJ)).sum=(l.map (·.aJ)).sum:=by
 induction l with
 |nil=>rfl
 |cons x l o=>simp only[fh,nZ,o,(a x).2.2.1]
theorem N3{c:J}{g:K}{f:j->j}(o:Kp f)(h:gk c g)(r:lx true (g.j.map f))(B:nP (g.j.map f)):gk c {g with j:=g.j.map f}:=by obtain⟨a,A,w,_,u,_,z⟩:=h;refine⟨by simpa using a,λx hx=>?_,by simpa using Ny o w,r,by dsimp only;rw[X6 o];exact u,B,by dsimp only;rw[SJ o];exact z⟩;obtain⟨y,q,rfl⟩:=gm.1 hx;rw[(o y).2.1,(o y).2.2.1];exact A y q
def su(x:j):j:={x with dC:=true}
def ho(s:Int)(x:j):j:=bif x.L==s then{x with cH:=true}else x
theorem G3:Kp su:=λx=>⟨rfl,rfl,rfl,rfl⟩
theorem r7(s:Int):Kp (ho s):=λx=>by unfold ho;cases x.L==s<;>exact⟨rfl,rfl,rfl,rfl⟩
theorem Ld:∀(l:List j),lx true (l.map su)
 |[]=>trivial
 |x::l=>⟨λ_=>rfl,Ld l⟩
theorem PD:∀{l:List j},nP l->nP (l.map su)
 |[],_=>trivial
 |x::l,h=>⟨λk=>⟨rfl,(h.1 k).2.imp id λ⟨z,o,a⟩=>⟨su z,pg o,a⟩⟩,PD h.2⟩
instance(c:J) (g:K):Sp (xG c g) (cz c/\gk c g) (λr=>r.2=0/\r.1={g with j:=g.j.map su}/\gk c r.1)where
 h h:=by
  unfold xG GF;have N:=iZ h.1;have I:=h.2.1.2.2.2.2.1;refine ar h λx k=>aj (λk=>by grind) λ_=>?_;rw[xT (by omega),bo];dsimp only;refine aS (bN (λs=>0<=s.1/\s.1<=g.j.length/\s.2=(g.j.take s.1.toNat).map su++g.j.drop s.1.toNat) (λs=>(g.j.length - s.1).toNat) (λ⟨a,C⟩ E=>?_) (by simp) (by unfold aP;dsimp only;omega));obtain⟨u,D,o⟩:=E;dsimp only at u D o;unfold Pp;have G:C.length=g.j.length:=by rw[o];simp;omega
  refine aj (λq=>?_) λq=>bu (ax ?_)
  .have q:=of_decide_eq_true q;refine ar (by omega) λL w=>ar (by omega) λB A=>?_;rw[bg (x:=a+1) (by omega) (by omega)];refine bF ⟨by dsimp only;omega,by dsimp only;omega,?_⟩ (by dsimp only;omega);dsimp only;have e:=ek (l:=g.j) (i:=a.toNat) (by omega);have z:B=g.j[a.toNat]'(by omega):=by have:=A.1;rw[o,w.1,oY (by simp;omega)]at this;simp only[sR,cf]at this;rw[show a.toNat - min a.toNat g.j.length=0 by omega,ke,ja,e]at this;exact(Option.some.inj this).symm
   rw[o,w.1,take_at e u,J8 _ _ (by simp;omega)];rw[DD e u];simp only[sR,cf];rw[show a.toNat - min a.toNat g.j.length=0 by omega,List.set_cons_zero,z,mm,fE];rfl
  .have q: ¬a<g.j.length:=by simpa using q
   rw[kN (by omega),kS (by omega),jb]at o;exact⟨rfl,by dsimp only;rw[o],by rw[o];exact N3 G3 h.2 (Ld _) (PD h.2.2.2.2.2.2.1)⟩
theorem yP:∀{l:List j} {k:Nat} {x:j} {s:Int} (a:Option j),l[k]? =some x->x.L=s->(∀y∈l.drop (k+1),y.L≠s)->l.foldl (kj s) a=some x
 |[],k,x,s,a,h,_,_=>by simp at h
 |y::l,0,x,s,a,h,e,o=>by
  simp at h;subst h;rw[k9];unfold kj;rw[if_pos e];have:∀(l:List j) a,(∀z∈l,z.L≠s)->l.foldl (λa x=>if x.L=s then some x else a) a=a:=by
   intro l;induction l with
   |nil=>intro a _;rfl
   |cons z l r=>intro a h;rw[k9,if_neg (h z (by simp))];exact r a λw q=>h w (by simp[q])
  exact this l _ (by simpa using o)
 |y::l,k+1,x,s,a,h,e,o=>by rw[k9];exact yP _ (by simpa using h) e (by simpa using o)
theorem Od:∀{l:List j} {s:Int} (a:Option j),(∀y∈l,y.L≠s)->l.foldl (kj s) a=a
 |[],_,_,_=>rfl
 |z::l,s,a,h=>by rw[k9];unfold kj;rw[if_neg (h z (by simp))];exact Od a λw o=>h w (by simp[o])
theorem rX{l:List j}{s:Int}{x:j}(h:eK l s=some x):∃k:Nat,l[k]? =some x/\x.L=s/\∀y∈l.drop (k+1),y.L≠s:=by
 have key:∀(l:List j) (a:Option j),l.foldl (kj s) a=some x->(a=some x/\∀y∈l,y.L≠s)\/∃k:Nat,l[k]? =some x/\x.L=s/\∀y∈l.drop (k+1),y.L≠s:=by
  intro l;induction l with
  |nil=>intro a h;exact .inl ⟨h,by simp⟩
  |cons z l r=>
   intro a h;rw[k9]at h;rcases r _ h with⟨o,q⟩|⟨k,o,q⟩
   .unfold kj at o;by_cases e:z.L=s
    .rw[if_pos e]at o;obtain rfl:=Option.some.inj o;exact .inr ⟨0,rfl,e,by simpa using q⟩
    .rw[if_neg e]at o;exact .inl ⟨o,λy u=>(fp.1 u).elim (λh=>h▸e) (q y)⟩
   .exact .inr ⟨k+1,by simpa using o,by simpa using q⟩
 rcases key l none h with h|h
 .cases h.1
 .exact h
theorem OI:∀{s:Bool} {l:List j} {k o:Nat} {x y:j},lx s l->l[k]? =some x->x.dC=true->o<=k->l[o]? =some y->y.dC=true
 |_,[],k,o,x,y,_,h,_,_,_=>by simp at h
 |s,z::l,0,o,x,y,h,e,hx,q,a=>by
  obtain rfl:o=0:=by omega
  rw[e]at a;rw[<-Option.some.inj a];exact hx
 |s,z::l,k+1,0,x,y,h,e,hx,q,a=>by
  simp at a;subst a;have u:∀{s:Bool} {l:List j} {k:Nat},lx s l->l[k]? =some x->s=true:=by
   intro s l;induction l generalizing s with
   |nil=>intro k _ h;simp at h
   |cons w l r=>
    intro k h e;cases k with
    |zero=>simp at e;subst e;exact h.1 hx
    |succ k=>exact h.1 (r h.2 (by simpa using e))
  exact u h.2 (by simpa using e)
 |s,z::l,k+1,o+1,x,y,h,e,hx,q,a=>OI h.2 (by simpa using e) hx (Nat.le_of_succ_le_succ q) (by simpa using a)
theorem NB(s:Int)(x:j):(ho s x).dC=x.dC:=by unfold ho;cases x.L==s<;>rfl
theorem Uv(s:Int)(x:j)(h:x.cH=true):(ho s x).cH=true:=by unfold ho;cases x.L==s;exact h;rfl
theorem Ow{f:j->j}(a:∀x,(f x).dC=x.dC):∀{s:Bool} {l:List j},lx s l->lx s (l.map f)
 |_,[],_=>trivial
 |s,x::l,h=>⟨by rw[a];exact h.1,by rw[a];exact Ow a h.2⟩
theorem QB:∀{l:List j},(∀(k:Nat) x,l[k]? =some x->x.cH=true->x.dC=true/\(x.bP=true\/∃y∈l.drop (k+1),y.L=x.L/\y.cH=true/\y.bP=true))->nP l
 |[],_=>trivial
 |x::l,h=>⟨λk=>by simpa using h 0 x rfl k,QB λk y e=>by simpa using h (k+1) y (by simpa using e)⟩
theorem Xu{c:J}{g:K}{s:Int}{e:j}(h:gk c g)(C:eK g.j s=some e)(r:e.bP=true)(B:e.dC=true):gk c {g with j:=g.j.map (ho s)}:=by
 refine N3 (r7 s) h (Ow (NB s) h.2.2.2.1) (QB λk x q hx=>?_);rw[lG]at q;obtain⟨y,a,rfl⟩:=iK.1 q;rw[NB,(r7 s y).2.2.2,(r7 s y).2.1,<-List.map_drop];obtain⟨n,e1,e2,e3⟩:=rX C;by_cases hst:y.L=s
 .have o:k<=n:=by
   rcases mh n k with h|h
   .have:y∈g.j.drop (n+1):=by rw[Kf];exact⟨k - (n+1),by rw[ke,show n+1+(k - (n+1))=k by omega];exact a⟩
    exact absurd hst (e3 y this)
   .exact h
  refine⟨OI h.2.2.2.1 e1 B o a,?_⟩;rcases Nat.eq_or_lt_of_le o with rfl|E
  .rw[e1]at a;obtain rfl:=Option.some.inj a;exact .inl r
  .refine .inr ⟨ho s e,pg ?_,by rw[(r7 s e).2.1,e2,hst],?_,by rw[(r7 s e).2.2.2];exact r⟩
   .rw[Kf];exact⟨n - (k+1),by rw[ke,show k+1+(n - (k+1))=n by omega];exact e1⟩
   .unfold ho;rw[show(e.L==s)=true by simpa using e2];rfl
 .have D:y.cH=true:=by unfold ho at hx;rw[show(y.L==s)=false by simpa using hst]at hx;exact hx
  obtain⟨A,u⟩:=Bj k y h.2.2.2.2.2.1 a D;exact⟨A,u.imp id λ⟨z,w,z2,z3,z4⟩=>⟨ho s z,pg w,by rw[(r7 s z).2.1,z2],Uv s z z3,by rw[(r7 s z).2.2.2];exact z4⟩⟩
theorem XG(c:J)(g:K)(s:Int)(e:j)(hc:cz c)(N:gk c g)(aC:0<=s)(aE:s<c.bz * c.bb)(am:eK g.j s=some e)(ac:e.bP=true)(al:e.dC=true)(an:e.cH=false):
  T (Cp c g s) (λr=>r.2=0/\r.1={g with j:=g.j.map (ho s)}):=by
 unfold Cp He;have aF:=iZ hc;have aA:=N.1.2.2.2.2.1;refine ar ⟨hc,N⟩ λx k=>aj (λk=>by grind) λ_=>?_;rw[xT (by omega),bo];dsimp only;refine ar trivial λay ao=>?_;unfold told at ao;refine aj (λk=>by simp at k;grind) λ_=>?_;rw[bg (x:=(g.j.length:Int) - 1) (by omega) (by omega)];obtain⟨n,e1,e2,e3⟩:=rX am;have aB:=(cy.1 e1).1;have ad:g.j=g.j.take ((g.j.length:Int) - 1+1).toNat++(g.j.drop ((g.j.length:Int) - 1+1).toNat).map (ho s):=by rw[show((g.j.length:Int) - 1+1).toNat=g.j.length by omega];simp
 have ag:(false=true↔(g.j.length:Int) - 1<n):=by simp;omega
 refine aS (bN (λt=> -1<=t.2.1/\t.2.1<g.j.length/\t.2.2=g.j.take (t.2.1+1).toNat++(g.j.drop (t.2.1+1).toNat).map (ho s)/\(t.1=true↔t.2.1<n)) (λt=>(t.2.1+1).toNat) (λ⟨o,a,B⟩ Y=>?_) ⟨by dsimp only;omega,by dsimp only;omega,ad,ag⟩ (by unfold aP;dsimp only;omega));obtain⟨Z,ak,w,A⟩:=Y;dsimp only at Z ak w A;have aq:B.length=g.j.length:=by rw[w];simp;omega
 unfold L6 zL;dsimp only;refine aj (λq=>?_) λq=>bu ?_
 .have q:=of_decide_eq_true q;rw[bg (x:=a - 1) (by omega) (by omega)];have u:=ek (l:=g.j) (i:=a.toNat) (by omega);obtain⟨x,hx⟩:∃x,x=g.j[a.toNat]'(by omega):=⟨_,rfl⟩;rw[<-hx]at u;have ap:B[a.toNat]? =some x:=by rw[w,m8 (by simp;omega),gI (by omega),u]
  have I:=take_at u q;have Q:=DD u q;have G:∀(b:Bool) (z:j),z=ho s x->(b=true↔a - 1<n)->a - 1<(g.j.length:Int)/\B.set a.toNat z=g.j.take (a - 1+1).toNat++(g.j.drop (a - 1+1).toNat).map (ho s):=λb z C O=>by refine⟨by omega,?_⟩;rw[w,I,fE,J8 _ _ (by simp;omega),show a - 1+1=a by omega];rw[show a.toNat - (List.take a.toNat g.j).length=0 by simp;omega,List.singleton_append,List.set_cons_zero,Q,fh,C]
  refine ar (by omega) λav X=>?_;rw[X.1,ap,bo];have U:x.L=s->a<=n:=λW=>by
   rcases mh n a.toNat with h|h
   .have:x∈g.j.drop (n+1):=by rw[Kf];exact⟨a.toNat - (n+1),by rw[ke,show n+1+(a.toNat - (n+1))=a.toNat by omega];exact u⟩
    exact absurd W (e3 x this)
   .omega
  refine aj (λp=>bF ⟨by dsimp only;omega,by dsimp only;omega,?_,?_⟩ (by dsimp only;omega)) λp=>?_
  .have p:x.L≠s:=by simpa using p
   have:=(G o (ho s x) rfl);have V:ho s x=x:=by unfold ho;rw[show(x.L==s)=false by simpa using p];rfl
   dsimp only;rw[show a - 1+1=a by omega,w,I,Q,fh,V];simp
  .have p:x.L≠s:=by simpa using p
   dsimp only;rw[A];have:a≠n:=λaz=>by
    have:a.toNat=n:=by omega
    rw[this,e1]at u;exact p (by rw[<-Option.some.inj u];exact e2)
   omega
  .have p:x.L=s:=by simpa using p
   have aw:=U p;have D:(o||((x.bP&&x.dC)&&(!x.cH)))=true:=by
    by_cases hlt:a<n
    .rw[A.2 hlt];rfl
    .have:a.toNat=n:=by omega
     rw[this,e1]at u;rw[<-Option.some.inj u,ac,al,an];simp
   have e0:∀b:Bool,gO b (some x:Option j)=some (bif b then x else default):=λb=>by cases b<;>rfl
   simp only[e0,bo];have C:∀b:Bool,b=true->({x with cH:=x.cH||b}:j)=ho s x:=λb O=>by unfold ho;rw[show(x.L==s)=true by simpa using p,O];simp
   have S:(o||((((bif !o then x else default):j).bP&&((bif((!o)&&((bif !o then x else default):j).bP)then x else default):j).dC)&&(!((bif((!o)&&((((bif !o then x else default):j).bP&&((bif((!o)&&((bif !o then x else default):j).bP)then x else default):j).dC)))then x else default):j).cH)))=true:=by
    cases o with
    |true=>rfl
    |false=>
     simp only[Bool.false_or,gg]at D;obtain⟨⟨ae,af⟩,aa⟩:=D;simp only[Bool.not_false,cond_true,Bool.true_and,Bool.false_or,ae,af,aa]
   have E:=G true (ho s x) rfl (by simp;omega);rw[S,C true rfl];refine bF ⟨by dsimp only;omega,E.1,E.2,?_⟩ (by dsimp only;omega);dsimp only;simp;omega
 .have q: ¬a>=0:=by simpa using q
  obtain rfl:a= -1:=by omega
  have:o=true:=A.2 (by omega);rw[this];refine aj (λk=>by cases k) λ_=>ax ⟨rfl,?_⟩;dsimp only;rw[w];simp
theorem QX{α:Type}[DecidableEq α]:∀{a b:List α},a.Nodup->(∀x∈a,x∈b)->a.length<=b.length
 |[],_,_,_=>by simp
 |x::a,b,q,h=>by have o:=qJ.1 q;have hx:=h x (by simp);have:=QX (a:=a) (b:=b.erase x) o.2 λy j=>(List.mem_erase_of_ne (λe=>o.1 (by rw[<-e];exact j))).2 (h y (by simp[j]));rw[List.length_erase_of_mem hx]at this;have:=List.length_pos_of_mem hx;simp;omega
theorem Wk(x:j)(l:List j):(dk l).length<=(dk (x::l)).length:=by refine QX (SE l) λs o=>?_;obtain⟨y,q,a⟩:=GA.1 o;obtain⟨k,e1,e2,e3⟩:=rX q;exact GA.2 ⟨y,yP (l:=x::l) (k:=k+1) none (by simpa using e1) e2 (by simpa using e3),a⟩
theorem TL:∀{s:Bool} {l:List j},lx s l->lx true l
 |_,[],_=>trivial
 |s,x::l,h=>⟨λ_=>rfl,h.2⟩
theorem Um{c:J}{g:K}{x:j}{l:List j}{t:Int}(hc:cz c)(h:gk c g)(e:g.j=x::l)(B:0<=t)(t1:t<c.K):gk c {g with ca:=t,cg:=g.cg - x.aJ,j:=l}:=by obtain⟨⟨C,D,O,I,u,w⟩,a,q,r,⟨A,L,N⟩,z,E⟩:=h;rw[e]at u w a q r A z E;simp only[jq]at u w q;have hx:=a x (by simp);have G:=Pw (l:=l) λy o=>(a y (by simp[o])).2.2.1;simp only[fh,nZ]at A;have hd:=Wk x l;have hm:=hc.1;have:(c.aw+1) * ((dk l).length:Int)<=(c.aw+1) * ((dk (x::l)).length:Int):=Kd (by omega) (by omega);exact⟨⟨C,D,B,t1,by dsimp only;omega,by dsimp only;omega⟩,λy o=>a y (by simp[o]),by dsimp only;rw[show(g.Seq.toNat:Int) - (l.length:Int)=(g.Seq.toNat:Int) - ((l.length+1:Nat):Int)+1 by omega];exact q.2,TL r.2,⟨by dsimp only;omega,by dsimp only;omega,by dsimp only;omega⟩,z.2,by dsimp only;omega⟩
instance(c:J) (g:K):Sp (Dk c g) (cz c/\gk c g/\∃x l,g.j=x::l/\x.cH=true) (λr=>r.2.2=0/\gk c r.1/\r.1.Seq=g.Seq/\(∃k,0<k/\k<=g.j.length/\r.1.j=g.j.drop k/\∀y∈g.j.take k,y.cH=true)/\r.2.1.length=1/\∀a∈r.2.1,eX c a)where
 h h:=by
  obtain⟨hc,C,aA,aC,e0,ad⟩:=h;unfold Dk Jw A8;have ay:=iZ hc;have aB:=C.1.2.2.2.2.1;have hm:=hc.1;have an:=hc.2.1;have ao:=EX hc;refine ar ⟨hc,C⟩ λx k=>aj (λk=>by grind) λ_=>?_;rw[xT (by omega),bo];dsimp only;refine aS (bN (λs=>gk c {g with ca:=s.1,cg:=s.2.1,j:=s.2.2}/\∃k,k<=g.j.length/\s.2.2=g.j.drop k/\∀y∈g.j.take k,y.cH=true) (λs=>s.2.2.length) (λ⟨U,ag,ae⟩ al=>?_) ⟨C,0,by simp,rfl,by simp⟩ (by unfold aP;dsimp only;omega));obtain⟨w,k,ak,u,D⟩:=al;dsimp only at w u;have A:=w.1;have hu:=w.2.2.2.2.1;dsimp only at A hu;unfold ND;dsimp only;cases ae with
  |nil=>
   refine bQ (Q:=λ_=>True) (by exact⟨_,rfl,trivial⟩) λo _=>aj (λq=>by simp at q) λ_=>bu ?_;dsimp only;refine aj (λq=>by rw[e0]at q;simp at q;omega) λ_=>aj (λq=>by simp at q) λ_=>?_;refine ar trivial λY aa=>?_;have:jF ⟨c.Id,g.bR,g.Seq,U⟩:=⟨C.1.1,C.1.2.1,A.2.2.1,by dsimp only;omega⟩;refine aj (λq=>by grind) λ_=>aS (show T (rI []) _ from⟨[],rfl,ax ⟨rfl,w,rfl,⟨g.j.length,by rw[e0];simp,bh _,by simp,?_⟩,rfl,?_⟩⟩)
   .have af:g.j.length<=k:=by have:=congrArg vt u;simp at this;omega
    rw[List.take_length];rw[fm af]at D;exact D
   .intro a B;rw[dz.1 B];refine⟨by dsimp only;omega,by dsimp only;omega, .inr ⟨.inr rfl,by simp,?_, .inr (by grind)⟩⟩;unfold jy;dsimp only;rw[if_pos rfl];omega
  |cons x l=>
   have hx:idx (x::l) 0=some x:=rfl;have az:=w.2.1 x (by simp);have G:decide (((x::l).length:Int)>0)=true:=by simp
   rw[G,hx];refine bQ (Q:=λy=>y=x) ⟨x,rfl,rfl⟩ λo X=>?_;subst X;refine aj (λq=>?_) λq=>bu ?_
   .have q:o.cH=true:=by simpa using q
    rw[bo];refine ar ⟨by omega,by omega,A.2.2.1,A.2.2.2.1,by omega,by omega⟩ λaw L=>?_;rw[bo];refine ar ⟨by omega,by simp;omega,by simp⟩ λN E=>?_;have E:N=l:=by rw[E];simp
    subst E;have ap:((o::N).length:Int)<=c.K:=A.2.2.2.2.1;rw[bg (x:=ag - o.aJ) (by omega) (by omega)];have e:=ek (l:=g.j) (i:=k) (by have:=congrArg vt u;simp at this;omega);have O:k<g.j.length:=by have:=congrArg vt u;simp at this;omega
    have I:g.j.drop k=o::g.j.drop (k+1):=by rw[List.drop_eq_getElem_cons O];have:=u.trans (List.drop_eq_getElem_cons O);rw[(List.cons.inj this).1]
    refine bF ⟨Um hc w rfl L.2.2.1 L.2.2.2,k+1,by omega,?_,λy V=>?_⟩ (by dsimp only;simp)
    .dsimp only;exact(List.cons.inj (u.trans I)).2
    .rw[List.take_add_one,dx]at V;rcases V with h|h
     .exact D y h
     .have Z:g.j[k]? =some o:=by have:=congrArg (λz=>z[0]?) I;simpa using this
      rw[Z]at h;simp at h;rw[h];exact q
   .dsimp only;have aq:k≠0:=λe=>by subst e;rw[e0]at u;have:=(List.cons.inj u).1;rw[this,ad]at q;cases q
    have W:=congrArg vt u;simp at W;refine aj (λq=>by simp at q;omega) λ_=>?_;rw[G];refine aj (λ_=>?_) λq=>by cases q
    rw[hx,bo];refine ar trivial λY aa=>?_;have S:=w.2.2.1;have B:=w.1;dsimp only at S B;have am:=S.1;have av:=B.2.1.2;have:jF ⟨c.Id,g.bR,o.Seq,U⟩:=⟨C.1.1,⟨by dsimp only;omega,by dsimp only;simp at am;omega⟩,A.2.2.1,by dsimp only;omega⟩;have ac:((o::l).length:Int)<=c.K:=A.2.2.2.2.1;refine aj (λq=>by grind) λ_=>aS (show T (rI (o::l)) _ from⟨o::l,by unfold rI app;rw[if_pos (by simp at ac|-;omega)];rfl,ax ⟨rfl,w,rfl,⟨k,by omega,ak,u,D⟩,rfl,?_⟩⟩);intro a B;rw[dz.1 B];refine⟨by dsimp only;omega,by dsimp only;omega, .inr ⟨.inr rfl,by simp,?_, .inr (by grind)⟩⟩;unfold jy;dsimp only;rw[if_pos rfl];omega
def fZ(c:J)(h:aM):Prop:=(0<=h.L/\h.L<c.bz * c.bb/\(h.aJ.length:Int)=c.aw/\(h.a_.length:Int)=c.aw - 1/\h.aG.toNat<=4)/\(∀b∈h.aJ,dp b)/\(∀i:Nat,h.a_[i]? =some true->∃b,h.aJ[i]? =some b/\b.length≠0)/\
 (∃p,h.aJ[(c.aw - 1).toNat]? =some p/\(h.aG=0↔p.length=0))/\(h.aG≠0->true∈h.a_)/\(h.aG.toNat<=1->h.Seq.toNat=0)/\(h.cG=true->true∈h.a_/\h.aG.toNat<=1)
theorem vE(b:List UInt8):mc b=some (decide (¬dp b)):=tk b
theorem lN{c:J}{h:aM}(hc:cz c)(ho:fZ c h):jL c h=some 0:=by
 have:T (jL c h) (λr=>r=0):=by
  unfold jL;obtain⟨⟨ak,ac,ae,al,ad⟩,Y,X,⟨p,Z,E⟩,K,j,z⟩:=ho;have hm:=hc.1;have aa:=hc.2.1;have e1:wI (c.aw - 1)=c.aw - 1:=bg (by omega) (by omega);rw[e1];simp only[Kg];refine ar trivial λx1 Q=>?_;unfold told at Q;refine ar (λ_=>⟨by omega,λb _=>T.of (vE b)⟩) λV D=>?_;have W:((((((x1.2 !=(0:Int))||(decide (h.L<(0:Int))))||(decide (h.L>=x1.1)))||(((h.aJ).length:Int) !=c.aw))||(((h.a_).length:Int) !=c.aw - 1))||(decide ((h.aG.toNat:Int)>((4:Nat):Int))))=false:=by simp;grind
  rw[W]at D|-;have:V=false:=by
   rcases D rfl with⟨_,b,u,e⟩|h
   .have e:mc b=some true:=e;rw[vE]at e;have:=Y b u;simp[this]at e
   .exact h.1
  subst this;refine aj (λk=>by cases k) λ_=>?_;refine aS (bN (λs=>0<=s.2/\s.2<=h.a_.length/\(s.1||decide (true∈h.a_.drop s.2.toNat))=decide (true∈h.a_)) (λs=>(h.a_.length - s.2).toNat) (λ⟨s3,C⟩ a=>?_) (by simp) (by unfold aP;dsimp only;omega));obtain⟨q1,q2,q3⟩:=a;dsimp only at q1 q2 q3;unfold N5;refine aj (λq=>?_) λq=>bu ?_
  .have q:=of_decide_eq_true q;refine ar ⟨q1,q⟩ λU w=>ar (λ_=>by omega) λaf I=>aj (λk=>?_) λ_=>?_
   .exfalso;simp at k;have B:=w.1;rw[k.1]at B;obtain⟨b,u,G⟩:=X _ B;have:=(I k.1).1;rw[u]at this;rw[<-Option.some.inj this]at k;exact G (by rw[k.2];rfl)
   .rw[bg (x:=C+1) (by omega) (by omega)];refine bF ⟨by dsimp only;omega,by dsimp only;omega,?_⟩ (by dsimp only;omega);dsimp only;rw[w.2.2]at q3;rw[<-q3];cases U<;>simp
  .have q: ¬C<h.a_.length:=by simpa using q
   rw[kN (by omega)]at q3;simp only[vl,decide_false,Bool.or_false]at q3;refine ar ⟨by omega,by omega⟩ λo O=>?_;have:o=p:=by have:=O.1;rw[Z]at this;exact(Option.some.inj this).symm
   subst this;refine aj (λk=>?_) λ_=>ax rfl;exfalso;rw[q3]at k;simp only[pk,Kg]at k;by_cases hp:h.aG=0
   .have:=E.1 hp;have ag:h.aG.toNat=0:=by rw[hp];rfl
    have a:=j (by omega);cases hd:h.cG with
    |false=>simp[hp,this,a,hd]at k
    |true=>
     have:=(z hd).1;simp[hp,a,hd,this]at k;omega
   .have A:o.length≠0:=λe=>hp (E.2 e);have N:=K hp;have e3:(h.aG==0)=false:=by simpa using hp
    have S:decide ((o.length:Int)>0)=true:=by simp;omega
    rw[e3,S,decide_eq_true N]at k;cases hd:h.cG with
    |false=>
     simp[hd]at k;have:=j (by omega);omega
    |true=>
     have A:=(z hd).2;have:=j A;simp[hd,this]at k;omega
 obtain⟨r,e,rfl⟩:=this;exact e
theorem RQ{h:aM}(o:h.aJ.length<4294967296)(hd:h.a_.length<4294967296)(a:∀b∈h.aJ,dp b):mb h=some h:=by
 unfold mb;have e1:A5 h.a_=some h.a_:=by unfold A5 app;rw[if_pos (by simpa using hd)];rfl
 have e2:T (bf (El h) aP ((0:Int),([]:List (List UInt8)))) (λr=>r=h.aJ):=T.copy h.aJ o (λk x k0 j hx hm q u=>by unfold El;simp only[decide_eq_true j,cond_true,kg hx k0,bo,tX (vz (a _ hm))];rw[oI (by simp;omega),bg (by omega) (by omega)];rfl) (by unfold El;simp only[Int.lt_irrefl,decide_false,cond_false];exact bu rfl)
 obtain⟨_,e2,rfl⟩:=e2;rw[e1,bo,e2];rfl
theorem fZ.qc{c:J}{h:aM}(hc:cz c)(ho:fZ c h):mb h=some h:=
 RQ (by have:=ho.1.2.2.1;have:=hc.2.1;omega) (by have:=ho.1.2.2.2.1;have:=hc.2.1;omega) ho.2.1
theorem contains_eq{l:List Bool}(h:l.length<4294967296):lZ l true=some (decide (true∈l)):=by
 have:T (lZ l true) (λr=>r=decide (true∈l)):=by
  unfold lZ E9;refine aS (aS (bN (λs=>0<=s/\s<=l.length/\decide (true∈l.drop s.toNat)=decide (true∈l)) (λs=>(l.length - s).toNat) (λs a=>?_) (by simp)));obtain⟨q1,q2,q3⟩:=a;unfold PK;refine aj (λq=>?_) λq=>bu (T.inr (ax (ax ?_)))
  .have q:=of_decide_eq_true q;refine ar ⟨q1,q⟩ λx hx=>aj (λe=>bu (T.inl (ax (ax ?_)))) λe=>?_
   .have:x=true:=by simpa using e
    subst this;rw[decide_eq_true hx.2.1];simpa using q1
   .have:x=false:=by simpa using e
    subst this;rw[bg (x:=s+1) (by omega) (by omega)];refine bF ⟨by omega,by omega,?_⟩ (by omega);rw[<-q3,hx.2.2];simp
  .have q: ¬s<l.length:=by simpa using q
   rw[kN (by omega)]at q3;rw[<-q3];simp
 obtain⟨r,e,rfl⟩:=this;exact e
def nu:aM:=⟨0,[],[],0,false,0⟩
section
variable{c:J}{h:aM}(hc:cz c)(ho:fZ c h)
include hc ho
theorem v9:h.a_.length<4294967296:=by have:=ho.1.2.2.2.1;have:=hc.2.1;omega
theorem vG:mc []=some false:=by rw[vE];rfl
theorem vO:((decide ((0:Int)<(0:Int)))||(decide ((0:Int)>=(wI (c.aw - (1:Int))))))=false:=by have hm:=hc.1;have a:=hc.2.1;rw[bg (by omega) (by omega)];simp;omega
theorem U1(s:UInt32):uX c h s=some (bif h.aG==1 then({h with aG:=2,cG:=false,Seq:=s},0)else(nu,6)):=by unfold uX Hv An z_ Ee Jf;rw[lN hc ho,vO hc ho];simp only[bo,bne_self_eq_false,cond_false,vG hc ho,ho.qc hc,mJ,gO];cases h.aG==1<;>simp[nu]
theorem V_:wu c h=some (bif(h.aG==1)||(h.aG==3)then({h with aG:=4,cG:=false},0)else(nu,6)):=by unfold wu Gb zS zK Bn FY;rw[lN hc ho,vO hc ho];simp only[bo,bne_self_eq_false,cond_false,vG hc ho,ho.qc hc,mJ,gO];cases(h.aG==1)||(h.aG==3)<;>simp[nu]
theorem Yg:DJ c h=some (bif h.aG==2 then({h with aG:=3},0)else(nu,6)):=by unfold DJ Ir D4 BC Bs E7;rw[lN hc ho,vO hc ho];simp only[bo,bne_self_eq_false,cond_false,vG hc ho,ho.qc hc,mJ,gO];cases h.aG==2<;>simp[nu]
theorem Jb:GL.b_ h.aJ.length (wI (c.aw - 1))=some (c.aw - 1).toNat:=by have hm:=hc.1;have a:=hc.2.1;have:=ho.1.2.2.1;rw[bg (by omega) (by omega)];unfold GL.b_;rw[if_pos (by omega)]
def lQ(c:J)(h:aM):aM:={h with aG:=0,Seq:=0,aJ:=h.aJ.set (c.aw - 1).toNat [],a_:=dr h.a_.length false}
theorem RK:wV c h=some (bif h.aG==4 then(lQ c h,0)else(nu,6)):=by unfold wV Jh Ag zW Aq E2;rw[lN hc ho,vO hc ho];simp only[bo,bne_self_eq_false,cond_false,vG hc ho,ho.qc hc,mJ,gO,Jb hc ho];cases h.aG==4<;>simp[nu,lQ]
theorem X3{b:List UInt8}(a:b.length=128):vx c h b=some (bif(h.aG==0)&&decide (true∈h.a_)then({h with aG:=1,aJ:=h.aJ.set (c.aw - 1).toNat b},0)else(nu,6)):=by
 unfold vx G4 CO A0 Dn FL yK;rw[lN hc ho,vO hc ho];have j:dp b:= .inr a;have o:((b.length:Int)==0)=false:=by rw[a];rfl
 simp only[bo,bne_self_eq_false,cond_false,vG hc ho,ho.qc hc,mJ,gO,Jb hc ho,vE b,j,not_true,decide_false,contains_eq (v9 hc ho),o,tX (by omega:b.length<4294967296)];cases h.aG==0<;>cases decide (true∈h.a_)<;>simp[nu]
end
section
variable{c:J}{h:aM}
theorem aaj{x:UInt8}{n:Nat}(h:x.toNat<=n):x.toNat<=n:=h
theorem O0(ho:fZ c h)(a:h.aG=1)(s:UInt32):fZ c {h with aG:=2,cG:=false,Seq:=s}:=by
 obtain⟨⟨A,o,u,B,E⟩,q,z,⟨p,w,r⟩,j,C,D⟩:=ho;refine⟨⟨A,o,u,B,by dsimp only;decide⟩,q,z,⟨p,w,?_⟩,λ_=>j (by rw[a];decide),λk=>absurd (show(2:UInt8).toNat<=1 from k) (by decide),λk=>by cases k⟩;have: ¬p.length=0:=λe=>by have:=r.2 e;rw[a]at this;revert this;decide
 simp[this]
theorem Ly(ho:fZ c h)(A:h.aG=1\/h.aG=3):fZ c {h with aG:=4,cG:=false}:=by
 obtain⟨⟨B,o,u,C,G⟩,q,z,⟨p,w,r⟩,j,D,E⟩:=ho;have a:h.aG≠0:=by rcases A with h|h<;>rw[h]<;>decide
 refine⟨⟨B,o,u,C,by dsimp only;decide⟩,q,z,⟨p,w,?_⟩,λ_=>j a,λk=>absurd (show(4:UInt8).toNat<=1 from k) (by decide),λk=>by cases k⟩;have: ¬p.length=0:=λe=>a (r.2 e);simp[this]
theorem T5(ho:fZ c h)(j:h.aG=2):fZ c {h with aG:=3}:=by
 obtain⟨⟨C,r,z,D,G⟩,u,B,⟨p,A,w⟩,q,E,o⟩:=ho;have a:h.aG≠0:=by rw[j];decide
 refine⟨⟨C,r,z,D,by dsimp only;decide⟩,u,B,⟨p,A,?_⟩,λ_=>q a,λk=>absurd (show(3:UInt8).toNat<=1 from k) (by decide),λk=>?_⟩
 .have: ¬p.length=0:=λe=>a (w.2 e);simp[this]
 .have:=(o k).2;rw[j]at this;exact absurd this (by decide)
theorem Sv(hc:cz c)(ho:fZ c h)(u:h.aG=4):fZ c (lQ c h):=by
 obtain⟨⟨w,j,q,z,E⟩,o,G,⟨p,r,D⟩,C,B,a⟩:=ho;have hm:=hc.1;refine⟨⟨w,j,by simpa [lQ]using q,by simpa [lQ]using z,by show(0:UInt8).toNat<=4;decide⟩,λb A=>?_,λi hi=>?_,⟨[],?_,by simp[lQ]⟩,λk=>absurd rfl k,λ_=>rfl,λk=>?_⟩
 .rcases pn A with h|rfl
  .exact o b h
  .exact .inl rfl
 .have:=iL hi;unfold lQ at this;have:=(vm.1 this).2;cases this
 .unfold lQ;dsimp only;rw[lg,if_pos rfl,if_pos (cy.1 r).1]
 .have:h.aG.toNat<=1:=(a k).2;rw[u]at this;exact absurd this (by decide)
theorem KA(hc:cz c)(ho:fZ c h)(z:h.aG=0)(hd:true∈h.a_){b:List UInt8}(a:b.length=128):fZ c {h with aG:=1,aJ:=h.aJ.set (c.aw - 1).toNat b}:=by
 obtain⟨⟨B,q,u,C,I⟩,r,A,⟨p,w,G⟩,E,o,D⟩:=ho;have hm:=hc.1;have j:=(cy.1 w).1;refine⟨⟨B,q,by simpa using u,C,by dsimp only;decide⟩,λx hx=>?_,λi hi=>?_,⟨b,by dsimp only;rw[lg,if_pos rfl,if_pos j],by simp;intro e;rw[e]at a;simp at a⟩,λ_=>hd,λ_=>o (by rw[z];decide),λk=>⟨hd,by dsimp only;decide⟩⟩
 .rcases pn hx with h|rfl
  .exact r x h
  .exact .inr a
 .obtain⟨x,e1,e2⟩:=A i hi;by_cases e:(c.aw - 1).toNat=i
  .subst e;exact⟨b,by dsimp only;rw[lg,if_pos rfl,if_pos j],by omega⟩
  .exact⟨x,by dsimp only;rw[lg,if_neg e];exact e1,e2⟩
theorem Ri(hc:cz c){s:Int}(w:0<=s)(z:s<c.bz * c.bb):oS c s=some (⟨s,dr c.aw.toNat [],dr (c.aw - 1).toNat false,0,false,0⟩,0):=by
 have:T (oS c s) (λr=>r=(⟨s,dr c.aw.toNat [],dr (c.aw - 1).toNat false,0,false,0⟩,0)):=by unfold oS B_;have hm:=hc.1;have q:=hc.2.1;refine ar trivial λx1 j=>?_;unfold told at j;rw[bg (x:=c.aw - 1) (by omega) (by omega)];exact aj (λk=>by grind) λ_=>aj (λk=>by simp at k;omega) λ_=>aj (λk=>by grind) λ_=>ar (by omega) λu a=>ar (by omega) λA o=>ax (by rw[a,o])
 obtain⟨r,e,rfl⟩:=this;exact e
theorem Vw(hc:cz c){s:Int}(o:0<=s)(j:s<c.bz * c.bb):fZ c ⟨s,dr c.aw.toNat [],dr (c.aw - 1).toNat false,0,false,0⟩:=by have hm:=hc.1;refine⟨⟨o,j,by simp;omega,by simp;omega,by dsimp only;decide⟩,λb a=> .inl (by rw[(vm.1 a).2];rfl),λi hi=>?_,⟨[],by dsimp only;rw[List.getElem?_replicate,if_pos (by omega)],by simp⟩,λk=>absurd rfl k,λ_=>rfl,λk=>by cases k⟩;have:=(vm.1 (iL hi)).2;cases this
theorem Z'(hc:cz c)(ho:fZ c h)(u:h.aG=0){slot:Int}(q:0<=slot)(V:slot<=c.aw - 2){b:List UInt8}(a:b.length=128):
  T (w9 c h slot b) (λr=>r.2=0/\fZ c r.1/\r.1.L=h.L/\r.1.aG=0/\r.1.cG=h.cG/\r.1.Seq=h.Seq/\true∈r.1.a_):=by
 unfold w9 E_ IJ B7 yK;have hm:=hc.1;have K:=hc.2.1;have j:dp b:= .inr a;obtain⟨⟨I,A,D,J,X⟩,C,B,⟨p,G,W⟩,Q,z,N⟩:=id ho;have E:=(cy.1 G).1;rw[lN hc ho,bo];refine aj (λk=>by cases k) λ_=>aj (λk=>?_) λ_=>?_
 .rw[bg (by omega) (by omega)]at k;simp at k;omega
 rw[vE,bo];refine aj (λk=>by simp[j]at k) λ_=>?_;rw[ho.qc hc,bo];refine aj (λk=>by rw[u]at k;exact absurd k (by decide)) λ_=>?_;rw[Jb hc ho,bo];refine aS (aj (λk=>by simp at k;rw[k]at a;simp at a) λ_=>?_);rw[tX (by omega),bo];refine ax (ar ⟨q,by simp;omega⟩ λU w=>ar ⟨q,by omega⟩ λO o=>ax ⟨rfl,?_,rfl,rfl,rfl,rfl,?_⟩)
 .rw[w.1,o.1];refine⟨⟨I,A,by simpa using D,by simpa using J,by dsimp only;decide⟩,λx hx=>?_,λi hi=>?_,⟨[],?_,by simp⟩,λk=>absurd rfl k,λ_=>z (by rw[u];decide),λk=>⟨?_,by dsimp only;decide⟩⟩
  .rcases pn hx with h|rfl
   .rcases pn h with h|rfl
    .exact C x h
    .exact .inl rfl
   .exact j
  .dsimp only at hi|-;rw[lg]at hi|-;by_cases e:slot.toNat=i
   .rw[if_pos e,if_pos (by simp;omega)];exact⟨b,rfl,by omega⟩
   .rw[if_neg e]at hi|-;obtain⟨x,e1,e2⟩:=B i hi;have S:=(cy.1 hi).1;rw[lg,if_neg (by omega)];exact⟨x,e1,e2⟩
  .dsimp only;rw[lg,if_neg (by omega),lg,if_pos rfl,if_pos E]
  .dsimp only;exact iL (i:=slot.toNat) (by rw[lg,if_pos rfl,if_pos (by omega)])
 .dsimp only;rw[o.1];exact iL (i:=slot.toNat) (by rw[lg,if_pos rfl,if_pos (by omega)])
theorem OG(hc:cz c)(ho:fZ c h)(o:h.aG≠0):T (wN c h) (λr=>r.2=0/\jK c r.1/\r.1.bP.length=128/\r.1.L=h.L):=by
 unfold wN;have hm:=hc.1;have V:=hc.2.1;obtain⟨⟨U,N,af,ak,ae⟩,u,O,⟨p,D,S⟩,J,Z,W⟩:=id ho;rw[lN hc ho,bo,bg (x:=c.aw - 1) (by omega) (by omega),kg D (by omega),bo];have B:p.length=128:=(u p (iL D)).resolve_left λe=>o (S.2 e);rw[tX (by omega),bo];refine aj (λk=>by cases k) λ_=>aj (λk=>by simp at k;exact absurd k o) λ_=>?_;refine aS (bN (λs=>0<=s.1/\s.1<=h.a_.length/\jm (c.aw - 2) (-1) s.2.1/\(∀x∈s.2.1,x<s.1)/\s.2.2.length=s.2.1.length/\(∀b∈s.2.2,b.length=128)/\(true∈h.a_.take s.1.toNat->s.2.1≠[])) (λs=>(h.a_.length - s.1).toNat) (λ⟨C,ac,ad⟩ Q=>?_) ⟨by simp,by simp,trivial,by simp,rfl,by simp,by simp⟩ (by unfold aP;dsimp only;omega));obtain⟨q1,q2,q3,q4,q5,q6,q7⟩:=Q;dsimp only at q1 q2 q3 q4 q5 q6 q7;unfold Pl A1;have ag:=kT q3 (by omega);refine aj (λq=>?_) λq=>bu (ax ?_)
 .have q:=of_decide_eq_true q;rw[bg (x:=C+1) (by omega) (by omega)];refine ar ⟨q1,q⟩ λK z=>aj (λe=>ar (by simp;omega) λX j=>ar (by omega) λaa w=>ar (vz (u _ w.2.1)) λI G=>ar (by simp;omega) λY A=>bF ?_ (by dsimp only;omega)) λe=>bF ⟨by dsimp only;omega,by dsimp only;omega,q3,λx hx=>by have:=q4 x hx;dsimp only;omega,q5,q6,λk=>?_⟩ (by dsimp only;omega)
  .subst e;have E:I.length=128:=by obtain⟨b,e1,e2⟩:=O _ z.1;have:=w.1;rw[e1]at this;rw[G,<-Option.some.inj this];exact(u b (iL e1)).resolve_left e2
   refine⟨by dsimp only;omega,by dsimp only;omega,?_,λx hx=>?_,?_,λb a=>?_,λ_=>?_⟩
   .dsimp only;rw[j];exact Hb (by simpa using q3) (by omega) (by omega) q4 (by simp)
   .dsimp only at hx|-;rw[j]at hx;rcases dx.1 hx with h|h
    .have:=q4 x h;omega
    .rw[dz.1 h];omega
   .dsimp only;rw[j,A];simp[q5]
   .dsimp only at a;rw[A]at a;rcases dx.1 a with h|h
    .exact q6 b h
    .rw[dz.1 h];exact E
   .dsimp only;rw[j];simp
  .have e:K=false:=by simpa using e
   subst e;dsimp only at k|-;rw[take_at z.1 q1]at k;exact q7 (by simpa using k)
 .have q: ¬C<h.a_.length:=by simpa using q
  rw[kS (by omega)]at q7;exact⟨rfl,⟨⟨U,N,q3,q7 (J o),q5,λb a=> .inr (q6 b a), .inr B⟩,q6⟩,B,rfl⟩
end
instance(l:List aM) (f:aM->Option Bool):Sp (Dh l f) (l.length<4294967296/\∀x∈l,T (f x) λ_=>True) (lq l f)where
 h h:=T.index h
def me(c:J)(l:List aM):Prop:=(l.length:Int)<=c.aE/\(∀h∈l,fZ c h)/\(l.map (·.L)).Nodup
def U'(l:List aM)(s r:Int):Prop:=(r= -1/\∀h∈l,h.L≠s)\/(0<=r/\r<l.length/\∃h,l[r.toNat]? =some h/\h.L=s)
instance(l:List aM) (s:Int):Sp (sV l s) (l.length<4294967296) (U' l s)where
 h h:=by
  unfold sV;refine ar ⟨h,λ_ _=>⟨_,rfl,trivial⟩⟩ λx hx=>ax ?_;rcases hx with⟨j,a⟩|⟨j,a,y,r,u,q,_⟩
  .refine .inl ⟨j,λy o=>?_⟩;have:some (y.L==s)=some false:=a y o;simpa using this
  .refine .inr ⟨j,a,y,r,?_⟩;have:some (y.L==s)=some true:=q;simpa using this
theorem q_{l:List aM}(q:(l.map (·.L)).Nodup){i j:Nat}{x y:aM}(hx:l[i]? =some x)(a:l[j]? =some y)(e:x.L=y.L):i=j:=by
 have o:=(cy.1 hx).1;have r:=(cy.1 a).1;have e1:(l.map (·.L))[i]? =some x.L:=by rw[lG,hx];rfl
 have e2:(l.map (·.L))[j]? =some x.L:=by rw[lG,a,e];rfl
 exact(List.getElem?_inj (by simpa using o) q).1 (e1.trans e2.symm)
theorem Ih{c:J}{l:List aM}(hc:cz c)(h:me c l):qt c l=some 0:=by
 have:T (qt c l) (λr=>r=0):=by
  unfold qt;obtain⟨L,z,B⟩:=h;have K:c.aE<=8:=hc.2.2.2.2.2.2.2.1;refine ar trivial λx1 C=>aj (λk=>by grind) λ_=>?_;refine aS (bN (λs=>0<=s/\s<=l.length) (λs=>(l.length - s).toNat) (λs j=>?_) (by omega) (by unfold aP;omega));unfold KL;refine aj (λq=>?_) λq=>bu (ax rfl);have q:=of_decide_eq_true q;refine ar ⟨j.1,q⟩ λN u=>?_;rw[lN hc (z _ u.2.1),bo];refine ar (λ_=>⟨by omega,j.1,j.2⟩) λI a=>?_;have a:I=l.take s.toNat:=by rw[a rfl];simp
  subst a;refine ar (λ_=>by simp;omega) λD E=>?_;rw[bg (x:=s+1) (by omega) (by omega)];refine aj (λk=>?_) λ_=>bF (by omega) (by omega);exfalso;rcases E rfl with⟨e,_⟩|⟨C,G,y,o,A⟩
  .rw[e]at k;cases k
  .have w:D.toNat<s.toNat:=by simp at G;omega
   rw[gI w]at o;have:=q_ B o u.1 A;omega
 obtain⟨r,e,rfl⟩:=this;exact e
theorem LA{c:J}{l:List aM}(hc:cz c)(h:me c l):tQ l=some l:=by
 have:T (tQ l) (λr=>r=l):=by
  unfold tQ;obtain⟨z,a,u⟩:=h;have B:c.aE<=8:=hc.2.2.2.2.2.2.2.1;rw[show Az l=some l by unfold Az app;rw[if_pos (by simp;omega)];rfl,bo];refine aS (bN (λs=>0<=s.1/\s.1<=l.length/\s.2=l) (λs=>(l.length - s.1).toNat) (λ⟨s2,s3⟩ A=>?_) (by simp) (by unfold aP;dsimp only;omega));obtain⟨q1,q2,rfl⟩:=A;dsimp only at q1 q2 z a u;unfold NP;refine aj (λq=>?_) λq=>bu (ax rfl);have q:=of_decide_eq_true q;refine ar ⟨q1,q⟩ λC o=>ar (by omega) λE j=>?_;rw[(a _ j.2).qc hc,bo];refine ar ⟨q1,q⟩ λD w=>?_;rw[bg (x:=s2+1) (by omega) (by omega)];refine bF ⟨by dsimp only;omega,by dsimp only;omega,?_⟩ (by dsimp only;omega);dsimp only;rw[w.1,<-o.1];apply o0;intro i;rw[lg];split
  .rename_i e;subst e;rw[if_pos o.2,j.1]
  .rfl
 obtain⟨r,e,rfl⟩:=this;exact e
def jk(l:List aM)(h:aM):List aM:=h::l.filter (λx=> !(x.L==h.L))
theorem Xh{l:List aM}(a:(l.map (·.L)).Nodup):∀{n:Nat} {x:aM},l[n]? =some x->l.take n++l.drop (n+1)=l.filter (λy=> !(y.L==x.L)):=by
 induction l with
 |nil=>intro n x h;simp at h
 |cons y l o=>
  intro n x h;simp only[fh,qJ]at a;cases n with
  |zero=>
   simp at h;subst h;simp only[mi,gZ,dQ,List.drop_succ_cons,List.drop_zero,jP];rw[if_neg (by simp)]
   symm
   rw[qR];intro z q;simp;intro e;exact a.1 (gm.2 ⟨z,q,e⟩)
  |succ n=>
   have hx:l[n]? =some x:=by simpa using h
   have j:y.L≠x.L:=λe=>a.1 (gm.2 ⟨x,iL hx,e.symm⟩);simp only[List.take_succ_cons,kE,List.drop_succ_cons,jP];rw[if_pos (by simpa using j),o a.2 hx]
theorem KM{c:J}{l:List aM}{h:aM}(r:me c l)(ho:fZ c h)(a:(∃x∈l,x.L=h.L)\/(l.length:Int)<c.aE):me c (jk l h):=by
 obtain⟨u,o,q⟩:=r;refine⟨?_,λx hx=>?_,?_⟩
 .unfold jk;simp only[jq];have j:=qU (λx:aM=> !(x.L==h.L)) l;rcases a with⟨x,hx,e⟩|a
  .have:(l.filter (λx:aM=> !(x.L==h.L))).length<l.length:=by
    rcases mh (l.filter (λx:aM=> !(x.L==h.L))).length l.length with h'|h'
    .exact h'
    .have:=aai.1 (Nat.le_antisymm j h') x hx;simp[e]at this
   omega
  .omega
 .rcases fp.1 hx with rfl|hx
  .exact ho
  .exact o x (lH.1 hx).1
 .unfold jk;simp only[fh,qJ];refine⟨λhm=>?_,(List.Sublist.map _ List.filter_sublist).nodup q⟩;obtain⟨x,hx,e⟩:=gm.1 hm;have:=(lH.1 hx).2;simp at this;exact this e
theorem put_eq{c:J}{l:List aM}{h:aM}(hc:cz c)(j:me c l)(ho:fZ c h)(q:(∃x∈l,x.L=h.L)\/(l.length:Int)<c.aE):l_ c l h=some (jk l h,0):=by
 have:T (l_ c l h) (λr=>r=(jk l h,0)):=by
  unfold l_ I5 CF;have I:c.aE<=8:=hc.2.2.2.2.2.2.2.1;obtain⟨E,B,A⟩:=id j;rw[Ih hc j,bo,lN hc ho];refine ar (λ_=>trivial) λC e2=>?_;have e2:=e2 rfl;subst e2;refine aj (λk=>by cases k) λ_=>ar (by omega) λa u=>?_;rw[LA hc j,bo,ho.qc hc];rcases u with⟨rfl,o⟩|⟨D,G,y,z,w⟩
  .refine aj (λk=>?_) λ_=>?_
   .rcases q with⟨x,hx,e⟩|q
    .exact absurd e (o x hx)
    .simp at k;omega
   .refine aS (aj (λk=>by cases k) λ_=>?_);rw[bo];refine aS (show T (rr l h) _ from⟨_,by unfold rr;rw[if_pos (by omega)],ax (ax ?_)⟩);unfold jk;rw[qR.2 λx hx=>by simpa using o x hx]
  .refine aj (λk=>by simp at k;omega) λ_=>?_;refine aS (aj (λk=>?_) λk=>by simp at k;omega);rw[bg (x:=a+1) (by omega) (by omega)];refine aS (show T (vW l a (a+1)) _ from⟨_,by unfold vW;rw[if_pos (by omega)],?_⟩);dsimp only;rw[bo];refine aS (show T (rr _ h) _ from⟨_,by unfold rr;rw[if_pos (by simp;omega)],ax (ax ?_)⟩);unfold jk;rw[<-w,<-Xh A z,show(a+1).toNat=a.toNat+1 by omega]
 obtain⟨r,e,rfl⟩:=this;exact e
theorem MW{c:J}{l:List aM}(hc:cz c)(j:me c l)(s:Int):T (lY c l s) (λr=>(r.2=6/\∀h∈l,h.L≠s)\/(r.2=0/\0<=r.1/\r.1<l.length/\∃h,l[r.1.toNat]? =some h/\h.L=s)):=by
 unfold lY;have w:c.aE<=8:=hc.2.2.2.2.2.2.2.1;rw[Ih hc j,bo];refine aj (λk=>by cases k) λ_=>ar (by have:=j.1;omega) λu a=>?_;rcases a with⟨rfl,h⟩|⟨q,a,o⟩
 .exact aj (λ_=>ax (.inl ⟨rfl,h⟩)) λk=>by simp at k
 .exact aj (λk=>by simp at k;omega) λ_=>ax (.inr ⟨rfl,q,a,o⟩)
def St(l:List j)(h:aM):Prop:=(h.aG.toNat<=1->(h.cG=true↔true∈h.a_))/\(h.cG=true↔∃x,eK l h.L=some x/\x.bP=false)/\
 (1<h.aG.toNat->∃x,eK l h.L=some x/\x.Seq=h.Seq/\x.bP=true/\x.cH=false/\(x.dC=true↔2<h.aG.toNat))
def En(a:List aM)(l:List j):Prop:=∀s e,eK l s=some e->(e.bP=false->∃h∈a,h.L=s)/\(e.bP=true->e.cH=false->∃h∈a,h.L=s/\1<h.aG.toNat)
def Lg(l:List j):Prop:=l.Pairwise λa b=>a.L=b.L->b.cH=true->a.cH=true
def Inv(d:N):Prop:=(cz d.J/\jA d.J d.X/\d.X.cO=false/\me d.J d.aE/\gk d.J d.K/\d.du=[]/\d.Next=1)/\
 (d.X.cn=true->d.aE=[]/\d.K.j=[])/\(d.X.cn=false->(∀h∈d.aE,St d.K.j h)/\En d.aE d.K.j/\Lg d.K.j)
def pN(ds:List aU)(r:N×(List cd)×Int):Prop:=r.2.2=0->Inv r.1/\fq r.1.J ds/\iB r.1.J r.1.X ds/\(∀a∈r.2.1,eX r.1.J a)/\r.2.1.length<=12000
theorem Ol{c:J}(hc:cz c){a s:UInt32}{t:Int}(q:gS a)(j:gS s)(o:0<=t)(t1:t<c.K):gk c ⟨a,s,t,0,[]⟩:=by have:=iZ hc;have r:=j.1;exact⟨⟨q,j,o,t1,by simp;omega,by simp;omega⟩,by simp,trivial,trivial,⟨by simp,by simp,by dsimp only;omega⟩,trivial,by simp[dk];omega⟩
section
variable{x1:J×X×Bool×Int}{rest:List bl}{ds:List aU}{back:Bool}
def EZ(c:J)(a:List Int)(l:List aM):Prop:=me c l/\l.length=a.length/\(∀h∈l,h.aG=0/\h.cG=true/\true∈h.a_/\h.L∈a)/\∀s∈a,∃h∈l,h.L=s
theorem ZF(hc:cz x1.1)(ak:sY x1.1 rest)(a8:(rest.length:Int)<=x1.1.aE):T (bf (GQ x1 rest) aP ((0:Int),([]:List aM))) (EZ x1.1 (rest.map (·.L))):=by
 have a5:x1.1.aE<=8:=hc.2.2.2.2.2.2.2.1;obtain⟨_,aF,aH⟩:=ak;refine bN (λs=>0<=s.1/\s.1<=rest.length/\EZ x1.1 ((rest.take s.1.toNat).map (·.L)) s.2) (λs=>(rest.length - s.1).toNat) (λ⟨o,r⟩ j=>?_) ⟨by simp,by simp,⟨⟨by simp;omega,by simp,by simp⟩,rfl,by simp,by simp⟩⟩ (by unfold aP;dsimp only;omega);obtain⟨q1,q2,q3⟩:=j;dsimp only at q1 q2 q3;unfold GQ;refine aj (λq=>?_) λq=>bu (by rw[kS (by simp at q;omega)]at q3;exact q3);have q:=of_decide_eq_true q;refine ar ⟨q1,q⟩ λa u=>?_;obtain⟨⟨⟨Q,S,G,ap,a3,a7,a1⟩,aJ⟩,a2⟩:=aH _ u.2.1;rw[Ri hc Q S,bo];have aR:=Ke.2 ap;refine aS (bN (λs=>0<=s.1/\s.1<=a.eD.length/\fZ x1.1 ⟨s.2.1,s.2.2.1,s.2.2.2.1,s.2.2.2.2.1,s.2.2.2.2.2.1,s.2.2.2.2.2.2⟩/\s.2.1=a.L/\s.2.2.2.2.1=0/\s.2.2.2.2.2.1=false/\(0<s.1->true∈s.2.2.2.1)) (λs=>(a.eD.length - s.1).toNat) (λ⟨C,aU,A,D,aL,aN,z⟩ j=>?_) ⟨by simp,by simp,Vw hc Q S,rfl,rfl,rfl,by simp⟩ (by unfold aP;have:=kT G (by have:=hc.1;omega);have:=hc.2.1;dsimp only;omega));obtain⟨E,ay,I,J,K,V,U⟩:=j;dsimp only at E ay I J K V U;have aZ:=kT G (by have:=hc.1;omega);have a9:=hc.2.1;unfold Lr;refine aj (λp=>?_) λp=>bu ?_
 .have p:=of_decide_eq_true p;refine ar ⟨E,p⟩ λaY aa=>ar ⟨E,by omega⟩ λaO ac=>?_;have hx:=sx G _ aa.2.1;refine bQ (Z' hc I K (by omega) hx.2 (aJ _ ac.2.1)) λa0 Z=>?_;rw[bg (x:=C+1) (by omega) (by omega)];obtain⟨_,t2,aC,aG,ag,a6,ae⟩:=Z;exact bF ⟨by dsimp only;omega,by dsimp only;omega,t2,aC.trans J,aG,ag.trans V,λ_=>ae⟩ (by dsimp only;omega)
 .have p:C=a.eD.length:=by(have: ¬C<a.eD.length:=by simpa using p);omega
  have hd:=U (by omega);dsimp only;subst J K;obtain⟨aq,aI,aw,av,af,an,a4⟩:=id I;have ho:fZ x1.1 ⟨a.L,A,D,0,true,z⟩:=⟨aq,aI,aw,av,af,an,λ_=>⟨hd,by dsimp only;decide⟩⟩;obtain⟨O,ao,N,al⟩:=q3;have X:∀x∈r,x.L≠a.L:=λx hx e=>by
   have W:=(N x hx).2.2.2;rw[e,List.map_take]at W;obtain⟨i,hi,e1⟩:=sS W;have e2:(rest.map (·.L))[o.toNat]? =some a.L:=by rw[lG,u.1];rfl
   rw[cf]at hi;have e3:(rest.map (·.L))[i]? =some a.L:=by rw[<-gI (show i<o.toNat by omega),ek (by rw[cf];exact hi),e1]
   have:=(List.getElem?_inj (by omega) aF).1 (e3.trans e2.symm);omega
  have aQ:r.length=o.toNat:=by rw[ao];simp;omega
  rw[put_eq hc O ho (.inr (by omega)),bo,bg (x:=o+1) (by omega) (by omega)];have Y:jk r ⟨a.L,A,D,0,true,z⟩=⟨a.L,A,D,0,true,z⟩::r:=by unfold jk;rw[qR.2 λx hx=>by simpa using X x hx]
  have j:=KM O ho (.inr (by omega));rw[Y]at j|-;refine bF ⟨by dsimp only;omega,by dsimp only;omega,j,?_,λh w=>?_,λs B=>?_⟩ (by dsimp only;omega)
  .dsimp only;simp;omega
  .dsimp only at w|-;rw[take_at u.1 q1,mm];rcases fp.1 w with rfl|w
   .exact⟨rfl,rfl,hd,by simp⟩
   .obtain⟨c1,az,ad,aB⟩:=N h w;exact⟨c1,az,ad,gY _ aB⟩
  .dsimp only at B|-;rw[take_at u.1 q1,mm]at B;rcases dx.1 B with h|h
   .obtain⟨y,aA,am⟩:=al s h;exact⟨y,by simp[aA],am⟩
   .simp at h;exact⟨_,ml,h.symm⟩
def Gl(a:List Int)(l:List j):Prop:=l.map (·.L)=a/\∀x∈l,x.bP=false/\x.cH=false
theorem qz{l:List j}{s:Int}{x:j}(h:eK l s=some x):x∈l/\x.L=s:=by obtain⟨k,o,a,_⟩:=rX h;exact⟨iL o,a⟩
theorem H0{l:List j}{x:j}(h:x∈l):∃y,eK l x.L=some y:=by
 cases e:eK l x.L with
 |some y=>exact⟨y,rfl⟩
 |none=>
  exfalso;have key:∀(l:List j) (a:Option j) s,l.foldl (kj s) a=none->a=none/\∀y∈l,y.L≠s:=by
   intro l;induction l with
   |nil=>intro a s h;exact⟨h,by simp⟩
   |cons z l r=>
    intro a s h;rw[k9]at h;obtain⟨o,q⟩:=r _ s h;unfold kj at o;by_cases e:z.L=s
    .rw[if_pos e]at o;cases o
    .rw[if_neg e]at o;exact⟨o,λy u=>(fp.1 u).elim (λh=>by rw[h];exact e) (q y)⟩
  exact(key l none _ e).2 x h rfl
theorem opened{c:J}{d:N}(hd:cz d.J/\jA d.J d.X/\d.X.cO=false/\me d.J d.aE/\gk d.J d.K/\d.du=[]/\d.Next=1)(C:d.X.cn=false){q:List Int}(z:EZ d.J q d.aE)(a:Gl q d.K.j):Inv d:=by
 refine⟨hd,λk=>(by rw[C]at k;cases k),λ_=>⟨λh hm=>?_,λs e E=>?_,?_⟩⟩
 .obtain⟨A,u,D,o⟩:=z.2.2.1 h hm;refine⟨λ_=>by simp[u,D],⟨λ_=>?_,λ_=>u⟩,λk=>by rw[A]at k;exact absurd k (by decide)⟩;rw[<-a.1]at o;obtain⟨x,hx,e⟩:=gm.1 o;obtain⟨y,r⟩:=H0 hx;rw[<-e];exact⟨y,r,(a.2 y (qz r).1).1⟩
 .have:=qz E;refine⟨λ_=>z.2.2.2 s (by rw[<-a.1,<-this.2];exact pg this.1),λk=>?_⟩;rw[(a.2 e this.1).1]at k;cases k
 .exact List.pairwise_iff_getElem.2 λi I hi B G e w=>by rw[(a.2 _ (EE B)).2]at w;cases w
end
theorem P5(d:bl)(h:d.eD.length<4294967296):yn d=some (fv d):=by unfold yn fv;congr 1;rw[bg (x:=1+(d.eD.length:Int)) (by omega) (by omega),bg (by omega) (by omega)];split<;>omega
theorem U3(o:sw)(s:fT)(j:List fj)(rest:List bl)(hc:cz o.N.J)(O:jF s)(G:s.ca<o.N.J.K)(U:∀f∈j,jK o.N.J f.bl)(ae:g9 j<=o.N.J.K)(w:sY o.N.J rest):
  T (B4 o s j rest) (λr=>r.2=true->(∃a q t,r.1=⟨a,q,t,0,[]⟩/\gS a/\gS q/\0<=t/\t<o.N.J.K)/\(rest.length:Int)<=o.N.J.aE):=by
 unfold B4;have al:=iZ hc;have ak:=hc.2.1;have z:∀(l:List fj),(l.length:Int)<=g9 l:=by
  intro l;induction l with
  |nil=>simp[g9]
  |cons f l L=>have:=IE f.bl;unfold g9 at L|-;simp;omega
 have af:=z j;refine aS (bN (λq=>0<=q.2/\q.2<=j.length/\0<=q.1/\q.1+g9 (j.drop q.2.toNat)=g9 j) (λq=>(j.length - q.2).toNat) (λ⟨D,s2⟩ u=>?_) (by simp) (by unfold aP;dsimp only;omega));obtain⟨q1,q2,q3,q4⟩:=u;dsimp only at q1 q2 q3 q4;unfold KF;refine aj (λq=>?_) λq=>bu ?_
 .have q:=of_decide_eq_true q;refine ar ⟨q1,q⟩ λx hx=>?_;have hd:=U _ hx.2.1;have:=kT hd.1.2.2.1 (by have:=hc.1;omega);rw[P5 _ (by omega),bo,bg (x:=s2+1) (by omega) (by omega)];rw[hx.2.2]at q4;have e:g9 (x::j.drop (s2+1).toNat)=fv x.bl+g9 (j.drop (s2+1).toNat):=by unfold g9;simp
  rw[e]at q4;have Z:=IE x.bl;have ag:=z (j.drop (s2+1).toNat);rw[bg (x:=D+fv x.bl) (by omega) (by omega)];exact bF ⟨by dsimp only;omega,by dsimp only;omega,by dsimp only;omega,by dsimp only;omega⟩ (by dsimp only;omega)
 .have q: ¬s2<j.length:=by simpa using q
  rw[kN (by omega)]at q4;have e:g9 []=0:=rfl;rw[e]at q4;refine bQ (Q:=λ_=>True) (bN (λq=>0<=q.2/\q.2<=rest.length) (λq=>(rest.length - q.2).toNat) (λ⟨aa,E⟩ u=>?_) (by simp) (by unfold aP;have:=w.1;dsimp only;omega)) λY _=>?_
  .obtain⟨B,p2⟩:=u;dsimp only at B p2;have:=w.1;unfold Pk;refine aj (λp=>?_) λp=>bu trivial;have p:=of_decide_eq_true p;refine ar ⟨B,p⟩ λx hx=>?_;have:=kT (w.2.2 _ hx.2.1).1.1.2.2.1 (by have:=hc.1;omega);rw[P5 _ (by omega),bo,bg (x:=E+1) (by omega) (by omega)];exact bF ⟨by dsimp only;omega,by dsimp only;omega⟩ (by dsimp only;omega)
  .refine ar ⟨by omega,by omega,O.2.2.1,G,q3,by omega⟩ λW A=>ar trivial λX C=>ax λk=>?_;simp at k;rcases C with⟨_,I,S,V,ad,ac⟩|h
   .exact⟨⟨_,_,_,I,S,V,A.2.2.1,A.2.2.2⟩,k.2⟩
   .omega
section
variable{x1:J×X×Bool×Int}{rest:List bl}{ds:List aU}{back:Bool}
theorem LS{e:Int}(a:e≠0)(j48 j49:UInt32)(j50 j51:Int)(r:List j)(w:UInt32)(u:Int)(q:Bool)(j58 j59:Int)(j60 j61:Bool)(o:List cd):T (ru back x1 rest j48 j49 j50 j51 r (w,u,q,j58,j59,j60,j61,o,e)) (pN ds):=by unfold ru wj wF;exact aj (λk=>absurd (by simpa using k) a) λ_=>aj (λ_=>ax λk=>absurd k a) λk=>absurd (by simpa using k) a
theorem Ma{e:Int}(o:e≠0)(a b:List cd)(j1 j2:UInt32)(j3 j4:Int)(q:List j):T (pO back x1 rest a (b,e,j1,j2,j3,j4,q)) (pN ds):=by unfold pO C8 uL;exact aj (λk=>absurd (by simpa using k) o) λ_=>aj (λ_=>LS o ..) λk=>absurd (by simpa using k) o
theorem rk{c:J}{a b:List cd}(o:∀x∈a,eX c x)(j:∀x∈b,eX c x):∀x∈a++b,eX c x:=λx hx=>(dx.1 hx).elim (o x) (j x)
theorem Yd(O:fq x1.1 ds/\jA x1.1 x1.2.1/\x1.2.1.cn=false/\x1.2.1.cO=false/\iB x1.1 x1.2.1 ds)(I:sY x1.1 rest)(Q:(rest.length:Int)<=x1.1.aE){a b:List cd}(G:∀x∈a,eX x1.1 x)(aa:a.length<=6000)(N:∀x∈b,eX x1.1 x)(Z:b.length<=5000){j1 j2:UInt32}{j3 j4:Int}{r:List j}
  (K:gk x1.1 ⟨j1,j2,j3,j4,r⟩)(E:Gl (rest.map (·.L)) r):T (pO back x1 rest a (b,0,j1,j2,j3,j4,r)) (pN ds):=by
 unfold pO C8 uL FK Ga;obtain⟨A,W,S,z,U⟩:=O;have hc:=A.1;have ad:=hc.2.1;refine aj (λ_=>ar (by omega) λY q=>aj (λk=>by cases k) λ_=>ar ⟨hc,W,z⟩ λo C=>?_) λk=>by cases k
 rcases C with⟨e0,e1,e2,e3,D⟩|ae
 .rw[e0];refine aj (λ_=>ar (by rw[q];simp;omega) λX u=>?_) λk=>by cases k
  unfold ru Hp wj wF;refine aj (λ_=>bQ (ZF hc I Q) λac B=>aj (λk=>by cases k) λ_=>ax λ_=>?_) λk=>by cases k
  have V:o.1.cO=false:=by rw[e1];exact z
  have J:o.1.cn=false:=by rw[e1];exact S
  refine⟨opened (c:=x1.1) ⟨hc,e2,V,B.1,K,rfl,rfl⟩ J B E,A,(by dsimp only;rw[e1];exact U),?_,?_⟩
  .dsimp only;rw[u,q];exact rk (rk G N) D
  .dsimp only;rw[u,q];simp;omega
 .have w:o.2.2≠0:=by omega
  exact aj (λk=>absurd (by simpa using k) w) λ_=>LS w ..
theorem Pm(S:fq x1.1 ds/\jA x1.1 x1.2.1/\x1.2.1.cn=false/\x1.2.1.cO=false/\iB x1.1 x1.2.1 ds)(z:sY x1.1 rest)(an:(rest.length:Int)<=x1.1.aE){a b:List cd}(ac:∀x∈a,eX x1.1 x)(aa:a.length<=6000)(ak:∀x∈b,eX x1.1 x)(aA:b.length<=1){g:K×Bool}{w:List UInt8×Int}(Y:w.1.length=128)
  {ga gq:UInt32}{Q:Int}(ag:g.1=⟨ga,gq,Q,0,[]⟩)(Z:gk x1.1 ⟨ga,gq,Q,0,[]⟩):T (wK back x1 rest a g w b) (pN ds):=by
 unfold wK;have hc:=S.1.1;have aG:=hc.2.1;have hm:=hc.1;have ao:=iZ hc;have aC:=z.1;rw[ag];have one:∀(k:UInt8) (at_:Int) (d:List UInt8),(k=3/\at_=0/\d.length=0)\/((k=1\/k=2)/\0<=at_/\at_<x1.1.K+1/\dp d)->∀x∈[cd.mk x1.1.aw k at_ d],eX x1.1 x:=λk at_ d h x hx=>by rw[dz.1 hx];refine⟨by dsimp only;omega,by dsimp only;omega,?_⟩;unfold jy;dsimp only;rw[if_pos rfl];exact h
 have U:(rest.map (·.L)).length=rest.length:=by simp
 refine aS (bN (λs=>0<=s.2.1/\s.2.1<=rest.length/\gk x1.1 ⟨s.2.2.1,s.2.2.2.1,s.2.2.2.2.1,s.2.2.2.2.2.1,s.2.2.2.2.2.2⟩/\Gl ((rest.map (·.L)).take s.2.1.toNat) s.2.2.2.2.2.2/\(∀x∈s.1,eX x1.1 x)/\(s.1.length:Int)<=1+17 * s.2.1) (λs=>(rest.length - s.2.1).toNat) (λ⟨W,C,I,N,D,B,s141⟩ al=>?_) ⟨by simp,by simp,Z,⟨by simp,by simp⟩,ak,by dsimp only;omega⟩ (by unfold aP;dsimp only;omega));obtain⟨q1,q2,q3,q4,q5,q6⟩:=al;dsimp only at q1 q2 q3 q4 q5 q6;unfold MX;refine aj (λq=>?_) λq=>bu (T.inr ?_)
 .have q:=of_decide_eq_true q;refine ar ⟨q1,q⟩ λu J=>?_;obtain⟨⟨hd,az⟩,af⟩:=z.2.2 _ J.2.1;refine ar ⟨hc,q3,hd⟩ λV X=>aj (λk=>bu (T.inl (Ma (by simpa using k) ..))) λk=>?_;have k:V.2.2=0:=by simpa using k
  rcases X with⟨_,e1,e2,e3,aF,ad⟩|h
  .rw[bg (x:=C+1) (by omega) (by omega)];refine ar (by omega) λaq G=>bF ⟨by dsimp only;omega,by dsimp only;omega,e2,?_,by dsimp only;rw[G];exact rk q5 ad,by dsimp only;rw[G];simp;omega⟩ (by dsimp only;omega);dsimp only;rw[e1];refine⟨?_,λx hx=>?_⟩
   .show(s141++[ji _ u]).map (·.L)=_;rw[mm,q4.1,take_at (x:=u.L) (by rw[lG,J.1];rfl) q1];rfl
   .have hx:x∈s141++[ji ⟨I,N,D,B,s141⟩ u]:=hx;rcases dx.1 hx with h|h
    .exact q4.2 x h
    .rw[dz.1 h];exact⟨by unfold ji;dsimp only;rw[af];rfl,rfl⟩
  .omega
 .have q: ¬C<rest.length:=by simpa using q
  rw[kS (by rw[U];omega)]at q4;have O:∀o:List cd,(∀x∈o,eX x1.1 x)->o.length<=4990->T (xZ back x1 rest a w (W,I,N,D,B,s141) o) (pN ds):=λj ae aB=>by
   unfold xZ;refine ar ⟨hc,q3⟩ λay r=>ar (by simp;omega) λav A=>?_;rw[r.1];refine Yd S z an ac aa (by rw[A];exact rk ae (one 2 0 w.1 (.inr ⟨.inr rfl,by omega,by omega, .inr Y⟩))) (by rw[A];simp;omega) r.2.2 ?_;rw[r.2.1];dsimp only;refine⟨?_,λx hx=>?_⟩
   .rw[<-q4.1,vi];rfl
   .obtain⟨y,am,rfl⟩:=gm.1 hx;exact q4.2 y am
  refine aj (λ_=>ar (by simp;omega) λap E=>O _ ?_ ?_) λ_=>O _ q5 (by dsimp only;omega)
  .rw[E];exact rk q5 (one 3 0 [] (.inl ⟨rfl,rfl,rfl⟩))
  .rw[E];simp;omega
theorem Tm(u:fq x1.1 ds/\jA x1.1 x1.2.1/\x1.2.1.cn=false/\x1.2.1.cO=false/\iB x1.1 x1.2.1 ds){j:fT×(List fj)×Int}(o:jF j.1/\j.1.ca<x1.1.K/\(j.2.1.length:Int)<=g9 j.2.1/\g9 j.2.1<=x1.1.K/\∀f∈j.2.1,jK x1.1 f.bl)(r:sY x1.1 rest){a:List cd}(C:∀x∈a,eX x1.1 x)(B:a.length<=6000):
  T (wY back x1 j (rest,a,0)) (pN ds):=by
 unfold wY;have hc:=u.1.1;have L:=iZ hc;have hm:=hc.1;refine aj (λk=>by cases k) λ_=>bQ (U3 _ _ _ _ hc o.1 o.2.1 o.2.2.2.2 o.2.2.2.1 r) λq I=>aj (λ_=>Ma (by decide) ..) λk=>?_;obtain⟨⟨ga,S,Q,e,D,g2,g3,g4⟩,w⟩:=I (by simpa using k);dsimp only at g4 w;have E:=Ol hc D g2 g3 g4;refine ar trivial λG N=>?_;have O:jF ⟨x1.1.Id,q.1.bR,q.1.Seq,q.1.ca⟩:=by rw[e];exact⟨D,g2,g3,by dsimp only;omega⟩
 refine aj (λk=>by grind) λ_=>?_;have A:G.1.length=128:=by grind
 refine aj (λ_=>ar (by simp) λJ z=>Pm u r w C B (by rw[z,e];intro x hx;simp at hx;rw[hx,bg (by omega) (by omega)];refine⟨by dsimp only;omega,by dsimp only;omega, .inr ⟨.inr rfl,by dsimp only;omega,?_, .inl rfl⟩⟩;unfold jy;dsimp only;rw[if_pos rfl];omega) (by rw[z];simp) A e E) λ_=>Pm u r w C B (by simp) (by simp) A e E
end
theorem Sy(ds:List aU)(n:Int)(back:Bool)(hd:jH ds)(ad:4<=ds.length):T (Dr ds n back) (pN ds):=by
 unfold Dr;refine ar ⟨hd,ad⟩ λx1 ae=>aj (λk=>ax λe=>absurd e (by simpa using k)) λk=>?_;obtain⟨o,w,ac,u,ao,I⟩:=ae (by simpa using k);have hc:=o.1;have hm:=hc.1;have ap:=hc.2.1;have aa:fq x1.1 ds/\jA x1.1 x1.2.1/\x1.2.1.cn=false/\x1.2.1.cO=false/\iB x1.1 x1.2.1 ds:=⟨o,w,ac,u,I⟩;refine ar ⟨by omega,by have:=o.2.1;omega⟩ λV X=>?_;have Q:F_ x1.1 V:=by have:=o.2.2 _ _ X.1;refine⟨this.1,?_⟩;rw[this.2];unfold jy;rw[if_pos (by omega)]
 refine ar ⟨hc,Q⟩ λW Z=>aj (λ_=>aj (λ_=>ax λe=>by cases e) λ_=>?_) λk=>?_
 .refine aS (show T (ue 1 1 0) _ from⟨(⟨1,1,0,0,[]⟩,0),rfl,?_⟩);have J:=iZ hc;have G:gS 1:=⟨by decide,by decide⟩;refine ar ⟨hc,w,u⟩ λr L=>?_;unfold EH Jn DW AA;dsimp only;rcases L with⟨e0,e1,e2,e3,N⟩|aq
  .rw[e0];refine aj (λ_=>ar (by simp;omega) λam D=>aj (λk=>by cases k) λ_=>ax λ_=>?_) λk=>by cases k
   have af:r.1.cO=false:=by rw[e1];exact u
   have S:r.1.cn=true:=by rw[e1]
   refine⟨⟨⟨hc,e2,af,⟨by have:=hc.2.2.2.2.2.2.1;simp;omega,by simp,by simp⟩,Ol hc G G (by omega) (by omega),rfl,rfl⟩,λ_=>⟨rfl,rfl⟩,λk=>(by dsimp only at k;rw[S]at k;cases k)⟩,o,(by dsimp only;rw[e1];exact I),?_,?_⟩
   .dsimp only;rw[D];exact N
   .dsimp only;rw[D];simp;omega
  .have q:r.2.2≠0:=by omega
   exact aj (λk=>absurd (by simpa using k) q) λ_=>aj (λ_=>ax λk=>absurd k q) λk=>absurd (by simpa using k) q
 .obtain⟨U,s2,s3,Y,E⟩:=Z (by simpa using k);have J:=iZ hc;refine ar ⟨hc,w,by omega,E⟩ λz j=>?_;have C:∀a:List cd,(∀x∈a,eX x1.1 x)->a.length<=5900->T (yc back x1 W (a,z.2.2,z.2.1)) (pN ds):=λa O an=>by unfold yc FH;rw[j.1];exact aj (λ_=>ar (by simp;omega) λak A=>Tm aa ⟨U,s2,s3,Y,E⟩ j.2.2.2 (by rw[A];exact O) (by rw[A];simp;omega)) λk=>by cases k
  refine aj (λ_=>ar hc λag K=>ar (by have:=j.2.1;omega) λal B=>C _ ?_ ?_) λ_=>C _ j.2.2.1 (by have:=j.2.1;omega)
  .rw[B];exact rk j.2.2.1 K.2.2
  .have:=j.2.1;rw[B];simp;omega
theorem T.eq{α:Type}{x:Option α}{a:α}(h:T x λr=>r=a):x=some a:=by obtain⟨r,e,rfl⟩:=h;exact e
instance(l:List aM) (f:aM->Option Bool):Sp (wG l f) (l.length<4294967296/\∀x∈l,T (f x) λ_=>True) (nG l f)where
 h h:=T.vd (Sp.h h)
instance(l:List dq) (f:dq->Option Bool):Sp (tq l f) (l.length<4294967296/\∀x∈l,T (f x) λ_=>True) (lq l f)where
 h h:=T.index h
instance(l:List dq) (f:dq->Option Bool):Sp (DB l f) (l.length<4294967296/\∀x∈l,T (f x) λ_=>True) (nG l f)where
 h h:=T.vd (Sp.h h)
theorem Ge{c:J}(hc:cz c):oi c []=some 0:=T.eq (by unfold oi;refine ar trivial λx1 a=>aj (λk=>by simp at k;grind) λ_=>aS (bN (λs=>s=0) (λ_=>0) (λs j=>?_));unfold Pn;exact aj (λk=>by simp at k;omega) λ_=>bu (ax rfl))
theorem P9:mO []=some []:=T.eq (by unfold mO;refine aS (bN (λs=>s=([],0)) (λ_=>0) (λs a=>?_));subst a;unfold xK;exact bu (ax rfl))
def Xm:j:=⟨0,0,0,false,false,false⟩
theorem PA(d:N)(s:Int)(r:d.K.j.length<4294967296):yG d s=some (match eK d.K.j s with|some x=>(x,true)|none=>(Xm,false)):=T.eq (by
 unfold yG Ik;rw[bg (x:=(d.K.j.length:Int) - 1) (by omega) (by omega)];refine aS (bN (λk=> -1<=k/\k<d.K.j.length/\∀y∈d.K.j.drop (k+1).toNat,y.L≠s) (λk=>(k+1).toNat) (λk o=>?_) ⟨by omega,by omega,by rw[kN (by omega)];simp⟩ (by unfold aP;omega));obtain⟨q1,q2,q3⟩:=o;unfold Np;refine aj (λq=>?_) λq=>bu (T.inr (ax ?_))
 .have q:=of_decide_eq_true q;refine ar ⟨q,q2⟩ λx hx=>aj (λe=>bu (T.inl (ax ?_))) λe=>?_
  .have e:x.L=s:=by simpa using e
   have:eK d.K.j s=some x:=yP none hx.1 e (by rw[show k.toNat+1=(k+1).toNat by omega];exact q3);rw[this]
  .have e:x.L≠s:=by simpa using e
   rw[bg (x:=k - 1) (by omega) (by omega)];refine bF ⟨by omega,by omega,λy a=>?_⟩ (by omega);rw[show k - 1+1=k by omega,hx.2.2]at a;rcases fp.1 a with rfl|a
   .exact e
   .exact q3 y a
 .have:k= -1:=by simp at q;omega
  subst this;have:eK d.K.j s=none:=Od none (by simpa using q3);rw[this];rfl)
theorem M1{l:List j}(G:l.length<4294967296)(h:Lg l):wD l=some false:=T.eq (by
 unfold wD;refine aS (bN (λs=>0<=s.1/\s.1<=l.length/\∀t,(fU s.2 t).getD 0>0->∃(i:Nat) (y:j),(i:Int)<s.1/\l[i]? =some y/\y.L=t/\y.cH=false) (λs=>(l.length - s.1).toNat) (λ⟨o,s2⟩ z=>?_) ⟨by simp,by simp,λt k=>by simp[fU]at k⟩ (by unfold aP;dsimp only;omega));obtain⟨q1,q2,q3⟩:=z;dsimp only at q1 q2 q3;unfold L7 CW;refine aj (λq=>?_) λq=>bu (ax rfl);have q:=of_decide_eq_true q;refine ar ⟨q1,q⟩ λx hx=>?_;rw[bg (x:=o+1) (by omega) (by omega)];refine aj (λe=>bF ⟨by dsimp only;omega,by dsimp only;omega,λt k=>?_⟩ (by dsimp only;omega)) λe=>aj (λk=>?_) λ_=>bF ⟨by dsimp only;omega,by dsimp only;omega,λt k=>?_⟩ (by dsimp only;omega)
 .dsimp only at k|-;rw[JI]at k;by_cases e':t=x.L
  .exact⟨o.toNat,x,by omega,hx.1,e'.symm,by simpa using e⟩
  .rw[if_neg e']at k;obtain⟨i,y,r,a⟩:=q3 t k;exact⟨i,y,by omega,a⟩
 .exfalso;obtain⟨i,y,r,a,A,u⟩:=q3 _ (of_decide_eq_true k);have E:x.cH=true:=by simpa using e
  obtain⟨D,B⟩:=cy.1 a;obtain⟨w,C⟩:=cy.1 hx.1;have:=List.pairwise_iff_getElem.1 h i o.toNat D w (by omega);rw[B,C]at this;rw[this A E]at u;cases u
 .dsimp only at k|-;obtain⟨i,y,r,a⟩:=q3 t k;exact⟨i,y,by omega,a⟩)
section
variable{d:N}(hi:Inv d)
include hi
theorem Inv.uN:d.K.j.length<300:=by have h:=hi.1.2.2.2.2.1.1.2.2.2.2.1;have:=iZ hi.1.1;omega
theorem oT:ku d=some d:=by have o:=hi.uN;obtain⟨⟨hc,_,_,j,_,a,_⟩,_⟩:=hi;unfold ku;rw[LA hc j,bo,xT (by omega),bo,a,P9,bo,<-a]
theorem mB:jU d=some 0:=T.eq (by
 have aO:=hi.uN;obtain⟨⟨hc,az,aF,A,av,ad,ay⟩,ae,Y⟩:=hi;have aL:d.J.aE<=8:=hc.2.2.2.2.2.2.2.1;have aA:=A.1;unfold jU;have e1:D0 d=some true:=T.eq (by
  unfold D0;refine ar trivial λx1 aH=>?_;have:x1=0:=by grind
  subst this;refine ar (λ_=>⟨hc,az⟩) λI S=>?_;have:I=0:=S rfl;subst this;rw[Ih hc A];refine ar (λ_=>trivial) λO G=>?_;have:O=0:=G rfl;subst this;refine ar (λ_=>⟨hc,av⟩) λW Q=>?_;have:W=0:=Q rfl;subst this;rw[ad,Ge hc];refine ar (λ_=>trivial) λan aq=>?_;have:an=0:=aq rfl;subst this;refine ar (λ_=>⟨by simp,by simp⟩) λaI ac=>ax ?_;rw[ay]at ac|-;rcases ac rfl with⟨_,x,hx,_⟩|⟨h,_⟩
  .cases hx
  .rw[h];rfl)
 have e2:B0 d=some true:=T.eq (by unfold B0;refine aS (bN (λs=>s=0) (λ_=>0) (λs A=>?_));unfold Om;rw[ad];exact aj (λk=>by simp at k;omega) λ_=>bu (ax rfl))
 have e3:wD d.K.j=some false:=by
  cases hN:d.X.cn with
  |true=>rw[(ae hN).2];exact M1 (by simp) List.Pairwise.nil
  |false=>exact M1 (by omega) (Y hN).2.2
 rw[e1,bo,e2];refine ar (λ_=>trivial) λI S=>?_;have:I=true:=S rfl;subst this;rw[e3];refine ar (λ_=>trivial) λO G=>?_;have:O=false:=G rfl;subst this;refine aj (λk=>by cases k) λ_=>aj (λhN=>?_) λhN=>?_
 .obtain⟨U,V⟩:=ae hN;rw[U,V];refine ar (λ_=>⟨by simp,by simp⟩) λW Q=>aj (λk=>?_) λ_=>ax rfl;rcases Q rfl with⟨_,x,hx,_⟩|⟨h,_⟩
  .cases hx
  .rw[h]at k;cases k
 .obtain⟨U,V,aM⟩:=Y hN;refine aS (bN (λs=>0<=s.1/\s.1<=d.aE.length/\∀(u:Nat) h,(u:Int)<s.1->d.aE[u]? =some h->fU s.2 h.L=some h.aG) (λs=>(d.aE.length - s.1).toNat) (λ⟨z,ao⟩ E=>?_) ⟨by simp,by simp,λu h k=>by simp at k;omega⟩ (by unfold aP;dsimp only;omega));obtain⟨q1,q2,q3⟩:=E;dsimp only at q1 q2 q3;unfold Lm;refine aj (λq=>?_) λq=>bu ?_
  .have q:=of_decide_eq_true q;refine ar ⟨q1,q⟩ λa C=>?_;have w:BK d a=some true:=T.eq (by
    unfold BK;obtain⟨aJ,D,Z⟩:=U a C.2.1;rw[PA d _ (by omega),bo];simp only[Kg];cases e:eK d.K.j a.L with
    |none=>
     have hd:a.cG=false:=by
      cases hd:a.cG with
      |false=>rfl
      |true=>obtain⟨x,hx,_⟩:=D.1 hd;rw[e]at hx;cases hx
     have o:a.aG.toNat<=1:=by
      rcases mh 1 a.aG.toNat with h|h
      .obtain⟨x,hx,_⟩:=Z h;rw[e]at hx;cases hx
      .exact h
     refine aj (λk=>by rw[hd]at k;cases k) λ_=>ax ?_;simp;omega
    |some x=>
     refine aj (λk=>?_) λ_=>ax ?_
     .exfalso;dsimp only at k;rw[e]at D;cases hd:a.cG with
      |false=>
       rw[hd]at k;have o:x.bP=false:=by simpa using k
       rw[D.2 ⟨x,rfl,o⟩]at hd;cases hd
      |true=>
       obtain⟨y,B,o⟩:=D.1 hd;rw[<-Option.some.inj B]at o;rw[hd,o]at k;cases k
     .dsimp only;rcases mh 1 a.aG.toNat with h|h
      .obtain⟨y,B,am,ap,ak,al⟩:=Z h;rw[e]at B;obtain rfl:=Option.some.inj B;rw[am,ap,ak];have:x.dC=decide ((a.aG.toNat:Int)>((2:Nat):Int)):=by rw[nU,al];simp;omega
       rw[this];simp
      .have:decide ((a.aG.toNat:Int)<=((1:Nat):Int))=true:=by simp;omega
       rw[this];rfl)
   rw[w,bo,bg (x:=z+1) (by omega) (by omega)];refine aj (λk=>by cases k) λ_=>bF ⟨by dsimp only;omega,by dsimp only;omega,λu h N r=>?_⟩ (by dsimp only;omega);dsimp only;rw[JI];by_cases e:h.L=a.L
   .rw[if_pos e];have:=q_ A.2.2 r C.1 e;rw[this,C.1]at r;rw[Option.some.inj r]
   .rw[if_neg e];refine q3 u h ?_ r;dsimp only at N;have:(u:Int)≠z:=λaN=>by
     have:u=z.toNat:=by omega
     rw[this,C.1]at r;exact e (by rw[Option.some.inj r])
    omega
  .have q: ¬z<d.aE.length:=by simpa using q
   have q3:∀h∈d.aE,fU ao h.L=some h.aG:=λh hm=>by obtain⟨u,N,rfl⟩:=sS hm;exact q3 u _ (by omega) (ek N)
   refine aS (bN (λs=>0<=s/\s<=d.K.j.length) (λs=>(d.K.j.length - s).toNat) (λag E=>?_) (by omega) (by unfold aP;omega));unfold MG;refine aj (λp=>?_) λp=>bu (ax rfl);have p:=of_decide_eq_true p;refine ar ⟨E.1,p⟩ λaB af=>?_;rw[PA d _ (by omega),bo];obtain⟨e,aa⟩:=H0 af.2.1;rw[aa];obtain⟨c1,aw⟩:=V _ e aa;dsimp only;rw[bg (x:=ag+1) (by omega) (by omega)];refine aj (λk=>?_) λ_=>bF (by omega) (by omega);exfalso;simp only[Kg]at k;cases o:e.bP with
   |false=>
    obtain⟨h,hm,w⟩:=c1 o;have:=q3 h hm;rw[w]at this;rw[this,o]at k;simp at k
   |true=>
    cases r:e.cH with
    |true=>rw[o,r]at k;simp at k
    |false=>
     obtain⟨h,hm,w,aC⟩:=aw o r;have:=q3 h hm;rw[w]at this;rw[this,o,r]at k;simp at k;omega)
end
instance(l:List (List UInt8)):Sp (rb l) (l.length<=16/\∀b∈l,dp b) (λr=>r.2=0/\r.1.length=128)where
 h h:=by
  unfold rb;refine aj (λk=>by simp at k;omega) λ_=>aS (bN (λs=>0<=s.1/\s.1<=l.length/\s.2.length=128) (λs=>(l.length - s.1).toNat) (λ⟨u,s2⟩ j=>?_) (by simp) (by unfold aP;dsimp only;omega));obtain⟨q1,q2,q3⟩:=j;dsimp only at q1 q2 q3;unfold Mu Cg;dsimp only;refine aj (λq=>?_) λq=>bu (ax ⟨rfl,q3⟩);have q:=of_decide_eq_true q;rw[bg (x:=u+1) (by omega) (by omega)];refine ar ⟨q1,q⟩ λo w=>aj (λ_=>bF ⟨by dsimp only;omega,by dsimp only;omega,q3⟩ (by dsimp only;omega)) λk0=>aj (λk=>?_) λk=>?_
  .refine aS (bN (λs=>0<=s.1/\s.1<=o.length/\s.2.length=128) (λs=>(o.length - s.1).toNat) (λ⟨z,E⟩ j=>?_) ⟨by simp,by simp,q3⟩ (by unfold aP;simp at k;dsimp only;omega));obtain⟨a,p2,p3⟩:=j;dsimp only at a p2 p3;have k:o.length=128:=by simp at k;omega
   unfold P6;refine aj (λp=>?_) λp=>bu (bF ⟨by dsimp only;omega,by dsimp only;omega,p3⟩ (by dsimp only;omega));have p:=of_decide_eq_true p;rw[bg (x:=z+1) (by omega) (by omega)];exact ar ⟨a,p⟩ λG _=>ar ⟨a,by omega⟩ λB C=>ar (by omega) λA _=>ar ⟨a,by omega⟩ λD _=>bF ⟨by dsimp only;omega,by dsimp only;omega,by dsimp only;simpa using p3⟩ (by dsimp only;omega)
  .have:=h.2 _ w.2.1;unfold dp at this;simp at k0 k;rcases this with h|h
   .exact absurd (List.length_eq_zero_iff.1 h) k0
   .omega
theorem PM(c:J)(ds:List aU)(m s slot:Int)(j:fq c ds)(Y:0<=s)(Z:s<c.bz * c.bb)(V:0<=slot)(X:slot<c.aw)(az: -1<=m)(ap:m<c.aw)(z:∀(i:Nat) d,(i:Int)<c.aw->(i:Int)≠m->ds[i]? =some d->d.dS=false):
  T (vX c ds m s slot) (λr=>r.2=0/\r.1.length=128):=by
 unfold vX;have hc:=j.1;have hm:=hc.1;have ay:=hc.2.1;have ao:=l9 hc;have rd:∀(i:Int) d,0<=i->i<c.aw->i≠m->ds[i.toNat]? =some d->T (oR d (wI (s+1))) (λr=>r.2=0/\r.1.length=128):=λi d am av an E=>by
  have hd:=j.2.2 _ _ E;have Q:jy c ((i.toNat:Nat):Int)=c.bz * c.bb+1:=by unfold jy;rw[if_neg (by omega)]
  have W:=z i.toNat d (by omega) (by omega) E;rw[bg (by omega) (by omega)];exact T.call ⟨hd.1,by omega,by rw[hd.2,Q];omega⟩ λr U=>by
   rcases U with⟨k,_⟩|⟨_,k⟩
   .rw[W]at k;cases k
   .exact k
 refine ar (by have:=j.2.1;omega) λx1 ak=>aj (λk=>by grind) λ_=>ar ⟨hc,Y,Z,V,X⟩ λo u=>aj (λk=>by simp at k;omega) λ_=>?_;have aq:=j.2.1;unfold zH;refine ar (λ_=>⟨u.2.1,by omega⟩) λac G=>aj (λk=>aj (λk=>by cases k) λ_=>?_) λk=>ar ⟨u.2.1,by omega⟩ λS I=>?_
 .have e:o.1=m:=by
   simp at k;rcases k with k|k
   .exact k
   .by_cases e:o.1=m
    .exact e
    .have:=(G (by simpa using e)).1;rw[z _ _ (by omega) (by omega) this]at k;cases k
  unfold FO;refine aS (bN (λq=>0<=q.1/\q.1<=c.aw/\(q.2.length:Int)<=q.1/\∀b∈q.2,b.length=128) (λq=>(c.aw - q.1).toNat) (λ⟨A,al⟩ N=>?_) (by simp;omega) (by unfold aP;dsimp only;omega));obtain⟨q1,q2,q3,q4⟩:=N;dsimp only at q1 q2 q3 q4;unfold Mr zG;dsimp only;refine aj (λq=>?_) λq=>bu (ar ⟨by omega,λb a=> .inr (q4 b a)⟩ λaf O=>ax O);have q:=of_decide_eq_true q;rw[bg (x:=A+1) (by omega) (by omega)];refine aj (λp=>ar (λ_=>⟨q1,by omega⟩) λag w=>?_) λ_=>bF ⟨by dsimp only;omega,by dsimp only;omega,by dsimp only;omega,q4⟩ (by dsimp only;omega);have p:A≠m:=by rw[<-e];simpa using p
  have w:=w (by simpa using p);refine aj (λk=>?_) λ_=>ar ⟨q1,by omega⟩ λL K=>bQ (rd A L q1 q p K.1) λae B=>aj (λk=>by simp[B.1]at k) λ_=>ar (by simp;omega) λad D=>bF ⟨by dsimp only;omega,by dsimp only;omega,by dsimp only;rw[D];simp;omega,λb a=>?_⟩ (by dsimp only;omega)
  .exfalso;have:=z _ _ (by omega) (by omega) w.1;simp[this]at k;exact p k
  .dsimp only at a;rw[D]at a;rcases dx.1 a with h|h
   .exact q4 b h
   .rw[dz.1 h];exact B.2
 .have e:o.1≠m:=by simp at k;exact k.1
  exact bQ (rd o.1 S u.2.1 u.2.2 e I.1) λaa C=>aj (λ_=>ax ⟨rfl,C.2⟩) λk=>by simp[C.1]at k
instance(c:J) (s m:Int):Sp (wZ c s m) (cz c/\0<=s/\s<c.bz * c.bb/\0<=m/\m<c.aw) (λr=>r.2=0/\0<=r.1/\r.1<c.aw)where
 h h:=by unfold wZ Jy;have hm:=h.1.1;have w:=h.1.2.1;refine ar h λx1 j=>aj (λk=>by grind) λ_=>?_;obtain⟨_,e,u,o⟩:=j;refine aS (ar ⟨by rw[e];exact h.1,u,o⟩ λp q=>?_);rw[e]at q|-;rw[bg (x:=m+c.aw) (by omega) (by omega),bg (x:=m+c.aw - p) (by omega) (by omega),bg (by omega) (by omega)];exact ar ⟨by omega,by omega,by omega⟩ λy a=>ax (ax ⟨rfl,a.2.2.2.2.1,a.2.2.2.2.2⟩)
theorem WA{l:List Int}{x:Int}(h:l.length<4294967296):yu l x=some (decide (x∈l)):=T.eq (by
 unfold yu HM;refine aS (aS (bN (λs=>0<=s/\s<=l.length/\decide (x∈l.drop s.toNat)=decide (x∈l)) (λs=>(l.length - s).toNat) (λs j=>?_) (by simp)));obtain⟨q1,q2,q3⟩:=j;unfold Qn;refine aj (λq=>?_) λq=>bu (T.inr (ax (ax ?_)))
 .have q:=of_decide_eq_true q;refine ar ⟨q1,q⟩ λy a=>aj (λe=>bu (T.inl (ax (ax ?_)))) λe=>?_
  .have:x=y:=by simpa using e
   subst this;rw[decide_eq_true a.2.1];simpa using q1
  .have:x≠y:=by simpa using e
   rw[bg (x:=s+1) (by omega) (by omega)];refine bF ⟨by omega,by omega,?_⟩ (by omega);rw[<-q3,a.2.2];simp[this]
 .have q: ¬s<l.length:=by simpa using q
  rw[kN (by omega)]at q3;rw[<-q3];simp)
def g8(h:aM)(k:Nat):List Int:=((m9 k).filter λi=>(h.aJ[i]?.getD []).length==0).map Int.ofNat
def jf(h:aM)(k:Nat):List Int:=((m9 k).filter λi=>h.a_[i]?.getD false).map Int.ofNat
theorem Mz{h:aM}{k:Int}{b:List UInt8}(j:0<=k)(a:h.aJ[k.toNat]? =some b):g8 h (k+1).toNat=if b.length=0 then g8 h k.toNat++[k]else g8 h k.toNat:=by
 unfold g8;rw[show(k+1).toNat=k.toNat+1 by omega,List.range_succ,ph,mm];simp only[jP,sQ,a,Option.getD_some];by_cases e:b.length=0
 .rw[if_pos e,if_pos (by simpa using e)];simp;omega
 .rw[if_neg e,if_neg (by simpa using e)];simp
theorem PU{h:aM}{k:Int}{b:Bool}(j:0<=k)(a:h.a_[k.toNat]? =some b):jf h (k+1).toNat=if b=true then jf h k.toNat++[k]else jf h k.toNat:=by
 unfold jf;rw[show(k+1).toNat=k.toNat+1 by omega,List.range_succ,ph,mm];simp only[jP,sQ,a,Option.getD_some];cases b with
 |true=>simp;omega
 |false=>simp
theorem MF{h:aM}{k:Nat}{x:Int}(hx:x∈g8 h k):0<=x/\x<k/\(h.aJ[x.toNat]?.getD []).length=0:=by obtain⟨i,hi,rfl⟩:=gm.1 hx;obtain⟨j,a⟩:=lH.1 hi;have:=jc.1 j;exact⟨by simp,by simpa using this,by simpa using a⟩
theorem OS{h:aM}{k:Nat}{x:Int}(hx:x∈jf h k):0<=x/\x<k/\h.a_[x.toNat]? =some true:=by
 obtain⟨i,hi,rfl⟩:=gm.1 hx;obtain⟨j,a⟩:=lH.1 hi;have:=jc.1 j;refine⟨by simp,by simpa using this,?_⟩;cases e:h.a_[i]? with
 |none=>rw[e]at a;simp at a
 |some b=>rw[e]at a;simp at a;simp[e,a]
theorem wb(h:aM)(k:Nat):(g8 h k).length<=k:=by unfold g8;rw[sR];exact m5 (qU _ _) (by simp)
theorem vT(h:aM)(k:Nat):(jf h k).length<=k:=by unfold jf;rw[sR];exact m5 (qU _ _) (by simp)
section
variable{c:J}{h:aM}(hc:cz c)(ho:fZ c h)
include hc ho
def JX(c:J)(h:aM)(p:eE):Prop:=(p.bG=1/\p.Reads=[]/\g8 h h.a_.length=[])\/(g8 h h.a_.length≠[]/\((p.bG=2/\p.Reads=g8 h h.a_.length)\/(p.bG=3/\p.Reads=jf h h.a_.length++[c.aw - 1])))
theorem Mc{p:eE}(a:JX c h p):p.Reads.length<=16/\∀x∈p.Reads,0<=x/\x<c.aw:=by
 have j:=hc.2.1;have hm:=hc.1;have hd:=ho.1.2.2.2.1;have l1:=wb h h.a_.length;have l2:=vT h h.a_.length;rcases a with⟨_,e,_⟩|⟨_,⟨_,e⟩|⟨_,e⟩⟩
 .rw[e];simp
 .rw[e];exact⟨by omega,λx hx=>by have:=MF hx;omega⟩
 .rw[e];refine⟨by simp;omega,λx hx=>?_⟩;rcases dx.1 hx with h|h
  .have:=OS h;omega
  .rw[dz.1 h];omega
theorem XJ{m:Int}(w:h.aG=0)(hd:true∈h.a_)(aR: -1<=m)(ay:m<c.aw):T (Cy c h m) (λr=>r.2=0/\JX c h r.1):=by
 unfold Cy;have a1:=hc.2.1;have hm:=hc.1;obtain⟨⟨av,al,aY,a0,A⟩,aU,D,ap,_⟩:=id ho;have l1:=wb h h.a_.length;have l2:=vT h h.a_.length;rw[lN hc ho,bo];refine aj (λk=>by cases k) λ_=>aj (λk=>by simp at k;omega) λ_=>?_;rw[contains_eq (v9 hc ho),w,decide_eq_true hd];refine ar (λ_=>trivial) λaM am=>aj (λk=>by rw[am rfl]at k;cases k) λ_=>?_;refine aS (bN (λs=>0<=s.1/\s.1<=h.a_.length/\s.2.1=g8 h s.1.toNat/\s.2.2=jf h s.1.toNat) (λs=>(h.a_.length - s.1).toNat) (λ⟨s3,z,ad⟩ u=>?_) ⟨by simp,by simp,rfl,rfl⟩ (by unfold aP;dsimp only;omega));obtain⟨q1,q2,q3,q4⟩:=u;dsimp only at q1 q2 q3 q4;unfold Kk Cb CH;dsimp only;rw[bg (x:=s3+1) (by omega) (by omega)];have aQ:=wb h s3.toNat;have aL:=vT h s3.toNat;refine aj (λq=>?_) λq=>bu ?_
 .have q:=of_decide_eq_true q;refine ar ⟨q1,q⟩ λan ao=>?_;have N:=PU q1 ao.1;have E:∀l,l=jf h (s3+1).toNat->∀P,T (ab (idx h.aJ s3) λG=>(bif(((G).length:Int)==(0:Int))then ab (app z ([s3])) (λJ=>some (ak.next (s3+1,J,l)))else some (ak.next (s3+1,z,l))):Option (ak (Int×(List Int)×(List Int)) ((List Int)×(List Int)))) (LP (λs=>0<=s.1/\s.1<=h.a_.length/\s.2.1=g8 h s.1.toNat/\s.2.2=jf h s.1.toNat) (λs=>(h.a_.length - s.1).toNat) P (s3,z,ad)):=λl O P=>by
   refine ar ⟨q1,by omega⟩ λG ac=>?_;have K:=Mz q1 ac.1;refine aj (λk=>ar (by rw[q3];simp;omega) λJ V=>bF ⟨by dsimp only;omega,by dsimp only;omega,?_,O⟩ (by dsimp only;omega)) λk=>bF ⟨by dsimp only;omega,by dsimp only;omega,?_,O⟩ (by dsimp only;omega)
   .dsimp only;rw[V,K,if_pos (by simp at k;rw[k];rfl),q3]
   .dsimp only;rw[K,if_neg (by intro e;rw[e]at k;simp at k),q3]
  refine aj (λe=>ar (by rw[q4];simp;omega) λaE X=>E _ ?_ _) λe=>E _ ?_ _
  .rw[X,N,if_pos e,q4]
  .rw[N,if_neg (by rw[e];simp),q4]
 .have:s3=h.a_.length:=by simp at q;omega
  subst this;rw[show((h.a_.length:Nat):Int).toNat=h.a_.length from rfl]at q3 q4;subst q3 q4;dsimp only;refine aj (λk=>ax ⟨rfl, .inl ⟨rfl,rfl,by simpa using k⟩⟩) λk=>?_;have aa:g8 h h.a_.length≠[]:=by simpa using k
  rw[bg (x:=c.aw - 1) (by omega) (by omega)];refine ar (by simp;omega) λaI W=>bQ (Q:=λx=>True) (by unfold E';exact aj (λ_=>ax trivial) λk=>ar ⟨hc,av,al,by simp at k;omega,ay⟩ λ_ _=>ax trivial) λo _=>?_
  subst W;have I:∀p∈([⟨2,g8 h h.a_.length⟩,⟨3,jf h h.a_.length++[c.aw - 1]⟩]:List eE),p.Reads.length<4294967296:=by intro p w;simp at w;rcases w with rfl|rfl<;>simp<;>omega
  have U:T (D9 o [⟨2,g8 h h.a_.length⟩,⟨3,jf h h.a_.length++[c.aw - 1]⟩]) (λr=>r=([⟨2,g8 h h.a_.length⟩,⟨3,jf h h.a_.length++[c.aw - 1]⟩]:List eE).filter λp=> !decide (o∈p.Reads)):=by
   unfold D9;obtain⟨L,S⟩:∃L:List eE,L=[⟨2,g8 h h.a_.length⟩,⟨3,jf h h.a_.length++[c.aw - 1]⟩]:=⟨_,rfl⟩;rw[<-S]at I|-;have aC:L.length=2:=by rw[S];rfl
   refine aS (bN (λs=>0<=s.2/\s.2<=L.length/\s.1=(L.take s.2.toNat).filter λp=> !decide (o∈p.Reads)) (λs=>(L.length - s.2).toNat) (λ⟨ae,s2⟩ u=>?_) ⟨by simp,by simp,by simp⟩ (by unfold aP;dsimp only;omega));obtain⟨a,p2,p3⟩:=u;dsimp only at a p2 p3;unfold MV DO;dsimp only;rw[bg (x:=s2+1) (by omega) (by omega)];refine aj (λp=>?_) λp=>bu (ax ?_)
   .have p:=of_decide_eq_true p;refine ar ⟨a,p⟩ λaN A=>?_;rw[WA (I _ A.2.1),bo];have az:ae.length<=2:=by rw[p3];exact m5 (qU _ _) (by simp;omega)
    refine aj (λe=>ar (by simp;omega) λaZ D=>bF ⟨by dsimp only;omega,by dsimp only;omega,?_⟩ (by dsimp only;omega)) λe=>bF ⟨by dsimp only;omega,by dsimp only;omega,?_⟩ (by dsimp only;omega)
    .dsimp only;rw[take_at A.1 a,ph,D,p3,jP,if_pos e,sQ]
    .dsimp only;rw[take_at A.1 a,ph,p3,jP,if_neg (by rw[e];simp),sQ,jb]
   .have: ¬s2<L.length:=by simpa using p
    rw[kS (by omega)]at p3;exact p3
  refine bQ U λj B=>?_;have aF:1<=j.length:=by
   rw[B];simp only[jP,sQ];by_cases e1:o∈g8 h h.a_.length
   .have e2: ¬o∈jf h h.a_.length++[c.aw - 1]:=λe=>by
     have C:=MF e1;rcases dx.1 e with e|e
     .have aq:=OS e;obtain⟨b,af,ag⟩:=D _ aq.2.2;rw[af]at C;exact ag (by simpa using C.2.2)
     .rw[dz.1 e]at C;omega
    simp[e2];split<;>simp
   .simp[e1]
  refine aS ?_;unfold Iq E1;have aA:j.length<=2:=by rw[B];exact m5 (qU _ _) (by simp)
  refine aj (λk=>by simp at k;omega) λ_=>ar ⟨by omega,by omega⟩ λx1 Z=>?_;refine aS (bN (λs=>1<=s.1/\s.1<=j.length/\eE.mk s.2.1 s.2.2∈j) (λs=>(j.length - s.1).toNat) (λ⟨s2,aB,z⟩ u=>?_) ⟨by simp,by dsimp only;omega,Z.2.1⟩ (by unfold aP;dsimp only;omega));obtain⟨a,p2,p3⟩:=u;dsimp only at a p2 p3;unfold Of Cr;dsimp only;rw[bg (x:=s2+1) (by omega) (by omega)];refine aj (λp=>?_) λp=>bu (ax (ax ⟨rfl, .inr ⟨aa,?_⟩⟩))
  .have p:=of_decide_eq_true p;refine ar ⟨by omega,p⟩ λaO ap=>bQ (Q:=λ_=>True) (by unfold H_ JA cmp_isNaN_int;exact T.go) λan _=>aj (λ_=>ar ⟨by omega,p⟩ λaH Y=>bF ⟨by dsimp only;omega,by dsimp only;omega,Y.2.1⟩ (by dsimp only;omega)) λ_=>bF ⟨by dsimp only;omega,by dsimp only;omega,p3⟩ (by dsimp only;omega)
  .rw[B]at p3;have:=(lH.1 p3).1;simp only[fp,vl,or_false]at this;rcases this with e|e
   .exact .inl (by dsimp only;injection e with e1 e2;exact⟨e1,e2⟩)
   .exact .inr (by dsimp only;injection e with e1 e2;exact⟨e1,e2⟩)
theorem KW:p' h=some (g8 h h.a_.length):=T.eq (by
 unfold p';obtain⟨⟨D,w,A,E,a⟩,_⟩:=ho;have C:=hc.2.1;refine aS (bN (λs=>0<=s.2/\s.2<=h.a_.length/\s.1=g8 h s.2.toNat) (λs=>(h.a_.length - s.2).toNat) (λ⟨z,s2⟩ r=>?_) ⟨by simp,by simp,rfl⟩ (by unfold aP;dsimp only;omega));obtain⟨q1,q2,q3⟩:=r;dsimp only at q1 q2 q3;have G:=wb h s2.toNat;unfold BU A6;dsimp only;rw[bg (x:=s2+1) (by omega) (by omega)];refine aj (λq=>?_) λq=>bu (ax ?_)
 .have q:=of_decide_eq_true q;refine ar ⟨q1,by omega⟩ λB a=>?_;have j:=Mz q1 a.1;refine aj (λk=>ar (by rw[q3];simp;omega) λu o=>bF ⟨by dsimp only;omega,by dsimp only;omega,?_⟩ (by dsimp only;omega)) λk=>bF ⟨by dsimp only;omega,by dsimp only;omega,?_⟩ (by dsimp only;omega)
  .dsimp only;rw[o,j,if_pos (by simp at k;rw[k];rfl),q3]
  .dsimp only;rw[j,if_neg (by intro e;rw[e]at k;simp at k),q3]
 .have:s2=h.a_.length:=by simp at q;omega
  subst this;exact q3)
theorem XO:rm h c=some (jf h h.a_.length++[c.aw - 1]):=T.eq (by
 unfold rm;obtain⟨⟨E,z,B,G,a⟩,_⟩:=ho;have D:=hc.2.1;have hm:=hc.1;refine aS (bN (λs=>0<=s.2/\s.2<=h.a_.length/\s.1=jf h s.2.toNat) (λs=>(h.a_.length - s.2).toNat) (λ⟨A,s2⟩ u=>?_) ⟨by simp,by simp,rfl⟩ (by unfold aP;dsimp only;omega));obtain⟨q1,q2,q3⟩:=u;dsimp only at q1 q2 q3;have r:=vT h s2.toNat;unfold QG Es;dsimp only;rw[bg (x:=s2+1) (by omega) (by omega)];refine aj (λq=>?_) λq=>bu ?_
 .have q:=of_decide_eq_true q;refine ar ⟨q1,by omega⟩ λC a=>?_;have j:=PU q1 a.1;refine aj (λk=>ar (by rw[q3];simp;omega) λw o=>bF ⟨by dsimp only;omega,by dsimp only;omega,?_⟩ (by dsimp only;omega)) λk=>bF ⟨by dsimp only;omega,by dsimp only;omega,?_⟩ (by dsimp only;omega)
  .dsimp only;rw[o,j,if_pos k,q3]
  .dsimp only;rw[j,if_neg (by rw[k];simp),q3]
 .have:s2=h.a_.length:=by simp at q;omega
  subst this;rw[bg (x:=c.aw - 1) (by omega) (by omega)];exact ar (by rw[q3];simp at r|-;omega) λx hx=>ax (by rw[hx,q3];rfl))
theorem ET(l:List Int)(o:l.length<4294967296):DF l l=some true:=T.eq (by unfold DF;refine aj (λk=>by simp at k) λ_=>aS (bN (λs=>0<=s/\s<=l.length) (λs=>(l.length - s).toNat) (λs a=>?_));unfold LD;refine aj (λq=>?_) λq=>bu (T.inr (ax rfl));have q:=of_decide_eq_true q;rw[bg (x:=s+1) (by omega) (by omega)];exact ar ⟨a.1,q⟩ λx hx=>ar ⟨a.1,q⟩ λy j=>aj (λk=>by have:=hx.1;rw[j.1]at this;simp[Option.some.inj this]at k) λ_=>bF (by omega) (by omega))
theorem ZH{p:eE}{rs:List (List UInt8)}(O:h.aG=0)(hd:true∈h.a_)(B:JX c h p)(J:rs.length=p.Reads.length)(z:∀b∈rs,b.length=128):T (Ek c h p rs) (λr=>r.2=0/\r.1.length=128):=by
 have aw:=hc.2.1;have hm:=hc.1;obtain⟨⟨ay,an,ap,az,ao⟩,U,A,av,_⟩:=id ho;have aa:=Mc hc ho B;have V:T (D3 h p rs ()) (λr=>r.2=0/\r.1.length=128):=by
  unfold D3;refine aS (bN (λs=>0<=s.1/\s.1<=h.a_.length/\(s.2.length:Int)<=s.1/\∀b∈s.2,dp b) (λs=>(h.a_.length - s.1).toNat) (λ⟨K,al⟩ S=>?_) ⟨by simp,by simp,by simp,by simp⟩ (by unfold aP;dsimp only;omega));obtain⟨q1,q2,q3,q4⟩:=S;dsimp only at q1 q2 q3 q4;unfold P8;dsimp only;rw[bg (x:=K+1) (by omega) (by omega)];refine aj (λq=>?_) λq=>bu ?_
  .have q:=of_decide_eq_true q;refine ar ⟨q1,q⟩ λac ad=>ar (λ_=>⟨q1,by omega⟩) λae X=>ar (λ_=>⟨q1,by omega⟩) λZ C=>aj (λk=>ar (by simp;omega) λaf w=>bF ⟨by dsimp only;omega,by dsimp only;omega,by dsimp only;rw[w];simp;omega,λb a=>?_⟩ (by dsimp only;omega)) λ_=>bF ⟨by dsimp only;omega,by dsimp only;omega,by dsimp only;omega,q4⟩ (by dsimp only;omega);dsimp only at a;rw[w]at a;rcases dx.1 a with h|h
   .exact q4 b h
   .rw[dz.1 h];exact U _ (C k).2.1
  .exact ar ⟨by omega,λb a=> .inr (z b a)⟩ λY D=>ar ⟨by omega,q4⟩ λag E=>ar ⟨by simp,λb a=>by
    simp at a;rcases a with rfl|rfl
    .exact .inr D.2
    .exact .inr E.2⟩ λW G=>ax G
 have u:T (ur h p rs (!true)) (λr=>r.2=0/\r.1.length=128):=by
  unfold ur;have e:(λy=>EL y)=λb=>some (decide (¬dp b)):=funext λb=>tk b;rw[e];refine aj (λk=>by cases k) λ_=>aj (λk=>by rw[J]at k;simp at k) λ_=>ar ⟨by omega,λx _=>⟨_,rfl,trivial⟩⟩ λaq A=>aj (λk=>?_) λ_=>V;exfalso;rcases A with⟨_,b,a,e⟩|⟨h,_⟩
  .have:dp b:= .inr (z b a);simp[this]at e
  .rw[h]at k;cases k
 unfold Ek;rw[lN hc ho,bo,contains_eq (v9 hc ho),O,decide_eq_true hd];refine aj (λk=>by cases k) λ_=>ar (λ_=>trivial) λam Q=>aj (λk=>by rw[Q rfl]at k;cases k) λ_=>?_;have e1:=KW hc ho;unfold p' at e1;have I:bf (Fk h) aP (([]:List Int),(0:Int))=some (g8 h h.a_.length):=by
  have:bf (Fk h) aP (([]:List Int),(0:Int))=bf (BU h) aP (([]:List Int),(0:Int)):=rfl;rw[this];cases e:bf (BU h) aP (([]:List Int),(0:Int))with
  |none=>rw[e]at e1;cases e1
  |some x=>rw[e]at e1;exact e1
 rw[I,bo];unfold Fx;have ak:h.a_.length<4294967296:=v9 hc ho;have l1:=wb h h.a_.length;have l2:=vT h h.a_.length;rcases B with⟨o,j,L⟩|⟨k0,N⟩
 .rw[L];refine aj (λ_=>?_) λk=>by simp at k
  unfold vV;rw[o,j];refine aj (λk=>absurd k (by decide)) λ_=>?_;refine aS (show T (GL.b_ 4 ((1:UInt8).toNat:Int)) _ from⟨1,rfl,aS (show T _ _ from⟨some vB,rfl,aj (λk=>by cases k) λ_=>aS (show T (GL.b_ 4 ((1:UInt8).toNat:Int)) _ from⟨1,rfl,aS (show T _ _ from⟨some vB,rfl,aS (show T _ _ from⟨[],rfl,?_⟩)⟩)⟩)⟩)⟩);dsimp only;rw[ET hc ho [] (by simp),bo];exact u
 .refine aj (λk=>by simp at k;exact absurd k k0) λ_=>?_;unfold vV;rcases N with⟨o,j⟩|⟨o,j⟩
  .rw[o,j];refine aj (λk=>absurd k (by decide)) λ_=>?_;refine aS (show T (GL.b_ 4 ((2:UInt8).toNat:Int)) _ from⟨2,rfl,aS (show T _ _ from⟨some (p' h),rfl,aj (λk=>by cases k) λ_=>aS (show T (GL.b_ 4 ((2:UInt8).toNat:Int)) _ from⟨2,rfl,aS (show T _ _ from⟨some (p' h),rfl,aS (show T _ _ from⟨g8 h h.a_.length,KW hc ho,?_⟩)⟩)⟩)⟩)⟩);dsimp only;rw[ET hc ho _ (by omega),bo];exact u
  .rw[o,j];refine aj (λk=>absurd k (by decide)) λ_=>?_;refine aS (show T (GL.b_ 4 ((3:UInt8).toNat:Int)) _ from⟨3,rfl,aS (show T _ _ from⟨some (rm h c),rfl,aj (λk=>by cases k) λ_=>aS (show T (GL.b_ 4 ((3:UInt8).toNat:Int)) _ from⟨3,rfl,aS (show T _ _ from⟨some (rm h c),rfl,aS (show T _ _ from⟨_,XO hc ho,?_⟩)⟩)⟩)⟩)⟩);dsimp only;rw[ET hc ho _ (by simp;omega),bo];exact u
end
def wt(h:aM):Nat:=if true∈h.a_ then(if h.aG.toNat=0 then 7 else if h.aG.toNat=1 then 6 else if h.aG.toNat=2 then 3 else if h.aG.toNat=3 then 2 else 1)else 0
def wl(x:j):Nat:=if x.dC=true then 1 else 2
def wp(c:J)(l:X):Nat:=if l.dt=true then 2 * (c.bz * c.bb - l.Pos).toNat+(if l.cN<l.Pos then 1 else 0)else 0
def W(d:N):Nat:=(d.aE.map wt).sum+(d.K.j.map wl).sum+wp d.J d.X
def iQ(d:N)(r:N×(List cd)×Int):Prop:=r.2.2=0/\Inv r.1/\r.1.J=d.J/\(∀ds,iB d.J d.X ds->iB d.J r.1.X ds)/\W r.1<W d/\r.2.1.length<=200/\∀a∈r.2.1,eX d.J a
theorem OL{a:aM}:∀{l:List aM},(l.map (·.L)).Nodup->a∈l->((l.filter λx=> !(x.L==a.L)).map wt).sum+wt a=(l.map wt).sum
 |[],_,h=>by cases h
 |y::l,j,h=>by
  simp only[fh,qJ]at j;rcases fp.1 h with rfl|h
  .rw[jP,if_neg (by simp),qR.2 λx hx=>by simp;intro e;exact j.1 (gm.2 ⟨x,hx,e⟩)]
   simp only[fh,nZ];omega
  .have o:y.L≠a.L:=λe=>j.1 (gm.2 ⟨a,h,e.symm⟩);rw[jP,if_pos (by simpa using o)];have:=OL j.2 h;simp only[fh,nZ];omega
theorem PI{l:List aM}{h0 h:aM}(j:(l.map (·.L)).Nodup)(hm:h0∈l)(a:h.L=h0.L):((jk l h).map wt).sum+wt h0=wt h+(l.map wt).sum:=by unfold jk;rw[a];have:=OL j hm;simp only[fh,nZ];omega
theorem St.last{l l':List j}{h:aM}(a:St l h)(e:eK l' h.L=eK l h.L):St l' h:=by unfold St;rw[e];exact a
theorem OH{d:N}(hi:Inv d)(hN:d.X.cn=false){h0 h':aM}(hm:h0∈d.aE)(o:h'.L=h0.L)(ho:fZ d.J h'){g:K}(S:gk d.J g)(C:St g.j h')
  (A:∀s,s≠h0.L->eK g.j s=eK d.K.j s)(W:∀e,eK g.j h0.L=some e->e.bP=true->e.cH=false->1<h'.aG.toNat)(B:Lg g.j):Inv {d with aE:=jk d.aE h',K:=g}:=by
 obtain⟨⟨hc,Q,Z,U,ac,D,E⟩,_,I⟩:=hi;obtain⟨c1,V,aa⟩:=I hN;refine⟨⟨hc,Q,Z,KM U ho (.inl ⟨h0,hm,o.symm⟩),S,D,E⟩,λk=>(by dsimp only at k;rw[hN]at k;cases k),λ_=>⟨λh z=>?_,λs e r=>?_,B⟩⟩
 .rcases fp.1 z with rfl|z
  .exact C
  .obtain⟨e1,e2⟩:=lH.1 z;have e2:h.L≠h0.L:=by rw[<-o];simpa using e2
   exact(c1 h e1).last (A _ e2)
 .dsimp only at r|-;by_cases e':s=h0.L
  .subst e';exact⟨λ_=>⟨h',ml,o⟩,λu w=>⟨h',ml,o,W e r u w⟩⟩
  .rw[A s e']at r;obtain⟨G,O⟩:=V s e r;have mem:∀h∈d.aE,h.L=s->h∈jk d.aE h':=λh q a=>fM _ (lH.2 ⟨q,by rw[o];simp;rw[a];exact e'⟩);exact⟨λk=>by obtain⟨h,q,a⟩:=G k;exact⟨h,mem h q a,a⟩,λu w=>by obtain⟨h,q,a,Y⟩:=O u w;exact⟨h,mem h q a,a,Y⟩⟩
theorem Bp{c:J}{l:List aM}(hc:cz c)(j:me c l){h:aM}(hm:h∈l):T (lY c l h.L) (λr=>r.2=0/\0<=r.1/\r.1<l.length/\l[r.1.toNat]? =some h):=by
 refine(MW hc j h.L).mono λr z=>?_;rcases z with⟨_,k⟩|⟨w,A,u,x,q,o⟩
 .exact absurd rfl (k h hm)
 .obtain⟨i,hi,e⟩:=sS hm;have a:l[i]? =some h:=by rw[ek hi,e]
  have:=q_ j.2.2 q a o;rw[<-this]at a;exact⟨w,A,u,a⟩
section
variable{d:N}(hi:Inv d)(hN:d.X.cn=false){h:aM}(hm:h∈d.aE)
include hi hN hm
theorem Inv.nA:fZ d.J h:=hi.1.2.2.2.1.2.1 h hm
theorem Inv.qy:0<=h.L/\h.L<d.J.bz * d.J.bb:=⟨(hi.nA hN hm).1.1,(hi.nA hN hm).1.2.1⟩
theorem Ni:T (qD d.J d.X h.L) (λr=>r.2=0/\ -1<=r.1/\r.1<d.J.aw/\((d.X.dt=true)\/r.1=d.X.bZ)):=by obtain⟨hc,a,_⟩:=hi.1;have A:=hi.qy hN hm;unfold qD vu;refine ar ⟨hc,a⟩ λx1 z=>aj (λk=>by grind) λ_=>ar trivial λw q=>?_;unfold told at q;have u:=hc.1;obtain⟨_,j,o,_⟩:=a;exact aj (λk=>by simp at k;omega) λ_=>aj (λk=>by grind) λ_=>aj (λk=>ax ⟨rfl,by simp,by dsimp only;omega, .inl (by simp at k;exact k.1)⟩) λ_=>ax ⟨rfl,j,o, .inr rfl⟩
theorem TV(ds:List aU)(G:fq d.J ds)(an:iB d.J d.X ds)(j:h.aG=0)(hd:true∈h.a_):
  T (A2 d ds h.L) (λr=>∃b:List UInt8,b.length=128/\r=({d with aE:=jk d.aE {h with aG:=1,aJ:=h.aJ.set (d.J.aw - 1).toNat b}},0)):=by
 have ho:=hi.nA hN hm;have I:=hi.qy hN hm;obtain⟨hc,aM,af,E,aF,aI,aH⟩:=hi.1;have aL:=hc.2.1;unfold A2;rw[oT hi,bo,mB hi,bo];refine aj (λk=>by simp[af]at k) λ_=>?_;unfold Gt Bb Gn;dsimp only;refine aj (λ_=>ar (by have:=G.2.1;omega) λav aq=>aj (λk=>by grind) λ_=>?_) λk=>by cases k
 refine bQ (Bp hc E hm) λV w=>aj (λk=>by simp[w.1]at k) λ_=>aS (show T (idx d.aE V.1) _ from⟨h,kg w.2.2.2 w.2.1,?_⟩);unfold Dv Cc IW Db rz;dsimp only;refine aj (λk=>by cases k) λ_=>aj (λk=>by cases k) λ_=>aj (λk=>by cases k) λ_=>?_;have A:∀{β:Type} {f:Int->Option β} {P:β->Prop},(∀m, -1<=m->m<d.J.aw->((d.X.dt=true)\/m=d.X.bZ)->T (f m) P)->T (ab (ab (qD d.J d.X h.L) λx1=>some x1.1) f) P:=λk=>
  aS (bQ (Ni hi hN hm) λx hx=>ax (k _ hx.2.1 hx.2.2.1 hx.2.2.2))
 refine A λm al ao aC=>?_;refine bQ (XJ hc ho j hd al ao) λB u=>aj (λk=>by simp[u.1]at k) λ_=>?_;have Y:=Mc hc ho u.2;refine aS (bN (λs=>0<=s.2.1/\s.2.1<=B.1.Reads.length/\s.2.2=0/\(s.1.length:Int)=s.2.1/\∀b∈s.1,b.length=128) (λs=>(B.1.Reads.length - s.2.1).toNat) (λ⟨ay,ad,aA⟩ Z=>?_) ⟨by simp,by simp,rfl,by simp,by simp⟩ (by unfold aP;dsimp only;omega));obtain⟨q1,q2,q3,q4,q5⟩:=Z;dsimp only at q1 q2 q3 q4 q5;subst q3;unfold Ml CJ HZ Ft rz;dsimp only;rw[bg (x:=ad+1) (by omega) (by omega)];refine aj (λq=>?_) λq=>bu ?_
 .have q:=of_decide_eq_true q;refine ar ⟨q1,q⟩ λQ ae=>A λag aa U O=>?_;have hx:=Y.2 _ ae.2.1;refine bQ (PM d.J ds ag h.L Q G I.1 I.2 hx.1 hx.2 aa U λi x W ac N=>?_) λaz C=>aj (λk=>by simp[C.1]at k) λ_=>ar (by simp;omega) λaB D=>bF ⟨by dsimp only;omega,by dsimp only;omega,rfl,by dsimp only;rw[D];simp;omega,λb z=>?_⟩ (by dsimp only;omega)
  .cases ap:x.dS with
   |false=>rfl
   |true=>
    obtain⟨ak,am⟩:=an i x W N ap;rcases O with k|k
    .rw[am]at k;cases k
    .exact absurd (ak.trans k.symm) ac
  .dsimp only at z;rw[D]at z;rcases dx.1 z with k|k
   .exact q5 b k
   .rw[dz.1 k];exact C.2
 .refine bQ (ZH hc ho j hd u.2 (by simp at q;dsimp only;omega) q5) λo a=>aj (λk=>by simp[a.1]at k) λ_=>?_;have K:=X3 hc ho a.2;rw[j,decide_eq_true hd]at K;have S:=KA hc ho j hd a.2;refine aS (show T (vx d.J h o.1) _ from⟨_,K,?_⟩);unfold Ix AF F5 tO Dl;refine aj (λk=>by cases k) λ_=>?_;refine aj (λ_=>aS (show T (l_ d.J d.aE {h with aG:=1,aJ:=h.aJ.set (d.J.aw - 1).toNat o.1}) _ from⟨_,put_eq hc E S (.inl ⟨h,hm,rfl⟩),?_⟩)) λk=>by cases k
  refine aj (λk=>by cases k) λ_=>ax ⟨o.1,a.2,rfl⟩
end
instance(c:J) (s o:Int):Sp (DL c s o) (cz c/\0<=s/\s<c.bz * c.bb/\0<=o/\o<c.aw - 1) (λr=>r.2=0)where
 h h:=by unfold DL;obtain⟨hc,j,w,q,u⟩:=h;have hm:=hc.1;have B:=hc.2.1;have C:=l9 hc;have z:=hc.2.2.1;rw[bg (x:=c.aw - 1) (by omega) (by omega)];refine ar ⟨hc,j,w,q,u⟩ λx1 a=>aj (λk=>by simp[a.1]at k) λ_=>?_;rw[a.2.1];exact ar ⟨j,by omega,by omega⟩ λA _=>ax rfl
instance(c:J) (s:Int):Sp (Dp c s) (cz c/\0<=s/\s<c.bz * c.bb) (λr=>r.length<=16)where
 h h:=by unfold Dp;obtain⟨hc,j,o⟩:=h;have hm:=hc.1;have A:=hc.2.1;refine aS (bN (λq=>0<=q.2/\q.2<=c.aw - 1/\(q.1.length:Int)=q.2) (λq=>(c.aw - q.2).toNat) (λ⟨w,s2⟩ u=>?_) (by simp;omega));obtain⟨q1,q2,q3⟩:=u;dsimp only at q1 q2 q3;unfold L8;rw[bg (x:=c.aw - 1) (by omega) (by omega)];dsimp only;rw[bg (x:=s2+1) (by omega) (by omega)];refine aj (λq=>?_) λq=>bu (ax (by omega));have q:=of_decide_eq_true q;exact ar ⟨hc,j,o,q1,q⟩ λB _=>ar (by simp;omega) λz a=>bF ⟨by dsimp only;omega,by dsimp only;omega,by dsimp only;rw[a];simp;omega⟩ (by dsimp only;omega)
theorem Rl{c:J}(hc:cz c){l:List Int}{s:UInt32}(j:l.length<=16)(a:s.toNat≠0):w6 c [] l s=some ([],0):=T.eq (by
 unfold w6;rw[Ge hc,bo];refine aj (λk=>by cases k) λ_=>aj (λk=>by simp at k;omega) λ_=>aj (λk=>?_) λ_=>aj (λ_=>ax rfl) λk=>by cases k
 exfalso;simp at k;exact a (by omega))
theorem VM{l:List j}{x:j}{s:Int}:eK (l++[x]) s=if x.L=s then some x else eK l s:=by unfold eK;rw[List.foldl_append];rfl
theorem Xt(l:List j)(x:j):dk (l++[x])=jC (dk l) x:=by unfold dk;rw[List.foldl_append];rfl
section
variable{d:N}(hi:Inv d)(hN:d.X.cn=false){h:aM}(hm:h∈d.aE)
include hi hN hm
def Hl(d:N)(h:aM)(r:N×(List cd)×Int):Prop:=(r.2.2=0/\h.aG=1/\∃j,jK d.J j/\j.bP.length=128/\j.L=h.L/\gk d.J (nk d.K j)/\r.1={d with aE:=jk d.aE {h with aG:=2,cG:=false,Seq:=d.K.Seq},K:=nk d.K j}/\r.2.1.length<=17/\∀a∈r.2.1,eX d.J a)\/
 (r.2.2≠0/\(h.aG=1->r.2.2=9/\d.K.Seq.toNat=2147483648))
theorem ID:T (ud d h.L) (Hl d h):=by
 have ho:=hi.nA hN hm;have I:=hi.qy hN hm;obtain⟨hc,az,ac,A,z,N,av⟩:=hi.1;obtain⟨c1,aq,ao⟩:=hi.2.2 hN;have ay:=hc.2.1;unfold ud;rw[oT hi,bo,mB hi,bo];refine aj (λk=>by simp[ac]at k) λ_=>?_;unfold JC;dsimp only;refine aj (λk=>by simp[hN]at k) λ_=>?_;unfold Ck Jp;dsimp only;refine bQ (Bp hc A hm) λW w=>aj (λk=>by simp[w.1]at k) λ_=>aS (show T (idx d.aE W.1) _ from⟨h,kg w.2.2.2 w.2.1,?_⟩);unfold AE AW GK Bu;dsimp only;refine aj (λk=>by cases k) λ_=>aj (λk=>by cases k) λ_=>aj (λk=>by cases k) λ_=>?_;have el:=U1 hc ho d.K.Seq;have err:∀{e:Int} (q:e≠0) (a:Int×(List (List UInt8))×(List Bool)×UInt8×Bool×UInt32) (b:UInt32×UInt32×Int×Int×(List j)×(List cd)),(h.aG=1->e=9/\d.K.Seq.toNat=2147483648)->
   T (uH h.L d.J.Id d.J.aw d.J.bz d.J.bb d.J.K d.J.aE d.ee d.X.cZ d.X.bZ d.X.dt d.X.Pos d.X.cN d.X.cn d.X.cO d.aE d.K.Seq d.du d.Next d.eU 0 (a.1,a.2.1,a.2.2.1,a.2.2.2.1,a.2.2.2.2.1,a.2.2.2.2.2,e,b.1,b.2.1,b.2.2.1,b.2.2.2.1,b.2.2.2.2.1,b.2.2.2.2.2)) (Hl d h):=λ{e} q a b o=>by
  unfold uH yN Di rH yE wX;refine aj (λ_=>aj (λk=>absurd (by simpa using k) q) λ_=>aj (λk=>absurd (by simpa using k) q) λ_=>aj (λ_=>ax (.inr ⟨q,o⟩)) λk=>absurd (by simpa using k) q) λk=>absurd (by simpa using k) q
 by_cases o:h.aG=1
 .rw[show(h.aG==1)=true by rw[o];rfl,cond_true]at el;refine aS (show T (uX d.J h d.K.Seq) _ from⟨_,el,?_⟩);refine aj (λk=>by cases k) λ_=>bQ (OG hc ho (by rw[o];decide)) λr B=>ar ⟨hc,z,B.2.1.1⟩ λV Y=>?_;obtain⟨_,E,G,C⟩:=B;have ag:h.cG=true:=((c1 h hm).1 (by rw[o];decide)).2 (ho.2.2.2.2.1 (by rw[o];decide));have O:h.L∈dk d.K.j:=GA.2 ((c1 h hm).2.1.1 ag);rcases Y with⟨e0,e1,e2,e3,ad,ae⟩|⟨af,D⟩
  .refine ar (by simp;omega) λZ u=>?_;unfold BV uH yN Di;dsimp only;rw[e0];refine aj (λk=>by cases k) λ_=>?_;refine aj (λ_=>aS (show T (l_ d.J d.aE {h with aG:=2,cG:=false,Seq:=d.K.Seq}) _ from⟨_,put_eq hc A (O0 ho o _) (.inl ⟨h,hm,rfl⟩),?_⟩)) λk=>by cases k
   unfold rH yE wX;dsimp only;refine aj (λ_=>ar ⟨hc,I.1,I.2⟩ λQ S=>?_) λk=>by cases k
   rw[N];refine aS (show T (w6 d.J [] Q d.K.Seq) _ from⟨_,Rl hc S (by have:=z.1.2.1.1;omega),?_⟩);refine aj (λk=>by cases k) λ_=>ax (.inl ⟨rfl,o,r.1,E,G,C,by rw[<-e1];exact e2,?_,by dsimp only;rw[u];simpa using ad,by dsimp only;rw[u];simpa using ae⟩);rw[e1];dsimp only;rw[<-N]
  .refine ar (by rw[D.1];simp) λZ u=>?_;unfold BV;have U:V.2.2≠0:=by omega
   refine err U (h.L,h.aJ,h.a_,2,false,d.K.Seq) (_,_,_,_,_,_) λ_=>⟨af,D.2.resolve_right λk=>k ?_⟩;rw[Xt];have aa:decide ((r.1.bP.length:Int)>0)=true:=by rw[G];rfl
   unfold jC ji;dsimp only;rw[aa,cond_true,C];have al:((dk d.K.j).filter (λs=> !(s==h.L))).length<(dk d.K.j).length:=by
    rcases mh ((dk d.K.j).filter (λs=> !(s==h.L))).length (dk d.K.j).length with k|k
    .exact k
    .have:=aai.1 (Nat.le_antisymm (qU _ _) k) _ O;simp at this
   have ap:=z.2.2.2.2.2.2;have an:=hc.1;have am:(-1:Int)+r.1.eD.length<=d.J.aw - 2:=kT E.1.2.2.1 (by show(-1:Int)<=d.J.aw - 2;omega);have ak:fv r.1<=d.J.aw+1:=by unfold fv;split<;>omega
   have:(d.J.aw+1) * (((dk d.K.j).filter (λs=> !(s==h.L))).length:Int)+(d.J.aw+1)<=(d.J.aw+1) * ((dk d.K.j).length:Int):=by have:=Kd (show(((dk d.K.j).filter (λs=> !(s==h.L))).length:Int)+1<=((dk d.K.j).length:Int) by omega) (show 0<=d.J.aw+1 by omega);rw[Int.mul_add,Int.mul_one]at this;exact this
   show(d.J.aw+1) * (((dk d.K.j).filter (λs=> !(s==h.L))).length:Int)<=d.J.K - (d.K.cg+fv r.1);omega
 .rw[show(h.aG==1)=false by simpa using o,cond_false]at el;refine aS (show T (uX d.J h d.K.Seq) _ from⟨_,el,?_⟩);exact aj (λ_=>err (by decide) (h.L,h.aJ,h.a_,h.aG,h.cG,h.Seq) (_,_,_,_,_,_) λk=>absurd k o) λk=>by cases k
end
section
variable{d:N}(hi:Inv d)(hN:d.X.cn=false){h:aM}(hm:h∈d.aE)
include hi hN hm
theorem Inv.nd:(d.aE.map (·.L)).Nodup:=hi.1.2.2.2.1.2.2
theorem Inv.OR:St d.K.j h:=(hi.2.2 hN).1 h hm
theorem Mb{h':aM}{gi:List cd}(o:h'.L=h.L)(ho:fZ d.J h')(q:St d.K.j h')(B:1<h.aG.toNat->1<h'.aG.toNat)(I:wt h'<wt h)(C:gi.length<=200)(r:∀a∈gi,eX d.J a):
  iQ d ({d with aE:=jk d.aE h'},gi,0):=by
 obtain⟨c1,G,u⟩:=hi.2.2 hN;refine⟨rfl,OH hi hN hm o ho hi.1.2.2.2.2.1 q (λ_ _=>rfl) (λe E z D=>B ?_) u,rfl,λ_ h=>h,?_,C,r⟩
 .obtain⟨x,x1,w,A⟩:=(G _ e E).2 z D;obtain⟨i,e1⟩:=qL x1;obtain⟨N,e2⟩:=qL hm;have:=q_ (hi.nd hN hm) e1 e2 w;rw[this,e2]at e1;rw[Option.some.inj e1];exact A
 .have:=PI (hi.nd hN hm) hm o;unfold W;dsimp only;omega
theorem RY{b:List UInt8}(a:h.aG=0)(hd:true∈h.a_)(o:b.length=128):iQ d ({d with aE:=jk d.aE {h with aG:=1,aJ:=h.aJ.set (d.J.aw - 1).toNat b}},[],0):=by have hc:=hi.1.1;have j:=hi.OR hN hm;refine Mb hi hN hm rfl (KA hc (hi.nA hN hm) a hd o) ⟨λ_=>j.1 (by rw[a];decide),j.2.1,λk=>absurd (show 1<(1:UInt8).toNat from k) (by decide)⟩ (λk=>by rw[a]at k;exact absurd k (by decide)) ?_ (by simp) (by simp);unfold wt;dsimp only;rw[if_pos hd,if_pos hd,a];simp
theorem Vm{gi:List cd}(j:h.aG=3)(A:gi.length<=200)(r:∀a∈gi,eX d.J a):iQ d ({d with aE:=jk d.aE {h with aG:=4,cG:=false}},gi,0):=by
 have ho:=hi.nA hN hm;have q:=hi.OR hN hm;have w:h.aG.toNat=3:=by rw[j];rfl
 obtain⟨x,x1,u,o,B,z⟩:=q.2.2 (by omega);have C:h.cG=false:=by
  cases e:h.cG with
  |false=>rfl
  |true=>have:=(ho.2.2.2.2.2.2 e).2;omega
 have hd:true∈h.a_:=ho.2.2.2.2.1 (by rw[j];decide);refine Mb hi hN hm rfl (Ly ho (.inr j)) ⟨λk=>absurd (show(4:UInt8).toNat<=1 from k) (by decide),?_,λ_=>⟨x,x1,u,o,B,by rw[z,w];dsimp only;decide⟩⟩ (λ_=>by dsimp only;decide) ?_ A r
 .dsimp only;rw[x1];simp[o]
 .unfold wt;dsimp only;rw[if_pos hd,if_pos hd,j];simp
theorem YG{r:N×(List cd)×Int}(E:Hl d h r)(S:r.2.2=0):iQ d r:=by
 rcases E with⟨e0,u,o,U,z,G,A,q,O,D⟩|⟨k,_⟩
 .obtain⟨c1,V,C⟩:=hi.2.2 hN;have ho:=hi.nA hN hm;have hd:true∈h.a_:=ho.2.2.2.2.1 (by rw[u];decide);have Q:=hi.1.2.2.2.2.1;have hx:∀s,eK (nk d.K o).j s=if h.L=s then some (ji d.K o)else eK d.K.j s:=λs=>by unfold nk;dsimp only;rw[VM];unfold ji;dsimp only;rw[G]
  have w:(ji d.K o).bP=true:=by unfold ji;dsimp only;rw[z];rfl
  refine⟨e0,?_,by rw[q],λ_ h=>by rw[q];exact h,?_,by omega,D⟩
  .rw[q];refine OH hi hN hm (h':={h with aG:=2,cG:=false,Seq:=d.K.Seq}) rfl (O0 ho u _) A ⟨λk=>absurd (show(2:UInt8).toNat<=1 from k) (by decide),?_,λ_=>⟨ji d.K o,by rw[hx];dsimp only;rw[if_pos rfl],rfl,w,rfl,by unfold ji;dsimp only;decide⟩⟩ (λs I=>by rw[hx,if_neg (Ne.symm I)]) (λ_ _ _ _=>by dsimp only;decide) ?_
   .dsimp only;rw[hx,if_pos rfl];simp[w]
   .unfold nk Lg;dsimp only;refine List.pairwise_append.2 ⟨C,by simp,λa _ b B _ k=>?_⟩;rw[dz.1 B]at k;cases k
  .rw[q];have:=PI (hi.nd hN hm) hm (h:={h with aG:=2,cG:=false,Seq:=d.K.Seq}) rfl;have J:wt h=6:=by unfold wt;rw[if_pos hd,u];rfl
   have w2:wt {h with aG:=2,cG:=false,Seq:=d.K.Seq}=3:=by unfold wt;dsimp only;rw[if_pos hd];rfl
   have w3:((nk d.K o).j.map wl).sum=(d.K.j.map wl).sum+2:=by unfold nk;simp[wl,ji]
   unfold W;dsimp only;omega
 .contradiction
theorem VV(j:h.aG=3):T (D' d h.L) (iQ d):=by
 have ho:=hi.nA hN hm;have N:=hi.qy hN hm;obtain⟨hc,V,C,w,K,S,O⟩:=hi.1;have U:=hc.2.1;unfold D';rw[oT hi,bo,mB hi,bo];refine aj (λk=>by simp[C]at k) λ_=>?_;unfold IF;dsimp only;refine bQ (Bp hc w hm) λA o=>aj (λk=>by simp[o.1]at k) λ_=>aS (show T (idx d.aE A.1) _ from⟨h,kg o.2.2.2 o.2.1,?_⟩);unfold Ae Ci IH zI rz;dsimp only;refine aj (λk=>by cases k) λ_=>aj (λk=>by cases k) λ_=>aj (λk=>by cases k) λ_=>aj (λk=>by rw[j]at k;cases k) λ_=>?_;have el:=V_ hc ho;rw[show(h.aG==1||h.aG==3)=true by rw[j];rfl,cond_true]at el;refine aS (show T (wu d.J h) _ from⟨_,el,?_⟩);refine aj (λ_=>aS (bQ (Ni hi hN hm) λx hx=>ax ?_)) λk=>by cases k
 refine bQ (Q:=λr=>r.1.length<=17/\∀a∈r.1,eX d.J a) (show T (BI d.J x.1 h) _ from ?_) λE z=>ar (by simp;omega) λB u=>?_
 .unfold BI xA;rw[lN hc ho,bo];refine aj (λk=>by cases k) λ_=>aS (ax (aj (λk=>by simp at k;omega) λ_=>bQ (OG hc ho (by rw[j];decide)) λI q=>aj (λk=>by simp[q.1]at k) λ_=>ar ⟨hc,q.2.1,q.2.2.1⟩ λG D=>ax D.2))
 .unfold FN Ed G0 Cs H3 uK Bh;dsimp only;refine aj (λk=>by cases k) λ_=>?_;refine aj (λ_=>aS (show T (l_ d.J d.aE {h with aG:=4,cG:=false}) _ from⟨_,put_eq hc w (Ly ho (.inr j)) (.inl ⟨h,hm,rfl⟩),?_⟩)) λk=>by cases k
  refine aj (λk=>by simp[hN]at k) λ_=>aj (λk=>by cases k) λ_=>ax ?_;have:=Vm hi hN hm j (gi:=B) (by rw[u];simp;omega) (by rw[u];simpa using z.2);exact this
end
instance(l:List j) (f:j->Option Bool):Sp (F6 l f) (l.length<4294967296/\∀x∈l,T (f x) λ_=>True) (lq l f)where
 h h:=T.index h
instance(l:List j) (f:j->Option Bool):Sp (yC l f) (l.length<4294967296/\∀x∈l,T (f x) λ_=>True) (nG l f)where
 h h:=T.vd (Sp.h h)
theorem Ip{α:Type}{l:List α}{f:α->α}{w:α->Nat}(h:∀x∈l,w (f x)<=w x):((l.map f).map w).sum<=(l.map w).sum:=by
 induction l with
 |nil=>simp
 |cons x l a=>
  have:=a λy j=>h y (by simp[j]);have:=h x (by simp);simp only[fh,nZ];omega
theorem PE{α:Type}{l:List α}{f:α->α}{w:α->Nat}(h:∀x∈l,w (f x)<=w x){y:α}(a:y∈l)(q:w (f y)<w y):((l.map f).map w).sum<(l.map w).sum:=by
 induction l with
 |nil=>cases a
 |cons x l j=>
  have r:=Ip (l:=l) (w:=w) λy a=>h y (by simp[a]);have o:=h x (by simp);simp only[fh,nZ];rcases fp.1 a with rfl|a
  .omega
  .have:=j (λy a=>h y (by simp[a])) a;omega
theorem Qc{c:J}{l:List aM}{f:aM->aM}(h:me c l)(a:∀x,(f x).L=x.L)(ho:∀x∈l,fZ c (f x)):me c (l.map f):=by
 refine⟨by simpa using h.1,λx hx=>?_,?_⟩
 .obtain⟨y,j,rfl⟩:=gm.1 hx;exact ho y j
 .rw[vi,show(λx:aM=>x.L)∘f=λx=>x.L from funext a];exact h.2.2
def jX(h:aM):aM:=bif h.aG==2 then{h with aG:=3}else h
theorem w7(h:aM):(jX h).L=h.L/\(jX h).Seq=h.Seq/\(jX h).cG=h.cG/\(jX h).a_=h.a_:=by unfold jX;cases h.aG==2<;>exact⟨rfl,rfl,rfl,rfl⟩
theorem OJ(h:aM):((jX h).aG.toNat<=1↔h.aG.toNat<=1)/\(1<h.aG.toNat->2<(jX h).aG.toNat):=by
 unfold jX;cases e:h.aG==2 with
 |true=>
  have e:h.aG=2:=by simpa using e
  rw[e];simp only[cond_true];decide
 |false=>
  have e:h.aG≠2:=by simpa using e
  simp only[cond_false];refine⟨trivial,λk=>?_⟩;have:h.aG.toNat≠2:=λa=>e (UInt8.toNat_inj.1 (by rw[a];rfl));omega
def ig(c:J)(h:aM):aM:=bif h.aG==4 then lQ c h else h
theorem P2(c:J)(h:aM):(ig c h).L=h.L:=by unfold ig;cases h.aG==4<;>rfl
def gC(a:List Int)(x:j):j:=if x.L∈a then{x with cH:=true}else x
theorem sq(a:List Int):Kp (gC a):=λx=>by unfold gC;split<;>exact⟨rfl,rfl,rfl,rfl⟩
theorem RP(a:List Int)(x:j):(gC a x).dC=x.dC:=by unfold gC;split<;>rfl
section
variable{d:N}(hi:Inv d)(hN:d.X.cn=false)
include hi hN
theorem ZX{u:j}(hx:u∈d.K.j)(D:u.dC=false):T (zV d) (iQ d):=by
 have aF:=hi.uN;obtain⟨hc,aC,G,o,al,aB,aA⟩:=hi.1;obtain⟨c1,ao,aa⟩:=hi.2.2 hN;have aN:=hc.2.1;have aH:=hc.1;have aM:d.J.aE<=8:=hc.2.2.2.2.2.2.2.1;unfold zV;rw[oT hi,bo,mB hi,bo];refine aj (λk=>by simp[G]at k) λ_=>?_;unfold HN;dsimp only;refine ar ⟨by omega,λx _=>⟨_,rfl,trivial⟩⟩ λZ V=>?_;have U:Z=true:=by
  rcases V with h|⟨_,h⟩
  .exact h.1
  .have:some (!u.dC)=some false:=h u hx;rw[D]at this;cases this
 subst U;refine aj (λk=>by simp[hN]at k) λ_=>?_;unfold CE HU;dsimp only;refine aj (λk=>by cases k) λ_=>ar ⟨hc,al⟩ λS r=>?_;refine aS (T.Oj d.aE jX (by have:=o.1;omega) (λk Y x k0 A aJ hm z=>?_) ?_)
 .unfold Ff Ar;dsimp only;have an:GL.b_ Y.length k=some k.toNat:=by unfold GL.b_;rw[if_pos (by omega)]
  rw[decide_eq_true A,cond_true,an,bo,z,bo,bg (x:=k+1) (by have:=o.1;omega) (by have:=o.1;omega)];rw[show(J.mk d.J.Id d.J.aw d.J.bz d.J.bb d.J.K d.J.aE)=d.J from rfl,Yg hc (o.2.1 x hm),bo];unfold jX;cases x.aG==2 with
  |true=>rfl
  |false=>
   simp only[cond_false];rw[show((6:Int)==0)=false from rfl,cond_false];congr 3;apply o0;intro i;rw[lg];split
   .rename_i e;subst e;rw[z,if_pos (cy.1 z).1]
   .rfl
 .unfold Ff;dsimp only;refine aj (λk=>by simp at k) λ_=>bu (ar (by simp) λaI E=>?_);unfold Hj Cd;dsimp only;refine aj (λk=>by cases k) λ_=>ax (⟨rfl,⟨⟨hc,aC,G,Qc o (λx=>(w7 x).1) (λx hm=>?_),r.2.2,aB,aA⟩,λk=>(by rw[show _=d.X.cn from rfl,hN]at k;cases k),λ_=>⟨λh ap=>?_,λs e q=>?_,?_⟩⟩,rfl,λ_ h=>h,?_,?_,?_⟩)
  .have ho:=o.2.1 x hm;unfold jX;cases e:x.aG==2 with
   |true=>exact T5 ho (by simpa using e)
   |false=>exact ho
  .obtain⟨y,aq,rfl⟩:=gm.1 ap;obtain⟨N,s2,s3,ak⟩:=w7 y;obtain⟨O,p2⟩:=OJ y;obtain⟨t1,t2,av⟩:=c1 y aq;have el:∀s,eK S.1.j s=(eK d.K.j s).map su:=λs=>by rw[r.2.1];exact Al G3 _ s
   refine⟨λk=>by rw[s3,ak];exact t1 (O.1 k),?_,λk=>?_⟩
   .rw[s3,N,t2];dsimp only;rw[el];cases eK d.K.j y.L with
    |none=>simp
    |some e=>simp[su]
   .have k':1<y.aG.toNat:=by
     rcases mh 1 y.aG.toNat with h|h
     .exact h
     .have:=O.2 h;omega
    obtain⟨x,x1,ad,ae,ac,_⟩:=av k';exact⟨su x,by rw[N];dsimp only;rw[el,x1];rfl,by rw[s2];exact ad,ae,ac,by simp[su,p2 k']⟩
  .dsimp only at q|-;rw[r.2.1]at q;have q:eK (d.K.j.map su) s=some e:=q;rw[Al G3]at q;obtain⟨ay,Q,rfl⟩:=iK.1 q;obtain⟨af,ag⟩:=ao s ay Q;refine⟨λk=>?_,λA am=>?_⟩
   .obtain⟨h,C,B⟩:=af k;exact⟨jX h,pg C,by rw[(w7 h).1];exact B⟩
   .obtain⟨h,C,B,az⟩:=ag A am;exact⟨jX h,pg C,by rw[(w7 h).1];exact B,by have:=(OJ h).2 az;omega⟩
  .dsimp only;rw[r.2.1];exact List.pairwise_map.2 aa
  .have aL:=Ip (l:=d.aE) (f:=jX) (w:=wt) λx _=>by
    unfold wt;rw[(w7 x).2.2.2];split
    .unfold jX;cases e:x.aG==2 with
     |true=>
      have e:x.aG=2:=by simpa using e
      rw[e];simp
     |false=>exact bh _
    .exact bh _
   have w2:=PE (l:=d.K.j) (f:=su) (w:=wl) (λx _=>by unfold wl su;simp;split<;>omega) hx (by unfold wl su;simp[D]);unfold W;dsimp only;rw[r.2.1];have e3:wp d.J d.X=wp d.J ⟨d.X.cZ,d.X.bZ,d.X.dt,d.X.Pos,d.X.cN,d.X.cn,d.X.cO⟩:=rfl;show((d.aE.map jX).map wt).sum+((d.K.j.map su).map wl).sum+wp d.J d.X<_;omega
  .rw[E];simp
  .rw[E];intro a I;simp at I;rw[I];exact⟨by dsimp only;omega,by dsimp only;omega, .inl ⟨rfl,rfl,rfl⟩⟩
end
def laid(l:List aM):List Int:=(l.filter λh=>h.aG==4).map (·.L)
theorem De{l:List aM}{s:Int}:s∈laid l↔∃h∈l,h.aG=4/\h.L=s:=by unfold laid;simp[and_assoc]
section
variable{d:N}(hi:Inv d)(hN:d.X.cn=false)
include hi hN
theorem Y4{I:aM}(ak:I∈d.aE)(Z:I.aG=4):T (Au d) (iQ d):=by
 have bE:=hi.uN;obtain⟨hc,bc,aN,A,a9,bi,bb⟩:=hi.1;obtain⟨c1,a7,bl⟩:=hi.2.2 hN;have bO:=hc.2.1;have bG:=hc.1;have bM:d.J.aE<=8:=hc.2.2.2.2.2.2.2.1;have bq:=A.1;unfold Au;rw[oT hi,bo,mB hi,bo];refine aj (λk=>by simp[aN]at k) λ_=>?_;unfold JW;dsimp only;refine aS (bN (λs=>0<=s.2.1/\s.2.1<=d.aE.length/\s.2.2.1=d.K.bR/\s.2.2.2.1=d.K.Seq/\s.2.2.2.2.1=d.K.ca/\s.2.2.2.2.2.1=d.K.cg/\s.2.2.2.2.2.2.1=d.K.j.map (gC (laid (d.aE.take s.2.1.toNat)))/\s.2.2.2.2.2.2.2.1=0/\s.2.2.2.2.2.2.2.2=(d.aE.take s.2.1.toNat).map (ig d.J)++d.aE.drop s.2.1.toNat/\(laid (d.aE.take s.2.1.toNat)≠[]->s.1=true)/\gk d.J {d.K with j:=d.K.j.map (gC (laid (d.aE.take s.2.1.toNat)))}) (λs=>(d.aE.length - s.2.1).toNat) (λ⟨bv,r,bH,br,bs,bC,bz,bB,al⟩ S=>?_) ?_ (by unfold aP;dsimp only;omega))
 .obtain⟨q1,q2,aI,aH,ay,aF,Q,az,N,E,B⟩:=S;dsimp only at q1 q2 aI aH ay aF Q az N E B;subst aI aH ay aF az;unfold Oq v7;dsimp only;refine aj (λq=>?_) λq=>bu ?_
  .have q:=of_decide_eq_true q;have V:=ek (l:=d.aE) (i:=r.toNat) (by omega);obtain⟨x,hx⟩:∃x,x=d.aE[r.toNat]'(by omega):=⟨_,rfl⟩;rw[<-hx]at V;have Y:x∈d.aE:=iL V;obtain⟨ap,bJ,aa⟩:=O3 (f:=ig d.J) q1 V N;have be:GL.b_ al.length r=some r.toNat:=by unfold GL.b_;rw[if_pos (by omega)]
   rw[be,bo,ap,bo,bg (x:=r+1) (by omega) (by omega)];refine aS (show T (wV d.J x) _ from⟨_,RK hc (A.2.1 x Y),?_⟩);have aL:=take_at V q1;by_cases o:x.aG=4
   .have C:(x.aG==4)=true:=by simpa using o
    rw[C];have a6:=c1 x Y;obtain⟨y,aR,bL,aJ,bm,aQ⟩:=a6.2.2 (by rw[o];decide);have a4:x.L∉laid (d.aE.take r.toNat):=λD=>by
     obtain⟨z,U,z2,z3⟩:=De.1 D;obtain⟨i,a3,e⟩:=sS U;rw[cf]at a3;have e1:d.aE[i]? =some z:=by rw[<-e,List.getElem_take];exact ek (by omega)
     have:=q_ A.2.2 e1 V z3;omega
    have aw:eK (d.K.j.map (gC (laid (d.aE.take r.toNat)))) x.L=some y:=by rw[Al (sq _),aR];have:=(qz aR).2;simp only[jd];unfold gC;rw[if_neg (by rw[this];exact a4)]
    have aY:(d.K.j.map (gC (laid (d.aE.take r.toNat)))).map (ho x.L)=d.K.j.map (gC (laid (d.aE.take (r+1).toNat))):=by
     rw[vi];refine vj λz _=>?_;have O:laid (d.aE.take (r+1).toNat)=laid (d.aE.take r.toNat)++[x.L]:=by unfold laid;rw[aL,ph,mm,jP,if_pos C];rfl
     rw[O];simp only[Function.comp];unfold ho;rw[(sq _ z).2.1];unfold gC;by_cases e1:z.L=x.L
     .rw[show(z.L==x.L)=true by simpa using e1,if_pos (by rw[e1];simp:z.L∈laid (d.aE.take r.toNat)++[x.L])];split<;>rfl
     .rw[show(z.L==x.L)=false by simpa using e1];simp only[cond_false,dx,dz,e1,or_false]
    have af:=Xu (s:=x.L) B aw aJ (aQ.2 (by rw[o];decide));refine aj (λk=>by cases k) λ_=>aj (λ_=>?_) λk=>by simp[hN]at k
    rw[Q];refine bQ (XG d.J {d.K with j:=d.K.j.map (gC (laid (d.aE.take r.toNat)))} x.L y hc B (A.2.1 x Y).1.1 (A.2.1 x Y).1.2.1 aw aJ (aQ.2 (by rw[o];decide)) bm) λbw aB=>?_;rw[aB.1,aB.2];dsimp only at af|-;rw[aY]at af|-;have am:ig d.J x=lQ d.J x:=by unfold ig;rw[C];rfl
    rw[am]at aa;exact bF ⟨by dsimp only;omega,by dsimp only;omega,rfl,rfl,rfl,rfl,rfl,rfl,aa,λ_=>rfl,af⟩ (by dsimp only;omega)
   .have C:(x.aG==4)=false:=by simpa using o
    rw[C];have O:laid (d.aE.take (r+1).toNat)=laid (d.aE.take r.toNat):=by unfold laid;rw[aL,ph,mm,jP,if_neg (by rw[C];simp)];simp
    have am:ig d.J x=x:=by unfold ig;rw[C];rfl
    have aZ:al.set r.toNat x=al:=by
     apply o0;intro i;rw[lg];split
     .rename_i e;subst e;rw[ap,if_pos (cy.1 ap).1]
     .rfl
    rw[am,aZ]at aa;refine aj (λ_=>bF ⟨by dsimp only;omega,by dsimp only;omega,rfl,rfl,rfl,rfl,?_,rfl,aa,?_,?_⟩ (by dsimp only;omega)) λk=>by cases k
    .dsimp only;rw[O];exact Q
    .dsimp only;rw[O];exact E
    .dsimp only;rw[O];exact B
  .have q:r=d.aE.length:=by simp at q;omega
   subst q;rw[show((d.aE.length:Nat):Int).toNat=d.aE.length from rfl,List.take_length]at Q N E B;rw[List.drop_length,jb]at N;have ag:I.L∈laid d.aE:=De.2 ⟨I,ak,Z,rfl⟩;have E:=E (λe=>by rw[e]at ag;cases ag);subst E;dsimp only;refine aj (λk=>by cases k) λ_=>?_;unfold Df Iv G9 Ay BH;dsimp only;refine aj (λ_=>ar hc λbD a1=>ar (by simp;omega) λbA aA=>aj (λk=>by cases k) λ_=>ax ?_) λk=>by cases k
   subst Q N;obtain⟨u,an⟩:∃u,u=laid d.aE:=⟨_,rfl⟩;rw[<-an]at B ag|-;have a2:∀h∈d.aE,h.aG≠4->h.L∉u:=λh hm o D=>by rw[an]at D;obtain⟨z,U,z2,z3⟩:=De.1 D;obtain⟨i,e1⟩:=qL U;obtain⟨j,e2⟩:=qL hm;have:=q_ A.2.2 e1 e2 z3;rw[this,e2]at e1;rw[Option.some.inj e1]at o;exact o z2
   have el:∀s,eK (d.K.j.map (gC u)) s=(eK d.K.j s).map (gC u):=λs=>Al (sq u) _ s;refine⟨rfl,⟨⟨hc,bc,aN,Qc A (λx=>P2 d.J x) (λx hm=>?_),B,bi,bb⟩,λk=>(by rw[show _=d.X.cn from rfl,hN]at k;cases k),λ_=>⟨λh bp=>?_,λs e av=>?_,?_⟩⟩,rfl,λ_ h=>h,?_,?_,?_⟩
   .have ho:=A.2.1 x hm;unfold ig;cases e:x.aG==4 with
    |true=>exact Sv hc ho (by simpa using e)
    |false=>exact ho
   .obtain⟨y,ad,rfl⟩:=gm.1 bp;obtain⟨t1,t2,a'⟩:=c1 y ad;by_cases o:y.aG=4
    .have e1:ig d.J y=lQ d.J y:=by unfold ig;rw[show(y.aG==4)=true by simpa using o];rfl
     have aU:y.cG=false:=by
      cases e:y.cG with
      |false=>rfl
      |true=>have:=((A.2.1 y ad).2.2.2.2.2.2 e).2;rw[o]at this;exact absurd this (by decide)
     obtain⟨z,U,_,z3,_⟩:=a' (by rw[o];decide);rw[e1];refine⟨λ_=>?_,?_,λk=>absurd (show 1<(0:UInt8).toNat from k) (by decide)⟩
     .show y.cG=true↔true∈dr y.a_.length false;rw[aU];simp
     .show y.cG=true↔∃x,eK (d.K.j.map (gC u)) y.L=some x/\x.bP=false;rw[el,U,aU];simp[(sq u z).2.2.2,z3]
    .have e1:ig d.J y=y:=by unfold ig;rw[show(y.aG==4)=false by simpa using o];rfl
     rw[e1];refine(c1 y ad).last ?_;dsimp only;rw[el];cases e:eK d.K.j y.L with
     |none=>rfl
     |some z=>
      simp only[jd];unfold gC;rw[if_neg (by rw[(qz e).2];exact a2 y ad o)]
   .dsimp only at av|-;rw[el]at av;obtain⟨aq,ao,rfl⟩:=iK.1 av;obtain⟨a8,bn⟩:=a7 s aq ao;rw[(sq u aq).2.2.2];refine⟨λk=>?_,λbd G=>?_⟩
    .obtain⟨h,ae,ac⟩:=a8 k;exact⟨ig d.J h,pg ae,by rw[P2];exact ac⟩
    .have aC:s∉u:=λD=>by unfold gC at G;rw[if_pos (by rw[(qz ao).2];exact D)]at G;cases G
     have a0:aq.cH=false:=by unfold gC at G;rw[if_neg (by rw[(qz ao).2];exact aC)]at G;exact G
     obtain⟨h,ae,ac,ba⟩:=bn bd a0;have o:h.aG≠4:=λe=>aC (by rw[an];exact De.2 ⟨h,ae,e,ac⟩);have e1:ig d.J h=h:=by unfold ig;rw[show(h.aG==4)=false by simpa using o];rfl
     exact⟨h,by rw[<-e1];exact pg ae,ac,ba⟩
   .refine List.pairwise_map.2 (bl.imp λ{a b} a5 e k=>?_);rw[(sq u a).2.1,(sq u b).2.1]at e;unfold gC at k|-;by_cases S:b.L∈u
    .rw[if_pos (by rw[e];exact S)]
    .rw[if_neg S]at k;rw[if_neg (by rw[e];exact S)];exact a5 e k
   .have aO:∀x,x.aG=4->wt (ig d.J x)=0:=λx o=>by unfold ig;rw[show(x.aG==4)=true by simpa using o];unfold wt lQ;simp
    have bI:=PE (l:=d.aE) (f:=ig d.J) (w:=wt) (λx _=>by
     by_cases o:x.aG=4
     .rw[aO x o];exact jM _
     .unfold ig;rw[show(x.aG==4)=false by simpa using o];exact bh _) ak (by
     rw[aO I Z];unfold wt;rw[if_pos ((A.2.1 I ak).2.2.2.2.1 (by rw[Z];decide)),Z];simp)
    have w2:=Ip (l:=d.K.j) (f:=gC u) (w:=wl) λx _=>by unfold wl;rw[RP];exact bh _
    show((d.aE.map (ig d.J)).map wt).sum+((d.K.j.map (gC u)).map wl).sum+wp d.J d.X<W d;unfold W;omega
   .dsimp only;rw[aA];simp;omega
   .dsimp only;rw[aA];simpa using a1.2.2
 .have e0:d.K.j.map (gC [])=d.K.j:=by rw[vj (g:=id) (λx _=>by unfold gC;simp),List.map_id]
  refine⟨by simp,by simp,rfl,rfl,rfl,rfl,?_,rfl,by simp,by simp[laid],?_⟩
  .show d.K.j=d.K.j.map (gC []);rw[e0]
  .show gk d.J {d.K with j:=d.K.j.map (gC [])};rw[e0];exact a9
theorem X1{u:j}{E:List j}(e0:d.K.j=u::E)(L:u.cH=true):T (Bw d) (iQ d):=by
 have aq:=hi.uN;obtain⟨hc,am,A,N,D,ak,ag⟩:=hi.1;obtain⟨c1,ad,O⟩:=hi.2.2 hN;unfold Bw;rw[oT hi,bo,mB hi,bo];refine aj (λk=>by simp[A]at k) λ_=>?_;unfold HT;dsimp only;refine aj (λk=>by simp[hN]at k) λ_=>?_;unfold BD GM;dsimp only;refine aj (λ_=>ar ⟨hc,D,u,E,e0,L⟩ λr G=>?_) λk=>by cases k
 obtain⟨aa,al,ay,⟨k,Q,ac,o,C⟩,aw,Y⟩:=G;refine aj (λk=>by simp[aa]at k) λ_=>?_;unfold BG G7 E6 D8 z6;dsimp only at Q ac o C|-;refine ar (by simp;omega) λav z=>aj (λk=>by cases k) λ_=>ax ?_;have dn:∀s e,eK d.K.j s=some e->e.cH=false->eK (d.K.j.drop k) s=some e:=λs e a w=>by
  obtain⟨n,e1,e2,e3⟩:=rX a;have ap:k<=n:=by
   rcases mh n k with h|h
   .have:e∈d.K.j.take k:=by rw[Kf];exact⟨n,by rw[gI h];exact e1⟩
    have:=C e this;rw[w]at this;cases this
   .exact h
  exact yP (k:=n - k) none (by rw[ke,show k+(n - k)=n by omega];exact e1) e2 (by rw[qO,show k+(n - k+1)=n+1 by omega];exact e3)
 have up:∀s e,eK (d.K.j.drop k) s=some e->eK d.K.j s=some e:=λs e a=>by obtain⟨n,e1,e2,e3⟩:=rX a;exact yP (k:=k+n) none (by rw[ke]at e1;exact e1) e2 (by rw[qO]at e3;rw[Nat.add_assoc];exact e3)
 have an:(K.mk r.1.bR r.1.Seq r.1.ca r.1.cg r.1.j).j=d.K.j.drop k:=o;refine⟨rfl,⟨⟨hc,am,A,N,al,ak,ag⟩,λk=>(by rw[show _=d.X.cn from rfl,hN]at k;cases k),λ_=>⟨λh w=>?_,λs e a=>?_,?_⟩⟩,rfl,λ_ h=>h,?_,by dsimp only;rw[z];simp;omega,by dsimp only;rw[z];simpa using Y⟩
 .obtain⟨t1,t2,af⟩:=c1 h w;dsimp only;rw[o];refine⟨t1,⟨λhd=>?_,λ⟨x,x1,q⟩=>t2.2 ⟨x,up _ _ x1,q⟩⟩,λZ=>?_⟩
  .obtain⟨x,x1,q⟩:=t2.1 hd;refine⟨x,dn _ _ x1 ?_,q⟩;cases I:x.cH with
   |false=>rfl
   |true=>
    obtain⟨n,e1,e2,e3⟩:=rX x1;have:=Bj n x D.2.2.2.2.2.1 e1 I;rcases this.2 with h|⟨y,ae,U,_⟩
    .rw[q]at h;cases h
    .exact absurd (U.trans e2) (e3 y ae)
  .obtain⟨x,x1,q,S,B,V⟩:=af Z;exact⟨x,dn _ _ x1 B,q,S,B,V⟩
 .dsimp only at a|-;rw[o]at a;exact ad s e (up s e a)
 .dsimp only;rw[o];exact O.drop
 .unfold W;dsimp only;rw[o];have:((d.K.j.take k).map wl).sum+((d.K.j.drop k).map wl).sum=(d.K.j.map wl).sum:=by rw[<-List.sum_append_nat,<-mm,sM]
  have ao:0<((d.K.j.take k).map wl).sum:=by
   rw[e0];obtain⟨m,rfl⟩:∃m,k=m+1:=⟨k - 1,by omega⟩;rw[List.take_succ_cons,fh,nZ];have:0<wl u:=by unfold wl;split<;>omega
   omega
  show(d.aE.map wt).sum+((d.K.j.drop k).map wl).sum+wp d.J d.X<_;omega
end
theorem KG{d:N}(hi:Inv d){l:X}(r:jA d.J l)(A:l.cO=false)(a:l.cn=d.X.cn):Inv {d with X:=l}:=by obtain⟨⟨hc,_,_,z,q,j,w⟩,u,o⟩:=hi;exact⟨⟨hc,r,A,z,q,j,w⟩,λk=>u (by rw[<-a];exact k),λk=>o (by rw[<-a];exact k)⟩
section
variable{d:N}(hi:Inv d)
include hi
theorem ZG(ds:List aU)(E:fq d.J ds)(L:iB d.J d.X ds)(j:d.X.dt=true)(q:d.X.Pos<d.J.bz * d.J.bb):T (CQ ⟨d,ds⟩ d.X.Pos) (iQ d):=by
 obtain⟨hc,z,B,_⟩:=hi.1;obtain⟨l1,l2,o,I,S,Y,u,Q⟩:=id z;have Z:=l9 hc;have O:=u j;unfold CQ;rw[oT hi,bo];refine ar ⟨hc,by omega,q,by omega,o⟩ λG r=>bQ (PM d.J ds d.X.bZ d.X.Pos G.1 E (by omega) q r.2.1 r.2.2 l2 o λi x A _ hx=>?_) λV w=>aj (λk=>by simp[w.1]at k) λ_=>?_
 .cases N:x.dS with
  |false=>rfl
  |true=>have:=(L i x A hx N).2;rw[j]at this;cases this
 unfold EF;refine aS (ar ⟨hc,z⟩ λx1 C=>aj (λk=>by simp[C]at k) λ_=>ar trivial λU K=>?_);unfold told at K;refine aj (λk=>by simp[j]at k;grind) λ_=>ax (ax ?_);rw[bg (x:=d.X.Pos+1) (by omega) (by omega)];refine⟨rfl,KG hi ⟨l1,l2,o,I,by dsimp only;omega,by dsimp only;omega,u, .inl j⟩ B rfl,rfl,λds h=>h,?_,by simp,λa D=>?_⟩
 .unfold W wp;dsimp only;rw[if_pos j,if_pos j];split<;>split<;>omega
 .rw[dz.1 D];refine⟨by dsimp only;omega,by dsimp only;omega, .inr ⟨.inl rfl,by dsimp only;omega,?_, .inr w.2⟩⟩;unfold jy;dsimp only;rw[if_neg (by omega)];omega
theorem Xj(ds:List aU)(s:Int)(a:d.X.dt=true)(G:d.X.cN<d.X.Pos):T (Bf ⟨d,ds⟩ s) (λr=>iQ d r\/r.2.2=9):=by
 obtain⟨hc,A,q,_⟩:=hi.1;obtain⟨l1,l2,K,Z,U,I,u,S⟩:=id A;have aa:=hc.2.1;have Q:=u a;unfold Bf;rw[oT hi,bo];have key:T (BY d.J d.X) (λr=>jA d.J r.1/\r.1.cO=false/\r.1.cn=d.X.cn/\(∀ds,iB d.J d.X ds->iB d.J r.1 ds)/\wp d.J r.1<wp d.J d.X):=by
  unfold BY I7 Dg;refine ar ⟨hc,A⟩ λx1 D=>aj (λk=>by simp[D]at k) λ_=>aj (λk=>by simp[a]at k;omega) λ_=>ar trivial λY L=>?_;unfold told at L;have w0:wp d.J d.X=2 * (d.J.bz * d.J.bb - d.X.Pos).toNat+1:=by unfold wp;rw[if_pos a,if_pos G]
  refine aj (λk=>ax ⟨⟨l1,by simp,by dsimp only;omega,by simp,by simp,by have:=l9 hc;dsimp only;omega,by simp,by simp⟩,q,rfl,λds h i x B hx O=>?_,?_⟩) λk=>ax ⟨⟨l1,l2,K,by dsimp only;omega,by simp,I,u, .inl a⟩,q,rfl,λds h=>h,?_⟩
  .have:=(h i x B hx O).2;rw[a]at this;cases this
  .rw[w0];unfold wp;simp
  .rw[w0];unfold wp;dsimp only;rw[if_pos a,if_neg (by omega)];omega
 refine bQ key λE j=>ar ⟨hc,j.1,j.2.1⟩ λo N=>?_;rcases N with⟨e0,e1,e2,e3,C⟩|z
 .refine aj (λk=>by simp[e0]at k) λ_=>ar (by simp;omega) λV w=>ax ?_;have q1:o.1.cO=false:=by rw[e1];exact j.2.1
  have q2:o.1.cn=d.X.cn:=by rw[e1];exact j.2.2.1
  refine .inl ⟨rfl,KG hi e2 q1 q2,rfl,λds h=>?_,?_,by dsimp only;rw[w];simp;omega,?_⟩
  .have:=j.2.2.2.1 ds h;dsimp only;rw[e1];exact this
  .have:=j.2.2.2.2;have e:wp d.J o.1=wp d.J E.1:=by rw[e1];rfl
   unfold W;dsimp only;omega
  .dsimp only;rw[w];refine rk (λx hx=>?_) C;rw[dz.1 hx];exact⟨by dsimp only;omega,by dsimp only;omega, .inl ⟨rfl,rfl,rfl⟩⟩
 .exact aj (λ_=>ax (.inr z)) λk=>by simp[z]at k
end
end Go.Proofs.YthpphdegpinepaaGreat
