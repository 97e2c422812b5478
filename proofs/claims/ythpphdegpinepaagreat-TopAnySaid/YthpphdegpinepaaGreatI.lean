/- Part of the proof of TopAny. -/
import Derived.Test.YthpphdegpinepaaGreatD
import Derived.Lib.Overlaps
import Derived.Laws.Externs
import Derived.Laws.CopyRow
import Derived.Lib.AppendZerosOnto
import Derived.Lib.JoinLaws
import Derived.Lib.AppendZeros
import Derived.Laws.IdiomCopy
namespace Go.Proofs.YthpphdegpinepaaGreat
set_option linter.all false
open Go GL Go.RowKit Go.Lib
open Go.Builtin renaming copy_ -> jO, zeroCells -> kF, append_ -> mj
open Nat renaming add_zero -> ja, zero_add -> dQ, le_refl -> bh, zero_le -> jM
open Go.Region renaming wanted -> gH
open Go.Oper renaming wp -> dy
open Go.Result renaming andThen -> zA, andThen_ok -> eA
open Go.Sem renaming run_bind -> cU, run_pure -> gx
open List renaming map_cons -> fh, length_take -> cf, size_toArray -> g5, length_append -> bY, length_drop -> eH, getElem?_eq_some_iff -> cy, getElem?_take_of_lt -> gI, toList_toArray -> kf, append_assoc -> fE, drop_of_length_le -> kb, nil_append -> gZ, take_zero -> mi, take_append_of_le_length -> iM, take_of_length_le -> fm, mem_of_mem_drop -> vq, eq_nil_of_length_eq_zero -> y8, append_nil -> jb
open Go.Proofs.Tryz renaming prog -> H, underlying29 -> nf, func294 -> J9, ntmps294 -> J_, underlying3 -> qS
open Go.Value renaming agg -> mn, ownBlock -> kB
open Go.IntKind renaming wrap_i64 -> ld
open Go.Departure renaming mixedOrders -> la
open Go.Lib renaming wpList_append_run -> qT
theorem lR{P:Program}(w:World)(dT sT ty elem:TypeId)(g o dLen dCap:Nat)(a:Addr)(sLen sCap:Nat)(j:Array Value)(t:TypeId)(cs:List Value)(i:TypeInfo)(size n:Nat)
  (hu:P.underlying dT=some (.slice elem))(B:P.info? elem=some i)(A:i.size=size)
  (D:w.heap[g]? =some (.cells j t (0,0)))(G:Nat.min sLen dLen=n)(C:cs.length=n * size)
  (u:∀r v,cs[r]? =some v->w.cell? (a.add r)=some v)(z:o+cs.length<=j.size)(I:∀v∈cs,v.oneCell'=true):
  (jO #[dT,sT] ty #[.slice (some ⟨g,o,none⟩) dLen dCap, .slice (some a) sLen sCap]).run P w=
   .ok (goInt n) (w.setRow g (j.toList.take o++cs++j.toList.drop (o+cs.length)).toArray):=by
 have E:=run_firstCells_some (P:=P) w size n a sLen sCap cs C u;have q:=run_storeCells_at P g o t cs 0 j w D (by simpa using z) I;simp only[ja]at q;subst G;simp[jO,run_underlying hu,Builtin.lenOf,sizeOf,typeInfo,B,A,E,q]
theorem tF{P:Program}{ops:Array Oper}{o:Oper}{a:Act}{w:World}{j:Act->World->Prop}{Q:Exit->Act->World->Prop}{C:Prop}
  (z:o.guard=none)(d x:Operand)(dT sT:TypeId)(q:o.op=Op.call {callee:=Callee.builtin Builtin.copy,args:= #[d,x],argTypes:= #[dT,sT]})
  (v u v':Value)(w':World)(hd:a.eval d=v)(hx:a.eval x=u)(A:(jO #[dT,sT] o.type #[v,u]).run P w= .ok v' w')(B:j (a.put o.dst v') w'):
  if gH o (yielded ops a.tmps)=true then dy P o a w j Q else C:=by
 have r:gH o (yielded ops a.tmps)=true:=by simp[gH,z]
 rw[if_pos r];unfold dy;simp[execOp,q,resolve,invoke,builtin,hd,hx,A,zA];exact B
theorem uZ{P:Program}(w:World){ops:Array Oper}{j:List Oper}{o:Oper}{a:Act}{Q:Exit->Act->World->Prop}(r:o.guard=none)(d s:Operand)(t t':TypeId)
  (ho:o.op= .call {callee:= .builtin .copy,args:= #[d,s],argTypes:= #[t,t']})(v u:Value)(hd:a.eval d=v)(A:a.eval s=u){q:Value}{w':World}
  (z:(jO #[t,t'] o.type #[v,u]).run P w= .ok q w')(h:wpList P ops Q j (a.put o.dst q) w'):wpList P ops Q (o::j) a w:=
 wpList_plain r λ_ B=>by unfold dy execOp;simp only[ho,resolve,invoke,builtin,cU,gx,eA,List.map_toArray,fh,List.map_nil,hd,A,z];exact B _ _ h
set_option maxHeartbeats 4000000 in
set_option maxRecDepth 1000000 in
theorem TI(b j L vb vc:Nat)(a curv:Array Value)(u:List Value)(w:World)(E:w.heap[b]? =some (.cells a 79 (0,0)))(N:a.size=j * 6)(aM:0<L)(aq:L+1<=j)(aL:j<=9223372036854775807)
  (D:w.heap[vb]? =some (.cells curv 79 (0,0)))(X:curv.toList.take 6=u)(r:u.length=6)(Z:vb≠b)
  (ae:∀v∈a.toList.take (L * 6),v.oneCell'=true)(ac:∀v∈u,v.oneCell'=true):
  Calls H 294 #[.slice (some ⟨b,0,none⟩) L j, .int .i64 0, .slice (some ⟨vb,0,none⟩) 1 vc] w λe w'=>e= .returned (.slice (some ⟨b,0,none⟩) (L+1) j)/\∃row:Array Value,
   eu w w' b 79 row/\row.size=j * 6/\row.toList.take ((L+1) * 6)=u++a.toList.take (L * 6):=by
 obtain⟨ad,aa,aB,Y,aF⟩:∃i,Tryz.prog.info? 79=some i/\i.zero=some (mn #[.int .i64 0, .slice none 0 0, .slice none 0 0, .int .u8 0, .bool false, .int .u32 0])/\i.size=6/\i.bytes=64:=info_parts (by kernel_rfl);have W:∀t,w.cell? ⟨b,t,none⟩=a[t]? :=λt=>cell_of_row w b t a 79 (0,0) E;have af:∀t,w.cell? ⟨vb,t,none⟩=curv[t]? :=λt=>cell_of_row w vb t curv 79 (0,0) D;have ak:L * 6<=a.size:=by omega
 have B:(a.toList.take (L * 6)).length=L * 6:=by rw[cf,Array.length_toList];omega
 have an:∀V U,(callFunc 306 #[.slice (some ⟨vb,0,none⟩) 1 vc, .slice (some ⟨b,6,none⟩) V U]).run H w= .ok (.value (.bool false)) w:=λV U=>by
  rw[run_callFunc_extern Tryz.func306 (by kernel_rfl) (by kernel_rfl) (by kernel_rfl) (e:=Extern.SlicesOverlaps.overlaps #[29,29] #[4]) (by kernel_rfl),
   Lib.run_overlaps_apart w 29 4 79 nf 6 Tryz.sizeOf79 ⟨vb,0,none⟩ ⟨b,6,none⟩ 1 vc V U Z 79 79 curv.size a.size (by unfold World.shape?;rw[D]) (by unfold World.shape?;rw[E]) (by omega) (frozen_of_row w vb 0 curv 79 D) (frozen_of_row w vb _ curv 79 D)]
  rfl
 obtain⟨o,I⟩:∃o:Array Value,o=(a.toList.take 6++a.toList.take (L * 6)++a.toList.drop (6+(a.toList.take (L * 6)).length)).toArray:=⟨_,rfl⟩;have Q:o.size=j * 6:=by rw[I];simp only[g5,bY,cf,eH,Array.length_toList,N];omega
 obtain⟨q,S⟩:∃q,q=w.drew.setRow b o:=⟨_,rfl⟩;have K:eu w q b 79 o:=by rw[S];exact(eu.refl E).drew.set
 have hcp1:∀ty z sc,(jO #[29,29] ty #[.slice (some ⟨b,6,none⟩) L z, .slice (some ⟨b,0,none⟩) (L+1) sc]).run H w.drew= .ok (goInt L) q:=λty z sc=>by
  rw[S,I];exact lR w.drew 29 29 ty 79 b 6 L z ⟨b,0,none⟩ (L+1) sc a 79 (a.toList.take (L * 6)) ad 6 L nf aa Y E (by simp only[Nat.min_def];split<;>omega) B
   (λG v A=>by
    rw[Addr.add_lit,dQ];have O:G<L * 6:=by have:=(cy.1 A).1;rwa [B]at this
    rw[gI O,Array.getElem?_toList]at A;exact(W G).trans A) (by rw[B,N];omega) ae
 obtain⟨C,J⟩:∃C:Array Value,C=(o.toList.take 0++u++o.toList.drop (0+u.length)).toArray:=⟨_,rfl⟩;have am:∀ty z,(jO #[29,29] ty #[.slice (some ⟨b,0,none⟩) (L+1) z, .slice (some ⟨vb,0,none⟩) 1 vc]).run H q= .ok (goInt 1) (q.setRow b C):=λty z=>by
  rw[J];exact lR q 29 29 ty 79 b 0 (L+1) z ⟨vb,0,none⟩ 1 vc o 79 u ad 6 1 nf aa Y K.row (by simp only[Nat.min_def];split<;>omega) r
   (λG v A=>by
    rw[Addr.add_lit,dQ];have O:G<6:=by have:=(cy.1 A).1;rwa [r]at this
    rw[<-X,gI O,Array.getElem?_toList]at A;rw[cell_of_row q vb G curv 79 (0,0) ((K.other vb Z).trans D)];exact A) (by rw[r,Q];omega) ac
 have al:Hid (C.size=j * 6/\C.toList.take ((L+1) * 6)=u++a.toList.take (L * 6)):=by
  refine⟨?_,?_⟩
  .rw[J];simp only[g5,bY,cf,eH,Array.length_toList,r,Q];omega
  .have e1:o.toList.drop 6=a.toList.take (L * 6)++a.toList.drop (6+(a.toList.take (L * 6)).length):=by rw[I,kf,fE,List.drop_append_of_le_length (by rw[cf,Array.length_toList];omega),kb (by rw[cf];omega),gZ]
   rw[J,kf,r,mi,gZ,dQ,e1,<-fE,iM (by rw[bY,r,B];omega),fm (by rw[bY,r,B];omega)]
 have ao:Hid (eu w q b 79 o):=K;have av:IntKind.i64.wrap ((L:Int)+1)=(L:Int)+1:=by rw[ld];omega
 have ap:IntKind.i64.wrap ((0:Int)+1)=1:=by rfl
 have ar:IntKind.i64.wrap (1:Int)=1:=by rfl
 have aC: ¬((0:Int)=(L:Int)):=by omega
 have az:(0:Int)<=(L:Int)+1:=by omega
 have aE:((L:Int)+1).toNat=L+1:=by omega
 have aw: ¬(j=1):=by omega
 have aA: ¬(j=0):=by omega
 have aJ: ¬((j:Int)<(L:Int)+1):=by omega
 have aG:(L:Int)+1<=(j:Int):=by omega
 have aH:(1:Int)<=(L:Int)+1:=by omega
 have ay:1<=L+1:=by omega
 have aI:Tryz.prog.follows la=true:=by kernel_rfl
 clear I J S K Q W af ak B X r ae ac E D N
 go_enter J9,J_
 go_wp2_with (simp only[an])
 have ag:=hcp1;clear hcp1
 go_region_law_o (refine tF rfl _ _ 29 29 rfl (.slice (some ⟨b,6,none⟩) L (j - 1)) (.slice (some ⟨b,0,none⟩) (L+1) j) _ _ (by simp[Act.eval,Act.put]) (by simp[Act.eval,Act.put]) (ag _ _ _) ?_)
 all_goals go_wp2_with (at_builtin;refine uZ _ rfl _ _ 29 29 rfl _ _ rfl rfl (am _ _) ?_)
 all_goals go_ret
 all_goals exact⟨rfl,C,ao.out.set,al.out⟩
set_option maxHeartbeats 4000000 in
set_option maxRecDepth 1000000 in
theorem W3(b a L vb vc:Nat)(q curv:Array Value)(A:List Value)(w:World)(Y:w.heap[b]? =some (.cells q 79 (0,0)))(aC:q.size=a * 6)(a9:0<L)(aQ:L<=a)(aR:a<L+1)(a8:a<=9223372036854775807)(a2:L+1<4294967296)
  (ae:w.heap[vb]? =some (.cells curv 79 (0,0)))(aq:curv.toList.take 6=A)(C:A.length=6)
  (ay:∀v∈q.toList.take (L * 6),v.oneCell'=true)(aw:∀v∈A,v.oneCell'=true):
  Calls H 294 #[.slice (some ⟨b,0,none⟩) L a, .int .i64 0, .slice (some ⟨vb,0,none⟩) 1 vc] w λe w'=>∃G,L+1<=G/\G<=maxLen/\e= .returned (.slice (some ⟨w.heap.size,0,none⟩) (L+1) G)/\∃(row o:Array Value),
   eu (w.drew.alloc (.cells o 79)) w' w.heap.size 79 row/\row.size=G * 6/\row.toList.take ((L+1) * 6)=A++q.toList.take (L * 6):=by
 obtain⟨am,ag,aH,ac,av⟩:∃i,Tryz.prog.info? 79=some i/\i.zero=some (mn #[.int .i64 0, .slice none 0 0, .slice none 0 0, .int .u8 0, .bool false, .int .u32 0])/\i.size=6/\i.bytes=64:=info_parts (by kernel_rfl);have aL:b<w.heap.size:=(Array.getElem?_eq_some_iff.1 Y).1;have aG:vb<w.heap.size:=(Array.getElem?_eq_some_iff.1 ae).1;have aA:L * 6<=q.size:=by omega
 have B:(q.toList.take (L * 6)).length=L * 6:=by rw[cf,Array.length_toList];omega
 obtain⟨U,af⟩:∃U:Array Value,U=(mn #[.int .i64 0, .slice none 0 0, .slice none 0 0, .int .u8 0, .bool false, .int .u32 0]).cells:=⟨_,rfl⟩;have an:U.size=6:=by rw[af];rfl
 obtain⟨G,V⟩:∃G,G=grownCap w (L+1) a 79:=⟨_,rfl⟩;have ap:L+1<=G:=by rw[V];exact grownCap_ge w _ _ _
 have ao:G<=maxLen:=by rw[V];exact grownCap_le_maxLen w (L+1) a 79 (by unfold maxLen;omega)
 obtain⟨o,W⟩:∃o:Array Value,o= #[]++kF U (L+1)++kF U (G - (L+1)):=⟨_,rfl⟩;have Z:o.size=G * 6:=by rw[W];simp only[Array.size_append,size_zeroCells,an,g5,List.length_nil];omega
 obtain⟨N,K⟩:∃N,N=w.heap.size:=⟨_,rfl⟩;obtain⟨j,J⟩:∃j,j=w.drew.alloc (.cells o 79):=⟨_,rfl⟩;have aF:∀ty,(mj #[29,3] ty #[.slice (some ⟨b,0,none⟩) 0 a, .int .i64 ((L:Int)+1)]).run H w=
   .ok (.slice (some ⟨N,0,none⟩) (L+1) G) j:=λty=>by
  have h:=Lib.run_append_grow_zeros w 29 3 ty 79 am _ .i64 .i64 nf qS ag aH (some ⟨b,0,none⟩) 0 a [] (by rw[ac];exact run_firstCells_some w.drew 6 0 ⟨b,0,none⟩ 0 a [] rfl (λI v z=>by simp at z)) (L+1) (by omega) (by omega) (by omega) (by omega) (by rw[av];omega) (by rw[av,dQ];exact growslice_fits (by omega) (by omega))
  rw[dQ]at h;rw[J,W,K,V,af];have e:((L+1:Nat):Int)=(L:Int)+1:=by omega
  rw[e]at h;exact h
 have ak:eu j j N 79 o:=eu.refl (by rw[J,K];exact Array.getElem?_push_size)
 have X:∀k,k<w.heap.size->j.heap[k]? =w.heap[k]? :=λk aM=>by rw[J];exact RowKit.Below.heap_alloc w.drew _ k aM
 obtain⟨r,O⟩:∃r:Array Value,r=(o.toList.take 0++A++o.toList.drop (0+A.length)).toArray:=⟨_,rfl⟩;have ad:r.size=G * 6:=by rw[O];simp only[g5,bY,cf,eH,Array.length_toList,C,Z];omega
 obtain⟨u,al⟩:∃u,u=j.setRow N r:=⟨_,rfl⟩;have S:eu j u N 79 r:=by rw[al];exact ak.set
 have hcpA:∀ty D,(jO #[29,29] ty #[.slice (some ⟨N,0,none⟩) (L+1) D, .slice (some ⟨vb,0,none⟩) 1 vc]).run H j= .ok (goInt 1) u:=λty D=>by
  rw[al,O];exact lR j 29 29 ty 79 N 0 (L+1) D ⟨vb,0,none⟩ 1 vc o 79 A am 6 1 nf ag ac ak.row (by simp only[Nat.min_def];split<;>omega) C
   (λI v z=>by
    rw[Addr.add_lit,dQ];have aa:I<6:=by have:=(cy.1 z).1;rwa [C]at this
    rw[<-aq,gI aa,Array.getElem?_toList]at z;rw[cell_of_row j vb I curv 79 (0,0) ((X vb aG).trans ae)];exact z) (by rw[C,Z];omega) aw
 obtain⟨E,Q⟩:∃E:Array Value,E=(r.toList.take 6++q.toList.take (L * 6)++r.toList.drop (6+(q.toList.take (L * 6)).length)).toArray:=⟨_,rfl⟩;have az:∀ty D sc,(jO #[29,29] ty #[.slice (some ⟨N,6,none⟩) L D, .slice (some ⟨b,0,none⟩) L sc]).run H u.drew= .ok (goInt L) (u.drew.setRow N E):=λty D sc=>by
  rw[Q];exact lR u.drew 29 29 ty 79 N 6 L D ⟨b,0,none⟩ L sc r 79 (q.toList.take (L * 6)) am 6 L nf ag ac S.row (by simp only[Nat.min_def];split<;>omega) B
   (λI v z=>by
    rw[Addr.add_lit,dQ];have aa:I<L * 6:=by have:=(cy.1 z).1;rwa [B]at this
    rw[gI aa,Array.getElem?_toList]at z;have aN:u.drew.heap[b]? =some (.cells q 79 (0,0)):=(S.other b (by omega)).trans ((X b aL).trans Y);rw[cell_of_row u.drew b I q 79 (0,0) aN];exact z) (by rw[B,ad];omega) ay
 have aB:Hid (E.size=G * 6/\E.toList.take ((L+1) * 6)=A++q.toList.take (L * 6)):=by
  refine⟨?_,?_⟩
  .rw[Q];simp only[g5,bY,cf,eH,Array.length_toList,B,ad];omega
  .have e1:r.toList.take 6=A:=by rw[O,kf,mi,gZ,iM (by omega),fm (by omega)]
   rw[Q,kf,e1,iM (by rw[bY,C,B];omega),fm (by rw[bY,C,B];omega)]
 have aJ:Hid (eu j u N 79 r):=S;have aE:Hid (j=w.drew.alloc (.cells o 79)):=J;have aU:Hid (N=w.heap.size):=K;have ar:Hid (L+1<=G/\G<=maxLen):=⟨ap,ao⟩;have aZ:IntKind.i64.wrap ((L:Int)+1)=(L:Int)+1:=by rw[ld];omega
 have aO:IntKind.i64.wrap ((0:Int)+1)=1:=by rfl
 have aY:IntKind.i64.wrap (1:Int)=1:=by rfl
 have a5:IntKind.i64.wrap ((L:Int)+1 - 0)=(L:Int)+1:=by rw[ld];omega
 have a4: ¬((0:Int)=(L:Int)):=by omega
 have a3:(a:Int)<(L:Int)+1:=by omega
 have a0: ¬(G=1):=by omega
 have a1: ¬(a=0):=by omega
 have a7: ¬(G=0):=by omega
 have a6:(1:Int)<=(L:Int)+1:=by omega
 have aI:Tryz.prog.follows la=true:=by kernel_rfl
 clear O Q al S ad aA B aq C ay aw Y ae aC J ak X W Z af an ap ao V;rw[<-K];clear K
 go_enter J9,J_
 go_wp2_with (first
  |(at_builtin;refine qT _ rfl _ _ _ _ rfl _ _ rfl rfl _ _ (aF _) ?_)
  |(at_builtin;refine uZ _ rfl _ _ 29 29 rfl _ _ rfl rfl (hcpA _ _) ?_))
 go_region_law_o (refine tF rfl _ _ 29 29 rfl (.slice (some ⟨N,6,none⟩) L (G - 1)) (.slice (some ⟨b,0,none⟩) L a) _ _ (by simp[Act.eval,Act.put]) (by simp[Act.eval,Act.put]) (az _ _ _) ?_)
 all_goals go_wp2
 all_goals go_ret
 all_goals exact⟨G,ar.out.1,ar.out.2,rfl,E,o,by rw[<-aE.out];exact aJ.out.drew.set,aB.out⟩
set_option maxHeartbeats 4000000 in
set_option maxRecDepth 1000000 in
theorem Y0(vv v':Value)(w w':World)(vb vc:Nat)(a:vv= .slice (some ⟨vb,0,none⟩) 1 vc)
  (o:(mj #[29,29] 29 #[.slice none 0 0, .slice (some ⟨vb,0,none⟩) 1 vc]).run H w= .ok v' w'):
  Calls H 294 #[.slice none 0 0, .int .i64 0,vv] w λe j=>e= .returned v'/\j=w':=by
 subst a;have aI:Tryz.prog.follows la=true:=by kernel_rfl
 go_enter J9,J_
 go_wp2_with (at_builtin;refine qT _ rfl _ _ _ _ rfl _ _ rfl rfl _ _ o ?_)
 go_ret
 exact⟨rfl,rfl⟩
set_option maxHeartbeats 4000000 in
set_option maxRecDepth 1000000 in
theorem Xq(b cap:Nat)(vv v':Value)(w w':World)(vb vc:Nat)(a:vv= .slice (some ⟨vb,0,none⟩) 1 vc)
  (o:(mj #[29,29] 29 #[.slice (some ⟨b,0,none⟩) 0 cap, .slice (some ⟨vb,0,none⟩) 1 vc]).run H w= .ok v' w'):
  Calls H 294 #[.slice (some ⟨b,0,none⟩) 0 cap, .int .i64 0,vv] w λe j=>e= .returned v'/\j=w':=by
 subst a;have aI:Tryz.prog.follows la=true:=by kernel_rfl
 go_enter J9,J_
 go_wp2_with (at_builtin;refine qT _ rfl _ _ _ _ rfl _ _ rfl rfl _ _ o ?_)
 go_ret
 exact⟨rfl,rfl⟩
theorem eu.grown{w w':World}{b:Nat}{e:TypeId}{row:Array Value}(h:eu w w' b e row):w.grownBy w' (some b):=
 ⟨h.os,h.tape,h.output,by rw[h.size];exact bh _,λk _ j=>h.other k (λa=>j (by rw[a]))⟩
theorem Tu{a:Value}{L i j:Nat}{xs:List Value}{w:World}(r:w.ownsRow 0 79 6 a L xs)(J:i<j)(O:j<=L)(S:∀v∈xs,v.oneCell'=true):
  Calls H 293 #[a, .int .i64 i, .int .i64 j] w λe w'=>∃q,e= .returned q/\w'.ownsRow 0 79 6 q (i+(L - j)) (xs.take (i * 6)++xs.drop (j * 6))/\w.grownBy w' a.ownBlock/\q.ownBlock=a.ownBlock:=by
 obtain⟨D,r⟩:=r;rcases r with⟨_,U⟩|⟨b,z,o,rfl,_,E,I,C,G,u⟩
 .omega
 have hd:(o.toList.drop (j * 6)).take ((L - j) * 6)=xs.drop (j * 6):=by rw[<-u,List.drop_take];congr 1;omega
 have Q:o.toList.take (i * 6)=xs.take (i * 6):=by rw[<-u,List.take_take];congr 1;omega
 refine(SD b z L i j o w E G I (by simp only[maxLen]at C;omega) J O (by rw[hd];exact λv N=>S v (vq N))).mono ?_;rintro e w' ⟨rfl,row,B,K,A⟩;rw[hd,Q]at A;refine⟨_,rfl,⟨?_, .inr ⟨b,z,row,rfl,jM _,B.row,by omega,C,K,A⟩⟩,B.grown,rfl⟩;rw[bY,cf,eH,D];omega
theorem Zq{I vv:Value}{L:Nat}{xs o:List Value}{w:World}(J:w.ownsRow 0 79 6 I L xs)(al:w.ownsRow 0 79 6 vv 1 o)(aF:∀b,I.ownBlock=some b->vv.ownBlock≠some b)(aG:L+1<4294967296)
  (aA:∀v∈xs,v.oneCell'=true)(aa:∀v∈o,v.oneCell'=true):
  Calls H 294 #[I, .int .i64 0,vv] w λe w'=>∃z,e= .returned z/\w'.ownsRow 0 79 6 z (L+1) (o++xs)/\w.grownBy w' I.ownBlock/\∀b,z.ownBlock=some b->I.ownBlock=some b\/b=w.heap.size:=by
 obtain⟨ac,Z,ag,Q,ak⟩:∃i,Tryz.prog.info? 79=some i/\i.zero=some (mn #[.int .i64 0, .slice none 0 0, .slice none 0 0, .int .u8 0, .bool false, .int .u32 0])/\i.size=6/\i.bytes=64:=info_parts (by kernel_rfl);have aB:=J;obtain⟨ar,J⟩:=J;obtain⟨aR,al⟩:=al;rcases al with⟨_,aN⟩|⟨j,E,N,rfl,_,Y,_,_,aQ,aH⟩
 .omega
 have D:o.length=6:=by omega
 have V:N.toList.take 6=o:=aH;by_cases hL:L=0
 .subst hL;have hx:xs=[]:=y8 (by omega);subst hx;obtain⟨z,w',O,an,az,aU⟩:=Go.run_append_own (P:=H) w 0 29 29 79 ac _ 6 64 nf Z ag Q ak rfl (by omega) I 0 [] aB ⟨j,0,none⟩ 1 E o (by omega) (λC v B=>by
   rw[Addr.add_lit,dQ,cell_of_row w j C N 79 (0,0) Y];have ad:C<6:=by have:=(cy.1 B).1;omega
   rw[<-V,gI ad,Array.getElem?_toList]at B;exact B) aa (by simp only[maxLen];omega) (by omega) (jM _)
  have af:∀(C:Nat) v,o[C]? =some v->w.cell? ((⟨j,0,none⟩:Addr).add C)=some v:=λC v B=>by
   rw[Addr.add_lit,dQ,cell_of_row w j C N 79 (0,0) Y];have ad:C<6:=by have:=(cy.1 B).1;omega
   rw[<-V,gI ad,Array.getElem?_toList]at B;exact B
  have aq:∀b,z.ownBlock=some b->I.ownBlock=some b\/b=w.heap.size:=λay a=>by
   rcases J with⟨rfl,_⟩|⟨b,q,S,rfl,_,W,av,am,X,K⟩
   .have r:=run_append_nil (P:=H) w 29 29 79 ac _ nf Z ag ⟨j,0,none⟩ 1 E o (by rw[D,Q]) af (by omega) (by omega) (by rw[ak];omega);rw[O]at r;simp only[Result.ok.injEq]at r;rw[r.1]at a;simp only[kB,Option.some.injEq]at a;exact .inr a.symm
   .by_cases hroom:0+1<=q
    .have r:=run_append_room (P:=H) w 29 29 79 ac nf Z b 0 q S W ⟨j,0,none⟩ 1 E o (by rw[D,Q]) af aa hroom (by rw[D,X];omega);rw[O]at r;simp only[Result.ok.injEq]at r;rw[r.1]at a;exact .inl a
    .have r:=run_append_grow (P:=H) w 29 29 79 ac _ nf Z ag ⟨b,0,none⟩ 0 q [] (by rw[Q];rfl) (λC u B=>by simp at B) ⟨j,0,none⟩ 1 E o (by rw[D,Q]) af (by omega) (by omega) (growslice_fits (by omega) (by rw[ak];omega));rw[O]at r;simp only[Result.ok.injEq]at r;rw[r.1]at a;simp only[kB,Option.some.injEq]at a;exact .inr a.symm
  simp only[jb];simp only[gZ]at an;rcases J with⟨rfl,_⟩|⟨b,q,S,rfl,_⟩
  .exact(Y0 _ z w w' j E rfl O).mono (λe aL ⟨ap,ao⟩=>by subst ao;exact⟨z,ap,an,az,aq⟩)
  .exact(Xq b q _ z w w' j E rfl O).mono (λe aL ⟨ap,ao⟩=>by subst ao;exact⟨z,ap,an,az,aq⟩)
 rcases J with⟨_,aN⟩|⟨b,q,S,rfl,_,W,av,am,X,K⟩
 .omega
 have aI:j≠b:=λaM=>aF b rfl (by rw[aM];rfl);have aw:q<=9223372036854775807:=by simp only[maxLen]at am;omega
 by_cases hroom:L+1<=q
 .refine(TI b q L j E S N o w W X (by omega) hroom aw Y V D aI (by rw[K];exact aA) aa).mono ?_;rintro e w' ⟨rfl,row,A,ae,U⟩;rw[K]at U;refine⟨_,rfl,⟨?_, .inr ⟨b,q,row,rfl,jM _,A.row,hroom,am,ae,U⟩⟩,A.grown,λay a=> .inl a⟩;rw[bY,D,ar];omega
 .refine(W3 b q L j E S N o w W X (by omega) av (by omega) aw aG Y V D (by rw[K];exact aA) aa).mono ?_;rintro e w' ⟨G,aE,aC,rfl,row,aO,A,ae,U⟩;rw[K]at U;refine⟨_,rfl,⟨?_, .inr ⟨w.heap.size,G,row,rfl,jM _,A.row,aE,aC,ae,U⟩⟩,⟨A.os,A.tape,A.output,?_,λk aJ _=>?_⟩,λay a=> .inr ?_⟩
  .rw[bY,D,ar];omega
  .rw[A.size];show w.heap.size<=(w.drew.heap.push _).size;rw[Array.size_push];exact Nat.le_succ _
  .rw[A.other k (by omega)];exact RowKit.Below.heap_alloc w.drew _ k aJ
  .simp only[kB,Option.some.injEq]at a;exact a.symm
end Go.Proofs.YthpphdegpinepaaGreat
