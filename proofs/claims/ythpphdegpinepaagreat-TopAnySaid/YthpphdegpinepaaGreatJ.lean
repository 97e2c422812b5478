/- Part of the proof of TopAny. -/
import Derived.Test.YthpphdegpinepaaGreatE
namespace Go.Proofs.YthpphdegpinepaaGreat
set_option linter.all false
open Go GL Go.RowKit Go.Lib
open Go.Proofs.Tryz renaming prog -> H, underlying162 -> pj, func260 -> J', ntmps260 -> Ka, underlying3 -> qS
open List renaming length_drop -> eH, length_take -> cf, mem_of_mem_drop -> vq, size_toArray -> g5, length_append -> bY, getElem?_eq_some_iff -> cy, getElem?_drop -> ke, getElem?_take_of_lt -> gI, length_singleton -> je, mem_singleton -> dz, toList_toArray -> kf, append_assoc -> fE, take_append_of_le_length -> iM, drop_of_length_le -> kb, nil_append -> gZ, length_cons -> jq, take_of_length_le -> fm
open Go.Builtin renaming copy_ -> jO, zeroCells -> kF, append_ -> mj
open Nat renaming mul_one -> ir, min_eq_left -> jN, zero_add -> dQ, zero_le -> jM
open Go.IntKind renaming wrap_i64 -> ld
open Go.Departure renaming mixedOrders -> la
open Go.Lib renaming wpList_append_run -> qT
open Go.Value renaming ownBlock -> kB
set_option maxHeartbeats 4000000 in
set_option maxRecDepth 1000000 in
theorem Xk(b o L a vb vc:Nat)(j curv:Array Value)(v:Value)(w:World)(I:w.heap[b]? =some (.cells j 3 (0,0)))(S:j.size=o)(a6:a<L)(aF:L+1<=o)(a5:o<=9223372036854775807)
  (E:w.heap[vb]? =some (.cells curv 3 (0,0)))(Z:curv.toList.take 1=[v])(ad:vb≠b)
  (al:∀u∈j.toList.take L,u.oneCell'=true)(ag:v.oneCell'=true):
  Calls H 260 #[.slice (some ⟨b,0,none⟩) L o, .int .i64 a, .slice (some ⟨vb,0,none⟩) 1 vc] w λe w'=>e= .returned (.slice (some ⟨b,0,none⟩) (L+1) o)/\∃row:Array Value,
   eu w w' b 3 row/\row.size=o/\row.toList.take (L+1)=j.toList.take a++v::(j.toList.take L).drop a:=by
 obtain⟨ak,af,aY,ac,a1⟩:∃i,Tryz.prog.info? 3=some i/\i.zero=some (.int .i64 0)/\i.size=1/\i.bytes=8:=info_parts (by kernel_rfl);have Y:∀t,w.cell? ⟨b,t,none⟩=j[t]? :=λt=>cell_of_row w b t j 3 (0,0) I;have am:∀t,w.cell? ⟨vb,t,none⟩=curv[t]? :=λt=>cell_of_row w vb t curv 3 (0,0) E;obtain⟨q,J⟩:∃q,q=(j.toList.take L).drop a:=⟨_,rfl⟩;have C:q.length=L - a:=by rw[J,eH,cf,Array.length_toList];omega
 have ae:∀u∈q,u.oneCell'=true:=λu hu=>al u (by rw[J]at hu;exact vq hu);have av:∀X W,(callFunc 284 #[.slice (some ⟨vb,0,none⟩) 1 vc, .slice (some ⟨b,a+1,none⟩) X W]).run H w= .ok (.value (.bool false)) w:=λX W=>by
  rw[run_callFunc_extern Tryz.func284 (by kernel_rfl) (by kernel_rfl) (by kernel_rfl) (e:=Extern.SlicesOverlaps.overlaps #[162,162] #[4]) (by kernel_rfl),
   Lib.run_overlaps_apart w 162 4 3 pj 1 Tryz.sizeOf3 ⟨vb,0,none⟩ ⟨b,a+1,none⟩ 1 vc X W ad 3 3 curv.size j.size (by unfold World.shape?;rw[E]) (by unfold World.shape?;rw[I]) (by omega) (frozen_of_row w vb 0 curv 3 E) (frozen_of_row w vb _ curv 3 E)]
  rfl
 obtain⟨r,G⟩:∃r:Array Value,r=(j.toList.take (a+1)++q++j.toList.drop (a+1+q.length)).toArray:=⟨_,rfl⟩;have U:r.size=o:=by rw[G];simp only[g5,bY,cf,eH,Array.length_toList,S,C];omega
 obtain⟨z,V⟩:∃z,z=w.drew.setRow b r:=⟨_,rfl⟩;have O:eu w z b 3 r:=by rw[V];exact(eu.refl I).drew.set
 have hcp1:∀ty A sl sc,L - a<=sl->(jO #[162,162] ty #[.slice (some ⟨b,a+1,none⟩) (L - a) A, .slice (some ⟨b,a,none⟩) sl sc]).run H w.drew= .ok (goInt (L - a:Nat)) z:=λty A sl sc aA=>by
  rw[V,G];exact lR w.drew 162 162 ty 3 b (a+1) (L - a) A ⟨b,a,none⟩ sl sc j 3 q ak 1 (L - a) pj af ac I (Nat.min_eq_right aA) (by rw[C,ir])
   (λK u B=>by
    rw[Addr.add_lit];have aa:K<L - a:=by have:=(cy.1 B).1;rwa [C]at this
    rw[J,ke,gI (by omega),Array.getElem?_toList]at B;exact(Y (a+K)).trans B) (by rw[C,S];omega) ae
 obtain⟨D,N⟩:∃D:Array Value,D=(r.toList.take a++[v]++r.toList.drop (a+[v].length)).toArray:=⟨_,rfl⟩;have ap:∀ty Q A,1<=Q->(jO #[162,162] ty #[.slice (some ⟨b,a,none⟩) Q A, .slice (some ⟨vb,0,none⟩) 1 vc]).run H z= .ok (goInt 1) (z.setRow b D):=λty Q A aw=>by
  rw[N];exact lR z 162 162 ty 3 b a Q A ⟨vb,0,none⟩ 1 vc r 3 [v] ak 1 1 pj af ac O.row (jN aw) rfl
   (λK u B=>by rw[Addr.add_lit,dQ];have aa:K<1:=(cy.1 B).1;rw[<-Z,gI aa,Array.getElem?_toList]at B;rw[cell_of_row z vb K curv 3 (0,0) ((O.other vb ad).trans E)];exact B) (by rw[U];simp only[je];omega) (λu hu=>by rw[dz.1 hu];exact ag)
 have ao:Hid (D.size=o/\D.toList.take (L+1)=j.toList.take a++v::q):=by
  refine⟨?_,?_⟩
  .rw[N];simp only[g5,bY,cf,eH,Array.length_toList,je,U];omega
  .have e0:r.toList.take a=j.toList.take a:=by rw[G,kf,fE,iM (by rw[cf,Array.length_toList];omega),List.take_take];congr 1;omega
   have e1:r.toList.drop (a+1)=q++j.toList.drop (a+1+q.length):=by rw[G,kf,fE,List.drop_append_of_le_length (by rw[cf,Array.length_toList];omega),kb (by rw[cf];omega),gZ]
   rw[N,kf,je,e0,e1];rw[show j.toList.take a++[v]++(q++j.toList.drop (a+1+q.length))=(j.toList.take a++v::q)++j.toList.drop (a+1+q.length) by simp];have aN:(j.toList.take a++v::q).length=L+1:=by rw[bY,jq,C,cf,Array.length_toList];omega
   rw[iM (by omega),fm (by omega)]
 rw[<-J];have az:Hid (eu w z b 3 r):=O;have aJ:IntKind.i64.wrap ((L:Int)+1)=(L:Int)+1:=by rw[ld];omega
 have aC:IntKind.i64.wrap ((a:Int)+1)=(a:Int)+1:=by rw[ld];omega
 have aG:IntKind.i64.wrap (1:Int)=1:=by rfl
 have aZ: ¬((a:Int)=(L:Int)):=by omega
 have aO:(0:Int)<=(L:Int)+1:=by omega
 have a3:(0:Int)<=(a:Int)+1:=by omega
 have a0:((L:Int)+1).toNat=L+1:=by omega
 have aU:((a:Int)+1).toNat=a+1:=by omega
 have aL: ¬(o - (a+1)=0):=by omega
 have aQ: ¬(o - a=0):=by omega
 have aE: ¬((o:Int)<(L:Int)+1):=by omega
 have aq: ¬o=a+1:=by omega
 have ar: ¬o=a:=by omega
 have a2:(L:Int)+1<=(o:Int):=by omega
 have a4:(a:Int)+1<=(L:Int)+1:=by omega
 have aM:(a:Int)<=(L:Int):=by omega
 have aR:(a:Int)<=(L:Int)+1:=by omega
 have aH:L+1 - (a+1)=L - a:=by omega
 have aB:L - a<=L+1 - a:=by omega
 have ay:1<=L+1 - a:=by omega
 have aI:Tryz.prog.follows la=true:=by kernel_rfl
 clear G N V O U Y am C Z al ag I E S J ae
 go_enter J',Ka
 go_wp2_with (simp only[av])
 have an:=hcp1;clear hcp1
 go_region_law_o (refine tF rfl _ _ 162 162 rfl (.slice (some ⟨b,a+1,none⟩) (L - a) (o - (a+1))) (.slice (some ⟨b,a,none⟩) (L+1 - a) (o - a)) _ _ (by simp[Act.eval,Act.put,aq]) (by simp[Act.eval,Act.put,ar]) (an _ _ _ _ aB) ?_)
 all_goals go_wp2_with (at_builtin;refine uZ _ rfl _ _ 162 162 rfl _ _ rfl rfl (ap _ _ _ ay) ?_)
 all_goals go_ret
 all_goals exact⟨rfl,D,az.out.set,ao.out⟩
set_option maxHeartbeats 4000000 in
set_option maxRecDepth 1000000 in
theorem T9(b j L a vb vc:Nat)(r curv:Array Value)(v:Value)(w:World)(Y:w.heap[b]? =some (.cells r 3 (0,0)))(a1:r.size=j)(bz:a<L)(br:L<=j)(bg:j<L+1)(bA:j<=9223372036854775807)(bl:L+1<4294967296)
  (an:w.heap[vb]? =some (.cells curv 3 (0,0)))(aG:curv.toList.take 1=[v])
  (aL:∀u∈r.toList.take L,u.oneCell'=true)(aC:v.oneCell'=true):
  Calls H 260 #[.slice (some ⟨b,0,none⟩) L j, .int .i64 a, .slice (some ⟨vb,0,none⟩) 1 vc] w λe w'=>∃G,L+1<=G/\G<=maxLen/\e= .returned (.slice (some ⟨w.heap.size,0,none⟩) (L+1) G)/\∃(row o:Array Value),
   eu (w.drew.alloc (.cells o 3)) w' w.heap.size 3 row/\row.size=G/\row.toList.take (L+1)=r.toList.take a++v::(r.toList.take L).drop a:=by
 obtain⟨av,ap,a0,ak,aF⟩:∃i,Tryz.prog.info? 3=some i/\i.zero=some (.int .i64 0)/\i.size=1/\i.bytes=8:=info_parts (by kernel_rfl);have aR:b<w.heap.size:=(Array.getElem?_eq_some_iff.1 Y).1;have aZ:vb<w.heap.size:=(Array.getElem?_eq_some_iff.1 an).1;obtain⟨z,Q⟩:∃z,z=(r.toList.take L).drop a:=⟨_,rfl⟩;have J:z.length=L - a:=by rw[Q,eH,cf,Array.length_toList];omega
 have aJ:∀u∈z,u.oneCell'=true:=λu hu=>aL u (by rw[Q]at hu;exact vq hu);obtain⟨A,Z⟩:∃A,A=r.toList.take a:=⟨_,rfl⟩;have O:A.length=a:=by rw[Z,cf,Array.length_toList];omega
 obtain⟨U,ao⟩:∃U:Array Value,U=(.int .i64 0:Value).cells:=⟨_,rfl⟩;have ay:U.size=1:=by rw[ao];rfl
 obtain⟨G,ad⟩:∃G,G=grownCap w (L+1) j 3:=⟨_,rfl⟩;have aB:L+1<=G:=by rw[ad];exact grownCap_ge w _ _ _
 have aw:G<=maxLen:=by rw[ad];exact grownCap_le_maxLen w (L+1) j 3 (by unfold maxLen;omega)
 obtain⟨o,V⟩:∃o:Array Value,o=A.toArray++kF U (L+1 - a)++kF U (G - (L+1)):=⟨_,rfl⟩;have ar:o.size=G:=by rw[V];simp only[Array.size_append,size_zeroCells,ay,g5,O];omega
 have az:o.toList.take a=A:=by rw[V];simp only[Array.toList_append,fE];rw[iM (by omega),fm (by omega)]
 obtain⟨N,af⟩:∃N,N=w.heap.size:=⟨_,rfl⟩;obtain⟨q,S⟩:∃q,q=w.drew.alloc (.cells o 3):=⟨_,rfl⟩;have a2:∀ty,(mj #[162,3] ty #[.slice (some ⟨b,0,none⟩) a j, .int .i64 ((L:Int)+1 - (a:Int))]).run H w=
   .ok (.slice (some ⟨N,0,none⟩) (L+1) G) q:=λty=>by
  have h:=Lib.run_append_grow_zeros w 162 3 ty 3 av _ .i64 .i64 pj qS ap a0 (some ⟨b,0,none⟩) a j A (by
   rw[ak];exact run_firstCells_some w.drew 1 a ⟨b,0,none⟩ a j A (by rw[O,ir]) (λE u B=>by
    have ac:E<a:=by have:=(cy.1 B).1;omega
    rw[Addr.add_lit,dQ];rw[Z,gI ac,Array.getElem?_toList]at B;exact(cell_of_row w b E r 3 (0,0) Y).trans B)) (L+1 - a) (by omega) (by omega) (by omega) (by omega) (by rw[aF];omega) (by rw[aF];exact growslice_fits (by omega) (by omega))
  have e0:a+(L+1 - a)=L+1:=by omega
  rw[e0]at h;rw[S,V,af,ad,ao];have e:((L+1 - a:Nat):Int)=(L:Int)+1 - (a:Int):=by omega
  rw[e]at h;exact h
 have aq:eu q q N 3 o:=eu.refl (by rw[S,af];exact Array.getElem?_push_size)
 have ag:∀k,k<w.heap.size->q.heap[k]? =w.heap[k]? :=λk a5=>by rw[S];exact RowKit.Below.heap_alloc w.drew _ k a5
 obtain⟨C,W⟩:∃C:Array Value,C=(o.toList.take a++[v]++o.toList.drop (a+[v].length)).toArray:=⟨_,rfl⟩;have al:C.size=G:=by rw[W];simp only[g5,bY,cf,eH,Array.length_toList,je,ar];omega
 obtain⟨D,am⟩:∃D,D=q.setRow N C:=⟨_,rfl⟩;have aa:eu q D N 3 C:=by rw[am];exact aq.set
 have hcpA:∀ty ae I,1<=ae->(jO #[162,162] ty #[.slice (some ⟨N,a,none⟩) ae I, .slice (some ⟨vb,0,none⟩) 1 vc]).run H q= .ok (goInt 1) D:=λty ae I a3=>by
  rw[am,W];exact lR q 162 162 ty 3 N a ae I ⟨vb,0,none⟩ 1 vc o 3 [v] av 1 1 pj ap ak aq.row (jN a3) rfl
   (λE u B=>by rw[Addr.add_lit,dQ];have ac:E<1:=(cy.1 B).1;rw[<-aG,gI ac,Array.getElem?_toList]at B;rw[cell_of_row q vb E curv 3 (0,0) ((ag vb aZ).trans an)];exact B) (by rw[ar];simp only[je];omega) (λu hu=>by rw[dz.1 hu];exact aC)
 obtain⟨K,X⟩:∃K:Array Value,K=(C.toList.take (a+1)++z++C.toList.drop (a+1+z.length)).toArray:=⟨_,rfl⟩;have aN:∀ty I sl sc,sl=L - a->(jO #[162,162] ty #[.slice (some ⟨N,a+1,none⟩) (L - a) I, .slice (some ⟨b,a,none⟩) sl sc]).run H D.drew= .ok (goInt (L - a:Nat)) (D.drew.setRow N K):=λty I sl sc aU=>by
  subst aU;rw[X];exact lR D.drew 162 162 ty 3 N (a+1) (L - a) I ⟨b,a,none⟩ (L - a) sc C 3 z av 1 (L - a) pj ap ak aa.row (Nat.min_self _) (by rw[J,ir])
   (λE u B=>by
    rw[Addr.add_lit];have ac:E<L - a:=by have:=(cy.1 B).1;rwa [J]at this
    rw[Q,ke,gI (by omega),Array.getElem?_toList]at B;have a6:D.drew.heap[b]? =some (.cells r 3 (0,0)):=(aa.other b (by omega)).trans ((ag b aR).trans Y);rw[cell_of_row D.drew b (a+E) r 3 (0,0) a6];exact B) (by rw[J,al];omega) aJ
 have aM:Hid (K.size=G/\K.toList.take (L+1)=r.toList.take a++v::z):=by
  refine⟨?_,?_⟩
  .rw[X];simp only[g5,bY,cf,eH,Array.length_toList,J,al];omega
  .have e1:C.toList.take (a+1)=A++[v]:=by rw[W,kf,az,iM (by rw[bY,O,je];omega),fm (by rw[bY,O,je];omega)]
   rw[X,kf,e1,<-Z,show A++[v]++z=A++v::z by simp];have bc:(A++v::z).length=L+1:=by rw[bY,jq,J,O];omega
   rw[iM (by omega),fm (by omega)]
 rw[<-Q];have a4:Hid (eu q D N 3 C):=aa;have aO:Hid (q=w.drew.alloc (.cells o 3)):=S;have aE:Hid (L+1<=G/\G<=maxLen):=⟨aB,aw⟩;have a_:IntKind.i64.wrap ((L:Int)+1)=(L:Int)+1:=by rw[ld];omega
 have bq:IntKind.i64.wrap ((a:Int)+1)=(a:Int)+1:=by rw[ld];omega
 have a9:IntKind.i64.wrap (1:Int)=1:=by rfl
 have bv:IntKind.i64.wrap ((L:Int)+1 - (a:Int))=(L:Int)+1 - (a:Int):=by rw[ld];omega
 have bp: ¬((a:Int)=(L:Int)):=by omega
 have a':(j:Int)<(L:Int)+1:=by omega
 have ba:(0:Int)<=(a:Int)+1:=by omega
 have bm:((a:Int)+1).toNat=a+1:=by omega
 have aA: ¬(G=a+1):=by omega
 have aH: ¬(j=a):=by omega
 have bn: ¬(G=a):=by omega
 have bi: ¬(G - (a+1)=0):=by omega
 have bs: ¬(j - a=0):=by omega
 have be: ¬(G - a=0):=by omega
 have bw:(a:Int)+1<=(L:Int)+1:=by omega
 have bb:(a:Int)<=(L:Int):=by omega
 have bd:(a:Int)<=(L:Int)+1:=by omega
 have a7:(a:Int)<=(j:Int):=by omega
 have a8:a<=j:=by omega
 have aY:L+1 - (a+1)=L - a:=by omega
 have aQ:1<=L+1 - a:=by omega
 have aI:Tryz.prog.follows la=true:=by kernel_rfl
 clear W X am aa al J aG aL aC aJ Y an a1 S aq ag V ar az ao ay aB aw ad Q Z O;rw[<-af];clear af
 go_enter J',Ka
 go_wp2_with (first
  |(at_builtin;refine qT _ rfl _ _ _ _ rfl _ _ rfl rfl _ _ (a2 _) ?_)
  |(at_builtin;refine uZ _ rfl _ _ 162 162 rfl _ _ rfl rfl (hcpA _ _ _ aQ) ?_))
 go_region_law_o (refine tF rfl _ _ 162 162 rfl (.slice (some ⟨N,a+1,none⟩) (L - a) (G - (a+1))) (.slice (some ⟨b,a,none⟩) (L - a) (j - a)) _ _ (by simp[Act.eval,Act.put,aA,aH,aY]) (by simp[Act.eval,Act.put,aA,aH]) (aN _ _ _ _ rfl) ?_)
 all_goals go_wp2
 all_goals go_ret
 all_goals exact⟨G,aE.out.1,aE.out.2,rfl,K,o,by rw[<-aO.out];exact a4.out.drew.set,aM.out⟩
set_option maxHeartbeats 4000000 in
set_option maxRecDepth 1000000 in
theorem X0(vv v':Value)(w w':World)(vb vc:Nat)(a:vv= .slice (some ⟨vb,0,none⟩) 1 vc)
  (o:(mj #[162,162] 162 #[.slice none 0 0, .slice (some ⟨vb,0,none⟩) 1 vc]).run H w= .ok v' w'):
  Calls H 260 #[.slice none 0 0, .int .i64 0,vv] w λe j=>e= .returned v'/\j=w':=by
 subst a;have aI:Tryz.prog.follows la=true:=by kernel_rfl
 go_enter J',Ka
 go_wp2_with (at_builtin;refine qT _ rfl _ _ _ _ rfl _ _ rfl rfl _ _ o ?_)
 go_ret
 exact⟨rfl,rfl⟩
set_option maxHeartbeats 4000000 in
set_option maxRecDepth 1000000 in
theorem Xf(b cap L:Nat)(q:L<=cap)(vv v':Value)(w w':World)(vb vc:Nat)(a:vv= .slice (some ⟨vb,0,none⟩) 1 vc)
  (o:(mj #[162,162] 162 #[.slice (some ⟨b,0,none⟩) L cap, .slice (some ⟨vb,0,none⟩) 1 vc]).run H w= .ok v' w'):
  Calls H 260 #[.slice (some ⟨b,0,none⟩) L cap, .int .i64 L,vv] w λe j=>e= .returned v'/\j=w':=by
 subst a;have aI:Tryz.prog.follows la=true:=by kernel_rfl
 go_enter J',Ka
 go_wp2_with (at_builtin;refine qT _ rfl _ _ _ _ rfl _ _ rfl rfl _ _ o ?_)
 all_goals go_ret
 all_goals exact⟨rfl,rfl⟩
theorem Wo{I vv:Value}{L a:Nat}{xs:List Value}{v:Value}{w:World}(N:w.ownsRow 0 3 1 I L xs)(am:w.ownsRow 0 3 1 vv 1 [v])(aG:∀b,I.ownBlock=some b->vv.ownBlock≠some b)(aH:L+1<4294967296)(aZ:a<=L)
  (aA:∀u∈xs,u.oneCell'=true)(ak:v.oneCell'=true):
  Calls H 260 #[I, .int .i64 a,vv] w λe w'=>∃z,e= .returned z/\w'.ownsRow 0 3 1 z (L+1) (xs.take a++v::xs.drop a)/\w.grownBy w' I.ownBlock/\∀b,z.ownBlock=some b->I.ownBlock=some b\/b=w.heap.size:=by
 obtain⟨Z,Y,af,K,ag⟩:∃i,Tryz.prog.info? 3=some i/\i.zero=some (.int .i64 0)/\i.size=1/\i.bytes=8:=info_parts (by kernel_rfl);have aC:=N;obtain⟨aB,N⟩:=N;obtain⟨aU,am⟩:=am;rcases am with⟨_,aO⟩|⟨r,C,V,rfl,_,ae,aY,_,aR,aI⟩
 .omega
 have aa:V.toList.take 1=[v]:=aI;rw[ir]at aB;by_cases hLI:a=L
 .subst hLI;have X:∀(D:Nat) u,[v][D]? =some u->w.cell? ((⟨r,0,none⟩:Addr).add D)=some u:=λD u J=>by rw[Addr.add_lit,dQ,cell_of_row w r D V 3 (0,0) ae];have ac:D<1:=(cy.1 J).1;rw[<-aa,gI ac,Array.getElem?_toList]at J;exact J
  have ar:∀u∈[v],u.oneCell'=true:=λu hu=>by rw[dz.1 hu];exact ak
  obtain⟨z,w',O,ay,az,a0⟩:=Go.run_append_own (P:=H) w 0 162 162 3 Z _ 1 8 pj Y af K ag rfl (by omega) I a xs aC ⟨r,0,none⟩ 1 C [v] rfl X ar (by simp only[maxLen];omega) (by omega) (jM _);have aq:∀b,z.ownBlock=some b->I.ownBlock=some b\/b=w.heap.size:=λaw j=>by
   rcases N with⟨rfl,rfl⟩|⟨b,o,B,rfl,_,Q,W,an,S,E⟩
   .have q:=run_append_nil (P:=H) w 162 162 3 Z _ pj Y af ⟨r,0,none⟩ 1 C [v] (by rw[K];rfl) X (by omega) (by omega) (by rw[ag];omega);rw[O]at q;simp only[Result.ok.injEq]at q;rw[q.1]at j;simp only[kB,Option.some.injEq]at j;exact .inr j.symm
   .by_cases hroom:a+1<=o
    .have q:=run_append_room (P:=H) w 162 162 3 Z pj Y b a o B Q ⟨r,0,none⟩ 1 C [v] (by rw[K];rfl) X ar hroom (by rw[S,K];simp only[je,ir];omega);rw[O]at q;simp only[Result.ok.injEq]at q;rw[q.1]at j;exact .inl j
    .have q:=run_append_grow (P:=H) w 162 162 3 Z _ pj Y af ⟨b,0,none⟩ a o (B.toList.take a) (by rw[K,cf,Array.length_toList];omega) (λD u J=>by
      have ac:D<a:=by have:=(cy.1 J).1;rw[cf]at this;omega
      rw[Addr.add_lit,dQ];rw[gI ac,Array.getElem?_toList]at J;exact(cell_of_row w b D B 3 (0,0) Q).trans J) ⟨r,0,none⟩ 1 C [v] (by rw[K];rfl) X (by omega) (by omega) (growslice_fits (by omega) (by rw[ag];omega))
     rw[O]at q;simp only[Result.ok.injEq]at q;rw[q.1]at j;simp only[kB,Option.some.injEq]at j;exact .inr j.symm
  have e1:xs.take a++v::xs.drop a=xs++[v]:=by rw[fm (by omega),kb (by omega)]
  rw[e1];rcases N with⟨rfl,rfl⟩|⟨b,o,B,rfl,_,_,W,_⟩
  .exact(X0 _ z w w' r C rfl O).mono (λe aM ⟨ap,ao⟩=>by subst ao;exact⟨z,ap,ay,az,aq⟩)
  .exact(Xf b o a W _ z w w' r C rfl O).mono (λe aM ⟨ap,ao⟩=>by subst ao;exact⟨z,ap,ay,az,aq⟩)
 have al:a<L:=by omega
 rcases N with⟨_,aO⟩|⟨b,o,B,rfl,_,Q,W,an,S,E⟩
 .omega
 have aJ:r≠b:=λaN=>aG b rfl (by rw[aN];rfl);have av:o<=9223372036854775807:=by simp only[maxLen]at an;omega
 rw[ir]at S E;have e2:B.toList.take a=xs.take a:=by rw[<-E,List.take_take,jN (Nat.le_of_lt al)]
 by_cases hroom:L+1<=o
 .refine(Xk b o L a r C B V v w Q S al hroom av ae aa aJ (by rw[E];exact aA) ak).mono ?_;rintro e w' ⟨rfl,row,A,ad,U⟩;rw[E,e2]at U;refine⟨_,rfl,⟨?_, .inr ⟨b,o,row,rfl,jM _,A.row,hroom,an,by rw[ir];exact ad,by rw[ir];exact U⟩⟩,A.grown,λaw j=> .inl j⟩;simp only[bY,jq,cf,eH];omega
 .refine(T9 b o L a r C B V v w Q S al W (by omega) av aH ae aa (by rw[E];exact aA) ak).mono ?_;rintro e w' ⟨G,aF,aE,rfl,row,aQ,A,ad,U⟩;rw[E,e2]at U;refine⟨_,rfl,⟨?_, .inr ⟨w.heap.size,G,row,rfl,jM _,A.row,aF,aE,by rw[ir];exact ad,by rw[ir];exact U⟩⟩,⟨A.os,A.tape,A.output,?_,λk aL _=>?_⟩,λaw j=> .inr ?_⟩
  .simp only[bY,jq,cf,eH];omega
  .rw[A.size];show w.heap.size<=(w.drew.heap.push _).size;rw[Array.size_push];exact Nat.le_succ _
  .rw[A.other k (by omega)];exact RowKit.Below.heap_alloc w.drew _ k aL
  .simp only[kB,Option.some.injEq]at j;exact j.symm
end Go.Proofs.YthpphdegpinepaaGreat
