/- Part of the proof of TopAny. -/
import Derived.Test.YthpphdegpinepaaGreatC3
import Derived.Test.YthpphdegpinepaaGreatProg
import Derived.Shelf.RegionOpenPlain
import Derived.WalkKit
import Derived.Lib.Walk
import Derived.Lib.SliceRun
import Derived.Deep.LoopGhost
import Derived.Deep.RegionLaw
import Derived.Sort.WalkB12
namespace Go.Proofs.YthpphdegpinepaaGreat
set_option linter.all false
open Go GL Go.RowKit Go.Lib
open Go.Builtin renaming append_ -> mj, zeroCells -> kF, clear_ -> nW
open Go.Region renaming wanted -> gH
open Go.Oper renaming wp -> dy
open Go.Result renaming andThen -> zA
open Go.Proofs.Tryz renaming prog -> H, underlying29 -> nf
open Go.Value renaming agg -> mn, cells -> y9
open List renaming length_take -> cf, length_drop -> eH, getElem?_eq_some_iff -> cy, getElem?_take_of_lt -> gI, getElem?_drop -> ke, size_toArray -> g5, length_append -> bY, replicate -> dr, mem_replicate -> vm, mem_cons -> fp, not_mem_nil -> vl, toList_toArray -> kf, append_assoc -> fE, take_append_of_le_length -> iM, take_of_length_le -> fm
open Nat renaming add_zero -> ja
open Go.Departure renaming mixedOrders -> la
theorem U_{P:Program}{ops:Array Oper}{o:Oper}{a:Act}{w:World}{j:Act->World->Prop}{Q:Exit->Act->World->Prop}{D:Prop}
  (A:o.guard=none)(s x:Operand)(t:TypeId)(r:o.op=Op.call {callee:=Callee.builtin Builtin.append,args:= #[s,x],argTypes:= #[t,t]})
  (v u v':Value)(w':World)(B:a.eval s=v)(hx:a.eval x=u)(q:(mj #[t,t] o.type #[v,u]).run P w= .ok v' w')
  (C:j (a.put o.dst v') w'):
  if gH o (yielded ops a.tmps)=true then dy P o a w j Q else D:=by
 have z:gH o (yielded ops a.tmps)=true:=by simp[gH,A]
 rw[if_pos z];unfold dy;simp[execOp,r,resolve,invoke,builtin,B,hx,q,zA];exact C
structure eu(w w':World)(b:Nat)(e:TypeId)(row:Array Value):Prop where
 os:w'.os=w.os
 tape:w'.tape=w.tape
 output:w'.output=w.output
 size:w'.heap.size=w.heap.size
 row:w'.heap[b]? =some (.cells row e (0,0))
 other:∀k,k≠b->w'.heap[k]? =w.heap[k]?
theorem eu.drew{w w':World}{b:Nat}{e:TypeId}{row:Array Value}(h:eu w w' b e row):eu w w'.drew b e row:=⟨h.os,h.tape,h.output,h.size,h.row,h.other⟩
theorem eu.set{w w':World}{b:Nat}{e:TypeId}{row row':Array Value}(h:eu w w' b e row):eu w (w'.setRow b row') b e row':=
 ⟨h.os,h.tape,h.output,by simpa using h.size,setRow_heap w' b row row' e (0,0) h.row,λk a=>(setRow_other w' b k row' a).trans (h.other k a)⟩
theorem eu.refl{w:World}{b:Nat}{e:TypeId}{row:Array Value}(h:w.heap[b]? =some (.cells row e (0,0))):eu w w b e row:=⟨rfl,rfl,rfl,rfl,h,λ_ _=>rfl⟩
set_option maxHeartbeats 4000000 in
set_option maxRecDepth 1000000 in
theorem SD(b j L i a:Nat)(o:Array Value)(w:World)(K:w.heap[b]? =some (.cells o 79 (0,0)))(D:o.size=j * 6)(aE:L<=j)(ag:j<=9223372036854775807)(aG:i<a)(aY:a<=L)
  (aa:∀v∈(o.toList.drop (a * 6)).take ((L - a) * 6),v.oneCell'=true):
  Calls H 293 #[.slice (some ⟨b,0,none⟩) L j, .int .i64 i, .int .i64 a] w λe w'=>e= .returned (.slice (some ⟨b,0,none⟩) (i+(L - a)) j)/\∃row:Array Value,
   eu w w' b 79 row/\row.size=j * 6/\row.toList.take ((i+(L - a)) * 6)=o.toList.take (i * 6)++(o.toList.drop (a * 6)).take ((L - a) * 6):=by
 obtain⟨aq,ap,aL,U,aO⟩:∃i,Tryz.prog.info? 79=some i/\i.zero=some (mn #[.int .i64 0, .slice none 0 0, .slice none 0 0, .int .u8 0, .bool false, .int .u32 0])/\i.size=6/\i.bytes=64:=info_parts (by kernel_rfl);obtain⟨z,J⟩:∃z,z=(o.toList.drop (a * 6)).take ((L - a) * 6):=⟨_,rfl⟩;rw[<-J]at aa|-;have C:z.length=(L - a) * 6:=by rw[J,cf,eH,Array.length_toList,D];omega
 have ac:∀t,w.cell? ⟨b,t,none⟩=o[t]? :=λt=>cell_of_row w b t o 79 (0,0) K;obtain⟨A,aU,am⟩:∃A:Addr,(if j=a then some (⟨b,0,none⟩:Addr)else some ⟨b,a * 6,none⟩)=some A/\Hid (∀t u,z[t]? =some u->w.drew.cell? (A.add t)=some u):=by
  by_cases h:j=a
  .refine⟨⟨b,0,none⟩,by simp[h],λt u hu=>?_⟩;have az:z.length=0:=by rw[C];omega
   rw[List.length_eq_zero_iff.1 az]at hu;simp at hu
  .refine⟨⟨b,a * 6,none⟩,by simp[h],λt u hu=>?_⟩;have ar:t<(L - a) * 6:=by have:=(cy.1 hu).1;rwa [C]at this
   rw[J,gI ar,ke]at hu;rw[Addr.add_lit];show w.cell? ⟨b,a * 6+t,none⟩=some u;rw[ac,<-Array.getElem?_toList];exact hu
 obtain⟨q,G⟩:∃q:Array Value,q=(o.toList.take (i * 6)++z++o.toList.drop (i * 6+z.length)).toArray:=⟨_,rfl⟩;obtain⟨k,Z⟩:∃k,k=i+(L - a):=⟨_,rfl⟩;have Q:∀ty,(mj #[29,29] ty #[.slice (some ⟨b,0,none⟩) i j, .slice (some A) (L - a) (j - a)]).run H w.drew= .ok (.slice (some ⟨b,0,none⟩) k j) (w.drew.setRow b q):=λty=>by rw[G,Z,<-U];exact run_append_room (P:=H) w.drew 29 ty 79 aq nf ap b i j o K A (L - a) (j - a) z (by rw[C,U]) am.out aa (by omega) (by rw[C,D,U];omega)
 have N:q.size=j * 6:=by rw[G];simp only[g5,bY,cf,eH,Array.length_toList,C,D];omega
 obtain⟨r,O⟩:∃r,r=w.drew.setRow b q:=⟨_,rfl⟩;have S:eu w r b 79 q:=by rw[O];exact(eu.refl K).drew.set
 obtain⟨zs,E⟩:∃zs,zs=(kF (mn #[.int .i64 0, .slice none 0 0, .slice none 0 0, .int .u8 0, .bool false, .int .u32 0]).cells (L - k)).toList:=⟨_,rfl⟩;have X:zs.length=(L - k) * 6:=by rw[E];simp[kF,y9]
 have ae:∀v∈zs,v.oneCell'=true:=by rw[E];intro v Y;obtain⟨n,ay⟩:∃n,n=L - k:=⟨_,rfl⟩;rw[<-ay]at Y;have av:(kF (mn #[.int .i64 0, .slice none 0 0, .slice none 0 0, .int .u8 0, .bool false, .int .u32 0]).cells n).toList=(dr n [.int .i64 0, .slice none 0 0, .slice none 0 0, .int .u8 0, .bool false, .int .u32 0]).flatten:=Eh [.int .i64 0, .slice none 0 0, .slice none 0 0, .int .u8 0, .bool false, .int .u32 0] n;rw[av]at Y;obtain⟨y,aw,V⟩:=List.mem_flatten.1 Y;rw[(vm.1 aw).2]at V;simp only[fp,vl,or_false]at V;rcases V with rfl|rfl|rfl|rfl|rfl|rfl<;>rfl
 obtain⟨B,I⟩:∃B:Array Value,B=(q.toList.take (k * 6)++zs++q.toList.drop (k * 6+zs.length)).toArray:=⟨_,rfl⟩;have af:∀ty,(nW #[29] ty #[.slice (some ⟨b,k * 6,none⟩) (L - k) (j - k)]).run H r= .ok (.tuple #[]) (r.setRow b B):=λty=>by have W:=run_storeCells_at H b (k * 6) 79 zs 0 q r S.row (by rw[X,N];omega) ae;simp only[ja]at W;rw[<-I]at W;obtain⟨m,ag⟩:∃m,L - k=m+1:=⟨L - k - 1,by omega⟩;rw[ag]at E|-;unfold nW;simp[run_underlying nf,Tryz.zeroValue79,<-E,W]
 have ad:B.size=j * 6/\B.toList.take (k * 6)=o.toList.take (i * 6)++z:=by
  refine⟨?_,?_⟩
  .rw[I];simp only[g5,bY,cf,eH,Array.length_toList,X,N];omega
  .rw[I,kf,fE,iM (by rw[cf,Array.length_toList,N];omega),List.take_take,Nat.min_self,G,kf,iM (by
    simp only[bY,cf,Array.length_toList,C,D];omega),fm (by
    simp only[bY,cf,Array.length_toList,C,D];omega)]
 have aJ:Hid (r=w.drew.setRow b q):=O;have ao:Hid (eu w r b 79 q):=S;rw[<-O]at Q;have al:Hid (∀ty,(mj #[29,29] ty #[.slice (some ⟨b,0,none⟩) i j, .slice (some A) (L - a) (j - a)]).run H w.drew= .ok (.slice (some ⟨b,0,none⟩) k j) r):=Q;have an:Hid (∀ty,(nW #[29] ty #[.slice (some ⟨b,k * 6,none⟩) (L - k) (j - k)]).run H r= .ok (.tuple #[]) (r.setRow b B)):=af;have ak:Hid (B.size=j * 6/\B.toList.take (k * 6)=o.toList.take (i * 6)++z):=ad;have aF:i<=L:=by omega
 have aH:i<=j:=by omega
 have aR:a<=j:=by omega
 have aQ:k<L:=by omega
 have aM:k<=j:=by omega
 have aA: ¬((i:Int)=(a:Int)):=by omega
 have aB:(i:Int)<=(a:Int):=by omega
 have aN:(a:Int)<=(L:Int):=by omega
 rw[<-Z];clear O S Q af ad G I E X ae N ac J C aa K D Z;have aI:Tryz.prog.follows la=true:=by kernel_rfl
 go_enter Tryz.func293,Tryz.ntmps293
 go_wp2_with fail
 go_region_law_o (refine U_ rfl (.tmp 22) (.tmp 25) 29 rfl (.slice (some ⟨b,0,none⟩) i j) (.slice (some A) (L - a) (j - a)) _ _ (by simp[Act.eval,Act.put]) (by simp[Act.eval,Act.put]) (al.out _) ?_)
 have aC:=an.out
 all_goals go_wp2
 all_goals go_ret
 all_goals exact⟨rfl,B,ao.out.set,ak.out⟩
end Go.Proofs.YthpphdegpinepaaGreat
