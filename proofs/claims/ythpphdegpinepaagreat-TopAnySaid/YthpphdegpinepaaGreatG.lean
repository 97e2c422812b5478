/- Part of the proof of TopAny. -/
import Derived.Test.YthpphdegpinepaaGreatW1
import Derived.Shelf.RegionOpenPlain
import Derived.WalkKit
import Derived.Lib.Walk
import Derived.Lib.SliceRun
import Derived.Deep.LoopGhost
import Derived.Deep.RegionLaw
import Derived.Deep.RegionWith
namespace Go.Proofs.YthpphdegpinepaaGreat
set_option linter.all false
open Go GL Go.RowKit Go.Lib
open Go.Proofs.Tryz renaming prog -> H
open Nat renaming le_refl -> bh
open Go.Calls renaming mono -> kZ
open Go.Departure renaming mixedOrders -> la
open Go.Exit renaming inBlock -> m7
open Option renaming map_eq_some_iff -> iK
open Go.IntKind renaming wrap_i64 -> ld
theorem VO{b:List UInt8}{a s n e:Int}(C:iC b a s=some (n,e)){q:Nat->Prop}{j:Value}{w:Go.World}(A:cX q b j w):
  Calls H 276 #[j, .int .i64 a, .int .i64 s] w λo w'=>o= .returned (.tuple #[.int .i64 n, .int .i64 e])/\Fr fW w w':=by
 classical
 let g:Gh:=⟨λb=>if q b then 0 else 1,λ_=>undef⟩
 have h:=sm b a s C w g [0] [j, .int .i64 a, .int .i64 s]
  ⟨cX.aD (bh _) (λk _ B=>⟨rfl,by simp[g,B,da]⟩) A,cD.2 rfl,cD.2 rfl,trivial⟩
 refine kZ h ?_;rintro o w' ⟨v,rfl,u,cls,r⟩
 let g':Gh:=⟨λ_=>0,λ_=>undef⟩
 obtain⟨G,E,rfl,D,z⟩:=r (λ_=>[0]) g' (λ_ _ _=>by simp[g']) (λ_ _ _ _ _=>by simp[g']);have e1:=cD.1 D;have e2:=cD.1 z;exact⟨by rw[e1,e2],u⟩
theorem Pj{w w1:Go.World}(h:Fr fW w w1){ba k:Nat}{v:Value}(a:ba<w.heap.size)(o:w.cell? ⟨ba,k,none⟩=some v):w1.cell? ⟨ba,k,none⟩=some v:=by have j:=h.block ba a (λh=>h);rw[<-o];unfold Go.World.cell?;simp only[j]
theorem Rx{w w1:Go.World}(h:Fr fW w w1){ba k:Nat}(a:ba<w.heap.size)(o:w.frozen? ⟨ba,k,none⟩=false):w1.frozen? ⟨ba,k,none⟩=false:=by have j:=h.block ba a (λh=>h);rw[<-o];unfold Go.World.frozen?;simp only[j]
set_option maxHeartbeats 4000000 in
set_option maxRecDepth 1000000 in
theorem VA{b:List UInt8}{a s n e:Int}(E:iC b a s=some (n,e)){J:Nat->Prop}{A:Value}{w:Go.World}{j:Nat}(z:j<w.heap.size)(C:cX J b A w)
  (G:w.cell? ⟨j,0,none⟩=some A)(f0:w.frozen? ⟨j,0,none⟩=false)(c1:w.cell? ⟨j,1,none⟩=some (.int .i64 a))(I:w.frozen? ⟨j,1,none⟩=false):
  Calls H 299 #[.pointer (some ⟨j,0,none⟩), .int .i64 s] w λo w'=>o= .returned (.int .i64 n)/\∃r,Fr fW w r/\w'=r.setCell ⟨j,1,none⟩ (.int .i64 (wrap64 (a+s))):=by
 have aI:Tryz.prog.follows la=true:=by kernel_rfl
 have B:=VO E (w:=w.drew) (cX.aD (bh _) (λk _ D=>⟨rfl,D⟩) C)
 go_enter Tryz.func299,Tryz.ntmps299
 go_wp2_with fail
 go_region_with (go_at_call 276;refine B.mono ?_;rintro N r ⟨rfl,q⟩;have u:Fr fW w r:=⟨q.os,q.tape,q.output,q.size,q.block⟩;have L:=Pj u z G;have K:=Pj u z c1;have O:=Rx u z I)
 all_goals go_wp2_with fail
 all_goals(try simp only[m7,Exit.then])
 all_goals exact bodyPost_ret (results_tmp rfl _ _ _) rfl ⟨rfl,r,u,rfl⟩
theorem py:NS H 299 (λb a s=>(iC b a s).map (·.1)):=by
 intro j b N K s a n ty w G I q;obtain⟨⟨L,e⟩,C,rfl⟩:=iK.1 G;have z:j<w.heap.size:=(Array.getElem?_eq_some_iff.1 q).1;refine(VA C z I (by rw[cell_of_row w j 0 _ ty (0,0) q];rfl) (frozen_of_row w j 0 _ ty q) (by rw[cell_of_row w j 1 _ ty (0,0) q];rfl) (frozen_of_row w j 1 _ ty q)).mono ?_;rintro o w' ⟨rfl,u,r,rfl⟩;have D:wrap64 (a+s)=wI (a+s):=by unfold wI wrap64;rw[ld]
 have A:u.heap[j]? =some (.cells #[K, .int .i64 a] ty (0,0)):=by rw[r.block j z (λh=>h)];exact q
 refine⟨rfl,?_,⟨r.os,r.tape,r.output,?_,λk E B=>?_⟩⟩
 .rw[<-D,heap_setCell_same u j 1 _ ty _ A];rfl
 .rw[World.size_setCell];exact r.size
 .rw[heap_setCell_other u _ k _ (λJ=>B (by rw[J]))];exact r.block k E (λh=>h)
end Go.Proofs.YthpphdegpinepaaGreat
