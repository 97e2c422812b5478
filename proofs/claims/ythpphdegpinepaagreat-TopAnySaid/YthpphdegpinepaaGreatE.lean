/- Part of the proof of TopAny. -/
import Derived.Test.YthpphdegpinepaaGreatI
import Derived.Shelf.RegionOpenPlain
import Derived.WalkKit
import Derived.Lib.Walk
import Derived.Lib.SliceRun
import Derived.Deep.LoopGhost
import Derived.Deep.RegionLaw
namespace Go.Proofs.YthpphdegpinepaaGreat
set_option linter.all false
open Go GL Go.RowKit Go.Lib
open Go.Proofs.Tryz renaming prog -> H
open Go.Departure renaming mixedOrders -> la
open Go.Exit renaming inBlock -> m7
open Go.IntKind renaming wrap_i64 -> ld
set_option maxHeartbeats 4000000 in
set_option maxRecDepth 1000000 in
theorem Vy(j:Nat)(n s a:Int)(w:World)(r:j<w.heap.size)(u:w.cell? ⟨j,0,none⟩=some (.int .i64 a))(z:w.frozen? ⟨j,0,none⟩=false):
  Calls H 198 #[.int .i64 n, .int .i64 s, .pointer (some ⟨j,0,none⟩)] w λe w'=>e= .returned (.agg #[.int .i64 n, .int .i64 a, .int .i64 s])/\
   w'=((w.setCell ⟨j,0,none⟩ (.int .i64 (wrap64 (a+s)))).alloc (.cells #[.int .i64 n, .int .i64 a, .int .i64 s] 253)).alloc (.cells #[.int .i64 n, .int .i64 a, .int .i64 s] 253):=by
 have aI:Tryz.prog.follows la=true:=by kernel_rfl
 go_enter Tryz.func198,Tryz.ntmps198
 go_wp2
 have o:(w.setCell ⟨j,0,none⟩ (.int .i64 (wrap64 (a+s)))).heap.size=w.heap.size:=World.size_setCell _ _ _;have q:(((w.setCell ⟨j,0,none⟩ (.int .i64 (wrap64 (a+s)))).alloc (.cells #[.int .i64 n, .int .i64 a, .int .i64 s] 253)).alloc (.cells #[.int .i64 n, .int .i64 a, .int .i64 s] 253)).heap[w.heap.size]? =some (.cells #[.int .i64 n, .int .i64 a, .int .i64 s] 253 (0,0)):=by
  rw[Go.heap_alloc_old _ _ (by show w.heap.size<((w.setCell ⟨j,0,none⟩ (.int .i64 (wrap64 (a+s)))).heap.push _).size;rw[Array.size_push,o];omega),<-o]
  exact Go.heap_alloc_new _ _
 (try simp only[m7,Exit.then])
 refine bodyPost_ret (results_cell_row rfl _ _ w.heap.size 253 #[.int .i64 n, .int .i64 a, .int .i64 s] (0,0) _ rfl q Tryz.underlying253 rfl (by kernel_rfl)) rfl ?_;exact⟨rfl,rfl⟩
theorem TK{A:Type}[Rp A]{F:Int->Int->Int->A}(G:∀n s a B w,cX B (F n s a) (.agg #[.int .i64 n, .int .i64 a, .int .i64 s]) w):GZ H 198 A F:=λj n s a ty w r=>by
 have C:j<w.heap.size:=(Array.getElem?_eq_some_iff.1 r).1;refine(Vy j n s a w C (by rw[cell_of_row w j 0 _ ty (0,0) r];rfl) (frozen_of_row w j 0 _ ty r)).mono ?_;rintro e w' ⟨rfl,rfl⟩;have E:wrap64 (a+s)=wI (a+s):=by unfold wI wrap64;rw[ld]
 have u:∀(W:World) (o:Obj) (k:Nat),k<W.heap.size->(W.alloc o).heap[k]? =W.heap[k]? :=λW o k z=>RowKit.Below.heap_alloc W o k z;have q:(w.setCell ⟨j,0,none⟩ (.int .i64 (wrap64 (a+s)))).heap.size=w.heap.size:=World.size_setCell _ _ _;refine⟨_,rfl,λB w=>G n s a B w,?_,⟨rfl,rfl,rfl,?_,λk z D=>?_⟩⟩
 .rw[u _ _ _ (by show j<Array.size _;rw[show((w.setCell ⟨j,0,none⟩ (.int .i64 (wrap64 (a+s)))).alloc (.cells #[.int .i64 n, .int .i64 a, .int .i64 s] 253)).heap=(w.setCell ⟨j,0,none⟩ (.int .i64 (wrap64 (a+s)))).heap.push _ from rfl,Array.size_push,q];omega),u _ _ _ (by rw[q];exact C),heap_setCell_same w j 0 _ ty _ r,<-E];rfl
 .show w.heap.size<=(((w.setCell ⟨j,0,none⟩ (.int .i64 (wrap64 (a+s)))).heap.push _).push _).size;rw[Array.size_push,Array.size_push,q];omega
 .rw[u _ _ _ (by show k<Array.size ((w.setCell ⟨j,0,none⟩ (.int .i64 (wrap64 (a+s)))).heap.push _);rw[Array.size_push,q];omega),u _ _ _ (by rw[q];exact z),heap_setCell_other w _ k _ (λI=>D (by rw[I]))]
end Go.Proofs.YthpphdegpinepaaGreat
