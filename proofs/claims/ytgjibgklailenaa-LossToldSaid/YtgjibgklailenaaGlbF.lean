/- A label's field, told by the closure that counts places. -/
import Derived.Test.YtgjibgklailenaaProg
import Derived.Test.YtgjibgklailenaaCoreME
import Derived.Shelf.RegionOpenPlain
import Derived.WalkKit
import Derived.Lib.Walk
import Derived.Lib.SliceRun
import Derived.Deep.LoopGhost
import Derived.Deep.RegionLaw
set_option linter.unusedVariables false
set_option linter.unusedSimpArgs false
set_option linter.unnecessarySimpa false
namespace Go.Proofs.Ytgjibgklailenaa
open Go GL Go.RowKit Go.Lib

set_option maxHeartbeats 4000000 in
set_option maxRecDepth 1000000 in
theorem one_row (ba : Nat) (n s a : Int) (w : World) (hlt : ba < w.heap.size) (hc : w.cell? ⟨ba, 0, none⟩ = some (.int .i64 a)) (hf : w.frozen? ⟨ba, 0, none⟩ = false) :
    Calls Try.prog 69 #[.int .i64 n, .int .i64 s, .pointer (some ⟨ba, 0, none⟩)] w fun e w' => e = .returned (.agg #[.int .i64 n, .int .i64 a, .int .i64 s]) ∧
      w' = ((w.setCell ⟨ba, 0, none⟩ (.int .i64 (wrap64 (a + s)))).alloc (.cells #[.int .i64 n, .int .i64 a, .int .i64 s] 106)).alloc (.cells #[.int .i64 n, .int .i64 a, .int .i64 s] 106) := by
  have mixed : Try.prog.follows Departure.mixedOrders = true := by kernel_rfl
  go_enter Try.func69, Try.ntmps69
  go_wp2
  have hsz : (w.setCell ⟨ba, 0, none⟩ (.int .i64 (wrap64 (a + s)))).heap.size = w.heap.size := World.size_setCell _ _ _
  have hg : (((w.setCell ⟨ba, 0, none⟩ (.int .i64 (wrap64 (a + s)))).alloc (.cells #[.int .i64 n, .int .i64 a, .int .i64 s] 106)).alloc (.cells #[.int .i64 n, .int .i64 a, .int .i64 s] 106)).heap[w.heap.size]? = some (.cells #[.int .i64 n, .int .i64 a, .int .i64 s] 106 (0, 0)) := by
    rw [Go.heap_alloc_old _ _ (by
      show w.heap.size < ((w.setCell ⟨ba, 0, none⟩ (.int .i64 (wrap64 (a + s)))).heap.push _).size
      rw [Array.size_push, hsz]; omega), ← hsz]
    exact Go.heap_alloc_new _ _
  (try simp only [Exit.inBlock, Exit.then])
  refine bodyPost_ret (results_cell_row rfl _ _ w.heap.size 106 #[.int .i64 n, .int .i64 a, .int .i64 s] (0, 0) _ rfl hg Try.underlying106 rfl (by kernel_rfl)) rfl ?_
  exact ⟨rfl, rfl⟩
theorem cnt_one {γ : Type} [Rp γ] {F : Int → Int → Int → γ} (hF : ∀ n s a H w, Rep H (F n s a) (.agg #[.int .i64 n, .int .i64 a, .int .i64 s]) w) : CntFn Try.prog 69 γ F := fun ba n s a ty w hrow => by
  have hlt : ba < w.heap.size := (Array.getElem?_eq_some_iff.1 hrow).1
  refine (one_row ba n s a w hlt (by rw [cell_of_row w ba 0 _ ty (0, 0) hrow]; rfl) (frozen_of_row w ba 0 _ ty hrow)).mono ?_
  rintro e w' ⟨rfl, rfl⟩
  have hw : wrap64 (a + s) = wI (a + s) := by
    unfold wI wrap64
    rw [IntKind.wrap_i64]
  have hal : ∀ (W : World) (o : Obj) (k : Nat), k < W.heap.size → (W.alloc o).heap[k]? = W.heap[k]? := fun W o k hk => RowKit.Below.heap_alloc W o k hk
  have hsz : (w.setCell ⟨ba, 0, none⟩ (.int .i64 (wrap64 (a + s)))).heap.size = w.heap.size := World.size_setCell _ _ _
  refine ⟨_, rfl, fun H w => hF n s a H w, ?_, ⟨rfl, rfl, rfl, ?_, fun k hk hne => ?_⟩⟩
  · rw [hal _ _ _ (by show ba < Array.size _; rw [show ((w.setCell ⟨ba, 0, none⟩ (.int .i64 (wrap64 (a + s)))).alloc (.cells #[.int .i64 n, .int .i64 a, .int .i64 s] 106)).heap = (w.setCell ⟨ba, 0, none⟩ (.int .i64 (wrap64 (a + s)))).heap.push _ from rfl, Array.size_push, hsz]; omega), hal _ _ _ (by rw [hsz]; exact hlt), heap_setCell_same w ba 0 _ ty _ hrow, ← hw]
    rfl
  · show w.heap.size ≤ (((w.setCell ⟨ba, 0, none⟩ (.int .i64 (wrap64 (a + s)))).heap.push _).push _).size
    rw [Array.size_push, Array.size_push, hsz]; omega
  · rw [hal _ _ _ (by show k < Array.size ((w.setCell ⟨ba, 0, none⟩ (.int .i64 (wrap64 (a + s)))).heap.push _); rw [Array.size_push, hsz]; omega), hal _ _ _ (by rw [hsz]; exact hk), heap_setCell_other w _ k _ (fun he => hne (by rw [he]))]
end Go.Proofs.Ytgjibgklailenaa
