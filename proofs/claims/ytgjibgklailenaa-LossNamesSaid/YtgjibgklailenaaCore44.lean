/- Own library, part 44: made slices as values. -/
import Derived.Test.YtgjibgklailenaaCore43
namespace GL
open Go
section
variable {X : Cx} {G : List It} {dO : Option Nat} {ty : TypeId} {pos : String} {af : Array Edge} {gd : Option (Nat × Bool)}
/-- make, as a value. -/
theorem Spec.makeOw {α : Type} [R : Rp α] {n : Operand} {m : Int} {T : List Nat} {z : α} {l : List α} (t : Nat) {ts e : TypeId} (hl : makeL z m = some l) (ht : Nat.ble 10 t = true) (hty : OwnTy X.P ts e α)
    (hz : ZeroTy X.P e z) (hn : Has G n (Fact.rep T m)) : Spec X G ⟨dO, .makeSlice ts n n, ty, pos, af, gd⟩ (Fact.ow [t] [] e l) := fun a w g hs hfr hg hf => by
  have ht' : 10 ≤ t := by simpa using ht
  have hnv := rep_int.1 (hn a w g hf)
  unfold makeL at hl
  split at hl
  case isFalse => cases hl
  rename_i hm
  cases hl
  obtain ⟨i, zv, hi, hiz, hisz, hby, hzs⟩ := hty.info
  have hbytes : i.bytes * m.toNat ≤ 281474976710656 := by
    have : i.bytes * m.toNat ≤ 32768 * 4294967296 := Nat.mul_le_mul hby (by omega)
    omega
  obtain ⟨w', hr, hown, hgr⟩ := run_make_full (P := X.P) w 0 ts e i zv R.n hty.und hi hiz hisz .i64 .i64 m.toNat hbytes (by simp only [maxLen]; omega) (Nat.zero_le _)
  have hrun : (execOp a.eval ⟨dO, .makeSlice ts n n, ty, pos, af, gd⟩).run X.P w = .ok (.value (.slice (some ⟨w.heap.size, 0, none⟩) m.toNat m.toNat)) w' := by
    have hm' : ((m.toNat : Nat) : Int) = m := by omega
    rw [hm'] at hr
    unfold execOp
    simp [hnv, hr]
  have hb : ∀ b, b < w.heap.size → w'.heap[b]? = w.heap[b]? := fun b hb => hgr.block b hb (by simp)
  refine Yields.val hrun ⟨⟨hgr.os, hgr.tape, hgr.output, hgr.size, fun b hb' _ => hb b hb'⟩, tagNew g w.heap.size t, hg.tagNew ht' hgr.size hfr.size, fun b hb => by simp [tagNew, hb], fun _ => rfl, ?_⟩
  refine ⟨_, by rw [List.length_replicate]; exact hown, ?_, fun b hb => ?_⟩
  · have h1 := madeCells_flatten zv.cells.toList m.toNat
    simp only [Array.toArray_toList, Array.length_toList, hzs] at h1
    rw [h1]
    refine RelL.rep ?_ m.toNat
    obtain ⟨zv', hz1, hz2⟩ := hz
    rw [hi] at hz1
    simp only [Option.bind_some, hiz, Option.some.injEq] at hz1
    subst hz1
    exact R.stab _ _ z _ w' w' (Nat.le_refl _) (fun _ _ h => h.elim) (hz2 w')
  · simp only [Value.ownBlock, Option.some.injEq] at hb
    simp [tagNew, ← hb]
end
end GL
