/- Own library, part 30: struct arguments opened. -/
import Derived.Test.YtgjibgklailenaaCore29
namespace GL
open Go Go.ChangeShapes Go.WideShapes Go.ChangeAt Go.RowKit

def OpenF (P : Program) (off : Nat) (fs : List Field) (α : Type) [R : Rp α] (wf : α → Prop) : Prop :=
  ∀ {H : Type} (enc : TypeId × Value → H) (w : World) (fuel : Nat) (cs : List Value) (xs : List (DataW H × List MemPlace)), cs.length = off + R.n →
    fs.mapM (fun f => DataW.trod enc P w 0 (fun _ => true) true fuel f.type ((cs.drop f.offset).take (P.cellsOf f.type))) = some xs → w.noneFrozen (xs.flatMap (·.2)) → ∃ y : α, wf y ∧ R.rel (fun _ => True) y (cs.drop off) w
theorem OpenF.one {P : Program} {off : Nat} {f : Field} {α : Type} [R : Rp α] {wf : α → Prop} (he : OpenTy P f.type α wf) (ho : f.offset = off) (hn : P.cellsOf f.type = R.n) : OpenF P off [f] α wf := fun enc w fuel cs xs hl hm hz => by
  rw [List.mapM_cons] at hm
  simp only [Option.bind_eq_bind, Option.bind_eq_some_iff, Option.pure_def, Option.some.injEq, List.mapM_nil] at hm
  obtain ⟨x, hx, _, rfl, rfl⟩ := hm
  rw [ho, hn, List.take_of_length_le (by simp; omega)] at hx
  exact he enc w fuel _ x hx (fun b o h => hz b o (by simp [h]))
theorem OpenF.cons {P : Program} {off : Nat} {f : Field} {fs : List Field} {α β : Type} [A : Rp α] [B : Rp β] {wf : α → Prop} {wf' : β → Prop} (he : OpenTy P f.type α wf) (ho : f.offset = off) (hn : P.cellsOf f.type = A.n)
    (h : OpenF P (off + A.n) fs β wf') : OpenF P off (f :: fs) (α × β) (fun x => wf x.1 ∧ wf' x.2) := fun enc w fuel cs xs hl hm hz => by
  have hl' : cs.length = off + A.n + B.n := by rw [hl]; exact (Nat.add_assoc _ _ _).symm
  rw [List.mapM_cons] at hm
  simp only [Option.bind_eq_bind, Option.bind_eq_some_iff, Option.pure_def, Option.some.injEq] at hm
  obtain ⟨x, hx, xs', hxs, rfl⟩ := hm
  rw [ho, hn] at hx
  obtain ⟨y, hy, hr⟩ := he enc w fuel _ x hx (fun b o hh => hz b o (by simp [hh]))
  obtain ⟨z, hz', hr'⟩ := h enc w fuel cs xs' hl' hxs (fun b o hh => hz b o (by rw [List.flatMap_cons]; exact List.mem_append_right _ hh))
  refine ⟨(y, z), ⟨hy, hz'⟩, (cs.drop off).take A.n, cs.drop (off + A.n), ?_, hr, hr'⟩
  rw [← List.drop_drop, List.take_append_drop]
theorem open_struct {P : Program} {t : TypeId} {fs : Array Field} {α β : Type} {B : Rp β} {wf : β → Prop} {f : α → β} (g : β → α) (h : P.underlying t = some (.struct fs)) (hn : P.cellsOf t = B.n) (hF : @OpenF P 0 fs.toList β B wf) (hg : ∀ y, f (g y) = y) :
    @OpenTy P t α (Rp.via B f) (fun x => wf (f x)) := by
  intro H enc w fuel cs x hx hfz
  cases fuel with
  | zero => simp [DataW.trod] at hx
  | succ fuel =>
    unfold DataW.trod at hx
    rw [h] at hx
    have hx' : (if cs.length = P.cellsOf t then (fs.toList.mapM fun f => DataW.trod enc P w 0 (fun _ => true) true fuel f.type ((cs.drop f.offset).take (P.cellsOf f.type))).map fun xs => (DataW.agg (xs.map (·.1)), xs.flatMap (·.2)) else none) = some x := by
      rw [← hx]
    split at hx'
    case isFalse => cases hx'
    rename_i hl
    simp only [Option.map_eq_some_iff] at hx'
    obtain ⟨xs, hxs, rfl⟩ := hx'
    obtain ⟨y, hy, hr⟩ := hF enc w fuel cs xs (by rw [hl, hn]; omega) hxs hfz
    refine ⟨g y, (by show wf (f (g y)); rw [hg]; exact hy), ?_⟩
    show B.rel _ (f (g y)) cs w
    rw [hg]
    simpa using hr
/-- The same, shut. -/
structure OT (P : Program) (t : TypeId) (α : Type) [R : Rp α] (wf : α → Prop) : Prop where
  h : OpenTy P t α wf
structure OF (P : Program) (off : Nat) (fs : List Field) (α : Type) [R : Rp α] (wf : α → Prop) : Prop where
  h : OpenF P off fs α wf
theorem OF.one {P : Program} {off : Nat} {f : Field} {α : Type} [R : Rp α] {wf : α → Prop} (he : OT P f.type α wf) (ho : f.offset = off) (hn : P.cellsOf f.type = R.n) : OF P off [f] α wf := ⟨OpenF.one he.h ho hn⟩
theorem OF.cons {P : Program} {off : Nat} {f : Field} {fs : List Field} {α β : Type} [A : Rp α] [B : Rp β] {wf : α → Prop} {wf' : β → Prop} (he : OT P f.type α wf) (ho : f.offset = off) (hn : P.cellsOf f.type = A.n)
    (h : OF P (off + A.n) fs β wf') : OF P off (f :: fs) (α × β) (fun x => wf x.1 ∧ wf' x.2) := ⟨OpenF.cons he.h ho hn h.h⟩
theorem OT.struct {P : Program} {t : TypeId} {fs : Array Field} {α β : Type} {B : Rp β} {wf : β → Prop} {f : α → β} (g : β → α) (h : P.underlying t = some (.struct fs)) (hn : P.cellsOf t = B.n) (hF : @OF P 0 fs.toList β B wf) (hg : ∀ y, f (g y) = y) :
    @OT P t α (Rp.via B f) (fun x => wf (f x)) := @OT.mk P t α (Rp.via B f) _ (open_struct g h hn hF.h hg)
theorem OT.i64 {P : Program} {t : TypeId} (h : P.underlying t = some (.int .i64)) : OT P t Int inI := ⟨open_i64 h⟩
theorem OT.u8 {P : Program} {t : TypeId} (h : P.underlying t = some (.int .u8)) : OT P t UInt8 (fun _ => True) := ⟨open_u8 h⟩
theorem OT.u32 {P : Program} {t : TypeId} (h : P.underlying t = some (.int .u32)) : OT P t UInt32 (fun _ => True) := ⟨open_u32 h⟩
theorem OT.bool {P : Program} {t : TypeId} (h : P.underlying t = some .bool) : OT P t Bool (fun _ => True) := ⟨open_bool h⟩
theorem OT.slice {P : Program} {t e : TypeId} {α : Type} [R : Rp α] {wf : α → Prop} (h : P.underlying t = some (.slice e)) (hn : P.cellsOf e = R.n) (hpos : 0 < R.n) (he : OT P e α wf) :
    OT P t (List α) (fun l => l.length ≤ 9223372036854775807 ∧ ∀ x ∈ l, wf x) := ⟨open_slice h hn hpos he.h⟩
end GL
