/- Own library, texts 42 to 54 in one. -/
import Derived.Test.YtmlmlfghogoadaaCoreMD
import Derived.MapKept
set_option linter.unusedVariables false
set_option linter.unusedSimpArgs false
set_option linter.unnecessarySimpa false
namespace GL
section
open Go

/-- A slice without room behind its elements. -/
def Fact.repC {α : Type} [R : Rp α] (T : List Nat) (l : List α) : Fact where
  tags := T
  ids := []
  p := fun g v w => Rep (fun b => g.om b ∈ T) l v w ∧ ∃ a, v = .slice a l.length l.length
  stab := fun g g' v w w' hk h => ⟨(Fact.rep T l).stab g g' v w w' hk h.1, h.2⟩

/-- append of so many zeros. -/
def appZ {α : Type} (z : α) (l : List α) (n : Int) : Option (List α) := if 0 ≤ n ∧ (l.length : Int) + n < 4294967296 then some (l ++ List.replicate n.toNat z) else none

theorem run_append_zeros {P : Program} (w : World) (t ti ty e : TypeId) (i : TypeInfo) (z : Value) (ht : P.underlying t = some (.slice e)) (hti : P.underlying ti = some (.int .i64)) (hi : P.info? e = some i) (hz : i.zero = some z)
    (b : Option Addr) (sLen : Nat) (olds : Array Value) (holds : ∀ w', (∀ a, w'.cell? a = w.cell? a) → (Builtin.firstCells i.size sLen (.slice b sLen sLen)).run P w' = .ok olds w') (n : Nat) (hn : 0 < n) (hnz : n * i.size ≠ 0)
    (h63 : ((sLen + n : Nat) : Int) ≤ 9223372036854775807) (hfit0 : n * i.bytes ≤ 281474976710656) (hfit : Builtin.nextslicecap (sLen + n) sLen * i.bytes ≤ 281474976710656) :
    (Builtin.append_ #[t, ti] ty #[.slice b sLen sLen, .int .i64 n]).run P w =
      .ok (.slice (some ⟨w.heap.size, 0, none⟩) (sLen + n) (grownCap w (sLen + n) sLen e))
        (w.drew.alloc (.cells (olds ++ Builtin.zeroCells z.cells n ++ Builtin.zeroCells z.cells (grownCap w (sLen + n) sLen e - (sLen + n))) e)) := by
  have hn1 : ¬ (sLen + n ≤ sLen) := by omega
  have h63' : ¬ (9223372036854775807 < ((sLen : Int) + (n : Int))) := by omega
  have h48' : ¬ (281474976710656 < Builtin.nextslicecap (sLen + n) sLen * i.bytes) := by omega
  have h480 : ¬ (281474976710656 < (n : Int) * (i.bytes : Int)) := by
    have : ((n * i.bytes : Nat) : Int) ≤ 281474976710656 := by omega
    rw [Int.natCast_mul] at this
    omega
  have hfo := holds w.drew (fun a => by simp)
  have hw : IntKind.i64.wrap (n : Int) = (n : Int) := wI_id (by omega) (by omega)
  have hneg : ¬ ((n : Int) < 0) := by omega
  simp [Builtin.append_, run_underlying ht, run_underlying hti, Go.sizeOf, typeInfo, zeroValue, hi, hz, Go.asInt, asIntOf, hw, hneg, h480, hnz, hn1, h63', h48', Question.forced, hfo, newRow, grownCap]

section
variable {X : Cx} {G : List It} {dO : Option Nat} {ty : TypeId} {pos : String} {af : Array Edge} {gd : Option (Nat × Bool)}
/-- x[:n:n]. -/
theorem Spec.slc3 {α : Type} [R : Rp α] {x hi mx : Operand} {T T1 T2 : List Nat} {l r : List α} {n : Int} {t e : TypeId} (hr : GL.slc l 0 n = some r) (ht : SlTy X.P t e α)
    (hx : Has G x (Fact.rep T l)) (hhi : Has G hi (Fact.rep T1 n)) (hmx : Has G mx (Fact.rep T2 n)) : Spec X G ⟨dO, .slice t x none (some hi) (some mx), ty, pos, af, gd⟩ (Fact.repC T r) := by
  unfold GL.slc at hr
  split at hr
  case isFalse => cases hr
  rename_i hc
  cases hr
  refine Spec.pure fun a w g hf => ?_
  have h := hx a w g hf
  obtain ⟨ad, c, hv, hlc, hnil, hcells⟩ := rep_list h
  have h1 := rep_int.1 (hhi a w g hf)
  have h2 := rep_int.1 (hmx a w g hf)
  have g1 : n ≤ (c : Int) := by omega
  have g2 : 0 ≤ n := by omega
  have hml : min n.toNat l.length = n.toNat := by omega
  have hlen : ((l.take n.toNat).drop (0 : Int).toNat).length = n.toNat := by simp; omega
  refine ⟨.slice (if n.toNat = 0 then ad else ad.map (·.add 0)) n.toNat n.toNat, ?_, ?_, (if n.toNat = 0 then ad else ad.map (·.add 0)), by rw [hlen]⟩
  · unfold execOp
    simp only [Option.map_some, Option.map_none, hv, h1, h2, Sem.run_bind, Sem.run_map]
    unfold Instr.sliceAt
    simp [run_underlying ht.und, Instr.slice, Instr.sliceBounds, Instr.sliceBound, asIntOf, g1, g2, rt_sizeOf ht.el]
    intro h9
    omega
  · have had : (if n.toNat = 0 then ad else ad.map (·.add 0)) = ad := by
      split
      · rfl
      · cases ad with
        | none => rfl
        | some x => simp [Go.Addr.add_zero']
    rw [had]
    have hdrop : (l.take n.toNat).drop (0 : Int).toNat = l.take n.toNat := by simp
    rw [hdrop] at hlen ⊢
    refine ⟨[.slice ad n.toNat n.toNat], ⟨ad, n.toNat, by rw [hlen], by rw [hlen]; exact Nat.le_refl _, fun h0 => ?_, fun x hx i y hy => ?_⟩, rfl⟩
    · obtain ⟨e1, e2⟩ := hnil h0
      subst e1
      simp at hml hlen ⊢
      omega
    · refine hcells x hx i y ?_
      rw [List.getElem?_take] at hy
      split at hy
      · exact hy
      · cases hy
theorem firstCells_repC {P : Program} {α : Type} [R : Rp α] {F : Nat → Prop} {l : List α} {a : Option Addr} {w : World} (h : Rep F l (.slice a l.length l.length) w) :
    ∃ olds : List Value, RelL F l olds w ∧ ∀ w', (∀ a, w'.cell? a = w.cell? a) → (Builtin.firstCells R.n l.length (.slice a l.length l.length)).run P w' = .ok olds.toArray w' := by
  obtain ⟨ad, c, hv, hlc, hnil, hcells⟩ := rep_list h
  cases hv
  cases a with
  | none =>
    obtain ⟨e1, _⟩ := hnil rfl
    subst e1
    exact ⟨[], rfl, fun w' _ => by simp [Builtin.firstCells]⟩
  | some ad =>
    obtain ⟨news, hn1, hn2⟩ := cells_of_rep (w := w) (F := F) (ad := ad) l 0 (fun i y hy => by
      obtain ⟨_, _, es, h1, h2⟩ := hcells ad rfl i y hy
      exact ⟨es, by simpa using h1, h2⟩)
    have hn2 : CellsAt w ad news := by simpa [Go.Addr.add_zero'] using hn2
    have hnl := RelL.len _ _ hn1
    refine ⟨news, hn1, fun w' hw => ?_⟩
    exact run_firstCells_some (P := P) w' R.n l.length ad l.length l.length news hnl (fun j u hj => by rw [hw]; exact (hn2 j u hj).1)
theorem Cv.repC {α : Type} [R : Rp α] {T : List Nat} {l : List α} : Cv G (Fact.repC T l) (Fact.rep T l) := fun _ _ _ _ _ h => h.1

theorem Spec.appZ {α : Type} [R : Rp α] [Fl : Flat α] {s x : Operand} {T T1 : List Nat} {l r : List α} {n : Int} {z : α} (t : Nat) {ts e ti : TypeId} (hr : GL.appZ z l n = some r) (ht : Nat.ble 10 t = true) (hty : OwnTy X.P ts e α) (hz : ZeroTy X.P e z)
    (hti : X.P.underlying ti = some (.int .i64)) (hs : Has G s (Fact.repC T l)) (hx : Has G x (Fact.rep T1 n)) :
    Spec X G ⟨dO, .call { callee := .builtin .append, args := #[s, x], argTypes := #[ts, ti] }, ty, pos, af, gd⟩ (Fact.rep (t :: T) r) := fun a w g hsz hfr hg hf => by
  have ht' : 10 ≤ t := by simpa using ht
  unfold GL.appZ at hr
  split at hr
  case isFalse => cases hr
  rename_i hn
  cases hr
  obtain ⟨h1, ad, hv⟩ := hs a w g hf
  have h2 := rep_int.1 (hx a w g hf)
  obtain ⟨i, zv, hi, hiz, hisz, hby, hzs⟩ := hty.info
  obtain ⟨m, rfl⟩ : ∃ m : Nat, n = (m : Int) := ⟨n.toNat, by omega⟩
  simp only [Int.toNat_natCast]
  rw [hv] at h1
  obtain ⟨olds, ho1, ho2⟩ := firstCells_repC (P := X.P) h1
  have hol := RelL.len _ _ ho1
  by_cases hm : m = 0
  · subst hm
    have hrun : (execOp a.eval ⟨dO, .call { callee := .builtin .append, args := #[s, x], argTypes := #[ts, ti] }, ty, pos, af, gd⟩).run X.P w = .ok (.value (.slice ad l.length l.length)) w := by
      unfold execOp
      have hw : IntKind.i64.wrap 0 = 0 := by decide
      cases ad with
      | none => simp [resolve, invoke, builtin, hv, h2, Builtin.append_, run_underlying hty.und, run_underlying hti, Go.sizeOf, typeInfo, zeroValue, hi, hiz, Go.asInt, asIntOf, hw]
      | some ad => simp [resolve, invoke, builtin, hv, h2, Builtin.append_, run_underlying hty.und, run_underlying hti, Go.sizeOf, typeInfo, zeroValue, hi, hiz, Go.asInt, asIntOf, storeCells, hw]
    refine Yields.val hrun ⟨Fr.refl _ _, g, hg, fun _ _ => rfl, fun _ => rfl, ?_⟩
    rw [List.replicate_zero, List.append_nil]
    exact Rep.mono h1 (fun _ _ hb => List.mem_cons_of_mem _ hb)
  · have hp := hty.pos
    have hb1 : (l.length + m) * i.bytes ≤ 140737488355328 := by
      have : (l.length + m) * i.bytes ≤ 4294967296 * 32768 := Nat.mul_le_mul (by omega) hby
      omega
    have hb2 : m * i.bytes ≤ 281474976710656 := by
      have : m * i.bytes ≤ 4294967296 * 32768 := Nat.mul_le_mul (by omega) hby
      omega
    have hr := run_append_zeros (P := X.P) (ty := ty) w ts ti e i zv hty.und hti hi hiz ad l.length olds.toArray (by rw [hisz]; exact ho2) m (by omega) (by rw [hisz]; exact Nat.mul_ne_zero hm (by omega)) (by omega) hb2 (growslice_fits (by omega) hb1)
    have hrun : (execOp a.eval ⟨dO, .call { callee := .builtin .append, args := #[s, x], argTypes := #[ts, ti] }, ty, pos, af, gd⟩).run X.P w = .ok (.value (.slice (some ⟨w.heap.size, 0, none⟩) (l.length + m) (grownCap w (l.length + m) l.length e)))
        (w.drew.alloc (.cells (olds.toArray ++ Builtin.zeroCells zv.cells m ++ Builtin.zeroCells zv.cells (grownCap w (l.length + m) l.length e - (l.length + m))) e)) := by
      unfold execOp
      simp [resolve, invoke, builtin, hv, h2, hr]
    have hzcells : ∀ q : Nat, (Builtin.zeroCells zv.cells q).toList = (List.replicate q zv.cells.toList).flatten := fun q => by
      have h1 := madeCells_flatten zv.cells.toList q
      simp only [Array.toArray_toList, Array.length_toList] at h1
      rw [← h1]; rfl
    have hzl : ∀ q : Nat, ((List.replicate q zv.cells.toList).flatten).length = q * R.n := fun q => by simp [hzs]
    have hcapge := grownCap_ge w (l.length + m) l.length e
    have hcapm := grownCap_le_maxLen w (l.length + m) l.length e (by simp only [maxLen]; omega)
    refine Yields.val hrun ⟨(Fr.refl _ w).drew.trans (Fr.alloc w.drew _) (fun _ _ h => h), tagNew g w.heap.size t, hg.tagNew ht' (by simp) hfr.size, fun b hb => by simp [tagNew, hb], fun _ => rfl, ?_⟩
    generalize hcap : grownCap w (l.length + m) l.length e = cap at hcapge hcapm
    have hlist : (olds.toArray ++ Builtin.zeroCells zv.cells m ++ Builtin.zeroCells zv.cells (cap - (l.length + m))).toList = (olds ++ (List.replicate m zv.cells.toList).flatten) ++ (List.replicate (cap - (l.length + m)) zv.cells.toList).flatten := by
      simp [hzcells]
    have hsize : (olds ++ (List.replicate m zv.cells.toList).flatten).length = (l.length + m) * R.n := by
      rw [List.length_append, hol, hzl, Nat.add_mul]
    obtain ⟨zv', hz1, hz2⟩ := hz
    rw [hi] at hz1
    simp only [Option.bind_some, hiz, Option.some.injEq] at hz1
    subst hz1
    have hO : OwRel (fun b => (tagNew g w.heap.size t).om b ∈ [t]) (fun _ => False) e (l ++ List.replicate m z) (.slice (some ⟨w.heap.size, 0, none⟩) (l.length + m) cap) (w.drew.alloc (.cells (olds.toArray ++ Builtin.zeroCells zv.cells m ++ Builtin.zeroCells zv.cells (cap - (l.length + m))) e)) := by
      refine ⟨olds ++ (List.replicate m zv.cells.toList).flatten, ⟨by rw [hsize]; simp, .inr ⟨w.heap.size, cap, _, by simp, Nat.zero_le _, heap_alloc_new w.drew _, by simp; omega, hcapm, ?_, ?_⟩⟩, ?_, fun b hb => ?_⟩
      · rw [← Array.length_toList, hlist, List.length_append, hsize, hzl, ← Nat.add_mul]
        congr 1
        omega
      · rw [hlist, show (l ++ List.replicate m z).length = l.length + m by simp, ← hsize, List.take_left]
      · exact RelL.app _ _ _ _ (RelL.flat l olds ho1) (RelL.rep (hz2 _) m)
      · simp only [Value.ownBlock, Option.some.injEq] at hb
        simp [tagNew, ← hb]
    exact SlRel.rep (fun b hb => by simp at hb; simp [hb]) (fun _ hb => hb.elim) hO.sl
end
end
end GL

namespace GL
section
open Go
theorem Loose.cst {T : List Nat} {v0 : Value} {f : Fact} (h : Loose T f) : Loose T (Fact.cst v0 f) := fun g _ w w' hW hp => h g v0 w w' hW hp
theorem LooseL.loC {G : List It} {T : List Nat} {α : Type} [R : Rp α] [Lo α] {x : α} {s : Nat} {v0 : Value} {L : List It} (h : look G s = some (Fact.cst v0 (Fact.lo T x))) (k : LooseL G T L) : LooseL G T (.fact s (Fact.cst v0 (Fact.lo T x)) :: L) := ⟨h, Loose.cst .lo, k⟩
theorem Ad.cvC {X : Cx} {G : List It} {s : Nat} {v0 : Value} {f f' : Fact} (hs : look G s = some (.cst v0 f)) (hc : Cv G f f') : Ad X G (.fact s (.cst v0 f') :: G) := fun a w env => by
  obtain ⟨g, hg, hf⟩ := env.facts
  refine ⟨env.size, env.defers, env.fr, g, hg, ?_⟩
  exact Facts.ghost hf (fun _ => hc a w g v0 hf (hf s _ hs))
end
end GL

namespace GL
section
open Go
section
variable {X : Cx} {G : List It} {dO : Option Nat} {ty : TypeId} {pos : String} {af : Array Edge} {gd : Option (Nat × Bool)}
/-- make, as a value. -/
theorem Spec.makeOw {α : Type} [R : Rp α] {n : Operand} {m : Int} {T : List Nat} {z : α} {l : List α} (t : Nat) {ts e : TypeId} (hl : makeL z m = some l) (ht : Nat.ble 10 t = true) (hty : OwnTy X.P ts e α)
    (hz : ZeroTy X.P e z) (hn : Has G n (Fact.rep T m)) : Spec X G ⟨dO, .makeSlice ts n n, ty, pos, af, gd⟩ (Fact.ow [t] [] e l) := fun a w g hs hfr hg hf => by
  have ht' : 10 ≤ t := by simpa using ht
  have hnv := rep_int.1 (hn a w g hf)
  unfold makeL at hl
  split at hl
  case isFalse => cases hl
  rename_i hm
  cases hl
  obtain ⟨i, zv, hi, hiz, hisz, hby, hzs⟩ := hty.info
  have hbytes : i.bytes * m.toNat ≤ 281474976710656 := by
    have : i.bytes * m.toNat ≤ 32768 * 4294967296 := Nat.mul_le_mul hby (by omega)
    omega
  obtain ⟨w', hr, hown, hgr⟩ := run_make_full (P := X.P) w 0 ts e i zv R.n hty.und hi hiz hisz .i64 .i64 m.toNat hbytes (by simp only [maxLen]; omega) (Nat.zero_le _)
  have hrun : (execOp a.eval ⟨dO, .makeSlice ts n n, ty, pos, af, gd⟩).run X.P w = .ok (.value (.slice (some ⟨w.heap.size, 0, none⟩) m.toNat m.toNat)) w' := by
    have hm' : ((m.toNat : Nat) : Int) = m := by omega
    rw [hm'] at hr
    unfold execOp
    simp [hnv, hr]
  have hb : ∀ b, b < w.heap.size → w'.heap[b]? = w.heap[b]? := fun b hb => hgr.block b hb (by simp)
  refine Yields.val hrun ⟨⟨hgr.os, hgr.tape, hgr.output, hgr.size, fun b hb' _ => hb b hb'⟩, tagNew g w.heap.size t, hg.tagNew ht' hgr.size hfr.size, fun b hb => by simp [tagNew, hb], fun _ => rfl, ?_⟩
  refine ⟨_, by rw [List.length_replicate]; exact hown, ?_, fun b hb => ?_⟩
  · have h1 := madeCells_flatten zv.cells.toList m.toNat
    simp only [Array.toArray_toList, Array.length_toList, hzs] at h1
    rw [h1]
    refine RelL.rep ?_ m.toNat
    obtain ⟨zv', hz1, hz2⟩ := hz
    rw [hi] at hz1
    simp only [Option.bind_some, hiz, Option.some.injEq] at hz1
    subst hz1
    exact R.stab _ _ z _ w' w' (Nat.le_refl _) (fun _ _ h => h.elim) (hz2 w')
  · simp only [Value.ownBlock, Option.some.injEq] at hb
    simp [tagNew, ← hb]
end
end
end GL

namespace GL
section
open Go

def FzRel (P : Program) {β : Type} [Rp β] (m : Option (Option β)) (F : Nat → Prop) (v : Value) (w : World) : Prop :=
  match m with
  | none => v = .nilFunc
  | some o => ∃ k cs, v = .func (.func k) #[] cs ∧ enters P k = true ∧ ∀ r, o = some r → ∀ w' : World, w.heap.size ≤ w'.heap.size → (∀ b, b < w.heap.size → F b → w'.heap[b]? = w.heap[b]?) →
      Calls P k cs w' (fun e w'' => ∃ rv, e = .returned rv ∧ Fr NoC w' w'' ∧ Rep (fun b => w'.heap.size ≤ b ∧ b < w''.heap.size) r rv w'')
theorem FzRel.stab {P : Program} {β : Type} [Rp β] {m : Option (Option β)} {F F' : Nat → Prop} {v : Value} {w w' : World} (hs : w.heap.size ≤ w'.heap.size)
    (hk : ∀ b, b < w.heap.size → F b → w'.heap[b]? = w.heap[b]? ∧ F' b) (h : FzRel P m F v w) : FzRel P m F' v w' := by
  cases m with
  | none => exact h
  | some o =>
    obtain ⟨k, cs, hv, he, hc⟩ := h
    refine ⟨k, cs, hv, he, fun r hr w'' hs' hk' => hc r hr w'' (Nat.le_trans hs hs') (fun b hb hF => ?_)⟩
    rw [hk' b (Nat.lt_of_lt_of_le hb hs) (hk b hb hF).2]
    exact (hk b hb hF).1
def Fact.fz (P : Program) {β : Type} [Rp β] (T : List Nat) (m : Option (Option β)) : Fact where
  tags := T
  ids := []
  p := fun g v w => FzRel P m (fun b => g.om b ∈ T) v w
  stab := fun g g' v w w' hk h => FzRel.stab hk.size (fun b hb ht => ⟨(hk.block b hb ht).1, by rw [(hk.block b hb ht).2]; exact ht⟩) h
theorem OneC.fz {P : Program} {β : Type} [Rp β] {T : List Nat} {m : Option (Option β)} : OneC (.fz P T m) := fun g v w h => by
  cases m with
  | none => rw [show v = .nilFunc from h]; exact ⟨rfl, rfl⟩
  | some o => obtain ⟨k, cs, rfl, _⟩ := h; exact ⟨rfl, rfl⟩
theorem FldRel.zf {P : Program} {β : Type} [Rp β] {T : List Nat} {g : Gh} {w : World} {ls : Ls} {cs : List Value} (k : FldRel g w ls cs) : FldRel g w ((false, 1, .fz P T (none : Option (Option β))) :: ls) (.nilFunc :: cs) :=
  ⟨[.nilFunc], cs, rfl, rfl, by simp [Value.oneCell'], fun _ => rfl, rfl, k⟩

/-- What is known of a result, of its classes. -/
def OutRep {β : Type} [Rp β] (out : β → Shape) : Prop := ∀ r T g v w, ((out r).f T).p g v w → Rep (fun b => ∃ c, g.om b ∈ T c) r v w
theorem OutRep.own {α : Type} [R : Rp α] {c : Nat} {ce : Option Nat} {e : TypeId} : OutRep (fun r : List α => Shape.own c ce e r) := fun r T g v w h => by
  have h : OwRel (fun b => g.om b ∈ T c) (fun b => g.om b ∈ oc T ce) e r v w := h
  refine SlRel.rep (fun b hb => ⟨c, hb⟩) (fun b hb => ?_) h.sl
  cases ce with
  | none => cases hb
  | some d => exact ⟨d, hb⟩
theorem OutRep.rep {β : Type} [R : Rp β] {c : Nat} : OutRep (fun r : β => Shape.rep c r) := fun _ _ _ _ _ h => Rep.mono h (fun _ _ hb => ⟨c, hb⟩)

section
variable {X : Cx} {G : List It} {Q : Exit → Act → World → Prop} {dO : Option Nat} {ty : TypeId} {pos : String} {af : Array Edge} {gd : Option (Nat × Bool)}
theorem Has.fzNil {P : Program} {β : Type} [Rp β] : Has G (.const .nilFunc) (.fz P [] (none : Option (Option β))) := fun _ _ _ _ => rfl
theorem Cv.fzM {P : Program} {β : Type} [Rp β] {T T' : List Nat} {m : Option (Option β)} (h : subB T T' = true) : Cv G (.fz P T m) (.fz P T' m) := fun _ _ _ _ _ hp =>
  FzRel.stab (Nat.le_refl _) (fun _ _ hb => ⟨rfl, subB_spec h _ hb⟩) hp
theorem Cv.fz {P : Program} {β : Type} [R : Rp β] {T : List Nat} {o : Option β} {k : FuncId} {cs : List Fact} {pc : List Shape} {out : β → Shape} (hk : enters P k = true) (hcs : CvF G cs (pc.map fun s => s.f (cst T)))
    (hout : OutRep out) (hc : ∀ r, o = some r → Ctr P k pc (out r) []) : Cv G (.fnv k [] cs) (.fz P T (some o)) := fun a w g v hf hp => by
  obtain ⟨us, vs, hv, h1, h2⟩ := hp
  have hus : us = [] := h1
  subst hus
  have h2 := (CvF.all hf _ _ _ hcs h2).all2
  refine ⟨k, vs.toArray, hv, hk, fun r hr w' hs hkp => ?_⟩
  classical
  let g1 : Gh := ⟨fun b => if b < w.heap.size ∧ g.om b ∈ T then 0 else 1, g.ga⟩
  have h0 : All2 [0] g1 w pc vs := All2.later (Nat.le_refl _) (fun _ _ _ => rfl) (fun b hb hT => by simp [g1, hb, hT]) pc vs h2
  have h3 : All2 [0] g1 w' pc vs := by
    refine All2.later (T := [0]) (g := g1) hs (fun b hb h => ?_) (fun b hb h => h) pc vs h0
    simp only [g1, List.mem_singleton] at h
    split at h
    · rename_i h'; exact hkp b hb h'.2
    · cases h
  refine (hc r hr w' g1 [0] vs h3).mono ?_
  rintro e w'' ⟨rv, rfl, hfr, cls, hp⟩
  refine ⟨rv, rfl, hfr, ?_⟩
  have h4 := hp (cst [7]) ⟨fun b => if w'.heap.size ≤ b ∧ b < w''.heap.size then 7 else 8, fun _ => undef⟩ (fun b h5 h6 => by simp [cst, h5, h6]) (fun b c _ _ hcc => by cases hcc)
  refine Rep.mono (hout _ _ _ _ _ h4) (fun b _ hb => ?_)
  obtain ⟨c, hb⟩ := hb
  simp only [cst, List.mem_singleton] at hb
  split at hb
  · assumption
  · cases hb
theorem fz_call {β : Type} {m : Option (Option β)} {r : β} (h : m.bind id = some r) : m = some (some r) := by
  cases m with
  | none => cases h
  | some o => exact congrArg some h
theorem Spec.callFz {β : Type} [R : Rp β] {m : Option (Option β)} {r : β} {y : Operand} {T : List Nat} (t : Nat) (ht : Nat.ble 10 t = true) (hr : m.bind id = some r) (hy : Has G y (.fz X.P T m)) :
    Spec X G ⟨dO, .call { callee := .value y, args := #[], argTypes := #[] }, ty, pos, af, gd⟩ (Fact.rep [t] r) := fun a w g hs hfr hg hf K Q hK => by
  have ht' : 10 ≤ t := by simpa using ht
  have hy := hy a w g hf
  rw [fz_call hr] at hy
  obtain ⟨k, cs, hv, hk, hc⟩ := hy
  have hcall := hc r rfl w (Nat.le_refl _) (fun _ _ _ => rfl)
  have hrun : (execOp a.eval ⟨dO, .call { callee := .value y, args := #[], argTypes := #[] }, ty, pos, af, gd⟩).run X.P w = .ok (.enter k cs) w := by
    unfold execOp
    simp [resolve, Deferred.ofValue, hv, invoke, run_enter hk]
  unfold Oper.wp
  rw [hrun]
  refine Calls.mono hcall ?_
  rintro e w' ⟨v, rfl, hw, hp⟩
  refine hK v w' ⟨hw, GL.tagNew g w.heap.size t, hg.tagNew ht' hw.size hfr.size, fun b hb => by simp [GL.tagNew, hb], fun _ => rfl, Rep.mono hp (fun b _ hb => ?_)⟩
  simp only [GL.tagNew]
  rw [if_neg (by omega)]; simp
theorem run_eqIn_funcv_nil {P : Program} (w : World) (d : Nat) {t : TypeId} {as rs : Array TypeId} {vr : Bool} (h : P.underlying t = some (.func as rs vr)) (k : FuncId) (us cs : Array Value) : (Op.equalIn (d + 1) t (.func (.func k) us cs) .nilFunc).run P w = .ok false w := by
  simp [Op.equalIn, run_underlying h]
theorem run_eq_funcv_nil {P : Program} (w : World) {t : TypeId} {as rs : Array TypeId} {vr : Bool} (h : P.underlying t = some (.func as rs vr)) (k : FuncId) (us cs : Array Value) : (Op.equal t (.func (.func k) us cs) .nilFunc).run P w = .ok false w := run_eqIn_funcv_nil w 9999 h k us cs
theorem Spec.eqlFz {β : Type} [R : Rp β] {m : Option (Option β)} {x : Operand} {t t' : TypeId} {T : List Nat} {as rs : Array TypeId} {vr : Bool} (ht : X.P.underlying t = some (.func as rs vr)) (hx : Has G x (.fz X.P T m)) :
    Spec X G ⟨dO, .binOp .eql t x (.const .nilFunc) t', ty, pos, af, gd⟩ (Fact.rep [] m.isNone) :=
  Spec.pure fun a w g hf => by
    have h := hx a w g hf
    refine ⟨.bool m.isNone, ?_, rep_bool.2 rfl⟩
    cases m with
    | none =>
      have hv : a.eval x = .nilFunc := h
      unfold execOp
      have hr := run_eq_func_nil (P := X.P) w ht none
      have hg := eqGuard_fnv (op := .eql) (t := t) (x := x) (y := .const .nilFunc) none .nilFunc
      simp only [fnVal] at hr hg
      simp [hv, eval_const, hg, binOp, hr]
    | some o =>
      obtain ⟨k, cs, hv, _⟩ := h
      unfold execOp
      have hr := run_eq_funcv_nil (P := X.P) w ht k #[] cs
      have hg : eqGuard .eql t x (.const .nilFunc) (.func (.func k) #[] cs) .nilFunc = Pure.pure () := rfl
      simp [hv, eval_const, hg, binOp, hr]

/-- All parts from i on are such values. -/
def HasZs {β : Type} [Rp β] (P : Program) (G : List It) (T : List Nat) (i : Nat) : List (Option (Option β)) → Prop
  | [] => True
  | y :: l => HasG G i (Fact.fz P T y) ∧ HasZs P G T (i + 1) l
theorem HasZs.nil {β : Type} [Rp β] {P : Program} {T : List Nat} {i : Nat} : HasZs (β := β) P G T i [] := trivial
theorem HasZs.cons {β : Type} [Rp β] {P : Program} {T : List Nat} {i : Nat} {y : Option (Option β)} {l : List (Option (Option β))} (h : HasG G i (Fact.fz P T y)) (k : HasZs P G T (i + 1) l) : HasZs P G T i (y :: l) := ⟨h, k⟩
theorem HasZs.get {β : Type} [Rp β] {P : Program} {T : List Nat} : ∀ {l : List (Option (Option β))} {i k : Nat} {y : Option (Option β)}, HasZs P G T i l → l[k]? = some y → HasG G (i + k) (Fact.fz P T y)
  | [], _, _, _, _, h => by simp at h
  | x :: l, i, 0, y, h, hk => by
    simp at hk
    subst hk
    exact h.1
  | x :: l, i, k + 1, y, h, hk => by
    have := HasZs.get (k := k) h.2 (by simpa using hk)
    rw [show i + 1 + k = i + (k + 1) by omega] at this
    exact this
theorem Spec.loadZ {x : Operand} {e : TypeId} {β : Type} [R : Rp β] {t k : Nat} {ps : Ps} {T : List Nat} {l : List (Option (Option β))} {y : Option (Option β)} (hk : l[k]? = some y) (hty : Ty X.P e Int) (hp : partsV ps l.length = true)
    (hx : Has G x (.pto t k)) (ho : look G (rs t) = some (.obj t ps)) (hf : HasZs X.P G T (t + 1) l) : Spec X G ⟨dO, .load e x, ty, pos, af, gd⟩ (Fact.fz X.P T y) :=
  Spec.loadF (α := Int) (i := k) hty (partsV_at hp (List.getElem?_eq_some_iff.1 hk).1) hx ho (hf.get hk)
theorem BP.consF {pl : List (Nat × Nat)} {ls ls' : Ls} {us : List (Nat × Operand)} {i off : Nat} {x : Operand} {f f0 : Fact} (hl : fldAt ls i = some (off, false, 1, f0)) (hp : pl[i]? = some (off, 1))
    (ho : OneC f) (hx : Has G x f) (k : BP G pl (ls.set i (false, 1, f)) us ls') : BP G pl ls ((i, x) :: us) ls' := fun a w g hf cs h => by
  have hfx := hx a w g hf
  obtain ⟨hc, h1⟩ := ho _ _ _ hfx
  obtain ⟨k1, k2⟩ := FldRel.set ls cs [a.eval x] i off _ _ f0 f h hl rfl (by simpa using h1) hfx
  obtain ⟨cs', k3, k4⟩ := k a w g hf _ k2
  refine ⟨cs', ?_, k4⟩
  rw [← k3]
  simp only [List.map_cons, Instr.fill]
  have hp' : pl.toArray[i]? = some (off, 1) := by simpa using hp
  simp only [hp', hc]
  rw [if_neg (by simp; omega)]
  have h2 := fold_set [a.eval x] off cs.toArray 0 (by simp; omega)
  simp only [Nat.add_zero, List.length_singleton] at h2
  congr 1
  apply Array.toList_inj.1
  simpa using h2
end
end
end GL

namespace GL
section
open Go

/-- Own memory t; its element k is the slice of the owner u; all others are as in l. -/
def Fact.ownX {α : Type} [R : Rp α] (t u : Nat) (te : List Nat) (e : TypeId) (l : List α) (k : Nat) : Fact where
  tags := t :: te
  ids := [t, u]
  p := fun g _ w => ∃ ys, w.ownsRow 0 e R.n (g.ga t) l.length (ys.take (k * R.n) ++ [g.ga u] ++ ys.drop (k * R.n + R.n)) ∧ RelL (fun b => g.om b ∈ te) l ys w ∧ k < l.length ∧ ∀ b, (g.ga t).ownBlock = some b → g.om b = t
  stab := fun g g' v w w' hk h => by
    obtain ⟨ys, h1, h2, h4, h3⟩ := h
    have hid := hk.ids t (by simp)
    have hiu := hk.ids u (by simp)
    refine ⟨ys, ?_, RelL.stab hk.size (fun b hb ht => ⟨(hk.block b hb (List.mem_cons_of_mem _ ht)).1, by rw [(hk.block b hb (List.mem_cons_of_mem _ ht)).2]; exact ht⟩) l ys h2, h4, ?_⟩
    · rw [hid, hiu]
      refine ⟨h1.1, ?_⟩
      rcases h1.2 with hn | ⟨b, cap, cur, hv, h0, hb, rest⟩
      · exact .inl hn
      · refine .inr ⟨b, cap, cur, hv, h0, ?_, rest⟩
        have hlt : b < w.heap.size := (Array.getElem?_eq_some_iff.1 hb).1
        rw [(hk.block b hlt (by rw [h3 b (by rw [hv]; rfl)]; simp)).1]
        exact hb
    · rw [hid]
      intro b hb
      rcases h1.2 with ⟨hn, _⟩ | ⟨b', cap, cur, hv, h0, hbb, rest⟩
      · rw [hn] at hb; cases hb
      · have hlt : b' < w.heap.size := (Array.getElem?_eq_some_iff.1 hbb).1
        have hbe : b' = b := by rw [hv] at hb; simpa [Value.ownBlock] using hb
        subst hbe
        rw [(hk.block b' hlt (by rw [h3 b' hb]; simp)).2]
        exact h3 b' hb

section
variable {X : Cx} {G : List It} {d dO : Option Nat} {ty : TypeId} {pos : String} {af : Array Edge} {gd : Option (Nat × Bool)}
/-- An own slice becomes an element of an own slice. -/
theorem Step.storeX {α β : Type} [R : Rp α] [B : Rp β] {p x : Operand} {te te2 : List Nat} {l : List α} {z : List β} {k t u : Nat} {e e' e2 : TypeId} (hn : R.n = 1) (hn2 : (inferInstance : Rp (List β)).n = 1) (ha2 : (inferInstance : Rp (List β)).agg = false) (ht : Nat.ble 10 t = true) (hk : k < l.length) (hty : Ty X.P e (List β))
    (hp : Has G p (.pto t (k * R.n))) (hrs : look G (rs t) = some (.own t te e' l)) (hx : Has G x (.isv u)) (hru : look G (rs u) = some (.own u te2 e2 z)) (hte : ElKeep (α := α) t te te) :
    Step X G ⟨none, .store e p x, ty, pos, af, none⟩ [.fact (rs t) (.ownX t u te e' l k), .kill t] := fun G' hsub a w env K Q hK => by
    have ht' : 10 ≤ t := by simpa using ht
    obtain ⟨g, hg, hf'⟩ := env.facts
    have hf := hsub a w g hf'
    obtain ⟨b, hb, hv⟩ := hp a w g hf
    obtain ⟨xs, hown, hrel, htag⟩ := hf _ _ hrs
    rcases hown.2 with ⟨hnil, hn⟩ | ⟨b', cap, cs, hga, h0, hh, hnc, hcm, hcs, htake⟩
    · rw [hnil] at hb; cases hb
    rw [hga] at hb
    simp only [ownB, Option.some.injEq] at hb
    subst hb
    have hom : g.om b' = t := htag b' (by rw [hga]; rfl)
    have hlen := RelL.len l _ hrel
    have hxv : a.eval x = g.ga u := hx a w g hf
    have hrep : Rep (fun b => g.om b ∈ u :: te2) z (a.eval x) w := by rw [hxv]; exact own_rep (hf _ _ hru)
    have hk1 : k * R.n + R.n ≤ l.length * R.n := by
      have h1 : k * R.n + R.n = (k + 1) * R.n := by rw [Nat.add_mul]; omega
      rw [h1]
      exact Nat.mul_le_mul_right _ hk
    have hk2 : l.length * R.n ≤ cs.size := by rw [hcs]; exact Nat.mul_le_mul_right _ hnc
    obtain ⟨es, hes, hr, hrun⟩ := run_storeVar (P := X.P) (o := k * R.n) hty hh hrep (by rw [hn2, ← hn]; omega)
    have hel := (inferInstance : Rp (List β)).len _ _ _ _ hr
    have hes1 : es = [g.ga u] := by
      rw [hn2] at hel
      obtain ⟨c, rfl⟩ := List.length_eq_one_iff.1 hel
      rw [← hxv, hes, ha2]; rfl
    rw [hn2, ← hn] at hrun hel
    have hrun' : (execOp a.eval ⟨none, .store e p x, ty, pos, af, none⟩).run X.P w = .ok .skip (w.setRow b' (cs.toList.take (k * R.n) ++ es ++ cs.toList.drop (k * R.n + R.n)).toArray) := by
      unfold execOp
      simp only [hv, Instr.storeAt, Instr.sureAddr, Sem.run_bind, Sem.run_pure, Result.andThen_ok]
      rw [hrun]
      rfl
    unfold Oper.wp
    rw [hrun']
    refine hK undef _ ?_
    have hb : ∀ b, b < w.heap.size → g.om b ≠ t → (w.setRow b' (cs.toList.take (k * R.n) ++ es ++ cs.toList.drop (k * R.n + R.n)).toArray).heap[b]? = w.heap[b]? := fun b hb hne => setRow_other w b' b _ (fun h => hne (by rw [h]; exact hom))
    have hsz : (w.setRow b' (cs.toList.take (k * R.n) ++ es ++ cs.toList.drop (k * R.n + R.n)).toArray).heap.size = w.heap.size := by simp
    refine ⟨by simp [Act.put, env.size], env.defers, Fr.own env.fr hg ht' (.inr trivial) rfl rfl rfl (by rw [hsz]; exact Nat.le_refl _) hb, g, ⟨⟨hg.ok.old, fun b h1 h2 => hg.ok.new b h1 (by rw [hsz] at h2; exact h2)⟩, hg.om⟩, ?_⟩
    show Facts _ g a _
    refine Facts.ghost ?_ (fun v => ⟨xs, ⟨?_, .inr ⟨b', cap, _, hga, h0, setRow_heap w b' cs _ e' (0, 0) hh, hnc, hcm, ?_, ?_⟩⟩, ?_, hk, htag⟩)
    · exact facts_killed' hf' (by rw [hsz]; exact Nat.le_refl _) hb
    · simp only [List.length_append, List.length_take, List.length_drop, List.length_singleton, hlen]
      omega
    · simp only [List.size_toArray, List.length_append, List.length_take, List.length_drop, Array.length_toList, hel]
      omega
    · rw [← htake, ← hes1]
      exact take_splice cs.toList es (k * R.n) R.n (l.length * R.n) hel hk1 (by rw [Array.length_toList]; exact hk2)
    · exact hte (fun b => g.om b ∈ te) g w (w.setRow b' (cs.toList.take (k * R.n) ++ es ++ cs.toList.drop (k * R.n + R.n)).toArray) l xs (by rw [hsz]; exact Nat.le_refl _) hb (fun _ _ h => h) hrel

theorem Spec.idxX {α : Type} [R : Rp α] {x i : Operand} {T te : List Nat} {l : List α} {n : Int} {k k' t u : Nat} {ts e : TypeId} (hk : bnd l.length n = some k) (hty : OwnTy X.P ts e α)
    (hx : Has G x (.isv t)) (hrs : look G (rs t) = some (.ownX t u te e l k')) (hi : Has G i (Fact.rep T n)) : Spec X G ⟨dO, .indexAddr ts x i, ty, pos, af, gd⟩ (Fact.pto t (k * R.n)) := by
  obtain ⟨h0, h1, rfl⟩ := bnd_some hk
  refine Spec.pure fun a w g hf => ?_
  have hv : a.eval x = g.ga t := hx a w g hf
  obtain ⟨xs, hown, _⟩ := hf _ _ hrs
  have h2 := rep_int.1 (hi a w g hf)
  rcases hown.2 with ⟨_, hn⟩ | ⟨b, cap, cur, hv', _⟩
  · omega
  · refine ⟨.pointer (some ⟨b, n.toNat * R.n, none⟩), ?_, b, by rw [hv']; rfl, rfl⟩
    unfold execOp
    simp only [hv, h2, hv', Sem.run_bind, Sem.run_map]
    rw [run_indexAt (R := R) hty.und hty.el h0 h1]
    simp [Go.Addr.add_lit]

theorem Spec.loadX {α : Type} [R : Rp α] {x : Operand} {te : List Nat} {l : List α} {k t u : Nat} {e e' : TypeId} (hn : R.n = 1) (ha : R.agg = false) (hty : Ty X.P e' α)
    (hx : Has G x (.pto t (k * R.n))) (hrs : look G (rs t) = some (.ownX t u te e l k)) : Spec X G ⟨d, .load e' x, ty, pos, af, gd⟩ (.isv u) :=
  Spec.pure fun a w g hf => by
    obtain ⟨b, hb, hv⟩ := hx a w g hf
    obtain ⟨ys, hown, hrel, hkl, htag⟩ := hf _ _ hrs
    rcases hown.2 with ⟨hnil, h0⟩ | ⟨b', cap, cur, hga, _, hh, hnc, hcm, hcs, htake⟩
    · omega
    rw [hga] at hb
    simp only [ownB, Option.some.injEq] at hb
    subst hb
    have hlen := RelL.len l _ hrel
    rw [hn] at hlen hcs htake hv
    rw [hn] at hown
    have hcell : cur.toList[k]? = some (g.ga u) := by
      have h1 : (cur.toList.take (l.length * 1))[k]? = some (g.ga u) := by
        rw [htake, List.append_assoc, List.getElem?_append_right (by rw [List.length_take]; omega)]
        rw [List.length_take, show k - min (k * 1) ys.length = 0 by omega]
        rfl
      rw [List.getElem?_take_of_lt (by omega)] at h1
      exact h1
    have hc : CellsAt w ⟨b', k * 1, none⟩ [g.ga u] := fun j v hj => by
      cases j with
      | zero =>
        simp only [List.getElem?_cons_zero, Option.some.injEq] at hj
        subst hj
        rw [Go.Addr.add_lit]
        refine ⟨?_, frozen_of_row w b' _ cur e hh⟩
        rw [cell_of_row w b' _ cur e (0, 0) hh]
        have : cur.toList[k * 1 + 0]? = some (g.ga u) := by rw [Nat.mul_one, Nat.add_zero]; exact hcell
        simpa using this
      | succ j => simp at hj
    rw [Nat.mul_one] at hv hc
    refine ⟨mkV R.agg [g.ga u], ?_, by rw [ha]; rfl⟩
    unfold execOp
    simp [hv, Instr.loadAt, Instr.sureAddr, run_loadVar_cells hty hc (by rw [hn]; rfl)]

/-- Read as data: the owner's slice in its place. -/
theorem Cv.ownX {β : Type} [B : Rp β] {te te2 T : List Nat} {l : List (List β)} {z : List β} {k t u : Nat} {e e2 : TypeId} (hrs : look G (rs t) = some (.ownX t u te e l k)) (hru : look G (rs u) = some (.own u te2 e2 z))
    (h1 : subB te T = true) (h2 : subB (u :: te2) T = true) (hn : (inferInstance : Rp (List β)).n = 1) (ha : (inferInstance : Rp (List β)).agg = false) : Cv G (.isv t) (Fact.rep (t :: T) (l.set k z)) := fun a w g v hf hv => by
  obtain ⟨ys, hown, hrel, hkl, htag⟩ := hf _ _ hrs
  have hrep : Rep (fun b => g.om b ∈ u :: te2) z (g.ga u) w := own_rep (hf _ _ hru)
  obtain ⟨es, hr, he⟩ := hrep
  have hel := (inferInstance : Rp (List β)).len _ _ _ _ hr
  have hes1 : es = [g.ga u] := by
    rw [hn] at hel
    obtain ⟨c, rfl⟩ := List.length_eq_one_iff.1 hel
    rw [he, ha]; rfl
  have hr' : (inferInstance : Rp (List β)).rel (fun b => g.om b ∈ T) z es w := (inferInstance : Rp (List β)).stab _ _ z es w w (Nat.le_refl _) (fun b _ h => ⟨rfl, subB_spec h2 _ h⟩) hr
  have hrel' : RelL (fun b => g.om b ∈ T) l ys w := RelL.stab (Nat.le_refl _) (fun b _ h => ⟨rfl, subB_spec h1 _ h⟩) l ys hrel
  have hset := RelL.set l ys hrel' k z es hkl hr'
  rw [hes1] at hset
  have : (Fact.own t T e (l.set k z)).p g v w := ⟨_, by rw [List.length_set]; exact hown, hset, htag⟩
  show Rep _ (l.set k z) v w
  rw [show v = g.ga t from hv]; exact own_rep this
end
end
end GL

namespace GL
section
open Go

def delL {α : Type} (l : List α) (m n : Int) : Option (List α) := if 0 ≤ m ∧ m < n ∧ n ≤ l.length then some (l.take m.toNat ++ l.drop n.toNat) else none
def insL {α : Type} (l : List α) (y : α) : Option (List α) := if l.length + 1 < 4294967296 then some (y :: l) else none

/-- Function k is slices.Delete, of elements of type e in n cells. -/
def DelFn (P : Program) (k : FuncId) (e : TypeId) (n : Nat) : Prop := ∀ (sv : Value) (L i j : Nat) (xs : List Value) (w : World), w.ownsRow 0 e n sv L xs → i < j → j ≤ L → (∀ v ∈ xs, v.oneCell' = true) →
  Calls P k #[sv, .int .i64 i, .int .i64 j] w fun o w' => ∃ v', o = .returned v' ∧ w'.ownsRow 0 e n v' (i + (L - j)) (xs.take (i * n) ++ xs.drop (j * n)) ∧ w.grownBy w' sv.ownBlock ∧ v'.ownBlock = sv.ownBlock
/-- Function k is slices.Insert, of one element, at the front. -/
def InsFn (P : Program) (k : FuncId) (e : TypeId) (n : Nat) : Prop := ∀ (sv vv : Value) (L : Nat) (xs vs : List Value) (w : World), w.ownsRow 0 e n sv L xs → w.ownsRow 0 e n vv 1 vs → (∀ b, sv.ownBlock = some b → vv.ownBlock ≠ some b) → L + 1 < 4294967296 →
  (∀ v ∈ xs, v.oneCell' = true) → (∀ v ∈ vs, v.oneCell' = true) →
  Calls P k #[sv, .int .i64 0, vv] w fun o w' => ∃ v', o = .returned v' ∧ w'.ownsRow 0 e n v' (L + 1) (vs ++ xs) ∧ w.grownBy w' sv.ownBlock ∧ ∀ b, v'.ownBlock = some b → sv.ownBlock = some b ∨ b = w.heap.size

theorem RelL.drop {α : Type} [R : Rp α] {F : Nat → Prop} {w : World} : ∀ (l : List α) (xs : List Value) (k : Nat), RelL F l xs w → RelL F (l.drop k) (xs.drop (k * R.n)) w
  | [], xs, k, h => by rw [show xs = [] from h]; simp [RelL]
  | y :: l, xs, 0, h => by simpa using h
  | y :: l, xs, k + 1, h => by
    obtain ⟨c1, c2, rfl, h1, h2⟩ := h
    have hl1 := R.len _ _ _ _ h1
    rw [List.drop_succ_cons, show (k + 1) * R.n = c1.length + k * R.n by rw [hl1, Nat.add_mul]; omega, ← List.drop_drop, List.drop_left]
    exact RelL.drop l c2 k h2

section
variable {X : Cx} {G : List It} {dO : Option Nat} {d : Nat} {ty : TypeId} {pos : String} {af : Array Edge} {gd : Option (Nat × Bool)}
theorem Step.deleteOw {α : Type} [R : Rp α] {x i j : Operand} {T te T1 T2 : List Nat} {l r : List α} {m n : Int} {e : TypeId} {k : FuncId} {ats : Array TypeId} (hr : delL l m n = some r) (hT10 : all10 T = true) (hT0 : T.isEmpty = false) (hd : Nat.blt d X.n = true)
    (hk : enters X.P k = true) (hD : DelFn X.P k e R.n) (hs : Has G x (Fact.ow T te e l)) (hi : Has G i (Fact.rep T1 m)) (hj : Has G j (Fact.rep T2 n)) (hte : ElKeeps (α := α) T te te) :
    Step X G ⟨some d, .call { callee := .value (.func k), args := #[x, i, j], argTypes := ats }, ty, pos, af, none⟩ (.fact d (Fact.ow T te e r) :: killTs T []) := fun G' hsub a w env K Q hK => by
  have hd' : d < X.n := by simpa [Nat.blt_eq] using hd
  obtain ⟨g, hg, hf'⟩ := env.facts
  have hf := hsub a w g hf'
  obtain ⟨xs, hown, hrel, htag⟩ := hs a w g hf
  have e1 := rep_int.1 (hi a w g hf)
  have e2 := rep_int.1 (hj a w g hf)
  obtain ⟨t, ht⟩ : ∃ t, t ∈ T := by
    cases T with
    | nil => simp at hT0
    | cons t _ => exact ⟨t, by simp⟩
  have ht' : 10 ≤ t := all10_spec hT10 ht
  unfold delL at hr
  split at hr
  case isFalse => cases hr
  rename_i hb0
  cases hr
  obtain ⟨m', rfl⟩ : ∃ m' : Nat, m = (m' : Int) := ⟨m.toNat, by omega⟩
  obtain ⟨n', rfl⟩ : ∃ n' : Nat, n = (n' : Int) := ⟨n.toNat, by omega⟩
  have hcall := hD (a.eval x) l.length m' n' xs w hown (by omega) (by omega) (RelL.one l xs hrel)
  have hrun : (execOp a.eval ⟨some d, .call { callee := .value (.func k), args := #[x, i, j], argTypes := ats }, ty, pos, af, none⟩).run X.P w = .ok (.enter k #[a.eval x, a.eval i, a.eval j]) w := by
    unfold execOp
    simp [resolve, Deferred.ofValue, Act.eval, invoke, run_enter hk]
  rw [e1, e2] at hrun
  unfold Oper.wp
  rw [hrun]
  refine Calls.mono hcall ?_
  rintro o w' ⟨v', rfl, hown', hgr, hblk⟩
  refine hK v' w' ?_
  rw [List.cons_append, killTs_app]
  have hb : ∀ b, b < w.heap.size → g.om b ∉ T → w'.heap[b]? = w.heap[b]? := fun b hb hne => hgr.block b hb (fun he => hne (htag b he.symm))
  have hom : ∀ b, b < w.heap.size → (tagNew g w.heap.size t).om b = g.om b := fun b hb => by simp [tagNew, hb]
  refine ⟨by simp [Act.put, env.size], env.defers, Fr.owns env.fr hg hT10 hgr.os hgr.tape hgr.output hgr.size hb, tagNew g w.heap.size t, hg.tagNew ht' hgr.size env.fr.size, ?_⟩
  refine Facts.put (by rw [env.size]; exact hd') (facts_killTs hf' hgr.size hb hom (fun _ => rfl)) ?_
  have hF : ∀ b, b < w.heap.size → g.om b ∈ te → (tagNew g w.heap.size t).om b ∈ te := fun b hb h => by rw [hom b hb]; exact h
  have hrel' := hte _ g w w' l xs hgr.size hb hF hrel
  refine ⟨_, ?_, RelL.app _ _ _ _ (RelL.take l xs m' hrel') (RelL.drop l xs n' hrel'), ?_⟩
  · simp only [Int.toNat_natCast, List.length_append, List.length_take, List.length_drop, Nat.min_eq_left (show m' ≤ l.length by omega)]
    exact hown'
  · intro b hb'
    rw [hblk] at hb'
    rw [hom b (hown.lt b hb').2]; exact htag b hb'

theorem Step.insertOw {α : Type} [R : Rp α] {x z : Operand} {T te te' Tx tx : List Nat} {l r : List α} {y : α} {e : TypeId} {k : FuncId} {ats : Array TypeId} (hr : insL l y = some r) (hT10 : all10 T = true) (hT0 : T.isEmpty = false) (hd : Nat.blt d X.n = true)
    (hk : enters X.P k = true) (hI : InsFn X.P k e R.n) (hs : Has G x (Fact.ow T te e l)) (hz : Has G z (Fact.ow Tx tx e [y])) (hap : (T.all fun t => !Tx.elem t) = true) (hte : ElKeeps (α := α) T te te') (htx : ElKeeps (α := α) T tx te') :
    Step X G ⟨some d, .call { callee := .value (.func k), args := #[x, .const (.int .i64 0), z], argTypes := ats }, ty, pos, af, none⟩ (.fact d (Fact.ow T te' e r) :: killTs T []) := fun G' hsub a w env K Q hK => by
  have hd' : d < X.n := by simpa [Nat.blt_eq] using hd
  obtain ⟨g, hg, hf'⟩ := env.facts
  have hf := hsub a w g hf'
  obtain ⟨xs, hown, hrel, htag⟩ := hs a w g hf
  obtain ⟨vs, hownv, hrelv, htagv⟩ := hz a w g hf
  obtain ⟨t, ht⟩ : ∃ t, t ∈ T := by
    cases T with
    | nil => simp at hT0
    | cons t _ => exact ⟨t, by simp⟩
  have ht' : 10 ≤ t := all10_spec hT10 ht
  unfold insL at hr
  split at hr
  case isFalse => cases hr
  rename_i hb0
  cases hr
  have hne : ∀ b, (a.eval x).ownBlock = some b → (a.eval z).ownBlock ≠ some b := fun b h1 h2 => by
    have h3 := htag b h1
    have h4 := htagv b h2
    have := List.all_eq_true.1 hap _ h3
    simp at this
    exact this h4
  have hcall := hI (a.eval x) (a.eval z) l.length xs vs w hown hownv hne (by omega) (RelL.one l xs hrel) (RelL.one _ vs hrelv)
  have hrun : (execOp a.eval ⟨some d, .call { callee := .value (.func k), args := #[x, .const (.int .i64 0), z], argTypes := ats }, ty, pos, af, none⟩).run X.P w = .ok (.enter k #[a.eval x, .int .i64 0, a.eval z]) w := by
    unfold execOp
    simp [resolve, Deferred.ofValue, Act.eval, invoke, run_enter hk]
  unfold Oper.wp
  rw [hrun]
  refine Calls.mono hcall ?_
  rintro o w' ⟨v', rfl, hown', hgr, hblk⟩
  refine hK v' w' ?_
  rw [List.cons_append, killTs_app]
  have hb : ∀ b, b < w.heap.size → g.om b ∉ T → w'.heap[b]? = w.heap[b]? := fun b hb hne => hgr.block b hb (fun he => hne (htag b he.symm))
  have hom : ∀ b, b < w.heap.size → (tagNew g w.heap.size t).om b = g.om b := fun b hb => by simp [tagNew, hb]
  refine ⟨by simp [Act.put, env.size], env.defers, Fr.owns env.fr hg hT10 hgr.os hgr.tape hgr.output hgr.size hb, tagNew g w.heap.size t, hg.tagNew ht' hgr.size env.fr.size, ?_⟩
  refine Facts.put (by rw [env.size]; exact hd') (facts_killTs hf' hgr.size hb hom (fun _ => rfl)) ?_
  have hF : ∀ b, b < w.heap.size → g.om b ∈ te' → (tagNew g w.heap.size t).om b ∈ te' := fun b hb h => by rw [hom b hb]; exact h
  refine ⟨vs ++ xs, hown', RelL.app [y] l vs xs (htx _ g w w' _ vs hgr.size hb hF hrelv) (hte _ g w w' l xs hgr.size hb hF hrel), ?_⟩
  intro b hb'
  rcases hblk b hb' with h1 | h1
  · rw [hom b (hown.lt b h1).2]; exact htag b h1
  · show (tagNew g w.heap.size t).om b ∈ T
    simp only [tagNew]
    rw [if_neg (by omega)]; exact ht

/-- A literal as an own slice. -/
theorem Spec.litOw {α : Type} [R : Rp α] {xs : List Operand} {ys : List α} {T : List Nat} {ts e : TypeId} {n : Nat} {pt : Array (Nat × Operand)} (t : Nat) (ht : Nat.ble 10 t = true) (hty : OwnTy X.P ts e α) (hpt : pt = (parts 0 xs).toArray) (hn : xs.length = n)
    (hsm : Nat.ble (n * R.n) 16777216 = true) (hpos : Nat.ble 1 n = true) (hx : HasEach G T xs ys) : Spec X G ⟨dO, .buildSlice ts n pt, ty, pos, af, gd⟩ (Fact.ow [t] T e ys) := fun a w g hs hfr hg hf => by
  have ht' : 10 ≤ t := by simpa using ht
  obtain ⟨hyl, hrep⟩ := hx.rep hf
  obtain ⟨i, zv, hi, hiz, hisz, hby, hzs⟩ := hty.info
  have hsm' : n * R.n ≤ 16777216 := by simpa using hsm
  have hpos' : 1 ≤ n := by simpa using hpos
  have hnz : n * R.n ≠ 0 := by
    have := hty.pos
    exact Nat.mul_ne_zero (by omega) (by omega)
  have hnn : n ≤ n * R.n := Nat.le_mul_of_pos_right n hty.pos
  have hparts : ∀ (xs : List Operand) (k : Nat), (parts k xs).map (fun x => (x.1, a.eval x.2)) = ((xs.map a.eval).zipIdx k).map fun x => (x.2, x.1) := by
    intro xs
    induction xs with
    | nil => intro k; rfl
    | cons x xs ih => intro k; simp [parts, ih]
  obtain ⟨es, hes, hfill⟩ := fill_seq ys (xs.map a.eval) 0 ((Array.range (n * R.n)).map (zv.cells[· % zv.cells.size]!)) (by simp [hyl]) hrep (by simp [hyl, hn])
  simp only [Nat.zero_mul, List.take_zero, List.nil_append] at hfill
  have hel := RelL.len _ _ hes
  have hlen : ys.length = n := by rw [hyl, hn]
  have hdrop : ((Array.range (n * R.n)).map (zv.cells[· % zv.cells.size]!)).toList.length = n * R.n := by simp
  have hrun : (execOp a.eval ⟨dO, .buildSlice ts n pt, ty, pos, af, gd⟩).run X.P w = .ok (.value (.slice (some ⟨w.heap.size, 0, none⟩) n n)) (w.alloc (.cells es.toArray e)) := by
    unfold execOp
    simp only [hpt, Sem.run_bind, Sem.run_map]
    unfold Instr.buildSlice
    have hm : ((parts 0 xs).toArray.map fun (i, x) => (i, a.eval x)).toList = ((xs.map a.eval).zipIdx 0).map fun x => (x.2, x.1) := by
      rw [← hparts]; simp
    simp only [hm]
    have hno : ¬ (n * R.n > 2 ^ 24) := by omega
    simp [run_underlying hty.und, rt_sizeOf hty.el, hno, hnz, zeroValue, typeInfo, hi, hiz, hfill, newRow]
  refine Yields.val hrun ⟨Fr.alloc w _, tagNew g w.heap.size t, hg.tagNew ht' (by simp) hfr.size, fun b hb => by simp [tagNew, hb], fun _ => rfl, ?_⟩
  refine ⟨es, ⟨hel, .inr ⟨w.heap.size, n, es.toArray, by rw [hlen], Nat.zero_le _, heap_alloc_new w _, by omega, by simp only [maxLen]; omega, ?_, ?_⟩⟩, RelL.stab (by simp) (fun b hb h => ⟨RowKit.Below.heap_alloc w _ b hb, by simp [tagNew, hb, h]⟩) ys es hes, fun b hb => ?_⟩
  · rw [List.size_toArray, hel, hlen]
  · rw [List.toList_toArray, List.take_of_length_le (by omega)]
  · simp only [Value.ownBlock, Option.some.injEq] at hb
    subst hb
    simp [tagNew]
end
end
end GL

namespace GL
section
open Go

def FrRel {α : Type} [R : Rp α] (F0 F1 : Nat → Prop) (k : Nat) (l : List α) (xs : List Value) (w : World) : Prop := RelL F1 (l.take k) (xs.take (k * R.n)) w ∧ RelL F0 (l.drop k) (xs.drop (k * R.n)) w
theorem FrRel.stab {α : Type} [R : Rp α] {F0 F1 F0' F1' : Nat → Prop} {k : Nat} {l : List α} {xs : List Value} {w w' : World} (hs : w.heap.size ≤ w'.heap.size) (h0 : ∀ b, b < w.heap.size → F0 b → w'.heap[b]? = w.heap[b]? ∧ F0' b) (h1 : ∀ b, b < w.heap.size → F1 b → w'.heap[b]? = w.heap[b]? ∧ F1' b)
    (h : FrRel F0 F1 k l xs w) : FrRel F0' F1' k l xs w' := ⟨RelL.stab hs h1 _ _ h.1, RelL.stab hs h0 _ _ h.2⟩
theorem FrRel.all {α : Type} [R : Rp α] {F0 F1 F : Nat → Prop} {k : Nat} {l : List α} {xs : List Value} {w : World} (h : FrRel F0 F1 k l xs w) (h0 : ∀ b, F0 b → F b) (h1 : ∀ b, F1 b → F b) : RelL F l xs w := by
  have := RelL.app _ _ _ _ (RelL.stab (F' := F) (Nat.le_refl _) (fun b _ hb => ⟨rfl, h1 b hb⟩) _ _ h.1) (RelL.stab (F' := F) (Nat.le_refl _) (fun b _ hb => ⟨rfl, h0 b hb⟩) _ _ h.2)
  rwa [List.take_append_drop, List.take_append_drop] at this

/-- Own memory of N elements: those ahead of place f lean on te1, the others on te0. -/
def Fact.ownF {α : Type} [R : Rp α] (t : Nat) (te0 te1 : List Nat) (e : TypeId) (l : List α) (f : Int) (N : Nat) : Fact where
  tags := t :: (te0 ++ te1)
  ids := [t]
  p := fun g _ w => ∃ xs, w.ownsRow 0 e R.n (g.ga t) l.length xs ∧ FrRel (fun b => g.om b ∈ te0) (fun b => g.om b ∈ te1) f.toNat l xs w ∧ l.length = N ∧ ∀ b, (g.ga t).ownBlock = some b → g.om b = t
  stab := fun g g' v w w' hk h => by
    obtain ⟨xs, h1, h2, hN, h3⟩ := h
    have hid := hk.ids t (by simp)
    refine ⟨xs, ?_, FrRel.stab hk.size (fun b hb ht => ⟨(hk.block b hb (List.mem_cons_of_mem _ (List.mem_append_left _ ht))).1, by rw [(hk.block b hb (List.mem_cons_of_mem _ (List.mem_append_left _ ht))).2]; exact ht⟩)
      (fun b hb ht => ⟨(hk.block b hb (List.mem_cons_of_mem _ (List.mem_append_right _ ht))).1, by rw [(hk.block b hb (List.mem_cons_of_mem _ (List.mem_append_right _ ht))).2]; exact ht⟩) h2, hN, ?_⟩
    · rw [hid]
      refine ⟨h1.1, ?_⟩
      rcases h1.2 with hn | ⟨b, cap, cur, hv, h0, hb, rest⟩
      · exact .inl hn
      · refine .inr ⟨b, cap, cur, hv, h0, ?_, rest⟩
        have hlt : b < w.heap.size := (Array.getElem?_eq_some_iff.1 hb).1
        rw [(hk.block b hlt (by rw [h3 b (by rw [hv]; rfl)]; simp)).1]
        exact hb
    · rw [hid]
      intro b hb
      have hlt := (h1.lt b hb).2
      rw [(hk.block b hlt (by rw [h3 b hb]; simp)).2]
      exact h3 b hb
theorem ownF_own {α : Type} [R : Rp α] {t : Nat} {te0 te1 : List Nat} {e : TypeId} {l : List α} {f : Int} {N : Nat} {g : Gh} {v : Value} {w : World} (h : (Fact.ownF t te0 te1 e l f N).p g v w) : (Fact.own t (te0 ++ te1) e l).p g v w := by
  obtain ⟨xs, h1, h2, _, h3⟩ := h
  exact ⟨xs, h1, h2.all (fun b hb => List.mem_append_left _ hb) (fun b hb => List.mem_append_right _ hb), h3⟩

section
variable {X : Cx} {G : List It} {d dO : Option Nat} {ty : TypeId} {pos : String} {af : Array Edge} {gd : Option (Nat × Bool)}
theorem Ad.front {α : Type} [R : Rp α] {t : Nat} {te : List Nat} {e : TypeId} {l : List α} {N : Nat} (hrs : look G (rs t) = some (.own t te e l)) (hN : l.length = N) : Ad X G (.fact (rs t) (.ownF t te [] e l 0 N) :: G) := fun a w env => by
  obtain ⟨g, hg, hf⟩ := env.facts
  refine ⟨env.size, env.defers, env.fr, g, hg, Facts.ghost hf (fun v => ?_)⟩
  obtain ⟨xs, h1, h2, h3⟩ := hf _ _ hrs
  exact ⟨xs, h1, ⟨by simp [RelL], by simpa using h2⟩, hN, h3⟩
theorem Ad.frontEnd {α : Type} [R : Rp α] {t : Nat} {te0 te1 : List Nat} {e : TypeId} {l : List α} {f : Int} {N : Nat} (hrs : look G (rs t) = some (.ownF t te0 te1 e l f N)) (hb : decide (f < (N : Int)) = false) : Ad X G (.fact (rs t) (.own t te1 e l) :: G) := fun a w env => by
  obtain ⟨g, hg, hf⟩ := env.facts
  refine ⟨env.size, env.defers, env.fr, g, hg, Facts.ghost hf (fun v => ?_)⟩
  obtain ⟨xs, h1, h2, hN, h3⟩ := hf _ _ hrs
  have hle : N ≤ f.toNat := by have := of_decide_eq_false hb; omega
  refine ⟨xs, h1, ?_, h3⟩
  have h4 := h2.1
  rw [List.take_of_length_le (by omega), List.take_of_length_le (by rw [h1.1, hN]; exact Nat.mul_le_mul_right _ hle)] at h4
  exact h4
theorem Has.frontM {α : Type} [R : Rp α] {x : Operand} {t : Nat} {te0 te1 te0' te1' : List Nat} {e : TypeId} {l : List α} {f : Int} {N : Nat} (h : Has G x (.ownF t te0 te1 e l f N)) (h0 : subB te0 te0' = true) (h1 : subB te1 te1' = true) : Has G x (.ownF t te0' te1' e l f N) := fun a w g hf => by
  obtain ⟨xs, k1, k2, k3⟩ := h a w g hf
  exact ⟨xs, k1, FrRel.stab (Nat.le_refl _) (fun b _ hb => ⟨rfl, subB_spec h0 _ hb⟩) (fun b _ hb => ⟨rfl, subB_spec h1 _ hb⟩) k2, k3⟩
theorem Spec.idxF {α : Type} [R : Rp α] {x i : Operand} {T te0 te1 : List Nat} {l : List α} {n f : Int} {k t N : Nat} {ts e : TypeId} (hk : bnd l.length n = some k) (hty : OwnTy X.P ts e α)
    (hx : Has G x (.isv t)) (hrs : look G (rs t) = some (.ownF t te0 te1 e l f N)) (hi : Has G i (Fact.rep T n)) : Spec X G ⟨dO, .indexAddr ts x i, ty, pos, af, gd⟩ (Fact.pto t (k * R.n)) := by
  obtain ⟨h0, h1, rfl⟩ := bnd_some hk
  refine Spec.pure fun a w g hf => ?_
  have hv : a.eval x = g.ga t := hx a w g hf
  obtain ⟨xs, hown, _⟩ := hf _ _ hrs
  have h2 := rep_int.1 (hi a w g hf)
  rcases hown.2 with ⟨_, hn⟩ | ⟨b, cap, cur, hv', _⟩
  · omega
  · refine ⟨.pointer (some ⟨b, n.toNat * R.n, none⟩), ?_, b, by rw [hv']; rfl, rfl⟩
    unfold execOp
    simp only [hv, h2, hv', Sem.run_bind, Sem.run_map]
    rw [run_indexAt (R := R) hty.und hty.el h0 h1]
    simp [Go.Addr.add_lit]
theorem Spec.loadElF {α : Type} [R : Rp α] {x : Operand} {te0 te1 : List Nat} {l : List α} {k t N : Nat} {f : Int} {e e' : TypeId} {r : α} (hr : l[k]? = some r) (hty : Ty X.P e α)
    (hx : Has G x (.pto t (k * R.n))) (hrs : look G (rs t) = some (.ownF t te0 te1 e' l f N)) : Spec X G ⟨dO, .load e x, ty, pos, af, gd⟩ (Fact.rep (te0 ++ te1) r) :=
  Spec.pure fun a w g hf => by
    obtain ⟨b, hb, hv⟩ := hx a w g hf
    obtain ⟨es, he, hrel⟩ := own_cells (ownF_own (hf _ _ hrs)) hb hr
    refine ⟨mkV R.agg es, ?_, es, hrel, rfl⟩
    unfold execOp
    simp [hv, Instr.loadAt, Instr.sureAddr, run_loadVar_rel hty he hrel]
/-- The next element is made anew. -/
theorem Step.storeFr {α : Type} [R : Rp α] {p x : Operand} {T te0 te1 te1' : List Nat} {l : List α} {y : α} {k t N : Nat} {f : Int} {e e' : TypeId} (ht : Nat.ble 10 t = true) (hk : bnd l.length f = some k) (hty : Ty X.P e α)
    (hp : Has G p (.pto t (k * R.n))) (hrs : look G (rs t) = some (.ownF t te0 te1 e' l f N)) (hx : Has G x (Fact.rep T y)) (hT0 : te0.elem t = false) (hT1 : te1'.elem t = false) (h1 : subB te1 te1' = true) (h2 : subB T te1' = true) :
    Step X G ⟨none, .store e p x, ty, pos, af, none⟩ [.fact (rs t) (.ownF t te0 te1' e' (l.set k y) (wI (f + 1)) N), .kill t] := fun G' hsub a w env K Q hK => by
    obtain ⟨hf0, hkl, rfl⟩ := bnd_some hk
    have hkl : f.toNat < l.length := by omega
    have ht' : 10 ≤ t := by simpa using ht
    obtain ⟨g, hg, hf'⟩ := env.facts
    have hf := hsub a w g hf'
    obtain ⟨b, hb, hv⟩ := hp a w g hf
    obtain ⟨xs, hown, hrel, hN, htag⟩ := hf _ _ hrs
    rcases hown.2 with ⟨hnil, hn⟩ | ⟨b', cap, cs, hga, h0, hh, hnc, hcm, hcs, htake⟩
    · rw [hnil] at hb; cases hb
    rw [hga] at hb
    simp only [ownB, Option.some.injEq] at hb
    subst hb
    have hom : g.om b' = t := htag b' (by rw [hga]; rfl)
    have hlen := hown.1
    generalize hkk : f.toNat = k at *
    have hwf : (wI (f + 1)).toNat = k + 1 := by
      rw [wI_id (by omega) (by simp only [maxLen] at hcm; omega)]; omega
    have hk1 : k * R.n + R.n ≤ l.length * R.n := by
      have h1 : k * R.n + R.n = (k + 1) * R.n := by rw [Nat.add_mul]; omega
      rw [h1]
      exact Nat.mul_le_mul_right _ hkl
    have hk2 : l.length * R.n ≤ cs.size := by rw [hcs]; exact Nat.mul_le_mul_right _ hnc
    obtain ⟨es, hes, hr, hrun⟩ := run_storeVar (P := X.P) hty hh (hx a w g hf) (show k * R.n + R.n ≤ cs.size by omega)
    have hel := R.len _ _ _ _ hr
    have hrun' : (execOp a.eval ⟨none, .store e p x, ty, pos, af, none⟩).run X.P w = .ok .skip (w.setRow b' (cs.toList.take (k * R.n) ++ es ++ cs.toList.drop (k * R.n + R.n)).toArray) := by
      unfold execOp
      simp only [hv, Instr.storeAt, Instr.sureAddr, Sem.run_bind, Sem.run_pure, Result.andThen_ok]
      rw [hrun]
      rfl
    unfold Oper.wp
    rw [hrun']
    refine hK undef _ ?_
    have hb : ∀ b, b < w.heap.size → g.om b ≠ t → (w.setRow b' (cs.toList.take (k * R.n) ++ es ++ cs.toList.drop (k * R.n + R.n)).toArray).heap[b]? = w.heap[b]? := fun b hb hne => setRow_other w b' b _ (fun h => hne (by rw [h]; exact hom))
    have hsz : (w.setRow b' (cs.toList.take (k * R.n) ++ es ++ cs.toList.drop (k * R.n + R.n)).toArray).heap.size = w.heap.size := by simp
    refine ⟨by simp [Act.put, env.size], env.defers, Fr.own env.fr hg ht' (.inr trivial) rfl rfl rfl (by rw [hsz]; exact Nat.le_refl _) hb, g, ⟨⟨hg.ok.old, fun b h1 h2 => hg.ok.new b h1 (by rw [hsz] at h2; exact h2)⟩, hg.om⟩, ?_⟩
    show Facts _ g a _
    refine Facts.ghost ?_ (fun v => ⟨xs.take (k * R.n) ++ es ++ xs.drop (k * R.n + R.n), ⟨?_, .inr ⟨b', cap, _, by rw [hga, List.length_set], h0, setRow_heap w b' cs _ e' (0, 0) hh, by rw [List.length_set]; exact hnc, hcm, ?_, ?_⟩⟩, ?_, by rw [List.length_set]; exact hN, htag⟩)
    · exact facts_killed' hf' (by rw [hsz]; exact Nat.le_refl _) hb
    · simp only [List.length_append, List.length_take, List.length_drop, List.length_set, hlen, hel]
      omega
    · simp only [List.size_toArray, List.length_append, List.length_take, List.length_drop, Array.length_toList, hel]
      omega
    · rw [← htake, List.length_set]
      exact take_splice cs.toList es (k * R.n) R.n (l.length * R.n) hel hk1 (by rw [Array.length_toList]; exact hk2)
    · have hne0 : ∀ b, g.om b ∈ te0 → g.om b ≠ t := fun b hb he => by
        rw [he] at hb
        have h5 : te0.elem t = true := by simpa using hb
        rw [hT0] at h5; cases h5
      have hne1 : ∀ b, g.om b ∈ te1' → g.om b ≠ t := fun b hb he => by
        rw [he] at hb
        have h5 : te1'.elem t = true := by simpa using hb
        rw [hT1] at h5; cases h5
      have hxl : (xs.take (k * R.n)).length = k * R.n := by rw [List.length_take, hlen]; omega
      have hR1 : (k + 1) * R.n = k * R.n + R.n := by rw [Nat.add_mul]; omega
      rw [hwf]
      refine ⟨?_, ?_⟩
      · have e1 : (l.set k y).take (k + 1) = l.take k ++ [y] := by
          rw [List.set_eq_take_append_cons_drop, if_pos hkl, List.take_append, List.length_take, Nat.min_eq_left (by omega), List.take_of_length_le (by rw [List.length_take]; omega), show k + 1 - k = 1 by omega]
          rfl
        have e2 : (xs.take (k * R.n) ++ es ++ xs.drop (k * R.n + R.n)).take ((k + 1) * R.n) = xs.take (k * R.n) ++ es := by
          rw [hR1, List.take_append_of_le_length (by rw [List.length_append, hxl, hel]; exact Nat.le_refl _), List.take_of_length_le (by rw [List.length_append, hxl, hel]; exact Nat.le_refl _)]
        rw [e1, e2]
        refine RelL.app _ _ _ _ (RelL.stab (by rw [hsz]; exact Nat.le_refl _) (fun b hlt hb' => ⟨hb b hlt (hne1 b (subB_spec h1 _ hb')), subB_spec h1 _ hb'⟩) _ _ hrel.1) ⟨es, [], by simp, R.stab _ _ y es w _ (by rw [hsz]; exact Nat.le_refl _) (fun b hlt hb' => ⟨hb b hlt (hne1 b (subB_spec h2 _ hb')), subB_spec h2 _ hb'⟩) hr, rfl⟩
      · have e1 : (l.set k y).drop (k + 1) = l.drop (k + 1) := List.drop_set_of_lt (by omega)
        have e2 : (xs.take (k * R.n) ++ es ++ xs.drop (k * R.n + R.n)).drop ((k + 1) * R.n) = xs.drop (k * R.n + R.n) := by
          rw [hR1, List.drop_append_of_le_length (by rw [List.length_append, hxl, hel]; exact Nat.le_refl _), List.drop_of_length_le (by rw [List.length_append, hxl, hel]; exact Nat.le_refl _), List.nil_append]
        rw [e1, e2]
        have h5 := RelL.drop _ _ 1 hrel.2
        rw [List.drop_drop, List.drop_drop, Nat.one_mul] at h5
        exact RelL.stab (by rw [hsz]; exact Nat.le_refl _) (fun b hlt hb' => ⟨hb b hlt (hne0 b hb'), hb'⟩) _ _ h5
end
end
end GL

namespace GL
section
open Go

/-- An array of N elements, as a value. -/
structure ArrV (N : Nat) (α : Type) where
  l : List α
instance {N : Nat} {α : Type} : Inhabited (ArrV N α) := ⟨⟨[]⟩⟩
instance {N : Nat} {α : Type} [R : Rp α] : Rp (ArrV N α) where
  n := N * R.n
  agg := true
  na := fun h => by cases h
  rel := fun F x cs w => x.l.length = N ∧ RelL F x.l cs w
  len := fun F x cs w h => by rw [RelL.len _ _ h.2, h.1]
  one := fun F x cs w h => RelL.one _ _ h.2
  stab := fun F F' x cs w w' hs hk h => ⟨h.1, RelL.stab hs hk _ _ h.2⟩
instance {N : Nat} {α : Type} [R : Rp α] [Fl : Flat α] : Flat (ArrV N α) := ⟨fun _ _ x cs _ _ h => ⟨h.1, RelL.flat x.l cs h.2⟩⟩

section
variable {X : Cx} {G : List It} {dO : Option Nat} {ty : TypeId} {pos : String} {af : Array Edge} {gd : Option (Nat × Bool)}
theorem Spec.loadArrV {α : Type} [R : Rp α] {x : Operand} {te : List Nat} {l : List α} {t N : Nat} {e : TypeId} (hty : Ty X.P e (ArrV N α)) (hx : Has G x (.isv t)) (hrs : look G (rs t) = some (.arr t te N l)) :
    Spec X G ⟨dO, .load e x, ty, pos, af, gd⟩ (Fact.rep te (ArrV.mk l : ArrV N α)) :=
  Spec.pure fun a w g hf => by
    have hv : a.eval x = g.ga t := hx a w g hf
    obtain ⟨b, ty', cs, hp, hh, hrel, hom, hl⟩ := hf _ _ hrs
    have hc : CellsAt w ⟨b, 0, none⟩ cs.toList := fun j u hj => by
      rw [Go.Addr.add_lit, Nat.zero_add]
      refine ⟨?_, frozen_of_row w b _ cs ty' hh⟩
      rw [cell_of_row w b _ cs ty' (0, 0) hh, ← Array.getElem?_toList]
      exact hj
    have hr : (inferInstance : Rp (ArrV N α)).rel (fun b => g.om b ∈ te) (ArrV.mk l) cs.toList w := ⟨hl, hrel⟩
    refine ⟨mkV true cs.toList, ?_, cs.toList, hr, rfl⟩
    unfold execOp
    simp [hv, hp, Instr.loadAt, Instr.sureAddr, run_loadVar_rel hty hc hr]
    rfl
theorem Step.storeArrV {α : Type} [R : Rp α] [Fl : Flat α] {p x : Operand} {T te : List Nat} {l : List α} {t N : Nat} {y : ArrV N α} {e : TypeId} (ht : Nat.ble 10 t = true) (hty : Ty X.P e (ArrV N α))
    (hp : Has G p (.isv t)) (hrs : look G (rs t) = some (.arr t te N l)) (hx : Has G x (Fact.rep T y)) :
    Step X G ⟨none, .store e p x, ty, pos, af, none⟩ [.fact (rs t) (.arr t [] N y.l), .kill t] := fun G' hsub a w env K Q hK => by
    have ht' : 10 ≤ t := by simpa using ht
    obtain ⟨g, hg, hf'⟩ := env.facts
    have hf := hsub a w g hf'
    have hv : a.eval p = g.ga t := hp a w g hf
    obtain ⟨b', ty', cs, hga, hh, hrel, hom, hN⟩ := hf _ _ hrs
    have hlen := RelL.len l _ hrel
    rw [hN, Array.length_toList] at hlen
    have hRn : (inferInstance : Rp (ArrV N α)).n = N * R.n := rfl
    obtain ⟨es, hes, hr, hrun⟩ := run_storeVar (P := X.P) (o := 0) hty hh (hx a w g hf) (by rw [hRn, hlen]; omega)
    have hrun' : (execOp a.eval ⟨none, .store e p x, ty, pos, af, none⟩).run X.P w = .ok .skip (w.setRow b' (cs.toList.take 0 ++ es ++ cs.toList.drop (0 + (inferInstance : Rp (ArrV N α)).n)).toArray) := by
      unfold execOp
      simp only [hv, hga, Instr.storeAt, Instr.sureAddr, Sem.run_bind, Sem.run_pure, Result.andThen_ok]
      rw [hrun]
      rfl
    unfold Oper.wp
    rw [hrun']
    refine hK undef _ ?_
    have hrow : (cs.toList.take 0 ++ es ++ cs.toList.drop (0 + (inferInstance : Rp (ArrV N α)).n)).toArray = es.toArray := by
      rw [hRn, List.take_zero, List.nil_append, Nat.zero_add, List.drop_of_length_le (by rw [Array.length_toList, hlen]; exact Nat.le_refl _), List.append_nil]
    rw [hrow]
    have hb : ∀ b, b < w.heap.size → g.om b ≠ t → (w.setRow b' es.toArray).heap[b]? = w.heap[b]? := fun b hb hne => setRow_other w b' b _ (fun h => hne (by rw [h]; exact hom))
    have hsz : (w.setRow b' es.toArray).heap.size = w.heap.size := by simp
    refine ⟨by simp [Act.put, env.size], env.defers, Fr.own env.fr hg ht' (.inr trivial) rfl rfl rfl (by rw [hsz]; exact Nat.le_refl _) hb, g, ⟨⟨hg.ok.old, fun b h1 h2 => hg.ok.new b h1 (by rw [hsz] at h2; exact h2)⟩, hg.om⟩, ?_⟩
    show Facts _ g a _
    refine Facts.ghost ?_ (fun v => ⟨b', ty', _, hga, setRow_heap w b' cs _ ty' (0, 0) hh, ?_, hom, hr.1⟩)
    · exact facts_killed' hf' (by rw [hsz]; exact Nat.le_refl _) hb
    · simpa using RelL.flat y.l es hr.2
/-- The slice of a whole array variable. -/
def Fact.whA (t N : Nat) : Fact where
  tags := []
  ids := [t]
  p := fun g v _ => ∃ b, g.ga t = .pointer (some ⟨b, 0, none⟩) ∧ v = .slice (some ⟨b, 0, none⟩) N N
  stab := fun g g' v w w' hk h => by rw [hk.ids t (by simp)]; exact h
theorem Spec.sliceWh {α : Type} [R : Rp α] {x : Operand} {te : List Nat} {l : List α} {t : Nat} {ts e : TypeId} {N : Nat} {z : α} (hty : ArrTy X.P ts e N α z)
    (hx : Has G x (.isv t)) (hrs : look G (rs t) = some (.arr t te N l)) : Spec X G ⟨dO, .slice ts x none none none, ty, pos, af, gd⟩ (Fact.whA t N) :=
  Spec.pure fun a w g hf => by
    have hv : a.eval x = g.ga t := hx a w g hf
    obtain ⟨b, ty', cs, hp, hh, hrel, hom, hl⟩ := hf _ _ hrs
    have hbig : ¬ (N = 0) := by have := hty.big; simp at this; omega
    refine ⟨.slice (some ⟨b, 0, none⟩) N N, ?_, b, hp, rfl⟩
    unfold execOp
    simp only [hv, hp, Sem.run_bind, Option.map_none]
    unfold Instr.sliceAt
    simp [run_underlying hty.und, Instr.sureAddr, Instr.sliceBounds, rt_sizeOf hty.el, hbig, Go.Addr.add_zero']
def cpyA {α : Type} (l m : List α) : List α := m.take l.length ++ l.drop (m.length)
theorem cpyA_len {α : Type} (l m : List α) : (cpyA l m).length = l.length := by
  unfold cpyA
  rw [List.length_append, List.length_take, List.length_drop]
  omega
theorem cells_of_list {α : Type} [R : Rp α] {F : Nat → Prop} {w : World} {l : List α} {ad : Option Addr} {c : Nat} (h : Rep F l (.slice ad l.length c) w) : ∀ k, k ≤ l.length → ∃ es, RelL F (l.take k) es w ∧ ∀ j u, es[j]? = some u → ∃ a, ad = some a ∧ w.cell? (a.add j) = some u := by
  obtain ⟨ad', c', hv, hc, hnil, hcells⟩ := rep_list h
  cases hv
  cases ad with
  | none =>
    have := (hnil rfl).1
    subst this
    intro k _
    exact ⟨[], by simp [RelL], fun j u hj => by simp at hj⟩
  | some a =>
    intro k hk
    obtain ⟨news, hn1, hn2⟩ := cells_of_rep (w := w) (F := F) (ad := a) l 0 (fun i y hy => by
      obtain ⟨_, _, es, h1, h2⟩ := hcells a rfl i y hy
      exact ⟨es, by simpa using h1, h2⟩)
    have hn2 : CellsAt w a news := by simpa [Go.Addr.add_zero'] using hn2
    refine ⟨news.take (k * R.n), RelL.take l news k hn1, fun j u hj => ⟨a, rfl, (hn2 j u ?_).1⟩⟩
    rw [List.getElem?_take] at hj
    split at hj
    · exact hj
    · cases hj
/-- copy(a[:], m) into an array variable. -/
theorem Step.copyA {α : Type} [R : Rp α] [Fl : Flat α] {p x : Operand} {T te : List Nat} {l m : List α} {t N d : Nat} {ts ts' e : TypeId} (ht : Nat.ble 10 t = true) (hd : Nat.blt d X.n = true) (hty : OwnTy X.P ts e α)
    (hp : Has G p (.whA t N)) (hrs : look G (rs t) = some (.arr t te N l)) (hx : Has G x (Fact.rep T m)) :
    Step X G ⟨some d, .call { callee := .builtin .copy, args := #[p, x], argTypes := #[ts, ts'] }, ty, pos, af, none⟩ [.fact d (Fact.rep [] ((min m.length N : Nat) : Int)), .fact (rs t) (.arr t [] N (cpyA l m)), .kill t] := fun G' hsub a w env K Q hK => by
    have ht' : 10 ≤ t := by simpa using ht
    have hd' : d < X.n := by simpa [Nat.blt_eq] using hd
    obtain ⟨g, hg, hf'⟩ := env.facts
    have hf := hsub a w g hf'
    obtain ⟨b', hga', hv⟩ := hp a w g hf
    obtain ⟨b, ty', cs, hga, hh, hrel, hom, hN⟩ := hf _ _ hrs
    have hbb : b' = b := by rw [hga] at hga'; simpa using hga'.symm
    subst hbb
    have hlen := RelL.len l _ hrel
    rw [hN, Array.length_toList] at hlen
    have hrepx := hx a w g hf
    obtain ⟨ad, c, hxv, _⟩ := rep_list hrepx
    rw [hxv] at hrepx
    obtain ⟨i, zv, hi, hiz, hisz, hby, hzs⟩ := hty.info
    obtain ⟨es, hes, hcell⟩ := cells_of_list hrepx (min m.length N) (Nat.min_le_left _ _)
    have hel := RelL.len _ _ hes
    have hml : (m.take (min m.length N)).length = min m.length N := by rw [List.length_take]; omega
    rw [hml] at hel
    have hfc : (Builtin.firstCells R.n (min m.length N) (.slice ad m.length c)).run X.P w = .ok es.toArray w := by
      cases ad with
      | none =>
        have : es = [] := by
          cases es with
          | nil => rfl
          | cons u es =>
            obtain ⟨a, h, _⟩ := hcell 0 u rfl
            cases h
        subst this
        exact run_firstCells_none w _ _ _ _
      | some ad => exact run_firstCells_some w R.n (min m.length N) ad m.length c es hel (fun j u hj => by
          obtain ⟨a, h, h2⟩ := hcell j u hj
          cases h; exact h2)
    have hmn : (min m.length N) * R.n ≤ N * R.n := Nat.mul_le_mul_right _ (Nat.min_le_right _ _)
    have hst := run_storeCells_at X.P b' 0 ty' es 0 cs w hh (by rw [hel, hlen]; omega) (RelL.one _ es hes)
    simp only [Nat.add_zero, List.take_zero, List.nil_append, Nat.zero_add] at hst
    have hrun' : (execOp a.eval ⟨some d, .call { callee := .builtin .copy, args := #[p, x], argTypes := #[ts, ts'] }, ty, pos, af, none⟩).run X.P w = .ok (.value (.int .i64 ((min m.length N : Nat) : Int))) (w.setRow b' (es ++ cs.toList.drop es.length).toArray) := by
      have hmin : Nat.min m.length N = min m.length N := rfl
      unfold execOp
      simp [resolve, invoke, builtin, hv, hxv, Builtin.copy_, run_underlying hty.und, Builtin.lenOf, Go.sizeOf, typeInfo, hi, hisz, hmin, hfc, hst, goInt]
    unfold Oper.wp
    rw [hrun']
    refine hK _ _ ?_
    have hb : ∀ b, b < w.heap.size → g.om b ≠ t → (w.setRow b' (es ++ cs.toList.drop es.length).toArray).heap[b]? = w.heap[b]? := fun b hb hne => setRow_other w b' b _ (fun h => hne (by rw [h]; exact hom))
    have hsz : (w.setRow b' (es ++ cs.toList.drop es.length).toArray).heap.size = w.heap.size := by simp
    refine ⟨by simp [Act.put, env.size], env.defers, Fr.own env.fr hg ht' (.inr trivial) rfl rfl rfl (by rw [hsz]; exact Nat.le_refl _) hb, g, ⟨⟨hg.ok.old, fun b h1 h2 => hg.ok.new b h1 (by rw [hsz] at h2; exact h2)⟩, hg.om⟩, ?_⟩
    refine Facts.put (by rw [env.size]; exact hd') (Facts.ghost (facts_killed' hf' (by rw [hsz]; exact Nat.le_refl _) hb) (fun v => ⟨b', ty', _, hga, setRow_heap w b' cs _ ty' (0, 0) hh, ?_, hom, by rw [cpyA_len]; exact hN⟩)) (rep_int.2 rfl)
    have hw2 : RelL (fun _ => False) (m.take (min m.length N)) es (w.setRow b' (es ++ cs.toList.drop es.length).toArray) := RelL.flat _ _ hes
    have e1 : m.take l.length = m.take (min m.length N) := by
      rw [hN, List.take_eq_take_iff]; omega
    unfold cpyA
    rw [e1]
    have hdr : RelL (fun b => g.om b ∈ te) (l.drop (min m.length N)) (cs.toList.drop ((min m.length N) * R.n)) w := RelL.drop l _ _ hrel
    have e2 : l.drop m.length = l.drop (min m.length N) := by
      by_cases h : m.length ≤ N
      · rw [Nat.min_eq_left h]
      · rw [Nat.min_eq_right (by omega), List.drop_of_length_le (by omega), List.drop_of_length_le (by omega)]
    rw [e2, ← hel] at *
    have := RelL.app _ _ _ _ (RelL.flat (F' := fun b => g.om b ∈ ([] : List Nat)) (w' := w.setRow b' (es ++ cs.toList.drop es.length).toArray) _ _ hes) (RelL.flat (F' := fun b => g.om b ∈ ([] : List Nat)) (w' := w.setRow b' (es ++ cs.toList.drop es.length).toArray) _ _ hdr)
    simpa using this

/-! ### shifts and bits -/
def shrI (m n : Int) : Option Int := if n < 0 then none else some (m.fdiv (2 ^ (min n.toNat 64)))
def shlI (m n : Int) : Option Int := if n < 0 then none else some (wI (m * 2 ^ (min n.toNat 64)))
theorem Spec.shrI {x y : Operand} {t t' : TypeId} {T T' : List Nat} {m n r : Int} (hr : GL.shrI m n = some r) (hx : Has G x (Fact.rep T m)) (hy : Has G y (Fact.rep T' n)) : Spec X G ⟨dO, .binOp .shr t x y t', ty, pos, af, gd⟩ (Fact.rep [] r) := by
  unfold GL.shrI at hr
  split at hr
  case isTrue => cases hr
  rename_i h
  cases hr
  exact Spec.bin_int hx hy (fun w => by simp [binOp, Op.shift, h, IntKind.bits]; try rfl) (fun _ _ => rep_int.2 rfl)
theorem Spec.shlI {x y : Operand} {t t' : TypeId} {T T' : List Nat} {m n r : Int} (hr : GL.shlI m n = some r) (hx : Has G x (Fact.rep T m)) (hy : Has G y (Fact.rep T' n)) : Spec X G ⟨dO, .binOp .shl t x y t', ty, pos, af, gd⟩ (Fact.rep [] r) := by
  unfold GL.shlI at hr
  split at hr
  case isTrue => cases hr
  rename_i h
  cases hr
  exact Spec.bin_int hx hy (fun w => by simp [binOp, Op.shift, h, IntKind.bits]; try rfl) (fun _ _ => rep_int.2 rfl)
def orI (m n : Int) : Int := wI ((BitVec.ofInt 64 m ||| BitVec.ofInt 64 n).toNat)
theorem Spec.orI {x y : Operand} {t t' : TypeId} {T T' : List Nat} {m n : Int} (hx : Has G x (Fact.rep T m)) (hy : Has G y (Fact.rep T' n)) : Spec X G ⟨dO, .binOp .or t x y t', ty, pos, af, gd⟩ (Fact.rep [] (GL.orI m n)) :=
  Spec.bin_int hx hy (fun w => by simp [binOp, Op.intBits, IntKind.bits]; try rfl) (fun _ _ => rep_int.2 rfl)
theorem u32_ofInt (m : UInt32) : BitVec.ofInt 32 (m.toNat : Int) = m.toBitVec := by
  apply BitVec.eq_of_toNat_eq
  simp [BitVec.ofInt_natCast]
theorem u32_wrap (n : Nat) (h : n < 4294967296) : IntKind.u32.wrap (n : Int) = (n : Int) := by
  simp [IntKind.wrap, IntKind.signed, IntKind.bits]; omega
theorem Spec.xorW {x y : Operand} {t t' : TypeId} {T T' : List Nat} {m n : UInt32} (hx : Has G x (Fact.rep T m)) (hy : Has G y (Fact.rep T' n)) : Spec X G ⟨dO, .binOp .xor t x y t', ty, pos, af, gd⟩ (Fact.rep [] (m ^^^ n)) :=
  Spec.bin_sc (v := .int .u32 ((m ^^^ n).toNat : Int)) hx hy (fun w => by
    show (binOp .xor t (.int .u32 (m.toNat : Int)) (.int .u32 (n.toNat : Int))).run X.P w = _
    have h : IntKind.u32.wrap (((BitVec.ofInt 32 (m.toNat : Int)) ^^^ (BitVec.ofInt 32 (n.toNat : Int))).toNat : Int) = ((m ^^^ n).toNat : Int) := by
      rw [u32_ofInt, u32_ofInt, u32_wrap _ (BitVec.isLt _)]; rfl
    simp only [binOp, Op.intBits, ne_eq, not_true_eq_false, if_false, Sem.run_pure]
    exact congrArg (fun z => Result.ok (Value.int .u32 z) w) h) (fun _ _ => rep_u32.2 rfl)
theorem Spec.andW {x y : Operand} {t t' : TypeId} {T T' : List Nat} {m n : UInt32} (hx : Has G x (Fact.rep T m)) (hy : Has G y (Fact.rep T' n)) : Spec X G ⟨dO, .binOp .and t x y t', ty, pos, af, gd⟩ (Fact.rep [] (m &&& n)) :=
  Spec.bin_sc (v := .int .u32 ((m &&& n).toNat : Int)) hx hy (fun w => by
    show (binOp .and t (.int .u32 (m.toNat : Int)) (.int .u32 (n.toNat : Int))).run X.P w = _
    have h : IntKind.u32.wrap (((BitVec.ofInt 32 (m.toNat : Int)) &&& (BitVec.ofInt 32 (n.toNat : Int))).toNat : Int) = ((m &&& n).toNat : Int) := by
      rw [u32_ofInt, u32_ofInt, u32_wrap _ (BitVec.isLt _)]; rfl
    simp only [binOp, Op.intBits, ne_eq, not_true_eq_false, if_false, Sem.run_pure]
    exact congrArg (fun z => Result.ok (Value.int .u32 z) w) h) (fun _ _ => rep_u32.2 rfl)
theorem Spec.notW {x : Operand} {t : TypeId} {T : List Nat} {m : UInt32} (hx : Has G x (Fact.rep T m)) : Spec X G ⟨dO, .unOp .xor t x, ty, pos, af, gd⟩ (Fact.rep [] (4294967295 ^^^ m)) :=
  Spec.pure fun a w g hf => by
    have h1 := rep_u32.1 (hx a w g hf)
    refine ⟨.int .u32 ((4294967295 ^^^ m : UInt32).toNat : Int), ?_, rep_u32.2 rfl⟩
    have h : IntKind.u32.wrap (((BitVec.ofInt 32 (4294967295 : Int)) ^^^ (BitVec.ofInt 32 (m.toNat : Int))).toNat : Int) = ((4294967295 ^^^ m : UInt32).toNat : Int) := by
      rw [u32_ofInt, u32_wrap _ (BitVec.isLt _)]; rfl
    unfold execOp
    simp only [h1, Op.unary, Op.intBits, Sem.run_bind, Sem.run_pure, Result.andThen_ok]
    exact congrArg (fun z => Result.ok (Next.value (Value.int .u32 z)) w) h
def shrW (m : UInt32) (k : Nat) : UInt32 := UInt32.ofNat (m.toNat / 2 ^ (min k 32))
theorem Spec.shrW {x : Operand} {t t' : TypeId} {T : List Nat} {m : UInt32} {k : Nat} {kk : IntKind} (hx : Has G x (Fact.rep T m)) : Spec X G ⟨dO, .binOp .shr t x (.const (.int kk (k : Int))) t', ty, pos, af, gd⟩ (Fact.rep [] (GL.shrW m k)) :=
  Spec.pure fun a w g hf => by
    have h1 := rep_u32.1 (hx a w g hf)
    refine ⟨.int .u32 ((GL.shrW m k).toNat : Int), ?_, rep_u32.2 rfl⟩
    have hlt : m.toNat / 2 ^ (min k 32) < 4294967296 := Nat.lt_of_le_of_lt (Nat.div_le_self _ _) m.toNat_lt
    have h : ((m.toNat : Int)).fdiv (2 ^ (min k 32)) = ((GL.shrW m k).toNat : Int) := by
      unfold GL.shrW
      rw [UInt32.toNat_ofNat_of_lt' hlt, Int.fdiv_eq_ediv_of_nonneg _ (Int.pow_nonneg (by omega))]
      norm_cast
    unfold execOp
    simp only [h1, eval_const, eqGuard_at_int, binOp, Op.shift, Sem.run_bind, Sem.run_pure, Result.andThen_ok, Int.toNat_natCast]
    rw [if_neg (by omega)]
    simp only [Sem.run_pure, Result.andThen_ok]
    exact congrArg (fun z => Result.ok (Next.value (Value.int .u32 z)) w) h
/-- An array variable at an index that is no int. -/
theorem Spec.idxArrN {α β : Type} [R : Rp α] [B : Rp β] [S : Sc β] {x i : Operand} {T te : List Nat} {l : List α} {n : β} {k t : Nat} {ts e : TypeId} {N : Nat} {z : α} (hk : bnd N (S.val n) = some k) (hty : ArrTy X.P ts e N α z)
    (hx : Has G x (.isv t)) (hrs : look G (rs t) = some (.arr t te N l)) (hi : Has G i (Fact.rep T n)) : Spec X G ⟨dO, .indexAddr ts x i, ty, pos, af, gd⟩ (Fact.pto t (k * R.n)) := by
  obtain ⟨h0, h1, rfl⟩ := bnd_some hk
  refine Spec.pure fun a w g hf => ?_
  have hv : a.eval x = g.ga t := hx a w g hf
  obtain ⟨b, ty', cs, hp, _⟩ := hf _ _ hrs
  have h2 := (S.rel _ _ _ _).1 (hi a w g hf)
  refine ⟨.pointer (some ⟨b, (S.val n).toNat * R.n, none⟩), ?_, b, by rw [hp]; rfl, rfl⟩
  have hbig : ¬ (N ≤ 1) := by have := hty.big; simp at this; omega
  unfold execOp
  simp only [hv, h2, hp, Sem.run_bind, Sem.run_map]
  unfold Instr.indexAt
  simp [asIntOf, run_underlying hty.und, Instr.sureAddr, h0, h1, rt_sizeOf hty.el, Go.Addr.add_lit]
/-- An operation that gives a value known beforehand. -/
theorem Spec.known {α : Type} [R : Rp α] {o : Op} {x : α} {v : Value} (hrun : ∀ (ev : Operand → Value) w, (∀ c, ev (.const c) = c) → (execOp ev ⟨dO, o, ty, pos, af, gd⟩).run X.P w = .ok (.value v) w) (hv : ∀ F w, Rep F x v w) : Spec X G ⟨dO, o, ty, pos, af, gd⟩ (Fact.rep [] x) :=
  Spec.pure fun a w g _ => ⟨v, hrun a.eval w (fun c => rfl), hv _ _⟩
end
end
end GL

namespace GL
section
open Go

/-- Function k, called with two numbers and a variable, tells a value by these and the variable's, and adds the second to the variable. -/
def CntFn (P : Program) (k : FuncId) (γ : Type) [Rp γ] (F : Int → Int → Int → γ) : Prop := ∀ (ba : Nat) (n s a : Int) (ty : TypeId) (w : World), w.heap[ba]? = some (.cells #[.int .i64 a] ty (0, 0)) →
  Calls P k #[.int .i64 n, .int .i64 s, .pointer (some ⟨ba, 0, none⟩)] w fun o w' => ∃ v', o = .returned v' ∧ (∀ H w, Rep H (F n s a) v' w) ∧ w'.heap[ba]? = some (.cells #[.int .i64 (wI (a + s))] ty (0, 0)) ∧ w.grownBy w' (some ba)

section
variable {X : Cx} {G : List It} {d : Nat} {ty : TypeId} {pos : String} {af : Array Edge}
theorem Step.callCnt {γ : Type} [R : Rp γ] {F : Int → Int → Int → γ} {op : Op} {k : FuncId} {t : Nat} {T1 T2 Ta : List Nat} {m n a0 : Int} (ht : Nat.ble 10 t = true) (hd : Nat.blt d X.n = true) (hF : CntFn X.P k γ F)
    (hc : CallOk X G ⟨some d, op, ty, pos, af, none⟩ k [Fact.rep T1 m, Fact.rep T2 n, .isv t]) (ho : look G (rs t) = some (.obj t [(false, 1)])) (ha : HasG G (t + 1) (Fact.rep Ta a0)) :
    Step X G ⟨some d, op, ty, pos, af, none⟩ [.fact d (Fact.rep [] (F m n a0)), .fact (rs (t + 1)) (.at (t + 1) (Fact.rep [] (wI (a0 + n)))), .fact (rs t) (.obj t [(false, 1)]), .kill t, .killId (t + 1)] := fun G' hsub a w env K Q hK => by
    have ht' : 10 ≤ t := by simpa using ht
    have hd' : d < X.n := by simpa [Nat.blt_eq] using hd
    obtain ⟨g, hg, hf'⟩ := env.facts
    have hf := hsub a w g hf'
    obtain ⟨vals, hrun, hall⟩ := hc a w g hf
    obtain ⟨b', ty', cs, hga, hh, hom, hrel⟩ := hf _ _ ho
    have hav := rep_int.1 (ha a w g hf)
    obtain ⟨v1, r1, rfl, p1, h2⟩ := hall
    obtain ⟨v2, r2, rfl, p2, h3⟩ := h2
    obtain ⟨v3, r3, rfl, p3, h4⟩ := h3
    have hr3 : r3 = [] := h4
    subst hr3
    have e1 := rep_int.1 p1
    have e2 := rep_int.1 p2
    have e3 : v3 = g.ga t := p3
    subst e1 e2 e3
    obtain ⟨c1, c2, hcs, hc1, hone, _, hgv, hc2⟩ := hrel
    have hc2' : c2 = [] := hc2
    subst hc2'
    obtain ⟨c, rfl⟩ := List.length_eq_one_iff.1 hc1
    have hcv : c = .int .i64 a0 := by
      have : g.ga (t + 1) = c := hgv
      rw [← this]; exact hav
    have hcs' : cs = #[.int .i64 a0] := by
      apply Array.toList_inj.1
      rw [hcs, hcv]; rfl
    subst hcs'
    have hcall := hF b' m n a0 ty' w hh
    rw [hga] at hrun
    unfold Oper.wp
    rw [hrun]
    refine Calls.mono hcall ?_
    rintro o w' ⟨v', rfl, hrep, hrow, hgr⟩
    refine hK v' w' ?_
    have hb : ∀ b, b < w.heap.size → g.om b ≠ t → w'.heap[b]? = w.heap[b]? := fun b hb hne => hgr.block b hb (fun he => hne (by rw [Option.some.inj he]; exact hom))
    have hbl : b' < w.heap.size := (Array.getElem?_eq_some_iff.1 hh).1
    let g2 : Gh := ⟨(tagNew g w.heap.size t).om, fun s => if s = t + 1 then .int .i64 (wI (a0 + n)) else g.ga s⟩
    have hom2 : ∀ b, b < w.heap.size → g2.om b = g.om b := fun b hb => by simp [g2, tagNew, hb]
    have hgai : g2.ga (t + 1) = .int .i64 (wI (a0 + n)) := if_pos rfl
    have hgao : ∀ s, s ≠ t + 1 → g2.ga s = g.ga s := fun s hs => if_neg hs
    have hgn := hg.tagNew (w' := w') ht' hgr.size env.fr.size
    refine ⟨by simp [Act.put, env.size], env.defers, Fr.own env.fr hg ht' (.inr trivial) hgr.os hgr.tape hgr.output hgr.size hb, g2, ⟨⟨hgn.ok.old, hgn.ok.new⟩, hgn.om⟩, ?_⟩
    refine Facts.put (by rw [env.size]; exact hd') ?_ (hrep _ _)
    refine Facts.ghost ?_ (fun v => ?_)
    · refine Facts.ghost ?_ (fun v => ⟨b', ty', _, by rw [hgao t (by omega)]; exact hga, hrow, by rw [hom2 b' hbl]; exact hom, ?_⟩)
      · exact facts_killIdsT [t + 1] hf' hgr.size hb hom2 (fun s hs => hgao s (by simpa using hs))
      · exact ⟨[.int .i64 (wI (a0 + n))], [], rfl, rfl, fun c hc => by
          simp only [List.mem_singleton] at hc
          rw [hc]; rfl, fun _ => rfl, hgai, rfl⟩
    · show (Fact.rep [] (wI (a0 + n))).p g2 (g2.ga (t + 1)) _
      rw [hgai]
      exact rep_int.2 rfl
end
end
end GL

namespace GL
section
open Go

theorem HasR.arr {P : Program} {G : List It} {p : Nat} {e : TypeId} {α : Type} [R : Rp α] {t N : Nat} {te : List Nat} {l : List α} (hty : Ty P e (ArrV N α)) (hx : Has G (.tmp p) (.isv t)) (ho : look G (rs t) = some (.arr t te N l)) :
    HasR P G (.cell p e) (Fact.rep te (ArrV.mk l : ArrV N α)) := fun a w g hfa => by
  have hv : a.tmps.getD p undef = g.ga t := hx a w g hfa
  obtain ⟨b, ty', cs, hp, hh, hrel, hom, hl⟩ := hfa _ _ ho
  have hc : CellsAt w ⟨b, 0, none⟩ cs.toList := fun j u hj => by
    rw [Go.Addr.add_lit, Nat.zero_add]
    refine ⟨?_, frozen_of_row w b _ cs ty' hh⟩
    rw [cell_of_row w b _ cs ty' (0, 0) hh, ← Array.getElem?_toList]
    exact hj
  have hr : (inferInstance : Rp (ArrV N α)).rel (fun b => g.om b ∈ te) (ArrV.mk l) cs.toList w := ⟨hl, hrel⟩
  refine ⟨mkV true cs.toList, ?_, cs.toList, hr, rfl⟩
  unfold resOne
  simp only [hv, hp, asAddr, Sem.run_bind, Sem.run_pure, Result.andThen_ok]
  exact run_loadVar_rel hty hc hr

def ArrFl {α : Type} [R : Rp α] : Ls → List α → Prop
  | [], [] => True
  | l :: ls, x :: xs => l.1 = false ∧ l.2.1 = 1 ∧ (∃ T, l.2.2 = Fact.rep T x) ∧ ArrFl ls xs
  | _, _ => False
theorem ArrFl.nil {α : Type} [R : Rp α] : ArrFl [] ([] : List α) := trivial
theorem ArrFl.cons {α : Type} [R : Rp α] {T : List Nat} {x : α} {ls : Ls} {xs : List α} (k : ArrFl ls xs) : ArrFl ((false, 1, Fact.rep T x) :: ls) (x :: xs) := ⟨rfl, rfl, ⟨T, rfl⟩, k⟩
theorem ArrFl.rel {α : Type} [R : Rp α] [Fl : Flat α] (ha : R.agg = false) (hn : R.n = 1) {g : Gh} {w : World} {F : Nat → Prop} : ∀ (ls : Ls) (xs : List α) (cs : List Value), ArrFl ls xs → FldRel g w ls cs → RelL F xs cs w
  | [], [], cs, _, h => h
  | [], _ :: _, _, h, _ => h.elim
  | _ :: _, [], _, h, _ => h.elim
  | l :: ls, x :: xs, cs, ⟨h1, h2, ⟨T, h3⟩, h4⟩, ⟨c1, c2, hcs, hl, _, _, hp, hr⟩ => by
    rw [h2] at hl
    obtain ⟨c, rfl⟩ := List.length_eq_one_iff.1 hl
    rw [h3, h1] at hp
    obtain ⟨es, hes, he⟩ := hp
    have hel := R.len _ _ _ _ hes
    rw [hn] at hel
    obtain ⟨d, rfl⟩ := List.length_eq_one_iff.1 hel
    rw [ha] at he
    have hcd : c = d := he
    subst hcd
    exact ⟨[c], c2, hcs, Flat.flat _ _ _ _ _ _ hes, ArrFl.rel ha hn ls xs c2 h4 hr⟩
theorem Cv.fldsArr {G : List It} {α : Type} [R : Rp α] [Fl : Flat α] {N : Nat} {ls : Ls} {xs : List α} (ha : R.agg = false) (hn : R.n = 1) (h : ArrFl ls xs) (hN : xs.length = N) : Cv G (.flds ls) (Fact.rep [] (ArrV.mk xs : ArrV N α)) := fun a w g v _ hp => by
  obtain ⟨cs, hv, hr⟩ := hp
  exact ⟨cs, ⟨hN, ArrFl.rel ha hn ls xs cs h hr⟩, hv⟩

/-! ### words divided -/
section
variable {X : Cx} {G : List It} {d : Option Nat} {ty : TypeId} {pos : String} {af : Array Edge} {gd : Option (Nat × Bool)} {x y : Operand} {t t' : TypeId} {T T' : List Nat}
theorem Spec.remW {m n r : UInt32} (hr : GL.remW m n = some r) (hx : Has G x (Fact.rep T m)) (hy : Has G y (Fact.rep T' n)) : Spec X G ⟨d, .binOp .rem t x y t', ty, pos, af, gd⟩ (Fact.rep [] r) := by
  unfold GL.remW at hr
  split at hr
  · cases hr
  · rename_i hn
    cases hr
    have hn' : n.toNat ≠ 0 := fun h => hn (by rw [← UInt32.toNat_inj]; simpa using h)
    exact Spec.bin_sc (v := .int .u32 ((m % n).toNat : Int)) hx hy (fun w => by
      show (binOp .rem t (.int .u32 (m.toNat : Int)) (.int .u32 (n.toNat : Int))).run X.P w = _
      simp [binOp, Op.intDiv, hn', UInt32.toNat_mod]; try rfl) (fun _ _ => rep_u32.2 rfl)
theorem Spec.quoW {m n r : UInt32} (hr : GL.quoW m n = some r) (hx : Has G x (Fact.rep T m)) (hy : Has G y (Fact.rep T' n)) : Spec X G ⟨d, .binOp .quo t x y t', ty, pos, af, gd⟩ (Fact.rep [] r) := by
  unfold GL.quoW at hr
  split at hr
  · cases hr
  · rename_i hn
    cases hr
    have hn' : n.toNat ≠ 0 := fun h => hn (by rw [← UInt32.toNat_inj]; simpa using h)
    have hw : IntKind.u32.wrap ((m.toNat : Int).tdiv (n.toNat : Int)) = ((m / n).toNat : Int) := by
      have h1 : (m.toNat : Int).tdiv (n.toNat : Int) = ((m.toNat / n.toNat : Nat) : Int) := by simp [Int.tdiv_eq_ediv_of_nonneg]
      rw [h1, u32_wrap _ (Nat.lt_of_le_of_lt (Nat.div_le_self _ _) m.toNat_lt), UInt32.toNat_div]
    exact Spec.bin_sc (v := .int .u32 ((m / n).toNat : Int)) hx hy (fun w => by
      show (binOp .quo t (.int .u32 (m.toNat : Int)) (.int .u32 (n.toNat : Int))).run X.P w = _
      rw [← hw]
      simp [binOp, Op.intDiv, hn']; try rfl) (fun _ _ => rep_u32.2 rfl)
end
end
end GL

namespace GL
section
open Go

/-! ### what a map holds -/
abbrev DRow := Int × List Int × List (List UInt8)
def EntRel (F Fe : Nat → Prop) (lab : Nat → Int × Nat) (e1 e2 : TypeId) (m : MapEntry) (d : DRow) (w : World) : Prop :=
  m.key = .int .i64 d.1 ∧ ∃ p ty sv bv, m.val = .pointer (some ⟨p, 0, none⟩) ∧ w.heap[p]? = some (.cells #[.int .i64 d.1, sv, bv, .slice none 0 0] ty (0, 0)) ∧ F p ∧ lab p = (d.1, 0) ∧
    OwRel (fun b => F b ∧ lab b = (d.1, 1)) (fun _ => False) e1 d.2.1 sv w ∧ OwRel (fun b => F b ∧ lab b = (d.1, 2)) Fe e2 d.2.2 bv w
def EntsR (F Fe : Nat → Prop) (lab : Nat → Int × Nat) (e1 e2 : TypeId) (w : World) : List MapEntry → List DRow → Prop
  | [], [] => True
  | m :: es, d :: L => EntRel F Fe lab e1 e2 m d w ∧ EntsR F Fe lab e1 e2 w es L
  | _, _ => False
/-- Entries that lie where they lay. -/
theorem EntRel.stab {F Fe F' Fe' : Nat → Prop} {lab lab' : Nat → Int × Nat} {e1 e2 : TypeId} {m : MapEntry} {d : DRow} {w w' : World} (hs : w.heap.size ≤ w'.heap.size)
    (hk : ∀ b, b < w.heap.size → F b → (lab b).1 = d.1 → (lab b).2 ≤ 2 → w'.heap[b]? = w.heap[b]? ∧ F' b ∧ lab' b = lab b) (hk' : ∀ b, b < w.heap.size → Fe b → w'.heap[b]? = w.heap[b]? ∧ Fe' b)
    (h : EntRel F Fe lab e1 e2 m d w) : EntRel F' Fe' lab' e1 e2 m d w' := by
  obtain ⟨h1, p, ty, sv, bv, h2, h3, h4, h5, h6, h7⟩ := h
  have hlt : p < w.heap.size := (Array.getElem?_eq_some_iff.1 h3).1
  obtain ⟨k1, k2, k3⟩ := hk p hlt h4 (by rw [h5]) (by rw [h5]; exact Nat.zero_le _)
  refine ⟨h1, p, ty, sv, bv, h2, by rw [k1]; exact h3, k2, by rw [k3]; exact h5, h6.stab hs (fun b hb hF => ?_) (fun _ _ h => h.elim), h7.stab hs (fun b hb hF => ?_) hk'⟩
  · obtain ⟨q1, q2, q3⟩ := hk b hb hF.1 (by rw [hF.2]) (by rw [hF.2]; exact Nat.le_succ _)
    exact ⟨q1, q2, by rw [q3]; exact hF.2⟩
  · obtain ⟨q1, q2, q3⟩ := hk b hb hF.1 (by rw [hF.2]) (by rw [hF.2]; exact Nat.le_refl _)
    exact ⟨q1, q2, by rw [q3]; exact hF.2⟩
theorem EntsR.stab {F Fe F' Fe' : Nat → Prop} {lab lab' : Nat → Int × Nat} {e1 e2 : TypeId} {w w' : World} (hs : w.heap.size ≤ w'.heap.size) :
    ∀ (es : List MapEntry) (L : List DRow), (∀ d ∈ L, ∀ b, b < w.heap.size → F b → (lab b).1 = d.1 → (lab b).2 ≤ 2 → w'.heap[b]? = w.heap[b]? ∧ F' b ∧ lab' b = lab b) → (∀ b, b < w.heap.size → Fe b → w'.heap[b]? = w.heap[b]? ∧ Fe' b) →
    EntsR F Fe lab e1 e2 w es L → EntsR F' Fe' lab' e1 e2 w' es L
  | [], [], _, _, _ => trivial
  | m :: es, d :: L, hk, hk', h => ⟨h.1.stab hs (hk d (List.mem_cons_self ..)) hk', EntsR.stab hs es L (fun d hd => hk d (List.mem_cons_of_mem _ hd)) hk' h.2⟩
  | [], _ :: _, _, _, h => h.elim
  | _ :: _, [], _, _, h => h.elim
theorem EntsR.len {F Fe : Nat → Prop} {lab : Nat → Int × Nat} {e1 e2 : TypeId} {w : World} : ∀ (es : List MapEntry) (L : List DRow), EntsR F Fe lab e1 e2 w es L → es.length = L.length
  | [], [], _ => rfl
  | _ :: es, _ :: L, h => by simp [EntsR.len es L h.2]
  | [], _ :: _, h => h.elim
  | _ :: _, [], h => h.elim
def keyIs (s : Int) (m : MapEntry) : Bool := match m.key with
  | .int .i64 a => a == s
  | _ => false
def hasK (L : List DRow) (s : Int) : Bool := L.any fun d => d.1 == s
def getK (L : List DRow) (s : Int) : DRow := (L.find? fun d => d.1 == s).getD (s, [], [])
def delK (L : List DRow) (s : Int) : List DRow := L.filter fun d => !(d.1 == s)
def putK (L : List DRow) (s : Int) (d : DRow) : List DRow := L.map fun x => bif x.1 == s then d else x
theorem keyIs_eq {F Fe : Nat → Prop} {lab : Nat → Int × Nat} {e1 e2 : TypeId} {m : MapEntry} {d : DRow} {w : World} (h : EntRel F Fe lab e1 e2 m d w) (s : Int) : keyIs s m = (d.1 == s) := by
  unfold keyIs; rw [h.1]
/-- What is found for a number. -/
def lkV (s : Int) (es : List MapEntry) : Value := ((es.find? (keyIs s)).map (·.val)).getD (.pointer none)
theorem findNow_int {F Fe : Nat → Prop} {lab : Nat → Int × Nat} {e1 e2 : TypeId} {w : World} (s : Int) : ∀ (es : List MapEntry) (L : List DRow) (i : Nat), EntsR F Fe lab e1 e2 w es L →
    Instr.findNow (.int .i64) (.int .i64 s) es i = some ((es.findIdx? (keyIs s)).bind fun j => (es[j]?).map fun e => (i + j, e.val))
  | [], [], _, _ => rfl
  | m :: es, d :: L, i, h => by
    have hk := h.1.1
    unfold Instr.findNow
    rw [hk]
    simp only [Instr.sameNow, if_true]
    rw [List.findIdx?_cons, keyIs_eq h.1 s]
    have hc : (s == d.1) = (d.1 == s) := by rw [Bool.eq_iff_iff]; simp; exact eq_comm
    rw [hc]
    cases hb : (d.1 == s) with
    | true => simp
    | false =>
      simp only [Bool.false_eq_true, if_false]
      rw [findNow_int s es L (i + 1) h.2]
      cases es.findIdx? (keyIs s) with
      | none => rfl
      | some j =>
        simp only [Option.bind_some, Option.map_some]
        rw [List.getElem?_cons_succ]
        congr 1
        cases es[j]? with
        | none => rfl
        | some e => simp; omega
  | [], _ :: _, _, h => h.elim
  | _ :: _, [], _, h => h.elim
theorem findIdx_find {α : Type} (p : α → Bool) : ∀ (l : List α), (l.findIdx? p).bind (fun j => l[j]?) = l.find? p
  | [] => rfl
  | x :: l => by
    rw [List.findIdx?_cons, List.find?_cons]
    cases h : p x with
    | true => simp
    | false =>
      simp only [Bool.false_eq_true, if_false]
      rw [← findIdx_find p l]
      cases l.findIdx? p <;> rfl
theorem EntsR.find {F Fe : Nat → Prop} {lab : Nat → Int × Nat} {e1 e2 : TypeId} {w : World} (s : Int) : ∀ (es : List MapEntry) (L : List DRow), EntsR F Fe lab e1 e2 w es L →
    (hasK L s = false ∧ es.find? (keyIs s) = none ∧ es.findIdx? (keyIs s) = none) ∨ (hasK L s = true ∧ (getK L s).1 = s ∧ ∃ m, es.find? (keyIs s) = some m ∧ EntRel F Fe lab e1 e2 m (getK L s) w)
  | [], [], _ => .inl ⟨rfl, rfl, rfl⟩
  | m :: es, d :: L, h => by
    have hk := keyIs_eq h.1 s
    unfold hasK getK
    rw [List.any_cons, List.find?_cons, List.find?_cons, List.findIdx?_cons, hk]
    cases hb : (d.1 == s) with
    | true => exact .inr ⟨rfl, by simpa using hb, m, rfl, h.1⟩
    | false =>
      rcases EntsR.find s es L h.2 with ⟨h1, h2, h3⟩ | h1
      · exact .inl ⟨h1, h2, by rw [h3]; rfl⟩
      · exact .inr h1
  | [], _ :: _, h => h.elim
  | _ :: _, [], h => h.elim

/-- A map's memory. -/
def MpRel (F Fe : Nat → Prop) (e1 e2 : TypeId) (L : List DRow) (v : Value) (w : World) : Prop :=
  ∃ m es c lab, v = .map (some m) ∧ w.heap[m]? = some (.map es c) ∧ F m ∧ (lab m).2 = 3 ∧ EntsR F Fe lab e1 e2 w es.toList L ∧ (L.map (·.1)).Nodup ∧ ∀ e ∈ es.toList, e.born < c
theorem MpRel.stab {F Fe F' Fe' : Nat → Prop} {e1 e2 : TypeId} {L : List DRow} {v : Value} {w w' : World} (hs : w.heap.size ≤ w'.heap.size)
    (hk : ∀ b, b < w.heap.size → F b → w'.heap[b]? = w.heap[b]? ∧ F' b) (hk' : ∀ b, b < w.heap.size → Fe b → w'.heap[b]? = w.heap[b]? ∧ Fe' b) (h : MpRel F Fe e1 e2 L v w) : MpRel F' Fe' e1 e2 L v w' := by
  obtain ⟨m, es, c, lab, h1, h2, h3, h4, h5, h6, h7⟩ := h
  have hlt : m < w.heap.size := (Array.getElem?_eq_some_iff.1 h2).1
  exact ⟨m, es, c, lab, h1, by rw [(hk m hlt h3).1]; exact h2, (hk m hlt h3).2, h4, h5.stab hs _ _ (fun d _ b hb hF _ _ => ⟨(hk b hb hF).1, (hk b hb hF).2, rfl⟩) hk', h6, h7⟩
def Fact.mpd (q : Nat) (te : List Nat) (e1 e2 : TypeId) (L : List DRow) : Fact where
  tags := q :: te
  ids := [q]
  p := fun g _ w => MpRel (fun b => g.om b = q) (fun b => g.om b ∈ te) e1 e2 L (g.ga q) w
  stab := fun g g' v w w' hk h => by
    rw [hk.ids q (by simp)]
    exact h.stab hk.size (fun b hb hF => by
      obtain ⟨k1, k2⟩ := hk.block b hb (by rw [hF]; simp)
      exact ⟨k1, by rw [k2]; exact hF⟩) (fun b hb hF => by
      obtain ⟨k1, k2⟩ := hk.block b hb (List.mem_cons_of_mem _ hF)
      exact ⟨k1, by rw [k2]; exact hF⟩)
/-- What is found in a map for a number. -/
def Fact.lkp (q : Nat) (s : Int) : Fact where
  tags := [q]
  ids := [q]
  p := fun g v w => ∃ m es c, g.ga q = .map (some m) ∧ w.heap[m]? = some (.map es c) ∧ g.om m = q ∧ v = lkV s es.toList
  stab := fun g g' v w w' hk h => by
    obtain ⟨m, es, c, h1, h2, h3, h4⟩ := h
    have hlt : m < w.heap.size := (Array.getElem?_eq_some_iff.1 h2).1
    obtain ⟨k1, k2⟩ := hk.block m hlt (by rw [h3]; simp)
    exact ⟨m, es, c, by rw [hk.ids q (by simp)]; exact h1, by rw [k1]; exact h2, by rw [k2]; exact h3, h4⟩
theorem Has.mpdM {G : List It} {x : Operand} {q : Nat} {te te' : List Nat} {e1 e2 : TypeId} {L : List DRow} (h : Has G x (.mpd q te e1 e2 L)) (hT : subB te te' = true) : Has G x (.mpd q te' e1 e2 L) := fun a w g hf =>
  MpRel.stab (Nat.le_refl _) (fun _ _ h => ⟨rfl, h⟩) (fun _ _ h => ⟨rfl, subB_spec hT _ h⟩) (h a w g hf)

/-- What is known of a lookup and its map together. -/
theorem lkp_mpd {g : Gh} {w : World} {q : Nat} {te : List Nat} {e1 e2 : TypeId} {L : List DRow} {s : Int} {u v : Value} (h : (Fact.lkp q s).p g v w) (k : (Fact.mpd q te e1 e2 L).p g u w) :
    (hasK L s = false ∧ v = .pointer none) ∨ (hasK L s = true ∧ ∃ p ty sv bv, v = .pointer (some ⟨p, 0, none⟩) ∧ w.heap[p]? = some (.cells #[.int .i64 s, sv, bv, .slice none 0 0] ty (0, 0)) ∧ g.om p = q ∧
      OwRel (fun b => g.om b = q) (fun _ => False) e1 (getK L s).2.1 sv w ∧ OwRel (fun b => g.om b = q) (fun b => g.om b ∈ te) e2 (getK L s).2.2 bv w) := by
  obtain ⟨m, es, c, h1, h2, h3, rfl⟩ := h
  obtain ⟨m', es', c', lab, k1, k2, k3, k4, k5, k6, k7⟩ := k
  rw [h1] at k1
  cases k1
  rw [h2] at k2
  cases k2
  unfold lkV
  rcases k5.find s with ⟨q1, q2, _⟩ | ⟨q1, q3, m1, q2, _, p, ty, sv, bv, r1, r2, r3, r4, r5, r6⟩
  · rw [q2]; exact .inl ⟨q1, rfl⟩
  · rw [q2]
    rw [q3] at r2
    exact .inr ⟨q1, p, ty, sv, bv, r1, r2, r3, r5.stab (Nat.le_refl _) (fun b _ h => ⟨rfl, h.1⟩) (fun _ _ h => h.elim), r6.stab (Nat.le_refl _) (fun b _ h => ⟨rfl, h.1⟩) (fun _ _ h => ⟨rfl, h⟩)⟩

/-! ### closed facts on map types -/
structure MapTy (P : Program) (t kt et : TypeId) : Prop where
  und : P.underlying t = some (.map kt et)
  key : P.underlying kt = some (.int .i64)
  zero : ∃ i, P.info? et = some i ∧ i.zero = some (.pointer none)

section
variable {X : Cx} {G : List It} {dO : Option Nat} {d : Nat} {ty : TypeId} {pos : String} {af : Array Edge} {gd : Option (Nat × Bool)}
theorem run_lookup_map {P : Program} {t kt et : TypeId} (ht : MapTy P t kt et) {w : World} {m c : Nat} {es : Array MapEntry} (hm : w.heap[m]? = some (.map es c)) {F Fe : Nat → Prop} {lab : Nat → Int × Nat} {e1 e2 : TypeId} {L : List DRow} (h : EntsR F Fe lab e1 e2 w es.toList L) (s : Int) :
    (Instr.lookup t (.map (some m)) (.int .i64 s) false).run P w = .ok (lkV s es.toList) w := by
  obtain ⟨i, hi, hz⟩ := ht.zero
  have hck : ∀ b, (Instr.checkKey b 10000 kt (.int .i64 s)).run P w = .ok () w := fun b => MapKept.run_checkKey ht.key (by simp [MapKept.IsKey]) b 9999
  have hfk : (Instr.findKey kt (.int .i64 s) es.toList).run P w = .ok ((es.toList.findIdx? (keyIs s)).bind fun j => (es.toList[j]?).map fun e => (0 + j, e.val)) w := by
    unfold Instr.findKey
    simp only [Sem.run_bind, run_underlying ht.key, Result.andThen_ok]
    rw [findNow_int s es.toList L 0 h]
    rfl
  have hf := findIdx_find (keyIs s) es.toList
  have hzv : (zeroValue et).run P w = .ok (.pointer none) w := by
    simp [zeroValue, typeInfo, hi, hz]
  unfold Instr.lookup
  simp only [Sem.run_bind, run_underlying ht.und, Result.andThen_ok, MapKept.run_getObj_map hm, Sem.run_pure, hck, hfk]
  unfold lkV
  rw [← hf]
  cases es.toList.findIdx? (keyIs s) with
  | none => simp [hzv]
  | some j =>
    simp only [Option.bind_some]
    cases es.toList[j]? with
    | none => simp [hzv]
    | some e => simp
theorem Spec.lookupD {x k : Operand} {t kt et : TypeId} {q : Nat} {te : List Nat} {e1 e2 : TypeId} {L : List DRow} {s : Int} {T : List Nat} (ht : MapTy X.P t kt et) (hx : Has G x (.isv q)) (hm : look G (rs q) = some (.mpd q te e1 e2 L)) (hk : Has G k (Fact.rep T s)) :
    Spec X G ⟨dO, .lookup t x k false, ty, pos, af, gd⟩ (.lkp q s) :=
  Spec.pure fun a w g hf => by
    have hv : a.eval x = g.ga q := hx a w g hf
    have h1 := rep_int.1 (hk a w g hf)
    obtain ⟨m, es, c, lab, k1, k2, k3, k4, k5, k6, k7⟩ := hf _ _ hm
    refine ⟨lkV s es.toList, ?_, m, es, c, k1, k2, k3, rfl⟩
    have := run_lookup_map (P := X.P) ht k2 k5 s
    unfold execOp
    simp [hv, k1, h1, this]
theorem run_eqIn_ptr_nil {P : Program} (w : World) (n : Nat) {t e : TypeId} (h : P.underlying t = some (.pointer e)) (a : Option Addr) : (Op.equalIn (n + 1) t (.pointer a) (.pointer none)).run P w = .ok a.isNone w := by
  cases a <;> simp [Op.equalIn, run_underlying h]
theorem run_eq_ptr_nil {P : Program} (w : World) {t e : TypeId} (h : P.underlying t = some (.pointer e)) (a : Option Addr) : (Op.equal t (.pointer a) (.pointer none)).run P w = .ok a.isNone w := run_eqIn_ptr_nil w 9999 h a
theorem Spec.eqlLk {x : Operand} {t t' e : TypeId} {q : Nat} {te : List Nat} {e1 e2 : TypeId} {L : List DRow} {s : Int} (ht : X.P.underlying t = some (.pointer e)) (hx : Has G x (.lkp q s)) (hm : look G (rs q) = some (.mpd q te e1 e2 L)) :
    Spec X G ⟨dO, .binOp .eql t x (.const (.pointer none)) t', ty, pos, af, gd⟩ (Fact.rep [] (!hasK L s)) :=
  Spec.pure fun a w g hf => by
    refine ⟨.bool (!hasK L s), ?_, rep_bool.2 rfl⟩
    rcases lkp_mpd (hx a w g hf) (hf _ _ hm) with ⟨h1, h2⟩ | ⟨h1, p, _, _, _, h2, _⟩
    · have hg : eqGuard .eql t x (.const (.pointer none)) (.pointer none) (.pointer none) = Pure.pure () := rfl
      unfold execOp
      simp [h2, eval_const, hg, binOp, run_eq_ptr_nil w ht, h1]
    · have hg : eqGuard .eql t x (.const (.pointer none)) (.pointer (some ⟨p, 0, none⟩)) (.pointer none) = Pure.pure () := rfl
      unfold execOp
      simp [h2, eval_const, hg, binOp, run_eq_ptr_nil w ht, h1]
theorem Spec.neqLk {x : Operand} {t t' e : TypeId} {q : Nat} {te : List Nat} {e1 e2 : TypeId} {L : List DRow} {s : Int} (ht : X.P.underlying t = some (.pointer e)) (hx : Has G x (.lkp q s)) (hm : look G (rs q) = some (.mpd q te e1 e2 L)) :
    Spec X G ⟨dO, .binOp .neq t x (.const (.pointer none)) t', ty, pos, af, gd⟩ (Fact.rep [] (hasK L s)) :=
  Spec.pure fun a w g hf => by
    refine ⟨.bool (hasK L s), ?_, rep_bool.2 rfl⟩
    rcases lkp_mpd (hx a w g hf) (hf _ _ hm) with ⟨h1, h2⟩ | ⟨h1, p, _, _, _, h2, _⟩
    · have hg : eqGuard .neq t x (.const (.pointer none)) (.pointer none) (.pointer none) = Pure.pure () := rfl
      unfold execOp
      simp [h2, eval_const, hg, binOp, run_eq_ptr_nil w ht, h1]
    · have hg : eqGuard .neq t x (.const (.pointer none)) (.pointer (some ⟨p, 0, none⟩)) (.pointer none) = Pure.pure () := rfl
      unfold execOp
      simp [h2, eval_const, hg, binOp, run_eq_ptr_nil w ht, h1]
end
end
end GL

namespace GL
section
open Go

def newK (L : List DRow) (s : Int) : Option (List DRow) := if hasK L s = true then none else some (L ++ [(s, [], [])])
def gotK (L : List DRow) (s : Int) : Option DRow := if hasK L s = true then some (getK L s) else none

/-! ### entries taken away and put behind -/
theorem delK_none {L : List DRow} {s : Int} (h : hasK L s = false) : delK L s = L := by
  unfold delK
  rw [List.filter_eq_self]
  intro d hd
  unfold hasK at h
  have := List.any_eq_false.1 h d hd
  simpa using this
theorem EntsR.erase {F Fe : Nat → Prop} {lab : Nat → Int × Nat} {e1 e2 : TypeId} {w : World} (s : Int) : ∀ (es : List MapEntry) (L : List DRow) (j : Nat), EntsR F Fe lab e1 e2 w es L → (L.map (·.1)).Nodup → es.findIdx? (keyIs s) = some j →
    EntsR F Fe lab e1 e2 w (es.eraseIdx j) (delK L s) ∧ j < es.length
  | [], _, j, _, _, hj => by cases hj
  | m :: es, [], _, h, _, _ => h.elim
  | m :: es, d :: L, j, h, hn, hj => by
    rw [List.findIdx?_cons, keyIs_eq h.1 s] at hj
    rw [List.map_cons, List.nodup_cons] at hn
    cases hb : (d.1 == s) with
    | true =>
      rw [hb] at hj
      simp only [if_true, Option.some.injEq] at hj
      subst hj
      have hd : d.1 = s := by simpa using hb
      have h0 : hasK L s = false := by
        unfold hasK
        rw [List.any_eq_false]
        intro x hx hq
        have hx1 : x.1 = s := by simpa using hq
        exact hn.1 (List.mem_map.2 ⟨x, hx, by rw [hx1, hd]⟩)
      have : delK (d :: L) s = L := by
        show List.filter _ (d :: L) = L
        rw [List.filter_cons, hb]
        exact delK_none h0
      rw [this]
      exact ⟨h.2, by simp⟩
    | false =>
      rw [hb] at hj
      simp only [Bool.false_eq_true, if_false, Option.map_eq_some_iff] at hj
      obtain ⟨j', hj', rfl⟩ := hj
      obtain ⟨h1, h2⟩ := EntsR.erase s es L j' h.2 hn.2 hj'
      have : delK (d :: L) s = d :: delK L s := by
        show List.filter _ (d :: L) = _
        rw [List.filter_cons, hb]; rfl
      rw [this, List.eraseIdx_cons_succ]
      exact ⟨⟨h.1, h1⟩, by simpa using h2⟩
theorem delK_nodup {L : List DRow} {s : Int} (h : (L.map (·.1)).Nodup) : ((delK L s).map (·.1)).Nodup := by
  unfold delK
  exact (List.Sublist.map _ List.filter_sublist).nodup h
theorem EntsR.app {F Fe : Nat → Prop} {lab : Nat → Int × Nat} {e1 e2 : TypeId} {w : World} : ∀ (es es' : List MapEntry) (L L' : List DRow), EntsR F Fe lab e1 e2 w es L → EntsR F Fe lab e1 e2 w es' L' → EntsR F Fe lab e1 e2 w (es ++ es') (L ++ L')
  | [], _, [], _, _, k => k
  | _ :: es, es', _ :: L, L', h, k => ⟨h.1, EntsR.app es es' L L' h.2 k⟩
  | [], _, _ :: _, _, h, _ => h.elim
  | _ :: _, _, [], _, h, _ => h.elim

/-! ### a map with one entry apart -/
def EntsH (F Fe : Nat → Prop) (lab : Nat → Int × Nat) (e1 e2 : TypeId) (w : World) (s : Int) (pv : Value) : List MapEntry → List DRow → Prop
  | [], [] => True
  | m :: es, d :: L => (d.1 ≠ s → EntRel F Fe lab e1 e2 m d w) ∧ (d.1 = s → m.key = .int .i64 s ∧ m.val = pv) ∧ EntsH F Fe lab e1 e2 w s pv es L
  | _, _ => False
theorem EntsH.stab {F Fe F' Fe' : Nat → Prop} {lab lab' : Nat → Int × Nat} {e1 e2 : TypeId} {w w' : World} {s : Int} {pv : Value} (hs : w.heap.size ≤ w'.heap.size) :
    ∀ (es : List MapEntry) (L : List DRow), (∀ d ∈ L, d.1 ≠ s → ∀ b, b < w.heap.size → F b → (lab b).1 = d.1 → (lab b).2 ≤ 2 → w'.heap[b]? = w.heap[b]? ∧ F' b ∧ lab' b = lab b) → (∀ b, b < w.heap.size → Fe b → w'.heap[b]? = w.heap[b]? ∧ Fe' b) →
    EntsH F Fe lab e1 e2 w s pv es L → EntsH F' Fe' lab' e1 e2 w' s pv es L
  | [], [], _, _, _ => trivial
  | m :: es, d :: L, hk, hk', h => ⟨fun hd => (h.1 hd).stab hs (hk d (List.mem_cons_self ..) hd) hk', h.2.1, EntsH.stab hs es L (fun d hd => hk d (List.mem_cons_of_mem _ hd)) hk' h.2.2⟩
  | [], _ :: _, _, _, h => h.elim
  | _ :: _, [], _, _, h => h.elim
theorem EntsR.toH {F Fe : Nat → Prop} {lab : Nat → Int × Nat} {e1 e2 : TypeId} {w : World} {s : Int} {pv : Value} : ∀ (es : List MapEntry) (L : List DRow), EntsR F Fe lab e1 e2 w es L → (L.map (·.1)).Nodup → (hasK L s = true → lkV s es = pv) → EntsH F Fe lab e1 e2 w s pv es L
  | [], [], _, _, _ => trivial
  | m :: es, d :: L, h, hn, hv => by
    rw [List.map_cons, List.nodup_cons] at hn
    have hk := keyIs_eq h.1 s
    refine ⟨fun _ => h.1, fun hd => ?_, ?_⟩
    · have hb : (d.1 == s) = true := by simpa using hd
      have h1 : lkV s (m :: es) = pv := hv (by unfold hasK; rw [List.any_cons, hb]; rfl)
      unfold lkV at h1
      rw [List.find?_cons, hk, hb] at h1
      exact ⟨by rw [h.1.1, hd], h1⟩
    · refine EntsR.toH es L h.2 hn.2 (fun hL => ?_)
      have hb : (d.1 == s) = false := by
        cases hb : (d.1 == s) with
        | false => rfl
        | true =>
          unfold hasK at hL
          obtain ⟨x, hx, hq⟩ := List.any_eq_true.1 hL
          exact absurd (List.mem_map.2 ⟨x, hx, by have h1 : x.1 = s := by simpa using hq
                                                  have h2 : d.1 = s := by simpa using hb
                                                  rw [h1, h2]⟩) hn.1
      have h1 : lkV s (m :: es) = pv := hv (by unfold hasK at hL ⊢; rw [List.any_cons, hb, hL]; rfl)
      unfold lkV at h1 ⊢
      rw [List.find?_cons, hk, hb] at h1
      exact h1
  | [], _ :: _, h, _, _ => h.elim
  | _ :: _, [], h, _, _ => h.elim
/-- The entry put back. -/
theorem EntsH.back {F Fe : Nat → Prop} {lab : Nat → Int × Nat} {e1 e2 : TypeId} {w : World} {s : Int} {pv : Value} {dn : DRow} (hd1 : dn.1 = s) (hp : ∀ m : MapEntry, m.key = .int .i64 s → m.val = pv → EntRel F Fe lab e1 e2 m dn w) :
    ∀ (es : List MapEntry) (L : List DRow), EntsH F Fe lab e1 e2 w s pv es L → EntsR F Fe lab e1 e2 w es (putK L s dn)
  | [], [], _ => trivial
  | m :: es, d :: L, h => by
    show EntsR F Fe lab e1 e2 w (m :: es) ((bif d.1 == s then dn else d) :: putK L s dn)
    refine ⟨?_, EntsH.back hd1 hp es L h.2.2⟩
    cases hb : (d.1 == s) with
    | true => obtain ⟨k1, k2⟩ := h.2.1 (by simpa using hb); exact hp m k1 k2
    | false => exact h.1 (by simpa using hb)
  | [], _ :: _, h => h.elim
  | _ :: _, [], h => h.elim
theorem putK_keys {L : List DRow} {s : Int} {dn : DRow} (h : dn.1 = s) : (putK L s dn).map (·.1) = L.map (·.1) := by
  unfold putK
  rw [List.map_map]
  refine List.map_congr_left (fun d _ => ?_)
  show (bif d.1 == s then dn else d).1 = d.1
  cases hb : (d.1 == s) with
  | true => rw [cond_true, h]; exact (by simpa using hb : d.1 = s).symm
  | false => rfl
def MphRel (F Fe : Nat → Prop) (e1 e2 : TypeId) (L : List DRow) (s : Int) (pv v : Value) (w : World) : Prop :=
  ∃ m es c lab, v = .map (some m) ∧ w.heap[m]? = some (.map es c) ∧ F m ∧ (lab m).2 = 3 ∧ EntsH F Fe lab e1 e2 w s pv es.toList L ∧ (L.map (·.1)).Nodup ∧ ∀ e ∈ es.toList, e.born < c
def Fact.mph (q : Nat) (te : List Nat) (e1 e2 : TypeId) (L : List DRow) (s : Int) (u : Nat) : Fact where
  tags := q :: te
  ids := [q, u]
  p := fun g _ w => MphRel (fun b => g.om b = q) (fun b => g.om b ∈ te) e1 e2 L s (g.ga u) (g.ga q) w
  stab := fun g g' v w w' hk h => by
    rw [hk.ids q (by simp), hk.ids u (by simp)]
    obtain ⟨m, es, c, lab, h1, h2, h3, h4, h5, h6, h7⟩ := h
    have hlt : m < w.heap.size := (Array.getElem?_eq_some_iff.1 h2).1
    obtain ⟨k1, k2⟩ := hk.block m hlt (by rw [h3]; simp)
    exact ⟨m, es, c, lab, h1, by rw [k1]; exact h2, by show g'.om m = q; rw [k2]; exact h3, h4, h5.stab hk.size _ _ (fun d _ _ b hb hF _ _ => by
      obtain ⟨k1, k2⟩ := hk.block b hb (by rw [hF]; simp)
      exact ⟨k1, by show g'.om b = q; rw [k2]; exact hF, rfl⟩) (fun b hb hF => by
      obtain ⟨k1, k2⟩ := hk.block b hb (List.mem_cons_of_mem _ hF)
      exact ⟨k1, by rw [k2]; exact hF⟩), h6, h7⟩
/-- A map with a new entry, and nothing put there yet. -/
def Fact.mpe (q : Nat) (te : List Nat) (e1 e2 : TypeId) (L : List DRow) (s : Int) : Fact where
  tags := q :: te
  ids := [q]
  p := fun g _ w => ∃ (m : Nat) (es : Array MapEntry) (c : Nat) (lab : Nat → Int × Nat), g.ga q = .map (some m) ∧ w.heap[m]? = some (.map (es.push ⟨.int .i64 s, .pointer none, c⟩) (c + 1)) ∧ g.om m = q ∧ (lab m).2 = 3 ∧ EntsR (fun b => g.om b = q) (fun b => g.om b ∈ te) lab e1 e2 w es.toList L ∧ (L.map (·.1)).Nodup ∧ (∀ e ∈ es.toList, e.born < c) ∧ hasK L s = false
  stab := fun g g' v w w' hk h => by
    rw [hk.ids q (by simp)]
    obtain ⟨m, es, c, lab, h1, h2, h3, h4, h5, h6, h7⟩ := h
    have hlt : m < w.heap.size := (Array.getElem?_eq_some_iff.1 h2).1
    obtain ⟨k1, k2⟩ := hk.block m hlt (by rw [h3]; simp)
    exact ⟨m, es, c, lab, h1, by rw [k1]; exact h2, by rw [k2]; exact h3, h4, h5.stab hk.size _ _ (fun d _ b hb hF _ _ => by
      obtain ⟨k1, k2⟩ := hk.block b hb (by rw [hF]; simp)
      exact ⟨k1, by show g'.om b = q; rw [k2]; exact hF, rfl⟩) (fun b hb hF => by
      obtain ⟨k1, k2⟩ := hk.block b hb (List.mem_cons_of_mem _ hF)
      exact ⟨k1, by rw [k2]; exact hF⟩), h6, h7⟩
/-- The number by which a map knows its last entry. -/
def Fact.stp (q : Nat) : Fact where
  tags := [q]
  ids := [q]
  p := fun g v w => ∃ m es c, g.ga q = .map (some m) ∧ w.heap[m]? = some (.map es (c + 1)) ∧ g.om m = q ∧ v = goInt c
  stab := fun g g' v w w' hk h => by
    obtain ⟨m, es, c, h1, h2, h3, h4⟩ := h
    have hlt : m < w.heap.size := (Array.getElem?_eq_some_iff.1 h2).1
    obtain ⟨k1, k2⟩ := hk.block m hlt (by rw [h3]; simp)
    exact ⟨m, es, c, by rw [hk.ids q (by simp)]; exact h1, by rw [k1]; exact h2, by rw [k2]; exact h3, h4⟩
theorem Has.mphM {G : List It} {x : Operand} {q u : Nat} {te te' : List Nat} {e1 e2 : TypeId} {L : List DRow} {s : Int} (h : Has G x (.mph q te e1 e2 L s u)) (hT : subB te te' = true) : Has G x (.mph q te' e1 e2 L s u) := fun a w g hf => by
  obtain ⟨m, es, c, lab, h1, h2, h3, h4, h5, h6, h7⟩ := h a w g hf
  exact ⟨m, es, c, lab, h1, h2, h3, h4, h5.stab (Nat.le_refl _) _ _ (fun d _ _ b hb hF _ _ => ⟨rfl, hF, rfl⟩) (fun b hb hF => ⟨rfl, subB_spec hT _ hF⟩), h6, h7⟩

/-! ### one block of the heap anew -/
def setB (w : World) (m : Nat) (o : Obj) : World := { w with heap := w.heap.setIfInBounds m o }
theorem setB_size (w : World) (m : Nat) (o : Obj) : (setB w m o).heap.size = w.heap.size := by simp [setB]
theorem setB_same {w : World} {m : Nat} {o o' : Obj} (h : w.heap[m]? = some o) : (setB w m o').heap[m]? = some o' := by
  have := (Array.getElem?_eq_some_iff.1 h).1
  simp [setB, this]
theorem setB_other (w : World) (m : Nat) (o : Obj) (k : Nat) (h : k ≠ m) : (setB w m o).heap[k]? = w.heap[k]? := by
  show (w.heap.setIfInBounds m o)[k]? = _
  rw [Array.getElem?_setIfInBounds]
  rw [if_neg (fun e => h e.symm)]

section
variable {X : Cx} {G : List It} {dO : Option Nat} {d : Nat} {ty : TypeId} {pos : String} {af : Array Edge} {gd : Option (Nat × Bool)}
theorem Step.makeMapD {t : TypeId} (q : Nat) (e1 e2 : TypeId) (hq : Nat.ble 10 q = true) (hd : Nat.blt d X.n = true) :
    Step X G ⟨some d, .makeMap t none, ty, pos, af, none⟩ [.fact d (.isv q), .fact (rs q) (.mpd q [] e1 e2 []), .killId q] := fun G' _ a w env K Q hK => by
  have ht' : 10 ≤ q := by simpa using hq
  have hd' : d < X.n := by simpa [Nat.blt_eq] using hd
  obtain ⟨g, hg, hf'⟩ := env.facts
  have hrun : (execOp a.eval ⟨some d, .makeMap t none, ty, pos, af, none⟩).run X.P w = .ok (.value (.map (some w.heap.size))) (w.alloc (.map #[] 0)) := by
    have hmk : (Instr.makeMap t none).run X.P w = .ok (.map (some w.heap.size)) (w.alloc (.map #[] 0)) := rfl
    unfold execOp
    simp [hmk]
  unfold Oper.wp
  rw [hrun]
  refine hK (.map (some w.heap.size)) _ ?_
  have hb : ∀ b, b < w.heap.size → (w.alloc (.map #[] 0)).heap[b]? = w.heap[b]? := fun b hb => RowKit.Below.heap_alloc w _ b hb
  refine ⟨by simp [Act.put, env.size], env.defers, Fr.own env.fr hg ht' (.inr trivial) rfl rfl rfl (by simp) (fun b hb' _ => hb b hb'), ghOwn g w.heap.size q (.map (some w.heap.size)), hg.own ht' env.fr.size, ?_⟩
  refine Facts.put (by rw [env.size]; exact hd') ?_ (by simp [Fact.isv, ghOwn])
  refine Facts.ghost ?_ (fun v => ⟨w.heap.size, #[], 0, fun _ => (0, 3), by simp [ghOwn], heap_alloc_new w _, by simp [ghOwn], rfl, trivial, List.nodup_nil, by simp⟩)
  exact facts_killedId hf' (by simp) hb (fun b hb => by simp [ghOwn, hb]) (fun s hs => by simp [ghOwn, hs])

theorem tag_ne {g : Gh} {m b q : Nat} {te : List Nat} (hte : te.elem q = false) (hm : g.om m = q) (hb : g.om b ∈ te) : b ≠ m := fun he => by
  subst he
  rw [hm] at hb
  have : te.elem q = true := by simpa using hb
  rw [hte] at this; cases this
theorem lab_ne {lab : Nat → Int × Nat} {m b : Nat} (hm : (lab m).2 = 3) (hb : (lab b).2 ≤ 2) : b ≠ m := fun he => by subst he; omega

/-- What is shown of a step that turns one block of tag q into another one. -/
theorem env_setB {G' : List It} {a : Act} {w : World} {g : Gh} {q m : Nat} {o : Obj} {f : Fact} {dst : Option Nat} {v : Value} {fd : List It} (env : Env X G' a w) (hg : GhE X w g) (hf' : Facts G' g a w) (ht' : 10 ≤ q) (hm : g.om m = q)
    (hfd : ∀ H, Facts H g a (setB w m o) → Facts (fd ++ H) g (a.put dst v) (setB w m o)) (hp : ∀ v, f.p g v (setB w m o)) : Env X (fd ++ .fact (rs q) f :: .kill q :: G') (a.put dst v) (setB w m o) := by
  have hb : ∀ b, b < w.heap.size → g.om b ≠ q → (setB w m o).heap[b]? = w.heap[b]? := fun b _ hne => setB_other w m o b (fun h => hne (by rw [h]; exact hm))
  have hs := setB_size w m o
  refine ⟨?_, ?_, Fr.own env.fr hg ht' (.inr trivial) rfl rfl rfl (by rw [hs]; exact Nat.le_refl _) hb, g, ⟨⟨hg.ok.old, fun b h1 h2 => hg.ok.new b h1 (by rw [hs] at h2; exact h2)⟩, hg.om⟩, ?_⟩
  · cases dst <;> simp [Act.put, env.size]
  · cases dst <;> exact env.defers
  · exact hfd _ (Facts.ghost (facts_killed' hf' (by rw [hs]; exact Nat.le_refl _) hb) hp)

theorem Step.deleteD {x k : Operand} {mt kt et kt' : TypeId} {q : Nat} {te : List Nat} {e1 e2 : TypeId} {L : List DRow} {s : Int} {T : List Nat} (ht : MapTy X.P mt kt et) (hq : Nat.ble 10 q = true) (hte : te.elem q = false)
    (hx : Has G x (.isv q)) (hm : look G (rs q) = some (.mpd q te e1 e2 L)) (hk : Has G k (Fact.rep T s)) :
    Step X G ⟨none, .call { callee := .builtin .delete, args := #[x, k], argTypes := #[mt, kt'] }, ty, pos, af, none⟩ [.fact (rs q) (.mpd q te e1 e2 (delK L s)), .kill q] := fun G' hsub a w env K Q hK => by
  have ht' : 10 ≤ q := by simpa using hq
  obtain ⟨g, hg, hf'⟩ := env.facts
  have hf := hsub a w g hf'
  have hv : a.eval x = g.ga q := hx a w g hf
  have h1 := rep_int.1 (hk a w g hf)
  obtain ⟨m, es, c, lab, k1, k2, k3, k4, k5, k6, k7⟩ := hf _ _ hm
  have hck : ∀ b, (Instr.checkKey b 10000 kt (.int .i64 s)).run X.P w = .ok () w := fun b => MapKept.run_checkKey ht.key (by simp [MapKept.IsKey]) b 9999
  have hfk : (Instr.findKey kt (.int .i64 s) es.toList).run X.P w = .ok ((es.toList.findIdx? (keyIs s)).bind fun j => (es.toList[j]?).map fun e => (0 + j, e.val)) w := by
    unfold Instr.findKey
    simp only [Sem.run_bind, run_underlying ht.key, Result.andThen_ok]
    rw [findNow_int s es.toList L 0 k5]
    rfl
  have hset : ∀ o, (setObj m o).run X.P w = .ok () (setB w m o) := fun o => MapKept.run_setObj_map o k2
  obtain ⟨es', hes', hE⟩ : ∃ es' : Array MapEntry, (execOp a.eval ⟨none, .call { callee := .builtin .delete, args := #[x, k], argTypes := #[mt, kt'] }, ty, pos, af, none⟩).run X.P w = .ok (.value (.tuple #[])) (setB w m (.map es' c)) ∧
      EntsR (fun b => g.om b = q) (fun b => g.om b ∈ te) lab e1 e2 w es'.toList (delK L s) ∧ (∀ e ∈ es'.toList, e.born < c) := by
    cases hfi : es.toList.findIdx? (keyIs s) with
    | none =>
      refine ⟨es, ?_, ?_, k7⟩
      · rw [hfi] at hfk
        unfold execOp
        simp [resolve, invoke, builtin, hv, k1, h1, Builtin.delete_, run_underlying ht.und, MapKept.run_getObj_map k2, hck, hfk, hset]
      · rcases k5.find s with ⟨q1, _⟩ | ⟨q1, _, m1, q2, _⟩
        · rw [delK_none q1]; exact k5
        · have := findIdx_find (keyIs s) es.toList
          rw [hfi, q2] at this; cases this
    | some j =>
      obtain ⟨r1, r2⟩ := EntsR.erase s es.toList L j k5 k6 hfi
      refine ⟨es.eraseIdxIfInBounds j, ?_, ?_, ?_⟩
      · rw [hfi] at hfk
        simp only [Option.bind_some, Nat.zero_add] at hfk
        rw [List.getElem?_eq_getElem r2, Option.map_some] at hfk
        unfold execOp
        simp [resolve, invoke, builtin, hv, k1, h1, Builtin.delete_, run_underlying ht.und, MapKept.run_getObj_map k2, hck, hfk, hset]
      · have : (es.eraseIdxIfInBounds j).toList = es.toList.eraseIdx j := by
          unfold Array.eraseIdxIfInBounds
          rw [dif_pos (by simpa using r2), Array.toList_eraseIdx]
        rw [this]; exact r1
      · intro e he
        have : (es.eraseIdxIfInBounds j).toList = es.toList.eraseIdx j := by
          unfold Array.eraseIdxIfInBounds
          rw [dif_pos (by simpa using r2), Array.toList_eraseIdx]
        rw [this] at he
        exact k7 e (List.mem_of_mem_eraseIdx he)
  obtain ⟨hE1, hE2⟩ := hE
  unfold Oper.wp
  rw [hes']
  refine hK _ _ ?_
  refine env_setB (fd := []) env hg hf' ht' k3 (fun H hH => hH) (fun v => ⟨m, es', c, lab, k1, setB_same k2, k3, k4, ?_, delK_nodup k6, hE2⟩)
  refine hE1.stab (by rw [setB_size]; exact Nat.le_refl _) _ _ (fun d _ b hb hF _ hl => ⟨setB_other w m _ b (lab_ne k4 hl), hF, rfl⟩) (fun b hb hF => ⟨setB_other w m _ b (tag_ne hte k3 hF), hF⟩)
theorem Step.mapEntryD {x k : Operand} {mt kt et : TypeId} {q : Nat} {te : List Nat} {e1 e2 : TypeId} {L L' : List DRow} {s : Int} {T : List Nat} (hr : newK L s = some L') (ht : MapTy X.P mt kt et) (hd : Nat.blt d X.n = true) (hq : Nat.ble 10 q = true) (hte : te.elem q = false)
    (hx : Has G x (.isv q)) (hm : look G (rs q) = some (.mpd q te e1 e2 L)) (hk : Has G k (Fact.rep T s)) :
    Step X G ⟨some d, .mapEntry mt x k, ty, pos, af, none⟩ [.fact d (.tup2 .top (.stp q)), .fact (rs q) (.mpe q te e1 e2 L s), .kill q] := fun G' hsub a w env K Q hK => by
  have ht' : 10 ≤ q := by simpa using hq
  have hd' : d < X.n := by simpa [Nat.blt_eq] using hd
  obtain ⟨g, hg, hf'⟩ := env.facts
  have hf := hsub a w g hf'
  have hv : a.eval x = g.ga q := hx a w g hf
  have h1 := rep_int.1 (hk a w g hf)
  obtain ⟨m, es, c, lab, k1, k2, k3, k4, k5, k6, k7⟩ := hf _ _ hm
  have hn : hasK L s = false := by
    unfold newK at hr
    cases h : hasK L s with
    | false => rfl
    | true => rw [h] at hr; cases hr
  obtain ⟨i, hi, hz⟩ := ht.zero
  have hck : ∀ b, (Instr.checkKey b 10000 kt (.int .i64 s)).run X.P w = .ok () w := fun b => MapKept.run_checkKey ht.key (by simp [MapKept.IsKey]) b 9999
  have hfi : es.toList.findIdx? (keyIs s) = none := by
    rcases k5.find s with ⟨_, _, q3⟩ | ⟨q1, _⟩
    · exact q3
    · rw [hn] at q1; cases q1
  have hfk : (Instr.findKey kt (.int .i64 s) es.toList).run X.P w = .ok none w := by
    unfold Instr.findKey
    simp only [Sem.run_bind, run_underlying ht.key, Result.andThen_ok]
    rw [findNow_int s es.toList L 0 k5, hfi]
    rfl
  have hset : ∀ o, (setObj m o).run X.P w = .ok () (setB w m o) := fun o => MapKept.run_setObj_map o k2
  have hzv : (zeroValue et).run X.P w = .ok (.pointer none) w := by
    simp [zeroValue, typeInfo, hi, hz]
  have hrun : (execOp a.eval ⟨some d, .mapEntry mt x k, ty, pos, af, none⟩).run X.P w = .ok (.value (.tuple #[.pointer none, goInt c])) (setB w m (.map (es.push ⟨.int .i64 s, .pointer none, c⟩) (c + 1))) := by
    unfold execOp Instr.mapEntry
    simp [hv, k1, h1, run_underlying ht.und, MapKept.run_getObj_map k2, hck, hfk, hset, hzv]
  unfold Oper.wp
  rw [hrun]
  refine hK _ _ ?_
  refine env_setB (fd := [.fact d (.tup2 .top (.stp q))]) env hg hf' ht' k3 (fun H hH => Facts.put (by rw [env.size]; exact hd') hH ⟨_, _, rfl, trivial, m, _, c, k1, setB_same k2, k3, rfl⟩) (fun v => ⟨m, es, c, lab, k1, setB_same k2, k3, k4, ?_, k6, k7, hn⟩)
  exact k5.stab (by rw [setB_size]; exact Nat.le_refl _) _ _ (fun d _ b hb hF _ hl => ⟨setB_other w m _ b (lab_ne k4 hl), hF, rfl⟩) (fun b hb hF => ⟨setB_other w m _ b (tag_ne hte k3 hF), hF⟩)
theorem findIdx_last {es : Array MapEntry} {e : MapEntry} {c : Nat} (h : ∀ x ∈ es.toList, x.born < c) (he : e.born = c) : (es.push e).findIdx? (fun x => (x.born : Int) == (c : Int)) = some es.size := by
  rw [Array.findIdx?_push]
  have : es.findIdx? (fun x => (x.born : Int) == (c : Int)) = none := by
    rw [Array.findIdx?_eq_none_iff]
    intro x hx
    have := h x (by simpa using hx)
    simp; omega
  rw [this, he]; simp
theorem newK_keys {L L' : List DRow} {s : Int} (h : newK L s = some L') : L' = L ++ [(s, [], [])] ∧ hasK L s = false := by
  unfold newK at h
  cases hk : hasK L s with
  | true => rw [hk] at h; cases h
  | false => rw [hk] at h; cases h; exact ⟨rfl, rfl⟩
theorem hasK_notin {L : List DRow} {s : Int} (h : hasK L s = false) : s ∉ L.map (·.1) := fun hm => by
  obtain ⟨x, hx, rfl⟩ := List.mem_map.1 hm
  unfold hasK at h
  have := List.any_eq_false.1 h x hx
  simp at this
theorem EntsH.app1 {F Fe : Nat → Prop} {lab : Nat → Int × Nat} {e1 e2 : TypeId} {w : World} {s : Int} {pv : Value} {m : MapEntry} (h1 : m.key = .int .i64 s) (h2 : m.val = pv) (r : List Int × List (List UInt8)) : ∀ (es : List MapEntry) (L : List DRow), EntsH F Fe lab e1 e2 w s pv es L → EntsH F Fe lab e1 e2 w s pv (es ++ [m]) (L ++ [(s, r)])
  | [], [], _ => ⟨fun h => (h rfl).elim, fun _ => ⟨h1, h2⟩, trivial⟩
  | _ :: es, _ :: L, h => ⟨h.1, h.2.1, EntsH.app1 h1 h2 r es L h.2.2⟩
  | [], _ :: _, h => h.elim
  | _ :: _, [], h => h.elim
theorem Step.entryStoreD {x y z : Operand} {mt : TypeId} {q u : Nat} {te : List Nat} {e1 e2 : TypeId} {L L' : List DRow} {s : Int} (hr : newK L s = some L') (hq : Nat.ble 10 q = true) (hte : te.elem q = false)
    (hx : Has G x (.isv q)) (hm : look G (rs q) = some (.mpe q te e1 e2 L s)) (hy : Has G y (.stp q)) (hz : Has G z (.isv u)) :
    Step X G ⟨none, .entryStore mt x y z, ty, pos, af, none⟩ [.fact (rs q) (.mph q te e1 e2 L' s u), .kill q] := fun G' hsub a w env K Q hK => by
  have ht' : 10 ≤ q := by simpa using hq
  obtain ⟨g, hg, hf'⟩ := env.facts
  have hf := hsub a w g hf'
  have hv : a.eval x = g.ga q := hx a w g hf
  have hzv : a.eval z = g.ga u := hz a w g hf
  obtain ⟨m, es, c, lab, k1, k2, k3, k4, k5, k6, k7, k8⟩ := hf _ _ hm
  obtain ⟨m', es', c', j1, j2, j3, j4⟩ := hy a w g hf
  rw [k1] at j1
  cases j1
  rw [k2] at j2
  simp only [Option.some.injEq, Obj.map.injEq, Nat.add_right_cancel_iff] at j2
  obtain ⟨rfl, rfl⟩ := j2
  obtain ⟨rfl, _⟩ := newK_keys hr
  have hset : ∀ o, (setObj m o).run X.P w = .ok () (setB w m o) := fun o => MapKept.run_setObj_map o k2
  have hmod : (es.push ⟨.int .i64 s, .pointer none, c⟩).modify es.size (fun e => { e with val := g.ga u }) = es.push ⟨.int .i64 s, g.ga u, c⟩ := by
    apply Array.ext
    · simp
    · intro i h1 h2
      rw [Array.getElem_modify]
      by_cases hi : es.size = i
      · subst hi; simp
      · rw [if_neg hi, Array.getElem_push, Array.getElem_push]
        have : i < es.size := by simp at h2; omega
        simp [this]
  have hrun : (execOp a.eval ⟨none, .entryStore mt x y z, ty, pos, af, none⟩).run X.P w = .ok .skip (setB w m (.map (es.push ⟨.int .i64 s, g.ga u, c⟩) (c + 1))) := by
    have hfl := findIdx_last (e := ⟨.int .i64 s, .pointer none, c⟩) k7 rfl
    unfold execOp Instr.entryStore
    simp [hv, hzv, j4, k1, goInt, asInt, asIntOf, MapKept.run_getObj_map k2, hfl, hset, hmod]
  unfold Oper.wp
  rw [hrun]
  refine hK undef _ ?_
  refine env_setB (fd := []) env hg hf' ht' k3 (fun H hH => hH) (fun v => ⟨m, _, c + 1, lab, k1, setB_same k2, k3, k4, ?_, ?_, ?_⟩)
  · rw [Array.toList_push]
    have h0 := k5.toH (s := s) (pv := g.ga u) _ _ k6 (fun h => by rw [k8] at h; cases h)
    exact EntsH.app1 (m := ⟨.int .i64 s, g.ga u, c⟩) rfl rfl ([], []) es.toList L <| h0.stab (by rw [setB_size]; exact Nat.le_refl _) _ _ (fun d _ _ b hb hF _ hl => ⟨setB_other w m _ b (lab_ne k4 hl), hF, rfl⟩) (fun b hb hF => ⟨setB_other w m _ b (tag_ne hte k3 hF), hF⟩)
  · rw [List.map_append, List.nodup_append]
    refine ⟨k6, by simp, fun a ha b hb => ?_⟩
    have hb : b = s := by simpa using hb
    subst hb
    exact fun h => hasK_notin k8 (by rw [← h]; exact ha)
  · intro e he
    rw [Array.toList_push] at he
    rcases List.mem_append.1 he with he | he
    · exact Nat.lt_succ_of_lt (k7 e he)
    · rw [List.mem_singleton.1 he]; exact Nat.lt_succ_self _
end
end
end GL

namespace GL
section
open Go

theorem facts_retagI {G : List It} {g g' : Gh} {a : Act} {w : World} {T : List Nat} (ts : List Nat) (h : Facts G g a w) (hom : ∀ b, g.om b ∉ T → g'.om b = g.om b) (hga : ∀ s, s ∉ ts → g'.ga s = g.ga s) : Facts (killIds ts (killTs T G)) g' a w := fun s f hl => by
  obtain ⟨I', _, h2, h3⟩ := lookK_killIds ts (killTs T G) [] [] s f hl
  obtain ⟨K', _, h4, h5⟩ := lookK_killTs T G [] I' s f h3
  have hd := lookK_disj G K' I' s f h5
  refine f.stab g g' _ w w ⟨Nat.le_refl _, fun b _ ht => ⟨rfl, hom b (fun hT => disj_spec hd.1 (h4 _ hT) ht)⟩, fun s' hs' => hga s' (fun he => disj_spec hd.2 (h2 _ he) hs')⟩ (h s f (lookK_sub G K' [] I' [] s f (by simp) (by simp) h5))

/-- The tags behind an entry's being taken apart. -/
def omF (om : Nat → Nat) (lab : Nat → Int × Nat) (q u : Nat) (s : Int) : Nat → Nat := fun b =>
  if om b = q ∧ lab b = (s, 0) then u else if om b = q ∧ lab b = (s, 1) then u + 5 else if om b = q ∧ lab b = (s, 2) then u + 6 else om b
def gaF (ga : Nat → Value) (u : Nat) (p : Value) (s : Int) (sv bv : Value) : Nat → Value := fun i =>
  if i = u then p else if i = u + 1 then .int .i64 s else if i = u + 2 then sv else if i = u + 3 then bv else if i = u + 4 then .slice none 0 0 else ga i
theorem omF_other {om : Nat → Nat} {lab : Nat → Int × Nat} {q u b : Nat} {s : Int} (h : om b ≠ q) : omF om lab q u s b = om b := by
  unfold omF
  rw [if_neg (fun e => h e.1), if_neg (fun e => h e.1), if_neg (fun e => h e.1)]
theorem omF_lab {om : Nat → Nat} {lab : Nat → Int × Nat} {q u b : Nat} {s : Int} (h : (lab b).1 ≠ s ∨ (lab b).2 = 3) : omF om lab q u s b = om b := by
  unfold omF
  have k : ∀ n, n ≤ 2 → ¬ (om b = q ∧ lab b = (s, n)) := fun n hn e => by
    rw [e.2] at h
    rcases h with h | h
    · exact h rfl
    · simp only at h; omega
  rw [if_neg (k 0 (by omega)), if_neg (k 1 (by omega)), if_neg (k 2 (by omega))]
theorem omF_cases (om : Nat → Nat) (lab : Nat → Int × Nat) (q u : Nat) (s : Int) (b : Nat) : omF om lab q u s b = om b ∨ (om b = q ∧ u ≤ omF om lab q u s b) := by
  unfold omF
  split
  · rename_i h; exact .inr ⟨h.1, Nat.le_refl _⟩
  · split
    · rename_i h; exact .inr ⟨h.1, by omega⟩
    · split
      · rename_i h; exact .inr ⟨h.1, by omega⟩
      · exact .inl rfl

section
variable {X : Cx} {G : List It} {dO : Option Nat} {d : Nat} {ty : TypeId} {pos : String} {af : Array Edge} {gd : Option (Nat × Bool)}
/-- An entry that is found, taken apart from its map: a variable of its own. -/
theorem Ad.focusD {sl q : Nat} {te : List Nat} {e1 e2 : TypeId} {L : List DRow} {s : Int} (u : Nat) (hu : Nat.ble 10 u = true) (hq : Nat.ble 10 q = true) (hqu : Nat.blt q u = true) (hte : te.elem q = false)
    (hs : look G sl = some (.lkp q s)) (hm : look G (rs q) = some (.mpd q te e1 e2 L)) (hb : hasK L s = true) :
    Ad X G (.fact sl (.isv u) :: .fact (rs u) (.obj u [(false, 1), (false, 1), (false, 1), (false, 1)]) :: .fact (rs (u + 1)) (.at (u + 1) (Fact.rep [] s)) :: .fact (rs (u + 2)) (.at (u + 2) (Fact.ow [u + 5] [] e1 (getK L s).2.1)) ::
      .fact (rs (u + 3)) (.at (u + 3) (Fact.ow [u + 6] te e2 (getK L s).2.2)) :: .fact (rs (u + 4)) (.at (u + 4) .nilv) :: .fact (rs q) (.mph q te e1 e2 L s u) :: killIds [u, u + 1, u + 2, u + 3, u + 4] (killTs [q] G)) := fun a w env => by
  have hu' : 10 ≤ u := by simpa using hu
  have hq' : 10 ≤ q := by simpa using hq
  have hqu' : q < u := by simpa [Nat.blt_eq] using hqu
  obtain ⟨g, hg, hf⟩ := env.facts
  obtain ⟨m, es, c, h1, h2, h3, h4⟩ : ∃ m es c, g.ga q = .map (some m) ∧ w.heap[m]? = some (.map es c) ∧ g.om m = q ∧ a.tmps.getD sl undef = lkV s es.toList := hf _ _ hs
  obtain ⟨m', es', c', lab, k1, k2, k3, k4, k5, k6, k7⟩ := hf _ _ hm
  rw [h1] at k1
  cases k1
  rw [h2] at k2
  cases k2
  rcases k5.find s with ⟨q1, _⟩ | ⟨_, q3, m1, q2, _, p, ty', sv, bv, r1, r2, r3, r4, r5, r6⟩
  · rw [hb] at q1; cases q1
  rw [q3] at r2 r4 r5 r6
  have hlk : lkV s es.toList = .pointer (some ⟨p, 0, none⟩) := by unfold lkV; rw [q2]; exact r1
  let g' : Gh := ⟨omF g.om lab q u s, gaF g.ga u (.pointer (some ⟨p, 0, none⟩)) s sv bv⟩
  have e0 : g'.ga u = .pointer (some ⟨p, 0, none⟩) := if_pos rfl
  have e1' : g'.ga (u + 1) = .int .i64 s := by show gaF _ _ _ _ _ _ (u + 1) = _; unfold gaF; rw [if_neg (by omega), if_pos rfl]
  have e2' : g'.ga (u + 2) = sv := by show gaF _ _ _ _ _ _ (u + 2) = _; unfold gaF; rw [if_neg (by omega), if_neg (by omega), if_pos rfl]
  have e3' : g'.ga (u + 3) = bv := by show gaF _ _ _ _ _ _ (u + 3) = _; unfold gaF; rw [if_neg (by omega), if_neg (by omega), if_neg (by omega), if_pos rfl]
  have e4' : g'.ga (u + 4) = .slice none 0 0 := by show gaF _ _ _ _ _ _ (u + 4) = _; unfold gaF; rw [if_neg (by omega), if_neg (by omega), if_neg (by omega), if_neg (by omega), if_pos rfl]
  have eo : ∀ i, i ∉ [u, u + 1, u + 2, u + 3, u + 4] → g'.ga i = g.ga i := fun i hi => by
    simp only [List.mem_cons, List.not_mem_nil, or_false, not_or] at hi
    show gaF _ _ _ _ _ _ i = _
    unfold gaF
    rw [if_neg hi.1, if_neg hi.2.1, if_neg hi.2.2.1, if_neg hi.2.2.2.1, if_neg hi.2.2.2.2]
  have eq' : g'.ga q = g.ga q := eo q (by simp; omega)
  have hr : ∀ b, g.om b ∉ [q] → g'.om b = g.om b := fun b hb => omF_other (by simpa using hb)
  have hold : ∀ b, g.om b < 10 → g'.om b = g.om b := fun b hb => omF_other (by omega)
  refine ⟨env.size, env.defers, env.fr, g', ⟨⟨fun b hb => by rw [hold b (hg.ok.old b hb)]; exact hg.ok.old b hb, fun b h1 h2 => ?_⟩, fun b hb => by rw [hold b (hg.ok.old b hb)]; exact hg.om b hb⟩, ?_⟩
  · rcases omF_cases g.om lab q u s b with h | ⟨_, h⟩
    · show 10 ≤ omF g.om lab q u s b
      rw [h]; exact hg.ok.new b h1 h2
    · show 10 ≤ omF g.om lab q u s b
      omega
  have hbase := facts_retagI (g' := g') [u, u + 1, u + 2, u + 3, u + 4] hf hr eo
  have hte' : ∀ b, g.om b ∈ te → g'.om b ∈ te := fun b hb => by
    have : g'.om b = g.om b := omF_other (fun e => by
      rw [e] at hb
      have : te.elem q = true := by simpa using hb
      rw [hte] at this; cases this)
    rw [this]; exact hb
  have hmq : g'.om m = q := by
    have : g'.om m = g.om m := omF_lab (.inr k4)
    rw [this]; exact h3
  have hall : Facts (.fact (rs u) (.obj u [(false, 1), (false, 1), (false, 1), (false, 1)]) :: .fact (rs (u + 1)) (.at (u + 1) (Fact.rep [] s)) :: .fact (rs (u + 2)) (.at (u + 2) (Fact.ow [u + 5] [] e1 (getK L s).2.1)) ::
      .fact (rs (u + 3)) (.at (u + 3) (Fact.ow [u + 6] te e2 (getK L s).2.2)) :: .fact (rs (u + 4)) (.at (u + 4) .nilv) :: .fact (rs q) (.mph q te e1 e2 L s u) :: killIds [u, u + 1, u + 2, u + 3, u + 4] (killTs [q] G)) g' a w := by
    refine Facts.ghost (Facts.ghost (Facts.ghost (Facts.ghost (Facts.ghost (Facts.ghost hbase ?_) ?_) ?_) ?_) ?_) ?_
    · intro v
      refine ⟨m, es, c, lab, by rw [eq']; exact h1, h2, hmq, k4, ?_, k6, k7⟩
      have h0 := k5.toH (s := s) (pv := g'.ga u) _ _ k6 (fun _ => by rw [hlk, e0])
      refine h0.stab (Nat.le_refl _) _ _ (fun dd _ hds b hb hF hl1 hl2 => ⟨rfl, ?_, rfl⟩) (fun b hb hF => ⟨rfl, hte' b hF⟩)
      show omF g.om lab q u s b = q
      rw [omF_lab (.inl (by rw [hl1]; exact hds))]; exact hF
    · intro v; exact e4'
    · intro v
      show (Fact.ow [u + 6] te e2 (getK L s).2.2).p g' (g'.ga (u + 3)) w
      rw [e3']
      exact r6.stab (Nat.le_refl _) (fun b _ hF => ⟨rfl, by
        show omF g.om lab q u s b ∈ [u + 6]
        unfold omF
        rw [if_neg (by rw [hF.2]; simp), if_neg (by rw [hF.2]; simp), if_pos ⟨hF.1, hF.2⟩]; simp⟩) (fun b _ hF => ⟨rfl, hte' b hF⟩)
    · intro v
      show (Fact.ow [u + 5] [] e1 (getK L s).2.1).p g' (g'.ga (u + 2)) w
      rw [e2']
      exact r5.stab (Nat.le_refl _) (fun b _ hF => ⟨rfl, by
        show omF g.om lab q u s b ∈ [u + 5]
        unfold omF
        rw [if_neg (by rw [hF.2]; simp), if_pos ⟨hF.1, hF.2⟩]; simp⟩) (fun _ _ h => h.elim)
    · intro v
      show (Fact.rep [] s).p g' (g'.ga (u + 1)) w
      rw [e1']; exact rep_int.2 rfl
    · intro v
      refine ⟨p, ty', _, e0, r2, ?_, ?_⟩
      · show omF g.om lab q u s p = u
        unfold omF
        rw [if_pos ⟨r3, r4⟩]
      · have sl1 : ∀ {α : Type} [Rp α] {F Fe : Nat → Prop} {e : TypeId} {l : List α} {v : Value}, OwRel F Fe e l v w → v.oneCell' = true := fun h => by
          obtain ⟨xs, hown, _⟩ := h
          rcases hown.2 with ⟨hv, _⟩ | ⟨b, cap, cur, hv, _⟩ <;> rw [hv] <;> rfl
        refine ⟨[.int .i64 s], [sv, bv, .slice none 0 0], rfl, rfl, by simp [Value.oneCell'], fun _ => rfl, e1', [sv], [bv, .slice none 0 0], rfl, rfl, by simpa using sl1 r5, fun _ => rfl, e2', [bv], [.slice none 0 0], rfl, rfl, by simpa using sl1 r6, fun _ => rfl, e3', [.slice none 0 0], [], rfl, rfl, by simp [Value.oneCell'], fun _ => rfl, e4', rfl⟩
  intro s' f' hl
  rcases lookK_nil_spec hl with ⟨rfl, rfl⟩ | ⟨_, hl⟩
  · show a.tmps.getD _ undef = g'.ga u
    rw [h4, hlk, e0]
  · exact hall s' f' hl

def apartB (l : List (List Nat)) : Bool := match l with
  | [] => true
  | x :: ls => (ls.all fun y => disj x y) && apartB ls
/-- The entry put back into its map. -/
theorem Ad.unfocusD {q u : Nat} {te te' T1 T2 t1 : List Nat} {e1 e2 : TypeId} {L : List DRow} {s : Int} {l1 : List Int} {l2 : List (List UInt8)} {teO : List Nat} (hq : Nat.ble 10 q = true) (hT : all10 (u :: (T1 ++ T2)) = true) (hap : apartB [[q], [u], T1, T2, teO] = true)
    (h1O : subB te teO = true) (h2O : subB te' teO = true) (hm : look G (rs q) = some (.mph q te e1 e2 L s u)) (ho : look G (rs u) = some (.obj u [(false, 1), (false, 1), (false, 1), (false, 1)]))
    (h1 : HasG G (u + 1) (Fact.rep [] s)) (h2 : HasG G (u + 2) (Fact.ow T1 t1 e1 l1)) (h3 : HasG G (u + 3) (Fact.ow T2 te' e2 l2)) (h4 : HasG G (u + 4) .nilv) :
    Ad X G (.fact (rs q) (.mpd q teO e1 e2 (putK L s (s, l1, l2))) :: killTs (q :: u :: (T1 ++ T2)) G) := fun a w env => by
  have hq' : 10 ≤ q := by simpa using hq
  obtain ⟨g, hg, hf⟩ := env.facts
  obtain ⟨m, es, c, lab, k1, k2, k3, k4, k5, k6, k7⟩ := hf _ _ hm
  obtain ⟨p, ty', cs, j1, j2, j3, j4⟩ := hf _ _ ho
  have f1 : g.ga (u + 1) = .int .i64 s := rep_int.1 (h1 a w g hf)
  have f2 := h2 a w g hf
  have f3 := h3 a w g hf
  have f4 : g.ga (u + 4) = .slice none 0 0 := h4 a w g hf
  simp only [apartB, List.all_cons, List.all_nil, Bool.and_true, Bool.and_eq_true] at hap
  obtain ⟨⟨a1, a2, a3, a4⟩, ⟨b1, b2, b3⟩, ⟨c1, c2⟩, c3⟩ := hap
  have dj : ∀ {x y : List Nat} {n : Nat}, disj x y = true → n ∈ x → n ∉ y := fun h hx hy => disj_spec h hy hx
  let K : List Nat := q :: u :: (T1 ++ T2)
  let om' : Nat → Nat := fun b => if g.om b ∈ K then q else g.om b
  let lab' : Nat → Int × Nat := fun b => if g.om b = u then (s, 0) else if g.om b ∈ T1 then (s, 1) else if g.om b ∈ T2 then (s, 2) else lab b
  let g' : Gh := ⟨om', g.ga⟩
  have h10 : ∀ b, g.om b ∈ K → 10 ≤ g.om b := fun b hb => by
    rcases List.mem_cons.1 hb with h | h
    · rw [h]; exact hq'
    · exact all10_spec hT h
  have hold : ∀ b, g.om b < 10 → om' b = g.om b := fun b hb => if_neg (fun h => by have := h10 b h; omega)
  have hcs : cs = #[.int .i64 s, g.ga (u + 2), g.ga (u + 3), .slice none 0 0] := by
    apply Array.toList_inj.1
    obtain ⟨x1, y1, z1, l1', _, _, w1, x2, y2, z2, l2', _, _, w2, x3, y3, z3, l3', _, _, w3, x4, y4, z4, l4', _, _, w4, z5⟩ := j4
    have one : ∀ {x : List Value}, x.length = 1 → ∃ v, x = [v] := fun h => List.length_eq_one_iff.1 h
    obtain ⟨v1, rfl⟩ := one l1'
    obtain ⟨v2, rfl⟩ := one l2'
    obtain ⟨v3, rfl⟩ := one l3'
    obtain ⟨v4, rfl⟩ := one l4'
    have z5 : y4 = [] := z5
    subst z5
    have w1 : g.ga (u + 1) = v1 := w1
    have w2 : g.ga (u + 2) = v2 := w2
    have w3 : g.ga (u + 3) = v3 := w3
    have w4 : g.ga (u + 4) = v4 := w4
    rw [z1, z2, z3, z4, ← w1, ← w2, ← w3, ← w4, f1, f4]
    rfl
  have hK : ∀ b, g.om b ∉ K → om' b = g.om b := fun b hb => if_neg hb
  have hteO : ∀ b, g.om b ∈ teO → om' b ∈ teO := fun b hb => by
    have : g.om b ∉ K := fun h => by
      rcases List.mem_cons.1 h with h | h
      · exact dj a4 (show g.om b ∈ [q] by simp [h]) hb
      · rcases List.mem_cons.1 h with h | h
        · exact dj b3 (show g.om b ∈ [u] by simp [h]) hb
        · rcases List.mem_append.1 h with h | h
          · exact dj c2 h hb
          · exact dj c3 h hb
    rw [hK b this]; exact hb
  have hlab : ∀ b, g.om b = q → lab' b = lab b := fun b hb => by
    show (if g.om b = u then _ else if g.om b ∈ T1 then _ else if g.om b ∈ T2 then _ else _) = _
    have hbq : g.om b ∈ [q] := by simp [hb]
    rw [if_neg (fun h => dj a1 hbq (by simp [h])), if_neg (dj a2 hbq), if_neg (dj a3 hbq)]
  refine ⟨env.size, env.defers, env.fr, g', ⟨⟨fun b hb => by show om' b < 10; rw [hold b (hg.ok.old b hb)]; exact hg.ok.old b hb, fun b h1 h2 => ?_⟩, fun b hb => by show om' b = _; rw [hold b (hg.ok.old b hb)]; exact hg.om b hb⟩, ?_⟩
  · show 10 ≤ om' b
    show 10 ≤ (if g.om b ∈ K then q else g.om b)
    split
    · exact hq'
    · exact hg.ok.new b h1 h2
  refine Facts.ghost (facts_retagI (T := K) [] hf hK (fun _ _ => rfl)) (fun v => ?_)
  have hqK : q ∈ K := List.mem_cons_self ..
  refine ⟨m, es, c, lab', k1, k2, if_pos (by rw [k3]; exact hqK), by rw [hlab m k3]; exact k4, ?_, by rw [putK_keys (dn := (s, l1, l2)) rfl]; exact k6, k7⟩
  have hbk : EntsH (fun b => om' b = q) (fun b => om' b ∈ teO) lab' e1 e2 w s (g.ga u) es.toList L := k5.stab (Nat.le_refl _) _ _ (fun dd _ _ b hb hF _ _ => by
      have hF : g.om b = q := hF
      exact ⟨rfl, if_pos (by rw [hF]; exact hqK), hlab b hF⟩) (fun b hb hF => ⟨rfl, hteO b (subB_spec h1O _ hF)⟩)
  refine EntsH.back (dn := (s, l1, l2)) rfl (fun m1 hk1 hv1 => ⟨hk1, p, ty', g.ga (u + 2), g.ga (u + 3), by rw [hv1, j1], by rw [j2, hcs], ?_, ?_, ?_, ?_⟩) _ _ hbk
  · exact if_pos (by rw [j3]; simp [K])
  · exact if_pos j3
  · obtain ⟨xs, x1, x2, x3⟩ := f2
    refine ⟨xs, x1, RelL.flat l1 xs x2, fun b hb => ⟨?_, ?_⟩⟩
    · have hF : g.om b ∈ T1 := x3 b hb
      exact if_pos (by simp [K, hF])
    · have hF : g.om b ∈ T1 := x3 b hb
      show (if g.om b = u then _ else if g.om b ∈ T1 then _ else if g.om b ∈ T2 then _ else _) = _
      rw [if_neg (fun h => dj b1 (show g.om b ∈ [u] by simp [h]) hF), if_pos hF]
  · refine f3.stab (Nat.le_refl _) (fun b _ hF => ⟨rfl, ?_, ?_⟩) (fun b _ hF => ⟨rfl, hteO b (subB_spec h2O _ hF)⟩)
    · have hF : g.om b ∈ T2 := hF
      exact if_pos (by simp [K, hF])
    · have hF : g.om b ∈ T2 := hF
      show (if g.om b = u then _ else if g.om b ∈ T1 then _ else if g.om b ∈ T2 then _ else _) = _
      rw [if_neg (fun h => dj b2 (show g.om b ∈ [u] by simp [h]) hF), if_neg (fun h => dj c1 h hF), if_pos hF]
end
end
end GL

