/- Own library, part 21: appends to nil, empty literals, closed facts on structs, small arrays. -/
import Derived.Test.YtgjibgklailenaaCore20
namespace GL
open Go

instance {α β : Type} [A : Rp α] [B : Rp β] [Fa : Flat α] [Fb : Flat β] : Flat (α × β) := ⟨fun F F' x cs w w' h => by
  obtain ⟨c1, c2, h1, h2, h3⟩ := h
  exact ⟨c1, c2, h1, Fa.flat _ _ _ _ _ _ h2, Fb.flat _ _ _ _ _ _ h3⟩⟩

def fieldB (P : Program) (fs : Array Field) (i off n : Nat) : Bool :=
  match fs[i]? with
  | some f => Nat.beq f.offset off && (match P.info? f.type with
    | some inf => Nat.beq inf.size n
    | none => false)
  | none => false
theorem FieldTy.of {P : Program} {s : TypeId} {fs : Array Field} {i off n : Nat} (hu : P.underlying s = some (.struct fs)) (h : fieldB P fs i off n = true) (hp : Nat.blt 0 n = true) : FieldTy P s i off n := by
  unfold fieldB at h
  cases hf : fs[i]? with
  | none => simp [hf] at h
  | some f =>
    cases hi : P.info? f.type with
    | none => simp [hf, hi] at h
    | some inf =>
      simp only [hf, hi, Bool.and_eq_true] at h
      exact ⟨⟨fs, f, inf, hu, hf, Nat.eq_of_beq_eq_true h.1, hi, Nat.eq_of_beq_eq_true h.2⟩, by simpa [Nat.blt_eq] using hp⟩

section
variable {X : Cx} {G : List It} {Q : Exit → Act → World → Prop} {ops : Array Oper} {rest : List Oper} {d : Nat} {dO : Option Nat} {ty : TypeId} {pos : String} {af : Array Edge} {gd : Option (Nat × Bool)}

theorem Spec.appNil {α : Type} [R : Rp α] {s x : Operand} {T te' : List Nat} {m r : List α} (t : Nat) {ts e : TypeId} (hr : app [] m = some r) (ht : Nat.ble 10 t = true) (hty : OwnTy X.P ts e α)
    (hs : Has G s .nilv) (hx : Has G x (Fact.rep T m)) (hT : ElKeep (α := α) t T te') :
    Spec X G ⟨dO, .call { callee := .builtin .append, args := #[s, x], argTypes := #[ts, ts] }, ty, pos, af, gd⟩ (Fact.rep (t :: te') r) := fun a w g hsz hfr hg hf K Q hK => by
  have ht' : 10 ≤ t := by simpa using ht
  unfold app at hr
  split at hr
  case isFalse => cases hr
  rename_i hlen
  cases hr
  have hsv : a.eval s = .slice none 0 0 := hs a w g hf
  obtain ⟨v', w', news, hrun, hown', hgr, hnew, hblk⟩ := run_append (ty := ty) (n := 0) (xs := []) hty (by simpa using hlen) (World.ownsRow_nil w 0 e R.n) (hx a w g hf)
  have hrun' : (execOp a.eval ⟨dO, .call { callee := .builtin .append, args := #[s, x], argTypes := #[ts, ts] }, ty, pos, af, gd⟩).run X.P w = .ok (.value v') w' := by
    unfold execOp
    simp [resolve, invoke, builtin, hsv, hrun]
  unfold Oper.wp
  rw [hrun']
  have hb' : ∀ b, b < w.heap.size → w'.heap[b]? = w.heap[b]? := fun b hb => hgr.block b hb (by simp [Value.ownBlock])
  have hom : ∀ b, b < w.heap.size → (tagNew g w.heap.size t).om b = g.om b := fun b hb => by simp [tagNew, hb]
  refine hK v' w' ⟨⟨hgr.os, hgr.tape, hgr.output, hgr.size, fun b hb _ => hb' b hb⟩, tagNew g w.heap.size t, hg.tagNew ht' hgr.size hfr.size, hom, fun _ => rfl, ?_⟩
  have hF : ∀ b, b < w.heap.size → g.om b ∈ te' → (ghOwn g w.heap.size t v').om b ∈ te' := fun b hb h => by simp [ghOwn, hb, h]
  have hb : ∀ b, b < w.heap.size → g.om b ≠ t → w'.heap[b]? = w.heap[b]? := fun b hb _ => hb' b hb
  have h3 : (Fact.own t te' e m).p (ghOwn g w.heap.size t v') undef w' := ⟨news, by simp only [ghOwn, if_true]; simpa using hown', by simpa using hT _ g w w' m news hgr.size hb hF hnew, by
    simp only [ghOwn, if_true]
    intro b hb'
    rcases hblk b hb' with h1 | h1
    · cases h1
    · rw [if_neg (by omega)]⟩
  have h4 := own_rep h3
  simp only [ghOwn, if_true] at h4
  simpa [tagNew, Fact.rep] using h4

theorem Step.lit0 {α : Type} [R : Rp α] (t : Nat) {ts e : TypeId} (ht : Nat.ble 10 t = true) (hd : Nat.blt d X.n = true) (hty : OwnTy X.P ts e α) :
    Step X G ⟨some d, .buildSlice ts 0 #[], ty, pos, af, none⟩ [.fact d (.isv t), .fact (rs t) (.own t [] e ([] : List α)), .killId t] := fun G' hsub a w env K Q hK => by
    have ht' : 10 ≤ t := by simpa using ht
    have hd' : d < X.n := by simpa [Nat.blt_eq] using hd
    obtain ⟨g, hg, hf'⟩ := env.facts
    have hf := hsub a w g hf'
    have hrun : (execOp a.eval ⟨some d, .buildSlice ts 0 #[], ty, pos, af, none⟩).run X.P w = .ok (.value (.slice (some ⟨w.heap.size, 0, none⟩) 0 0)) (w.alloc (.cells #[] e)) := by
      unfold execOp
      have h0 : Array.range 0 = #[] := by apply Array.toList_inj.1; simp
      simp [Instr.buildSlice, run_underlying hty.und, rt_sizeOf hty.el, Instr.fill, newRow, h0]
    unfold Oper.wp
    rw [hrun]
    refine hK _ _ ?_
    have hb : ∀ b, b < w.heap.size → (w.alloc (.cells #[] e)).heap[b]? = w.heap[b]? := fun b hb => RowKit.Below.heap_alloc w _ b hb
    refine ⟨by simp [Act.put, env.size], env.defers, Fr.own env.fr hg ht' (.inr trivial) rfl rfl rfl (by simp) (fun b hb' _ => hb b hb'),
      ghOwn g w.heap.size t (.slice (some ⟨w.heap.size, 0, none⟩) 0 0), hg.own ht' env.fr.size, ?_⟩
    refine Facts.put (by rw [env.size]; exact hd') ?_ (by simp [Fact.isv, ghOwn])
    refine Facts.ghost ?_ (fun v => ⟨[], ?_, rfl, ?_⟩)
    · exact facts_killedId hf' (by simp) (fun b hb' => hb b hb') (fun b hb => by simp [ghOwn, hb]) (fun s hs => by simp [ghOwn, hs])
    · refine ⟨by simp, .inr ⟨w.heap.size, 0, #[], by simp [ghOwn], Nat.zero_le _, heap_alloc_new w _, Nat.le_refl _, Nat.zero_le _, by simp, by simp⟩⟩
    · simp only [ghOwn, if_true]
      intro b hb'
      simp only [Value.ownBlock, Option.some.injEq] at hb'
      rw [if_neg (by omega)]

/-! ### small arrays, as structs -/
structure SmTy (P : Program) (t e : TypeId) (n m : Nat) : Prop where
  und : P.underlying t = some (.array n e)
  sz' : (P.info? e).map (·.size) = some m
theorem SmTy.sz {P : Program} {t e : TypeId} {n m : Nat} (h : SmTy P t e n m) : ∃ i, P.info? e = some i ∧ i.size = m := by simpa using h.sz'
theorem Spec.idxC {x : Operand} {ts e : TypeId} {n m o t o' : Nat} {i : Nat} (h : SmTy X.P ts e n m) (hi : Nat.blt i n = true) (hx : Has G x (.pto t o)) (ho : o + i * m = o' := by rfl) : Spec X G ⟨dO, .indexAddr ts x (.const (.int .i64 (i : Int))), ty, pos, af, gd⟩ (.pto t o') :=
  Spec.pure fun a w g hf => by
    subst ho
    obtain ⟨b, hb, hv⟩ := hx a w g hf
    obtain ⟨inf, h1, h2⟩ := h.sz
    have hi' : i < n := by simpa [Nat.blt_eq] using hi
    refine ⟨.pointer (some ⟨b, o + i * m, none⟩), ?_, b, hb, rfl⟩
    unfold execOp
    simp only [hv, eval_const, Instr.indexAt, asIntOf, Sem.run_bind, Sem.run_pure, Result.andThen_ok, run_underlying h.und, Instr.sureAddr, Sem.run_map]
    rw [if_pos (by omega)]
    simp only [Go.sizeOf, typeInfo, h1, h2]
    simp [h1, h2, Go.Addr.add_lit]
structure BuildTyA (P : Program) (t : TypeId) (pl : List (Nat × Nat)) (ls : Ls) : Prop where
  h' : ∃ e n m zc, ((P.info? t).bind (·.zero)).map (·.cells) = some zc.toArray ∧ P.underlying t = some (.array n e) ∧ (P.info? e).map (·.size) = some m ∧ (∀ g w, FldRel g w ls zc) ∧ pl = (List.range n).map fun i => (i * m, m)
theorem BuildTyA.h {P : Program} {t : TypeId} {pl : List (Nat × Nat)} {ls : Ls} (b : BuildTyA P t pl ls) : ∃ it e n ie zv zc, P.info? t = some it ∧ P.underlying t = some (.array n e) ∧ it.zero = some zv ∧ P.info? e = some ie ∧ zv.cells = zc.toArray ∧ (∀ g w, FldRel g w ls zc) ∧
    ∀ i x, pl[i]? = some x → x = (i * ie.size, ie.size) := by
  obtain ⟨e, n, m, zc, h1, h2, h3, h4, h5⟩ := b.h'
  simp only [Option.map_eq_some_iff, Option.bind_eq_some_iff] at h1 h3
  obtain ⟨zv, ⟨it, h6, h7⟩, h8⟩ := h1
  obtain ⟨ie, h9, h10⟩ := h3
  refine ⟨it, e, n, ie, zv, zc, h6, h2, h7, h9, h8, h4, fun i x hx => ?_⟩
  rw [h5, List.getElem?_map] at hx
  simp only [Option.map_eq_some_iff] at hx
  obtain ⟨j, hj, rfl⟩ := hx
  have := List.getElem?_eq_some_iff.1 hj
  obtain ⟨hlt, hj2⟩ := this
  simp at hj2
  rw [h10, hj2]
end
end GL
