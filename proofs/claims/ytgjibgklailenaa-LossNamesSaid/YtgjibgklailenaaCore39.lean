/- Own library, part 39: such slices made, lengthened, lent and taken back. -/
import Derived.Test.YtgjibgklailenaaCore38
namespace GL
open Go

theorem all10_app {a b : List Nat} (h : all10 (a ++ b) = true) : all10 a = true ∧ all10 b = true := by
  induction a with
  | nil => exact ⟨rfl, h⟩
  | cons x a ih =>
    simp only [List.cons_append, all10, Bool.and_eq_true] at h ⊢
    exact ⟨⟨h.1, (ih h.2).1⟩, (ih h.2).2⟩

section
variable {X : Cx} {G : List It} {Q : Exit → Act → World → Prop} {ops : Array Oper} {rest : List Oper} {d : Nat} {dO : Option Nat} {ty : TypeId} {pos : String} {af : Array Edge} {gd : Option (Nat × Bool)}
variable {α β γ : Type} [R : Rp α] [B : Rp β] [C : Rp γ] {H : HdS α β γ}

theorem flds_split {g : Gh} {w : World} {T te : List Nat} {er : TypeId} {h : List β} {es : List Ent} {cs : List Value} (hr : FldRel g w ((false, 1, Fact.ow T te er h) :: entsL te es) cs) :
    ∃ v c, cs = v :: c ∧ OwRel (fun b => g.om b ∈ T) (fun b => g.om b ∈ te) er h v w ∧ EntsRel (fun b => g.om b ∈ te) es c w := by
  obtain ⟨c1, c2, rfl, h1, h2, h3, h4, h5⟩ := hr
  match c1, h1 with
  | [v], _ => exact ⟨v, c2, rfl, h4, (entsL_rel es c2).1 h5⟩

/-- []T{x}, one that holds a row of its own. -/
theorem Spec.lit2 {x : Operand} {y : α} {h : List β} {es : List Ent} {T te : List Nat} {ts e er : TypeId} {pt : Array (Nat × Operand)} (H : HdS α β γ) (t : Nat) (ht : Nat.ble 10 t = true) (hty : OwnTy X.P ts e α) (hpt : pt = #[(0, x)])
    (hsm : Nat.ble R.n 16777216 = true) (hh : H.hd y = h) (hes : ∀ F cs w, C.rel F (H.tl y) cs w ↔ EntsRel F es cs w) (hx : Has G x (.flds ((false, 1, .ow T te er h) :: entsL te es))) :
    Spec X G ⟨dO, .buildSlice ts 1 pt, ty, pos, af, gd⟩ (Fact.ow2 H [t] T te e er [y]) := fun a w g hs hfr hg hf => by
  subst hh
  have ht' : 10 ≤ t := by simpa using ht
  obtain ⟨cs, hv, hr⟩ := hx a w g hf
  obtain ⟨v, c, rfl, h1, h2⟩ := flds_split hr
  obtain ⟨i, zv, hi, hiz, hisz, hby, hzs⟩ := hty.info
  have hsm' : R.n ≤ 16777216 := by simpa using hsm
  have hn := H.n
  have hcl : c.length = C.n := C.len _ _ _ _ ((hes _ _ _).2 h2)
  have hone : ∀ u ∈ v :: c, u.oneCell' = true := fun u hu => by
    rcases List.mem_cons.1 hu with rfl | hu
    · exact h1.one
    · exact C.one _ _ _ _ ((hes _ _ _).2 h2) u hu
  have hrep : ∀ (i : Nat) (y : Raw R.n) (u : Value), [(⟨v :: c, by simp; omega, hone⟩ : Raw R.n)][i]? = some y → [a.eval x][i]? = some u → Rep (fun _ => True) y u w := fun i y u hy hu => by
    cases i with
    | zero =>
      simp only [List.getElem?_cons_zero, Option.some.injEq] at hy hu
      subst hy; subst hu
      exact ⟨v :: c, rfl, by rw [hv]; rfl⟩
    | succ i => simp at hy
  obtain ⟨es', hes', hfill⟩ := fill_seq (R := (inferInstance : Rp (Raw R.n))) (F := fun _ => True) (w := w) [(⟨v :: c, by simp; omega, hone⟩ : Raw R.n)] [a.eval x] 0 ((Array.range (1 * R.n)).map (zv.cells[· % zv.cells.size]!)) rfl hrep (by
    show ((Array.range (1 * R.n)).map (zv.cells[· % zv.cells.size]!)).size = (0 + 1) * R.n
    rw [Array.size_map, Array.size_range])
  have hes'' : es' = v :: c := by
    obtain ⟨d1, d2, rfl, k1, k2⟩ := hes'
    rw [show d1 = v :: c from k1, show d2 = [] from k2, List.append_nil]
  subst hes''
  simp only [Nat.zero_mul, List.take_zero, List.nil_append] at hfill
  have hnz : R.n ≠ 0 := by omega
  have hrun : (execOp a.eval ⟨dO, .buildSlice ts 1 pt, ty, pos, af, gd⟩).run X.P w = .ok (.value (.slice (some ⟨w.heap.size, 0, none⟩) 1 1)) (w.alloc (.cells (v :: c).toArray e)) := by
    unfold execOp
    simp only [hpt, Sem.run_bind]
    unfold Instr.buildSlice
    have hm : ((#[(0, x)] : Array (Nat × Operand)).map fun (i, x) => (i, a.eval x)).toList = [(0, a.eval x)] := by simp
    simp only [hm]
    have hno : ¬ (R.n > 2 ^ 24) := by omega
    have hf2 : Instr.fill (fun i => some (i * R.n, R.n)) (Array.map (fun x => zv.cells[x % zv.cells.size]!) (Array.range R.n)) [(0, a.eval x)] = some (v :: c).toArray := by
      have := hfill
      simp only [Nat.one_mul, List.zipIdx_cons, List.zipIdx_nil, List.map_cons, List.map_nil] at this
      exact this
    simp [run_underlying hty.und, rt_sizeOf hty.el, hno, hnz, zeroValue, typeInfo, hi, hiz, hf2, newRow]
  refine Yields.val hrun ⟨Fr.alloc w _, tagNew g w.heap.size t, hg.tagNew ht' (by simp) hfr.size, fun b hb => by simp [tagNew, hb], fun _ => rfl, ?_⟩
  refine ⟨v :: c, [v.ownBlock], ⟨by simp; omega, .inr ⟨w.heap.size, 1, (v :: c).toArray, rfl, Nat.zero_le _, heap_alloc_new w _, Nat.le_refl _, by simp [maxLen], by simp; omega, by show List.take (1 * R.n) (v :: c) = v :: c; exact List.take_of_length_le (by simp; omega)⟩⟩, ?_, ?_, ?_⟩
  · have h3 : RelN H (fun b => g.om b ∈ T) (fun b => g.om b ∈ te) er [y] (v :: c) [v.ownBlock] w := ⟨v, c, [], [], by simp, rfl, h1, (hes _ _ _).2 h2, rfl, rfl⟩
    refine RelN.stab (by simp) (fun b hb h => ⟨RowKit.Below.heap_alloc w _ b hb, by simp [tagNew, hb, h]⟩) _ _ _ (fun b _ hb h => ⟨RowKit.Below.heap_alloc w _ b hb, by simp [tagNew, hb, h]⟩) h3
  · exact List.pairwise_singleton _ _
  · intro b hb
    simp only [Value.ownBlock, Option.some.injEq] at hb
    simp [tagNew, ← hb]

/-- The ghost in which the blocks of some tags have another, and new ones a tag. -/
def ghTo (g : Gh) (n t : Nat) (K : List Nat) (r : Nat) : Gh := ⟨fun b => if b < n then (if K.elem (g.om b) then r else g.om b) else t, g.ga⟩
theorem ghTo_out {g : Gh} {n t : Nat} {K : List Nat} {r b : Nat} (hb : b < n) (h : g.om b ∉ K) : (ghTo g n t K r).om b = g.om b := by
  simp only [ghTo, if_pos hb]
  rw [if_neg]
  simpa using h
theorem ghTo_in {g : Gh} {n t : Nat} {K : List Nat} {r b : Nat} (hb : b < n) (h : g.om b ∈ K) : (ghTo g n t K r).om b = r := by
  simp only [ghTo, if_pos hb]
  rw [if_pos]
  simpa using h
theorem GhE.to {w w' : World} {g : Gh} (h : GhE X w g) {t r : Nat} {K : List Nat} (ht : 10 ≤ t) (hr : 10 ≤ r) (hK : all10 K = true) (h0 : X.w0.heap.size ≤ w.heap.size) : GhE X w' (ghTo g w.heap.size t K r) := by
  have ho : ∀ b, b < X.w0.heap.size → (ghTo g w.heap.size t K r).om b = g.om b := fun b hb => ghTo_out (by omega) (fun hm => by have := all10_spec hK hm; have := h.ok.old b hb; omega)
  refine ⟨⟨fun b hb => by rw [ho b hb]; exact h.ok.old b hb, fun b hb hb' => ?_⟩, fun b hb => by rw [ho b hb]; exact h.om b hb⟩
  by_cases hlt : b < w.heap.size
  · by_cases hm : g.om b ∈ K
    · rw [ghTo_in hlt hm]; exact hr
    · rw [ghTo_out hlt hm]; exact h.ok.new b hb hlt
  · simp only [ghTo]; rw [if_neg hlt]; exact ht

theorem Ow2Rel.raw {Fo Fr Fe : Nat → Prop} {e er : TypeId} {l : List α} {v : Value} {w : World} (h : Ow2Rel H Fo Fr Fe e er l v w) :
    ∃ xs bs, w.ownsRow 0 e R.n v l.length xs ∧ RelN H Fr Fe er l xs bs w ∧ DistO bs ∧ (∀ b, v.ownBlock = some b → Fo b) ∧ ∃ m : List (Raw R.n), m.length = l.length ∧ (∀ F w, RelL F m xs w) ∧ Rep Fo m v w := by
  obtain ⟨xs, bs, h1, h2, h3, h4⟩ := h
  obtain ⟨m, hm1, hm2⟩ := raw_of l.length xs h1.1 (RelN.one l xs bs h2)
  refine ⟨xs, bs, h1, h2, h3, h4, m, hm1, hm2, ?_⟩
  have : OwRel Fo Fo e m v w := ⟨xs, by rw [hm1]; exact h1, hm2 _ _, h4⟩
  exact SlRel.rep (fun _ hb => hb) (fun _ hb => hb) this.sl

/-- append of one's own to one's own: what is handed is used up. -/
theorem Step.append2 {s x : Operand} {T Tr te T' K te' teO : List Nat} {l m r : List α} (q : Nat) {ts e er : TypeId} (hr : app l m = some r) (hag : R.agg = true) (hT10 : all10 (T ++ K) = true) (hq10 : Nat.ble 10 q = true) (hT0 : T.isEmpty = false) (hq : Tr.elem q = true)
    (hd : Nat.blt d X.n = true) (hty : OwnTy X.P ts e α) (h1 : disj (Tr ++ (te ++ te')) (T ++ K) = true) (h2 : disj K T = true) (h3 : subB te teO = true) (h4 : subB te' teO = true)
    (hs : Has G s (.ow2 H T Tr te e er l)) (hx : Has G x (.ow2 H T' K te' e er m)) :
    Step X G ⟨some d, .call { callee := .builtin .append, args := #[s, x], argTypes := #[ts, ts] }, ty, pos, af, none⟩ (.fact d (.ow2 H T Tr teO e er r) :: killTs (T ++ K) []) := fun G' hsub a w env Kk Q hK => by
  have hd' : d < X.n := by simpa [Nat.blt_eq] using hd
  obtain ⟨g, hg, hf'⟩ := env.facts
  have hf := hsub a w g hf'
  obtain ⟨xs, bs, hown, hrel, hdis, htag⟩ := hs a w g hf
  obtain ⟨ys, bt, hown2, hrel2, hdis2, htag2, mr, hml, hmr, hmrep⟩ := (hx a w g hf).raw
  obtain ⟨hT10', hK10⟩ := all10_app hT10
  obtain ⟨t, ht⟩ : ∃ t, t ∈ T := by
    cases T with
    | nil => simp at hT0
    | cons t _ => exact ⟨t, by simp⟩
  have ht' : 10 ≤ t := all10_spec hT10' ht
  have hq' : 10 ≤ q := by simpa using hq10
  have hqm : q ∈ Tr := by simpa using hq
  have hTr : ∀ {b : Nat}, b ∈ Tr → b ∉ T ∧ b ∉ K := fun hb => ⟨fun h => disj_spec h1 (List.mem_append_left K h) (List.mem_append_left _ hb), fun h => disj_spec h1 (List.mem_append_right T h) (List.mem_append_left _ hb)⟩
  have hte : ∀ {b : Nat}, b ∈ te → b ∉ T ∧ b ∉ K := fun hb => ⟨fun h => disj_spec h1 (List.mem_append_left K h) (List.mem_append_right _ (List.mem_append_left _ hb)), fun h => disj_spec h1 (List.mem_append_right T h) (List.mem_append_right _ (List.mem_append_left _ hb))⟩
  have hte' : ∀ {b : Nat}, b ∈ te' → b ∉ T ∧ b ∉ K := fun hb => ⟨fun h => disj_spec h1 (List.mem_append_left K h) (List.mem_append_right _ (List.mem_append_right _ hb)), fun h => disj_spec h1 (List.mem_append_right T h) (List.mem_append_right _ (List.mem_append_right _ hb))⟩
  have hKT : ∀ {b : Nat}, b ∈ K → b ∉ T := fun hb h => disj_spec h2 h hb
  unfold app at hr
  split at hr
  case isFalse => cases hr
  rename_i hlen
  cases hr
  obtain ⟨v', w', news, hrun, hown', hgr, hnew, hblk⟩ := run_append (ty := ty) (hty.raw hag) (by rw [hml]; exact hlen) hown hmrep
  have hnews : news = ys := raw_eq (F' := fun _ => True) mr news ys hnew (hmr _ w)
  subst hnews
  have hrun' : (execOp a.eval ⟨some d, .call { callee := .builtin .append, args := #[s, x], argTypes := #[ts, ts] }, ty, pos, af, none⟩).run X.P w = .ok (.value v') w' := by
    unfold execOp
    simp [resolve, invoke, builtin, hrun]
  unfold Oper.wp
  rw [hrun']
  refine hK v' w' ?_
  rw [List.cons_append, killTs_app]
  have hb : ∀ b, b < w.heap.size → g.om b ∉ T → w'.heap[b]? = w.heap[b]? := fun b hb hne => hgr.block b hb (fun he => hne (htag b he.symm))
  refine ⟨by simp [Act.put, env.size], env.defers, Fr.owns env.fr hg hT10' hgr.os hgr.tape hgr.output hgr.size hb, ghTo g w.heap.size t K q, hg.to ht' hq' hK10 env.fr.size, ?_⟩
  refine Facts.put (by rw [env.size]; exact hd') ?_ ?_
  · exact facts_killR (T ++ K) [] hf' hgr.size (fun b hbl hn => ⟨hb b hbl (fun h => hn (List.mem_append_left _ h)), ghTo_out hbl (fun h => hn (List.mem_append_right _ h))⟩) (fun _ _ => rfl)
  · refine ⟨xs ++ news, bs ++ bt, by rw [List.length_append, ← hml]; exact hown', ?_, ?_, ?_⟩
    · refine RelN.app l m xs news bs bt ?_ ?_
      · exact RelN.stab hgr.size (fun b hbl h => ⟨hb b hbl (hte h).1, by rw [ghTo_out hbl (hte h).2]; exact subB_spec h3 _ h⟩) l xs bs (fun b _ hbl h => ⟨hb b hbl (hTr h).1, by rw [ghTo_out hbl (hTr h).2]; exact h⟩) hrel
      · exact RelN.stab hgr.size (fun b hbl h => ⟨hb b hbl (hte' h).1, by rw [ghTo_out hbl (hte' h).2]; exact subB_spec h4 _ h⟩) m news bt (fun b _ hbl h => ⟨hb b hbl (hKT h), by rw [ghTo_in hbl h]; exact hqm⟩) hrel2
    · exact DistO.app hdis hdis2 (fun b hb1 hb2 => (hTr (RelN.mem l xs bs hrel b hb1).1).2 (RelN.mem m news bt hrel2 b hb2).1)
    · intro b hb'
      rcases hblk b hb' with h5 | h5
      · have h6 := htag b h5
        have h7 := (hown.lt b h5).2
        rw [ghTo_out h7 (fun h => hKT h h6)]; exact h6
      · show (ghTo g w.heap.size t K q).om b ∈ T
        simp only [ghTo]
        rw [if_neg (by omega)]; exact ht

theorem Ad.ow2 {s : Nat} {f : Fact} {T Tr te : List Nat} {e er : TypeId} {l : List α} (t : Nat) (ht : Nat.ble 10 t = true) (hT : all10 T = true) (h1 : disj (Tr ++ te) T = true) (hs : look G s = some f) (hc : Cv G f (Fact.ow2 H T Tr te e er l)) :
    Ad X G (.fact s (.isv t) :: .fact (rs t) (.own2 H t Tr te e er l) :: .killId t :: killTs T G) := fun a w env => by
  obtain ⟨g, hg, hf⟩ := env.facts
  obtain ⟨xs, bs, h2, h3, h4, h5⟩ := hc a w g _ hf (hf s _ hs)
  have hga : (ghRe g t (a.tmps.getD s undef) (a.tmps.getD s undef).ownBlock).ga t = a.tmps.getD s undef := if_pos rfl
  have hout : ∀ b, g.om b ∉ T → (ghRe g t (a.tmps.getD s undef) (a.tmps.getD s undef).ownBlock).om b = g.om b := fun b hb => if_neg (fun he => hb (h5 b he))
  refine ⟨env.size, env.defers, env.fr, ghRe g t (a.tmps.getD s undef) (a.tmps.getD s undef).ownBlock, hg.re (by simpa using ht) (fun b hb => all10_spec hT (h5 b hb)), ?_⟩
  have hb : Facts (.fact (rs t) (.own2 H t Tr te e er l) :: .killId t :: killTs T G) (ghRe g t (a.tmps.getD s undef) (a.tmps.getD s undef).ownBlock) a w :=
    Facts.ghost (facts_retag hf hout (fun _ hs => if_neg hs)) (fun v => by
      show Ow2Rel H _ _ _ e er l ((ghRe g t (a.tmps.getD s undef) (a.tmps.getD s undef).ownBlock).ga t) w
      rw [hga]
      refine ⟨xs, bs, h2, ?_, h4, fun b hb => if_pos hb⟩
      exact RelN.stab (Nat.le_refl _) (fun b _ h => ⟨rfl, by rw [hout b (fun hT => disj_spec h1 hT (List.mem_append_right _ h))]; exact h⟩) l xs bs (fun b _ _ h => ⟨rfl, by rw [hout b (fun hT => disj_spec h1 hT (List.mem_append_left _ h))]; exact h⟩) h3)
  intro s' f' hl
  rcases lookK_nil_spec hl with ⟨rfl, rfl⟩ | ⟨_, hl⟩
  · exact hga.symm
  · exact hb s' f' hl
end
end GL
