/- Own library, part 23: slices with their elements' memory apart; what a call gives to be worked on. -/
import Derived.Test.YtgjibgklailenaaCore22
namespace GL
open Go

/-- A slice whose elements lean on other memory. -/
def Fact.sl {α : Type} [R : Rp α] (T Te : List Nat) (l : List α) : Fact where
  tags := T ++ Te
  ids := []
  p := fun g v w => SlRel (fun b => g.om b ∈ T) (fun b => g.om b ∈ Te) l v w
  stab := fun g g' v w w' hk h => SlRel.stab hk.size
    (fun b hb ht => ⟨(hk.block b hb (List.mem_append_left _ ht)).1, by rw [(hk.block b hb (List.mem_append_left _ ht)).2]; exact ht⟩)
    (fun b hb ht => ⟨(hk.block b hb (List.mem_append_right _ ht)).1, by rw [(hk.block b hb (List.mem_append_right _ ht)).2]; exact ht⟩) h

/-- A slice whose memory is its holder's own. -/
def OwRel {α : Type} [R : Rp α] (F Fe : Nat → Prop) (e : TypeId) (l : List α) (v : Value) (w : World) : Prop :=
  ∃ xs, w.ownsRow 0 e R.n v l.length xs ∧ RelL Fe l xs w ∧ ∀ b, v.ownBlock = some b → F b
theorem OwRel.stab {α : Type} [R : Rp α] {F Fe F' Fe' : Nat → Prop} {e : TypeId} {l : List α} {v : Value} {w w' : World} (hs : w.heap.size ≤ w'.heap.size)
    (hk : ∀ b, b < w.heap.size → F b → w'.heap[b]? = w.heap[b]? ∧ F' b) (hk' : ∀ b, b < w.heap.size → Fe b → w'.heap[b]? = w.heap[b]? ∧ Fe' b) (h : OwRel F Fe e l v w) : OwRel F' Fe' e l v w' := by
  obtain ⟨xs, h1, h2, h3⟩ := h
  refine ⟨xs, ⟨h1.1, ?_⟩, RelL.stab hs hk' l xs h2, fun b hb => (hk b (h1.lt b hb).2 (h3 b hb)).2⟩
  rcases h1.2 with hn | ⟨b, cap, cur, hv, h0, hb, rest⟩
  · exact .inl hn
  · refine .inr ⟨b, cap, cur, hv, h0, ?_, rest⟩
    have hlt : b < w.heap.size := (Array.getElem?_eq_some_iff.1 hb).1
    rw [(hk b hlt (h3 b (by rw [hv]; rfl))).1]
    exact hb
theorem OwRel.sl {α : Type} [R : Rp α] {F Fe : Nat → Prop} {e : TypeId} {l : List α} {v : Value} {w : World} (h : OwRel F Fe e l v w) : SlRel F Fe l v w := by
  obtain ⟨xs, hown, hrel, htag⟩ := h
  rcases hown.2 with ⟨hn, h0⟩ | ⟨b, cap, cur, hv', _, hb, hnc, hcm, hcs, htake⟩
  · have : l = [] := List.eq_nil_of_length_eq_zero h0
    subst this
    exact ⟨none, 0, hn, Nat.le_refl _, fun _ => ⟨rfl, rfl⟩, fun _ h => by cases h⟩
  · refine ⟨some ⟨b, 0, none⟩, cap, hv', hnc, fun h => (by cases h), ?_⟩
    intro ad had i x hx
    cases had
    have hlt : b < w.heap.size := (Array.getElem?_eq_some_iff.1 hb).1
    obtain ⟨es, he, hc⟩ := RelL.get l xs hrel i x hx
    refine ⟨htag b (by rw [hv']; rfl), hlt, es, fun j u hj => ?_, he⟩
    have h1 := hc j u hj
    rw [Addr.add_add, Go.Addr.add_lit]
    simp only [Nat.zero_add]
    refine ⟨?_, frozen_of_row w b _ cur e hb⟩
    rw [cell_of_row w b _ cur e (0, 0) hb]
    rw [← htake] at h1
    rw [List.getElem?_take] at h1
    split at h1
    · simpa using h1
    · cases h1
theorem OwRel.nil {α : Type} [R : Rp α] {F Fe : Nat → Prop} {e : TypeId} {w : World} : OwRel F Fe e ([] : List α) (.slice none 0 0) w :=
  ⟨[], World.ownsRow_nil w 0 e R.n, rfl, fun b hb => by cases hb⟩

def Fact.ow {α : Type} [R : Rp α] (T te : List Nat) (e : TypeId) (l : List α) : Fact where
  tags := T ++ te
  ids := []
  p := fun g v w => OwRel (fun b => g.om b ∈ T) (fun b => g.om b ∈ te) e l v w
  stab := fun g g' v w w' hk h => OwRel.stab hk.size
    (fun b hb ht => ⟨(hk.block b hb (List.mem_append_left _ ht)).1, by rw [(hk.block b hb (List.mem_append_left _ ht)).2]; exact ht⟩)
    (fun b hb ht => ⟨(hk.block b hb (List.mem_append_right _ ht)).1, by rw [(hk.block b hb (List.mem_append_right _ ht)).2]; exact ht⟩) h

section
variable {G : List It} {α : Type} [R : Rp α] {T T' te te' : List Nat} {e : TypeId} {l : List α}
theorem Cv.owSl : Cv G (Fact.ow T te e l) (Fact.sl T te l) := fun _ _ _ _ _ h => OwRel.sl h
theorem Cv.slRep (h1 : subB T T' = true) (h2 : subB te T' = true) : Cv G (Fact.sl T te l) (Fact.rep T' l) := fun _ _ _ _ _ h => SlRel.rep (fun _ hb => subB_spec h1 _ hb) (fun _ hb => subB_spec h2 _ hb) h
theorem Cv.slM (h1 : subB T T' = true) (h2 : subB te te' = true) : Cv G (Fact.sl T te l) (Fact.sl T' te' l) := fun _ _ _ _ _ h =>
  SlRel.stab (Nat.le_refl _) (fun _ _ hb => ⟨rfl, subB_spec h1 _ hb⟩) (fun _ _ hb => ⟨rfl, subB_spec h2 _ hb⟩) h
theorem Cv.owM (h1 : subB T T' = true) (h2 : subB te te' = true) : Cv G (Fact.ow T te e l) (Fact.ow T' te' e l) := fun _ _ _ _ _ h =>
  OwRel.stab (Nat.le_refl _) (fun _ _ hb => ⟨rfl, subB_spec h1 _ hb⟩) (fun _ _ hb => ⟨rfl, subB_spec h2 _ hb⟩) h
theorem Cv.repSl : Cv G (Fact.rep T l) (Fact.sl T T l) := fun _ _ _ _ _ h => Rep.sl h
theorem Cv.slF [Fl : Flat α] (h1 : subB T T' = true) : Cv G (Fact.sl T te l) (Fact.sl T' te' l) := fun _ _ _ _ _ h => by
  obtain ⟨a, c, h2, h3, h4, h5⟩ := h
  refine ⟨a, c, h2, h3, h4, fun ad ha i x hx => ?_⟩
  obtain ⟨hF, hlt, es, he, hr⟩ := h5 ad ha i x hx
  exact ⟨subB_spec h1 _ hF, hlt, es, he, Fl.flat _ _ _ _ _ _ hr⟩
theorem Cv.owF [Fl : Flat α] (h1 : subB T T' = true) : Cv G (Fact.ow T te e l) (Fact.ow T' te' e l) := fun _ _ _ _ _ h => by
  obtain ⟨xs, h2, h3, h4⟩ := h
  exact ⟨xs, h2, RelL.flat l xs h3, fun b hb => subB_spec h1 _ (h4 b hb)⟩
theorem Cv.nilSl : Cv G .nilv (Fact.sl T te ([] : List α)) := fun _ w g v _ h => by
  rw [show v = .slice none 0 0 from h]
  show SlRel (fun b => g.om b ∈ T) (fun b => g.om b ∈ te) ([] : List α) _ w
  exact OwRel.sl (α := α) (e := 0) OwRel.nil
theorem Cv.nilOw : Cv G .nilv (Fact.ow T te e ([] : List α)) := fun _ _ _ v _ h => by rw [show v = .slice none 0 0 from h]; exact OwRel.nil
theorem Cv.isvOw {t : Nat} (hrs : look G (rs t) = some (.own t te e l)) : Cv G (.isv t) (Fact.ow [t] te e l) := fun a w g v hf hv => by
  obtain ⟨xs, h1, h2, h3⟩ := hf _ _ hrs
  rw [show v = g.ga t from hv]
  exact ⟨xs, h1, h2, fun b hb => by simp [h3 b hb]⟩
theorem Cv.isvSl {t : Nat} (hrs : look G (rs t) = some (.mutS t te l)) : Cv G (.isv t) (Fact.sl [t] te l) := fun a w g v hf hv => by
  rw [show v = g.ga t from hv]
  have h : SlRel (fun b => g.om b = t) (fun b => g.om b ∈ te) l (g.ga t) w := hf _ _ hrs
  show SlRel (fun b => g.om b ∈ [t]) (fun b => g.om b ∈ te) l _ w
  exact SlRel.stab (Nat.le_refl _) (fun b _ hb => ⟨rfl, by rw [hb]; simp⟩) (fun b _ hb => ⟨rfl, hb⟩) h
end

/-! ### shapes of results -/
def oc (T : Tg) : Option Nat → List Nat
  | none => []
  | some c => T c
def Shape.sl {α : Type} [Rp α] (c : Nat) (ce : Option Nat) (l : List α) : Shape where
  f := fun T => Fact.sl (T c) (oc T ce) l
  tg := fun T t h => (List.mem_append.1 h).elim (fun h => ⟨c, h⟩) (fun h => by cases ce with
    | none => cases h
    | some d => exact ⟨d, h⟩)
  idn := fun _ => rfl
  re := fun T T' g g' v w hk h => SlRel.stab (Nat.le_refl _) (fun b hb ht => ⟨rfl, hk c b hb ht⟩) (fun b hb ht => ⟨rfl, by cases ce with
    | none => cases ht
    | some d => exact hk d b hb ht⟩) h
def Shape.own {α : Type} [Rp α] (c : Nat) (ce : Option Nat) (e : TypeId) (l : List α) : Shape where
  f := fun T => Fact.ow (T c) (oc T ce) e l
  tg := fun T t h => (List.mem_append.1 h).elim (fun h => ⟨c, h⟩) (fun h => by cases ce with
    | none => cases h
    | some d => exact ⟨d, h⟩)
  idn := fun _ => rfl
  re := fun T T' g g' v w hk h => OwRel.stab (Nat.le_refl _) (fun b hb ht => ⟨rfl, hk c b hb ht⟩) (fun b hb ht => ⟨rfl, by cases ce with
    | none => cases ht
    | some d => exact hk d b hb ht⟩) h
abbrev Ss := List (Bool × Nat × Shape)
def ssL (T : Tg) (ss : Ss) : Ls := ss.map fun l => (l.1, l.2.1, l.2.2.f T)
theorem ssL_re {T T' : Tg} {g g' : Gh} {w : World} (hk : ∀ c b, b < w.heap.size → g.om b ∈ T c → g'.om b ∈ T' c) : ∀ (ss : Ss) (cs : List Value), FldRel g w (ssL T ss) cs → FldRel g' w (ssL T' ss) cs
  | [], _, h => h
  | s :: ss, cs, h => by
    obtain ⟨c1, c2, h1, h2, h3, h3', h4, h5⟩ := h
    exact ⟨c1, c2, h1, h2, h3, h3', s.2.2.re T T' g g' _ w hk h4, ssL_re hk ss c2 h5⟩
def Shape.flds (ss : Ss) : Shape where
  f := fun T => Fact.flds (ssL T ss)
  tg := fun T t h => by
    obtain ⟨x, hx, ht⟩ := List.mem_flatMap.1 h
    obtain ⟨s, hs, rfl⟩ := List.mem_map.1 hx
    exact s.2.2.tg T t ht
  idn := fun T => by
    show ((ssL T ss).flatMap fun l => l.2.2.ids) = []
    rw [List.flatMap_eq_nil_iff]
    intro x hx
    obtain ⟨s, hs, rfl⟩ := List.mem_map.1 hx
    exact s.2.2.idn T
  re := fun T T' g g' v w hk h => by
    obtain ⟨cs, hv, hr⟩ := h
    exact ⟨cs, hv, ssL_re hk ss cs hr⟩

/-! ### taken for one's own -/
def Ad (X : Cx) (G G' : List It) : Prop := ∀ a w, Env X G a w → Env X G' a w
section
variable {X : Cx} {G G' : List It} {Q : Exit → Act → World → Prop} {ops : Array Oper} {rest : List Oper}
theorem CWalk.ad {c : Code} (h : Ad X G G') (k : CWalk X G' c Q) : CWalk X G c Q := fun a w e => k a w (h a w e)
theorem Walk.ad (h : Ad X G G') (k : Walk X ops Q G' rest) : Walk X ops Q G rest := fun a w e => k a w (h a w e)
theorem Leaf.ad {e : Exit} (h : Ad X G G') (k : Leaf X G' Q e) : Leaf X G Q e := fun a w env => k a w (h a w env)
end

def killTs : List Nat → List It → List It
  | [], G => G
  | t :: ts, G => .kill t :: killTs ts G
theorem lookK_killTs : ∀ (ts : List Nat) (G : List It) (K I : List Nat) (s : Nat) (f : Fact), lookK (killTs ts G) K I s = some f → ∃ K', (∀ x, x ∈ K → x ∈ K') ∧ (∀ x, x ∈ ts → x ∈ K') ∧ lookK G K' I s = some f
  | [], _, K, _, _, _, h => ⟨K, fun _ h => h, (fun _ h => nomatch h), h⟩
  | t :: ts, G, K, I, s, f, h => by
    simp only [killTs, lookK] at h
    obtain ⟨K', h1, h2, h3⟩ := lookK_killTs ts G (t :: K) I s f h
    exact ⟨K', fun x hx => h1 x (List.mem_cons_of_mem _ hx), fun x hx => by
      rcases List.mem_cons.1 hx with rfl | hx
      · exact h1 _ (by simp)
      · exact h2 x hx, h3⟩
theorem facts_retag {G : List It} {g g' : Gh} {a : Act} {w : World} {t : Nat} {T : List Nat} (h : Facts G g a w) (hom : ∀ b, g.om b ∉ T → g'.om b = g.om b) (hga : ∀ s, s ≠ t → g'.ga s = g.ga s) : Facts (.killId t :: killTs T G) g' a w := fun s f hl => by
  have hl1 : lookK (killTs T G) [] [t] s = some f := hl
  obtain ⟨K', _, h2, h3⟩ := lookK_killTs T G [] [t] s f hl1
  have hd := lookK_disj G K' [t] s f h3
  have h4 := disj_spec hd.2 (show t ∈ [t] by simp)
  have hl2 : look G s = some f := lookK_sub G K' [] [t] [] s f (by simp) (by simp) h3
  refine f.stab g g' _ w w ⟨Nat.le_refl _, fun b _ ht => ⟨rfl, hom b (fun hT => disj_spec hd.1 (h2 _ hT) ht)⟩, fun s' hs' => hga s' (fun he => h4 (he ▸ hs'))⟩ (h s f hl2)

/-- Elements that stay as they are where blocks of tags T get another tag. -/
def ElT {α : Type} [R : Rp α] (T te : List Nat) : Prop := ∀ (x : α) (es : List Value) (g g' : Gh) (w : World), (∀ b, g.om b ∉ T → g'.om b = g.om b) → R.rel (fun b => g.om b ∈ te) x es w → R.rel (fun b => g'.om b ∈ te) x es w
theorem ElT.flat {α : Type} [R : Rp α] [Fl : Flat α] {T te : List Nat} : ElT (α := α) T te := fun _ _ _ _ _ _ h => Fl.flat _ _ _ _ _ _ h
theorem ElT.tags {α : Type} [R : Rp α] {T te : List Nat} (h : disj te T = true) : ElT (α := α) T te := fun x es g g' w hg hr =>
  R.stab _ _ x es w w (Nat.le_refl _) (fun b _ hb => ⟨rfl, by rw [hg b (fun hT => disj_spec h hT hb)]; exact hb⟩) hr
theorem ElT.rel {α : Type} [R : Rp α] {T te : List Nat} (h : ElT (α := α) T te) {g g' : Gh} {w : World} (hg : ∀ b, g.om b ∉ T → g'.om b = g.om b) : ∀ (l : List α) (cs : List Value), RelL (fun b => g.om b ∈ te) l cs w → RelL (fun b => g'.om b ∈ te) l cs w
  | [], _, k => k
  | x :: l, cs, k => by
    obtain ⟨c1, c2, k1, k2, k3⟩ := k
    exact ⟨c1, c2, k1, h x c1 g g' w hg k2, ElT.rel h hg l c2 k3⟩

section
variable {X : Cx} {G : List It} {α : Type} [R : Rp α] {T te : List Nat} {e : TypeId} {l : List α}
def all10 : List Nat → Bool
  | [] => true
  | t :: ts => Nat.ble 10 t && all10 ts
theorem all10_spec {ts : List Nat} (h : all10 ts = true) {t : Nat} (ht : t ∈ ts) : 10 ≤ t := by
  induction ts with
  | nil => cases ht
  | cons u ts ih =>
    simp only [all10, Bool.and_eq_true] at h
    rcases List.mem_cons.1 ht with rfl | ht
    · simpa using h.1
    · exact ih h.2 ht

/-- The ghost in which a value has a name, and its block that name for a tag. -/
def ghRe (g : Gh) (t : Nat) (v : Value) (o : Option Nat) : Gh := ⟨fun b => if o = some b then t else g.om b, fun u => if u = t then v else g.ga u⟩
theorem GhE.re {w : World} {g : Gh} (h : GhE X w g) {t : Nat} {v : Value} {o : Option Nat} (ht : 10 ≤ t) (ho : ∀ b, o = some b → 10 ≤ g.om b) : GhE X w (ghRe g t v o) := by
  have hold : ∀ b, b < X.w0.heap.size → ¬ o = some b := fun b hb he => by have := ho b he; have := h.ok.old b hb; omega
  refine ⟨⟨fun b hb => ?_, fun b hb hb' => ?_⟩, fun b hb => ?_⟩
  · simp only [ghRe]; rw [if_neg (hold b hb)]; exact h.ok.old b hb
  · simp only [ghRe]; split
    · exact ht
    · exact h.ok.new b hb hb'
  · simp only [ghRe]; rw [if_neg (hold b hb)]; exact h.om b hb

theorem ow_re {g : Gh} {v : Value} {w : World} {t : Nat} (hel : ElT (α := α) T te) (h : OwRel (fun b => g.om b ∈ T) (fun b => g.om b ∈ te) e l v w) :
    (∀ b, v.ownBlock = some b → g.om b ∈ T) ∧ ∃ xs, w.ownsRow 0 e R.n v l.length xs ∧ RelL (fun b => (ghRe g t v v.ownBlock).om b ∈ te) l xs w ∧ ∀ b, v.ownBlock = some b → (ghRe g t v v.ownBlock).om b = t := by
  obtain ⟨xs, h1, h2, h3⟩ := h
  refine ⟨h3, xs, h1, hel.rel (fun b hb => ?_) l xs h2, fun b hb => if_pos hb⟩
  exact if_neg (fun he => hb (h3 b he))
theorem Ad.ow {s : Nat} {f : Fact} (t : Nat) (ht : Nat.ble 10 t = true) (hT : all10 T = true) (hel : ElT (α := α) T te) (hs : look G s = some f) (hc : Cv G f (Fact.ow T te e l)) :
    Ad X G (.fact s (.isv t) :: .fact (rs t) (.own t te e l) :: .killId t :: killTs T G) := fun a w env => by
  obtain ⟨g, hg, hf⟩ := env.facts
  obtain ⟨h0, xs, h1, h2, h3⟩ := ow_re (t := t) hel (hc a w g _ hf (hf s _ hs))
  have hga : (ghRe g t (a.tmps.getD s undef) (a.tmps.getD s undef).ownBlock).ga t = a.tmps.getD s undef := if_pos rfl
  refine ⟨env.size, env.defers, env.fr, ghRe g t (a.tmps.getD s undef) (a.tmps.getD s undef).ownBlock, hg.re (by simpa using ht) (fun b hb => all10_spec hT (h0 b hb)), ?_⟩
  have hb : Facts (.fact (rs t) (.own t te e l) :: .killId t :: killTs T G) (ghRe g t (a.tmps.getD s undef) (a.tmps.getD s undef).ownBlock) a w :=
    Facts.ghost (facts_retag hf (fun b hb => if_neg (fun he => hb (h0 b he))) (fun _ hs => if_neg hs)) (fun v => ⟨xs, by rw [hga]; exact h1, h2, by rw [hga]; exact h3⟩)
  intro s' f' hl
  rcases lookK_nil_spec hl with ⟨rfl, rfl⟩ | ⟨_, hl⟩
  · exact hga.symm
  · exact hb s' f' hl
theorem Ad.owF {i : Nat} {f : Fact} (t : Nat) (hti : Nat.beq i t = false) (ht : Nat.ble 10 t = true) (hT : all10 T = true) (hel : ElT (α := α) T te) (hs : look G (rs i) = some (.at i f)) (hc : Cv G f (Fact.ow T te e l)) :
    Ad X G (.fact (rs i) (.at i (.isv t)) :: .fact (rs t) (.own t te e l) :: .killId t :: killTs T G) := fun a w env => by
  have hti' : i ≠ t := fun h => by subst h; simp at hti
  obtain ⟨g, hg, hf⟩ := env.facts
  obtain ⟨h0, xs, h1, h2, h3⟩ := ow_re (t := t) hel (hc a w g (g.ga i) hf (show f.p g (g.ga i) w from hf (rs i) _ hs))
  have hga : (ghRe g t (g.ga i) (g.ga i).ownBlock).ga t = g.ga i := if_pos rfl
  refine ⟨env.size, env.defers, env.fr, ghRe g t (g.ga i) (g.ga i).ownBlock, hg.re (by simpa using ht) (fun b hb => all10_spec hT (h0 b hb)), ?_⟩
  refine Facts.ghost (Facts.ghost (facts_retag hf (fun b hb => if_neg (fun he => hb (h0 b he))) (fun _ hs => if_neg hs)) (fun v => ⟨xs, by rw [hga]; exact h1, h2, by rw [hga]; exact h3⟩)) (fun v => ?_)
  show (ghRe g t (g.ga i) (g.ga i).ownBlock).ga i = (ghRe g t (g.ga i) (g.ga i).ownBlock).ga t
  rw [hga]; exact if_neg hti'

/-- The block in which a slice that has elements lies. -/
def slB (n : Nat) (v : Value) : Option Nat := if n = 0 then none else (addrOf v).map (·.block)
theorem sl_re {g : Gh} {v : Value} {w : World} {t : Nat} (hel : ElT (α := α) T te) (h : SlRel (fun b => g.om b ∈ T) (fun b => g.om b ∈ te) l v w) :
    (∀ b, slB l.length v = some b → g.om b ∈ T) ∧ SlRel (fun b => (ghRe g t v (slB l.length v)).om b = t) (fun b => (ghRe g t v (slB l.length v)).om b ∈ te) l v w := by
  obtain ⟨a, c, hv, h2, h3, h4⟩ := h
  have h0 : ∀ b, slB l.length v = some b → g.om b ∈ T := fun b hb => by
    unfold slB at hb
    split at hb
    · cases hb
    · rename_i hn
      rw [hv] at hb
      cases a with
      | none => simp [addrOf] at hb
      | some ad =>
        simp only [addrOf, Option.map_some, Option.some.injEq] at hb
        have := (h4 ad rfl 0 l[0] (List.getElem?_eq_getElem (by omega))).1
        rw [← hb]; exact this
  refine ⟨h0, a, c, hv, h2, h3, fun ad ha i x hx => ?_⟩
  obtain ⟨h5, h6, es, h7, h8⟩ := h4 ad ha i x hx
  refine ⟨?_, h6, es, h7, hel x es g _ w (fun b hb => if_neg (fun he => hb (h0 b he))) h8⟩
  refine if_pos ?_
  have hn : l.length ≠ 0 := by have := (List.getElem?_eq_some_iff.1 hx).1; omega
  unfold slB
  rw [if_neg hn, hv, ha]; rfl
theorem Ad.mu {s : Nat} {f : Fact} (t : Nat) (ht : Nat.ble 10 t = true) (hT : all10 T = true) (hel : ElT (α := α) T te) (hs : look G s = some f) (hc : Cv G f (Fact.sl T te l)) :
    Ad X G (.fact s (.isv t) :: .fact (rs t) (.mutS t te l) :: .killId t :: killTs T G) := fun a w env => by
  obtain ⟨g, hg, hf⟩ := env.facts
  obtain ⟨h0, h1⟩ := sl_re (t := t) hel (hc a w g _ hf (hf s _ hs))
  have hga : (ghRe g t (a.tmps.getD s undef) (slB l.length (a.tmps.getD s undef))).ga t = a.tmps.getD s undef := if_pos rfl
  refine ⟨env.size, env.defers, env.fr, ghRe g t (a.tmps.getD s undef) (slB l.length (a.tmps.getD s undef)), hg.re (by simpa using ht) (fun b hb => all10_spec hT (h0 b hb)), ?_⟩
  have hb : Facts (.fact (rs t) (.mutS t te l) :: .killId t :: killTs T G) (ghRe g t (a.tmps.getD s undef) (slB l.length (a.tmps.getD s undef))) a w :=
    Facts.ghost (facts_retag hf (fun b hb => if_neg (fun he => hb (h0 b he))) (fun _ hs => if_neg hs)) (fun v => by
      show SlRel (fun b => (ghRe g t (a.tmps.getD s undef) (slB l.length (a.tmps.getD s undef))).om b = t) (fun b => (ghRe g t (a.tmps.getD s undef) (slB l.length (a.tmps.getD s undef))).om b ∈ te) l ((ghRe g t (a.tmps.getD s undef) (slB l.length (a.tmps.getD s undef))).ga t) w
      rw [hga]; exact h1)
  intro s' f' hl
  rcases lookK_nil_spec hl with ⟨rfl, rfl⟩ | ⟨_, hl⟩
  · exact hga.symm
  · exact hb s' f' hl
theorem Ad.muF {i : Nat} {f : Fact} (t : Nat) (hti : Nat.beq i t = false) (ht : Nat.ble 10 t = true) (hT : all10 T = true) (hel : ElT (α := α) T te) (hs : look G (rs i) = some (.at i f)) (hc : Cv G f (Fact.sl T te l)) :
    Ad X G (.fact (rs i) (.at i (.isv t)) :: .fact (rs t) (.mutS t te l) :: .killId t :: killTs T G) := fun a w env => by
  have hti' : i ≠ t := fun h => by subst h; simp at hti
  obtain ⟨g, hg, hf⟩ := env.facts
  obtain ⟨h0, h1⟩ := sl_re (t := t) hel (hc a w g (g.ga i) hf (show f.p g (g.ga i) w from hf (rs i) _ hs))
  have hga : (ghRe g t (g.ga i) (slB l.length (g.ga i))).ga t = g.ga i := if_pos rfl
  refine ⟨env.size, env.defers, env.fr, ghRe g t (g.ga i) (slB l.length (g.ga i)), hg.re (by simpa using ht) (fun b hb => all10_spec hT (h0 b hb)), ?_⟩
  refine Facts.ghost (Facts.ghost (facts_retag hf (fun b hb => if_neg (fun he => hb (h0 b he))) (fun _ hs => if_neg hs)) (fun v => ?_)) (fun v => ?_)
  · show SlRel (fun b => (ghRe g t (g.ga i) (slB l.length (g.ga i))).om b = t) (fun b => (ghRe g t (g.ga i) (slB l.length (g.ga i))).om b ∈ te) l ((ghRe g t (g.ga i) (slB l.length (g.ga i))).ga t) w
    rw [hga]; exact h1
  · show (ghRe g t (g.ga i) (slB l.length (g.ga i))).ga i = (ghRe g t (g.ga i) (slB l.length (g.ga i))).ga t
    rw [hga]; exact if_neg hti'
end
end GL
