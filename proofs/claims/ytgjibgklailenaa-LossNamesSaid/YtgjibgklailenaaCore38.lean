/- Own library, part 38: own slices of structs that each begin with a slice of their own. -/
import Derived.Test.YtgjibgklailenaaCore37
namespace GL
open Go

/-! ### cells as they stand -/
structure Raw (n : Nat) where
  cs : List Value
  len : cs.length = n
  one : ∀ c ∈ cs, c.oneCell' = true
instance (n : Nat) : Rp (Raw n) where
  n := n
  agg := true
  na := fun h => by cases h
  rel := fun _ x cs _ => cs = x.cs
  len := fun _ x _ _ h => by rw [h]; exact x.len
  one := fun _ x _ _ h => by rw [h]; exact x.one
  stab := fun _ _ _ _ _ _ _ _ h => h
theorem OwnTy.raw {P : Program} {t e : TypeId} {α : Type} [R : Rp α] (h : OwnTy P t e α) (ha : R.agg = true) : OwnTy P t e (Raw R.n) :=
  ⟨h.und, ⟨by obtain ⟨d, h1, h2⟩ := h.el.und; exact ⟨d, h1, by rw [h2, ha]; rfl⟩, h.el.sz⟩, h.pos, h.info⟩
theorem Ty.raw {P : Program} {e : TypeId} {α : Type} [R : Rp α] (h : Ty P e α) (ha : R.agg = true) : Ty P e (Raw R.n) :=
  ⟨by obtain ⟨d, h1, h2⟩ := h.und; exact ⟨d, h1, by rw [h2, ha]; rfl⟩, h.sz⟩
theorem raw_of {n : Nat} : ∀ (m : Nat) (xs : List Value), xs.length = m * n → (∀ c ∈ xs, c.oneCell' = true) → ∃ l : List (Raw n), l.length = m ∧ ∀ F w, RelL F l xs w
  | 0, xs, h, _ => ⟨[], rfl, fun _ _ => by
    have : xs = [] := List.eq_nil_of_length_eq_zero (by omega)
    exact this⟩
  | m + 1, xs, h, h1 => by
    rw [Nat.add_mul] at h
    have hl : (xs.take n).length = n := by rw [List.length_take]; omega
    obtain ⟨l, h2, h3⟩ := raw_of (n := n) m (xs.drop n) (by rw [List.length_drop]; omega) (fun c hc => h1 c (List.mem_of_mem_drop hc))
    exact ⟨⟨xs.take n, hl, fun c hc => h1 c (List.mem_of_mem_take hc)⟩ :: l, by simp [h2], fun F w => ⟨xs.take n, xs.drop n, (List.take_append_drop n xs).symm, rfl, h3 F w⟩⟩
theorem raw_eq {n : Nat} {F F' : Nat → Prop} {w w' : World} : ∀ (l : List (Raw n)) (xs ys : List Value), RelL F l xs w → RelL F' l ys w' → xs = ys
  | [], xs, ys, h, k => by rw [show xs = [] from h, show ys = [] from k]
  | x :: l, xs, ys, h, k => by
    obtain ⟨c1, c2, rfl, h1, h2⟩ := h
    obtain ⟨d1, d2, rfl, k1, k2⟩ := k
    rw [show c1 = x.cs from h1, show d1 = x.cs from k1, raw_eq l c2 d2 h2 k2]

/-! ### data that begin with a slice -/
structure HdS (α β γ : Type) [R : Rp α] [B : Rp β] [C : Rp γ] where
  hd : α → List β
  tl : α → γ
  n : R.n = C.n + 1
  agg : R.agg = true
  split : ∀ F x cs w, R.rel F x cs w ↔ ∃ v c, cs = v :: c ∧ SlRel F F (hd x) v w ∧ C.rel F (tl x) c w
theorem list_rel {β : Type} [B : Rp β] (F : Nat → Prop) (l : List β) (cs : List Value) (w : World) : (inferInstance : Rp (List β)).rel F l cs w ↔ ∃ v, cs = [v] ∧ SlRel F F l v w := by
  constructor
  · rintro ⟨a, c, h1, h2, h3, h4⟩
    exact ⟨_, h1, a, c, rfl, h2, h3, h4⟩
  · rintro ⟨v, h0, a, c, h1, h2, h3, h4⟩
    exact ⟨a, c, by rw [h0, h1], h2, h3, h4⟩
def HdS.via {α β γ : Type} [B : Rp β] [C : Rp γ] (f : α → List β × γ) : @HdS α β γ (Rp.via (inferInstance : Rp (List β × γ)) f) B C :=
  @HdS.mk α β γ (Rp.via (inferInstance : Rp (List β × γ)) f) B C (fun x => (f x).1) (fun x => (f x).2) (Nat.add_comm 1 C.n) rfl (fun F x cs w => by
    show (∃ c1 c2, cs = c1 ++ c2 ∧ (inferInstance : Rp (List β)).rel F (f x).1 c1 w ∧ C.rel F (f x).2 c2 w) ↔ _
    constructor
    · rintro ⟨c1, c2, rfl, h1, h2⟩
      obtain ⟨v, rfl, h3⟩ := (list_rel F _ c1 w).1 h1
      exact ⟨v, c2, rfl, h3, h2⟩
    · rintro ⟨v, c, rfl, h1, h2⟩
      exact ⟨[v], c, rfl, (list_rel F _ _ w).2 ⟨v, rfl, h1⟩, h2⟩)

theorem OwRel.stab1 {α : Type} [R : Rp α] {F Fe F' Fe' : Nat → Prop} {e : TypeId} {l : List α} {v : Value} {w w' : World} (hs : w.heap.size ≤ w'.heap.size)
    (hk : ∀ b, v.ownBlock = some b → b < w.heap.size → F b → w'.heap[b]? = w.heap[b]? ∧ F' b) (hk' : ∀ b, b < w.heap.size → Fe b → w'.heap[b]? = w.heap[b]? ∧ Fe' b) (h : OwRel F Fe e l v w) : OwRel F' Fe' e l v w' := by
  obtain ⟨xs, h1, h2, h3⟩ := h
  have : OwRel (fun b => F b ∧ v.ownBlock = some b) Fe e l v w := ⟨xs, h1, h2, fun b hb => ⟨h3 b hb, hb⟩⟩
  exact OwRel.stab hs (fun b hb hF => hk b hF.2 hb hF.1) hk' this
theorem OwRel.lt {α : Type} [R : Rp α] {F Fe : Nat → Prop} {e : TypeId} {l : List α} {v : Value} {w : World} (h : OwRel F Fe e l v w) {b : Nat} (hb : v.ownBlock = some b) : F b ∧ b < w.heap.size := by
  obtain ⟨xs, h1, h2, h3⟩ := h
  exact ⟨h3 b hb, (h1.lt b hb).2⟩
theorem OwRel.one {α : Type} [R : Rp α] {F Fe : Nat → Prop} {e : TypeId} {l : List α} {v : Value} {w : World} (h : OwRel F Fe e l v w) : v.oneCell' = true := by
  obtain ⟨xs, h1, _⟩ := h
  rcases h1.2 with ⟨rfl, _⟩ | ⟨b, cap, cur, rfl, _⟩ <;> rfl

section
variable {α β γ : Type} [R : Rp α] [B : Rp β] [C : Rp γ] (H : HdS α β γ)

/-- The cells of a list of such data, each with a row of its own, and the blocks of those rows. -/
def RelN (Fr Fe : Nat → Prop) (er : TypeId) : List α → List Value → List (Option Nat) → World → Prop
  | [], cs, bs, _ => cs = [] ∧ bs = []
  | x :: l, cs, bs, w => ∃ v c1 c2 bs', cs = v :: (c1 ++ c2) ∧ bs = v.ownBlock :: bs' ∧ OwRel Fr Fe er (H.hd x) v w ∧ C.rel Fe (H.tl x) c1 w ∧ RelN Fr Fe er l c2 bs' w
variable {H} {Fr Fe Fr' Fe' : Nat → Prop} {er : TypeId} {w w' : World}
theorem RelN.stab (hs : w.heap.size ≤ w'.heap.size) (hk' : ∀ b, b < w.heap.size → Fe b → w'.heap[b]? = w.heap[b]? ∧ Fe' b) : ∀ (l : List α) (cs : List Value) (bs : List (Option Nat)),
    (∀ b, some b ∈ bs → b < w.heap.size → Fr b → w'.heap[b]? = w.heap[b]? ∧ Fr' b) → RelN H Fr Fe er l cs bs w → RelN H Fr' Fe' er l cs bs w'
  | [], _, _, _, h => h
  | x :: l, cs, bs, hk, h => by
    obtain ⟨v, c1, c2, bs', h1, rfl, h3, h4, h5⟩ := h
    exact ⟨v, c1, c2, bs', h1, rfl, OwRel.stab1 hs (fun b hb => hk b (by rw [hb]; simp)) hk' h3, C.stab Fe Fe' _ c1 w w' hs hk' h4, RelN.stab hs hk' l c2 bs' (fun b hb => hk b (by simp [hb])) h5⟩
theorem RelN.len : ∀ (l : List α) (cs : List Value) (bs : List (Option Nat)), RelN H Fr Fe er l cs bs w → cs.length = l.length * R.n ∧ bs.length = l.length
  | [], cs, bs, h => by rw [h.1, h.2]; simp
  | x :: l, cs, bs, h => by
    obtain ⟨v, c1, c2, bs', rfl, rfl, h3, h4, h5⟩ := h
    obtain ⟨k1, k2⟩ := RelN.len l c2 bs' h5
    have := C.len _ _ _ _ h4
    have hn := H.n
    simp only [List.length_cons, List.length_append]
    rw [k1, k2, this, Nat.add_mul]
    omega
theorem RelN.one : ∀ (l : List α) (cs : List Value) (bs : List (Option Nat)), RelN H Fr Fe er l cs bs w → ∀ c ∈ cs, c.oneCell' = true
  | [], cs, bs, h => by rw [h.1]; simp
  | x :: l, cs, bs, h => by
    obtain ⟨v, c1, c2, bs', rfl, rfl, h3, h4, h5⟩ := h
    intro c hc
    simp only [List.mem_cons, List.mem_append] at hc
    rcases hc with rfl | hc | hc
    · exact h3.one
    · exact C.one _ _ _ _ h4 c hc
    · exact RelN.one l c2 bs' h5 c hc
theorem RelN.mem : ∀ (l : List α) (cs : List Value) (bs : List (Option Nat)), RelN H Fr Fe er l cs bs w → ∀ b, some b ∈ bs → Fr b ∧ b < w.heap.size
  | [], cs, bs, h, b, hb => by rw [h.2] at hb; simp at hb
  | x :: l, cs, bs, h, b, hb => by
    obtain ⟨v, c1, c2, bs', rfl, rfl, h3, h4, h5⟩ := h
    simp only [List.mem_cons] at hb
    rcases hb with hb | hb
    · exact h3.lt hb.symm
    · exact RelN.mem l c2 bs' h5 b hb
theorem RelN.app : ∀ (l m : List α) (cs ds : List Value) (bs bt : List (Option Nat)), RelN H Fr Fe er l cs bs w → RelN H Fr Fe er m ds bt w → RelN H Fr Fe er (l ++ m) (cs ++ ds) (bs ++ bt) w
  | [], m, cs, ds, bs, bt, h, k => by rw [h.1, h.2]; exact k
  | x :: l, m, cs, ds, bs, bt, h, k => by
    obtain ⟨v, c1, c2, bs', rfl, rfl, h3, h4, h5⟩ := h
    exact ⟨v, c1, c2 ++ ds, bs' ++ bt, by simp, by simp, h3, h4, RelN.app l m c2 ds bs' bt h5 k⟩
theorem RelN.split : ∀ (l m : List α) (cs : List Value) (bs : List (Option Nat)), RelN H Fr Fe er (l ++ m) cs bs w → ∃ c1 c2 b1 b2, cs = c1 ++ c2 ∧ bs = b1 ++ b2 ∧ RelN H Fr Fe er l c1 b1 w ∧ RelN H Fr Fe er m c2 b2 w
  | [], m, cs, bs, h => ⟨[], cs, [], bs, rfl, rfl, ⟨rfl, rfl⟩, h⟩
  | x :: l, m, cs, bs, h => by
    obtain ⟨v, c1, c2, bs', rfl, rfl, h3, h4, h5⟩ := h
    obtain ⟨d1, d2, b1, b2, rfl, rfl, k1, k2⟩ := RelN.split l m c2 bs' h5
    exact ⟨v :: (c1 ++ d1), d2, v.ownBlock :: b1, b2, by simp, by simp, ⟨v, c1, d1, b1, rfl, rfl, h3, h4, k1⟩, k2⟩
theorem RelN.relL {F : Nat → Prop} (h1 : ∀ b, Fr b → F b) (h2 : ∀ b, Fe b → F b) : ∀ (l : List α) (cs : List Value) (bs : List (Option Nat)), RelN H Fr Fe er l cs bs w → RelL F l cs w
  | [], cs, bs, h => h.1
  | x :: l, cs, bs, h => by
    obtain ⟨v, c1, c2, bs', rfl, rfl, h3, h4, h5⟩ := h
    refine ⟨v :: c1, c2, rfl, (H.split F x _ w).2 ⟨v, c1, rfl, ?_, ?_⟩, RelN.relL h1 h2 l c2 bs' h5⟩
    · exact SlRel.stab (Nat.le_refl _) (fun b _ hb => ⟨rfl, h1 b hb⟩) (fun b _ hb => ⟨rfl, h2 b hb⟩) h3.sl
    · exact C.stab Fe F _ c1 w w (Nat.le_refl _) (fun b _ hb => ⟨rfl, h2 b hb⟩) h4
end

def DistO (bs : List (Option Nat)) : Prop := bs.Pairwise (fun a b => a ≠ none → a ≠ b)
theorem DistO.app {bs bt : List (Option Nat)} (h : DistO bs) (k : DistO bt) (hd : ∀ b, some b ∈ bs → some b ∉ bt) : DistO (bs ++ bt) :=
  List.pairwise_append.2 ⟨h, k, fun a ha b hb hn he => by
    cases a with
    | none => exact hn rfl
    | some x => subst he; exact hd x ha hb⟩
theorem DistO.left {bs bt : List (Option Nat)} (h : DistO (bs ++ bt)) : DistO bs := (List.pairwise_append.1 h).1
theorem DistO.right {bs bt : List (Option Nat)} (h : DistO (bs ++ bt)) : DistO bt := (List.pairwise_append.1 h).2.1
theorem DistO.apart {bs bt : List (Option Nat)} (h : DistO (bs ++ bt)) (b : Nat) (h1 : some b ∈ bs) : some b ∉ bt := fun h2 =>
  (List.pairwise_append.1 h).2.2 _ h1 _ h2 (by simp) rfl

/-! ### facts -/
section
variable {α β γ : Type} [R : Rp α] [B : Rp β] [C : Rp γ]
def Ow2Rel (H : HdS α β γ) (Fo Fr Fe : Nat → Prop) (e er : TypeId) (l : List α) (v : Value) (w : World) : Prop :=
  ∃ xs bs, w.ownsRow 0 e R.n v l.length xs ∧ RelN H Fr Fe er l xs bs w ∧ DistO bs ∧ ∀ b, v.ownBlock = some b → Fo b
theorem ownsRow_keep {e : TypeId} {n m : Nat} {v : Value} {xs : List Value} {w w' : World} (h : w.ownsRow 0 e n v m xs) (hk : ∀ b, v.ownBlock = some b → b < w.heap.size → w'.heap[b]? = w.heap[b]?) : w'.ownsRow 0 e n v m xs := by
  refine ⟨h.1, ?_⟩
  rcases h.2 with hn | ⟨b, cap, cur, hv, h0, hb, rest⟩
  · exact .inl hn
  · refine .inr ⟨b, cap, cur, hv, h0, ?_, rest⟩
    have hlt : b < w.heap.size := (Array.getElem?_eq_some_iff.1 hb).1
    rw [hk b (by rw [hv]; rfl) hlt]
    exact hb
theorem Ow2Rel.stab {H : HdS α β γ} {Fo Fr Fe Fo' Fr' Fe' : Nat → Prop} {e er : TypeId} {l : List α} {v : Value} {w w' : World} (hs : w.heap.size ≤ w'.heap.size)
    (hk0 : ∀ b, b < w.heap.size → Fo b → w'.heap[b]? = w.heap[b]? ∧ Fo' b) (hk : ∀ b, b < w.heap.size → Fr b → w'.heap[b]? = w.heap[b]? ∧ Fr' b) (hk' : ∀ b, b < w.heap.size → Fe b → w'.heap[b]? = w.heap[b]? ∧ Fe' b)
    (h : Ow2Rel H Fo Fr Fe e er l v w) : Ow2Rel H Fo' Fr' Fe' e er l v w' := by
  obtain ⟨xs, bs, h1, h2, h3, h4⟩ := h
  exact ⟨xs, bs, ownsRow_keep h1 (fun b hb hlt => (hk0 b hlt (h4 b hb)).1), RelN.stab hs hk' l xs bs (fun b _ => hk b) h2, h3, fun b hb => (hk0 b (h1.lt b hb).2 (h4 b hb)).2⟩

def Fact.ow2 (H : HdS α β γ) (T Tr te : List Nat) (e er : TypeId) (l : List α) : Fact where
  tags := T ++ (Tr ++ te)
  ids := []
  p := fun g v w => Ow2Rel H (fun b => g.om b ∈ T) (fun b => g.om b ∈ Tr) (fun b => g.om b ∈ te) e er l v w
  stab := fun g g' v w w' hk h => Ow2Rel.stab hk.size
    (fun b hb ht => ⟨(hk.block b hb (List.mem_append_left _ ht)).1, by rw [(hk.block b hb (List.mem_append_left _ ht)).2]; exact ht⟩)
    (fun b hb ht => ⟨(hk.block b hb (List.mem_append_right _ (List.mem_append_left _ ht))).1, by rw [(hk.block b hb (List.mem_append_right _ (List.mem_append_left _ ht))).2]; exact ht⟩)
    (fun b hb ht => ⟨(hk.block b hb (List.mem_append_right _ (List.mem_append_right _ ht))).1, by rw [(hk.block b hb (List.mem_append_right _ (List.mem_append_right _ ht))).2]; exact ht⟩) h
/-- The same, of a slice that has a name. -/
def Fact.own2 (H : HdS α β γ) (t : Nat) (Tr te : List Nat) (e er : TypeId) (l : List α) : Fact where
  tags := t :: (Tr ++ te)
  ids := [t]
  p := fun g _ w => Ow2Rel H (fun b => g.om b = t) (fun b => g.om b ∈ Tr) (fun b => g.om b ∈ te) e er l (g.ga t) w
  stab := fun g g' v w w' hk h => by
    show Ow2Rel H (fun b => g'.om b = t) (fun b => g'.om b ∈ Tr) (fun b => g'.om b ∈ te) e er l (g'.ga t) w'
    rw [hk.ids t (by simp)]
    exact Ow2Rel.stab hk.size
      (fun b hb ht => by have := hk.block b hb (by rw [ht]; simp); exact ⟨this.1, by rw [this.2]; exact ht⟩)
      (fun b hb ht => by have := hk.block b hb (List.mem_cons_of_mem _ (List.mem_append_left _ ht)); exact ⟨this.1, by rw [this.2]; exact ht⟩)
      (fun b hb ht => by have := hk.block b hb (List.mem_cons_of_mem _ (List.mem_append_right _ ht)); exact ⟨this.1, by rw [this.2]; exact ht⟩) h
end
section
variable {G : List It} {α β γ : Type} [R : Rp α] [B : Rp β] [C : Rp γ] {H : HdS α β γ} {T Tr te T' Tr' te' : List Nat} {e er : TypeId} {l : List α}
theorem Cv.ow2Ow : Cv G (Fact.ow2 H T Tr te e er l) (Fact.ow T (Tr ++ te) e l) := fun _ _ _ _ _ h => by
  obtain ⟨xs, bs, h1, h2, h3, h4⟩ := h
  exact ⟨xs, h1, RelN.relL (fun b hb => List.mem_append_left _ hb) (fun b hb => List.mem_append_right _ hb) l xs bs h2, h4⟩
theorem Cv.isvOw2 {t : Nat} (hrs : look G (rs t) = some (.own2 H t Tr te e er l)) : Cv G (.isv t) (Fact.ow2 H [t] Tr te e er l) := fun a w g v hf hv => by
  obtain ⟨xs, bs, h1, h2, h3, h4⟩ := hf _ _ hrs
  rw [show v = g.ga t from hv]
  exact ⟨xs, bs, h1, h2, h3, fun b hb => by simp [h4 b hb]⟩
theorem Cv.nilOw2 : Cv G .nilv (Fact.ow2 H T Tr te e er ([] : List α)) := fun _ w g v _ h => by
  rw [show v = .slice none 0 0 from h]
  exact ⟨[], [], World.ownsRow_nil w 0 e R.n, ⟨rfl, rfl⟩, List.Pairwise.nil, fun b hb => by cases hb⟩
theorem Cv.ow2M (h1 : subB T T' = true) (h2 : subB Tr Tr' = true) (h3 : subB te te' = true) : Cv G (Fact.ow2 H T Tr te e er l) (Fact.ow2 H T' Tr' te' e er l) := fun _ _ _ _ _ h =>
  Ow2Rel.stab (Nat.le_refl _) (fun _ _ hb => ⟨rfl, subB_spec h1 _ hb⟩) (fun _ _ hb => ⟨rfl, subB_spec h2 _ hb⟩) (fun _ _ hb => ⟨rfl, subB_spec h3 _ hb⟩) h
end

/-- Facts that stand where blocks of some tags turn, or get other tags, and some names get other values. -/
theorem facts_killR {G : List It} {g g' : Gh} {a : Act} {w w' : World} (K I : List Nat) (h : Facts G g a w) (hs : w.heap.size ≤ w'.heap.size)
    (hb : ∀ b, b < w.heap.size → g.om b ∉ K → w'.heap[b]? = w.heap[b]? ∧ g'.om b = g.om b) (hga : ∀ s, s ∉ I → g'.ga s = g.ga s) : Facts (killIds I (killTs K G)) g' a w' := fun s f hl => by
  obtain ⟨I', _, h2, h3⟩ := lookK_killIds I (killTs K G) [] [] s f hl
  obtain ⟨K', _, h5, h6⟩ := lookK_killTs K G [] I' s f h3
  have hd := lookK_disj G K' I' s f h6
  exact f.stab g g' _ w w' ⟨hs, fun b hbl ht => hb b hbl (fun hK => disj_spec hd.1 (h5 _ hK) ht), fun s' hs' => hga s' (fun he => disj_spec hd.2 (h2 _ he) hs')⟩ (h s f (lookK_sub G K' [] I' [] s f (by simp) (by simp) h6))
end GL
