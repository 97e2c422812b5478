/- Own library, part 15: structs: values by their parts, variables by their parts. -/
import Derived.Test.YtgjibgklailenaaCore14
namespace GL
open Go

/-- A datum with its kind. -/
structure Ent where
  {α : Type}
  R : Rp α
  y : α

def EntsRel (F : Nat → Prop) : List Ent → List Value → World → Prop
  | [], cs, _ => cs = []
  | e :: es, cs, w => ∃ c1 c2, cs = c1 ++ c2 ∧ e.R.rel F e.y c1 w ∧ EntsRel F es c2 w

/-- The parts of a datum. -/
structure Ch {α : Type} [R : Rp α] (y : α) (es : List Ent) : Prop where
  ag : R.agg = true
  rel : ∀ F cs w, R.rel F y cs w ↔ EntsRel F es cs w

/-- The parts of a chain of pairs. -/
structure ChT {α : Type} [R : Rp α] (y : α) (es : List Ent) : Prop where
  rel : ∀ F cs w, R.rel F y cs w ↔ EntsRel F es cs w
theorem ChT.one {α : Type} [R : Rp α] (y : α) : ChT y [⟨R, y⟩] := ⟨fun F cs w => by simp [EntsRel]⟩
theorem ChT.cons {α β : Type} [A : Rp α] [B : Rp β] {y : α} {z : β} {es : List Ent} (h : ChT z es) : ChT (y, z) (⟨A, y⟩ :: es) :=
  ⟨fun F cs w => by
    show (∃ c1 c2, cs = c1 ++ c2 ∧ A.rel F y c1 w ∧ B.rel F z c2 w) ↔ ∃ c1 c2, cs = c1 ++ c2 ∧ A.rel F y c1 w ∧ EntsRel F es c2 w
    simp only [h.rel]⟩
theorem Ch.via {α β : Type} {B : Rp β} {f : α → β} {y : α} {es : List Ent} (h : @ChT β B (f y) es) : @Ch α (Rp.via B f) y es :=
  @Ch.mk α (Rp.via B f) y es rfl (fun F cs w => h.rel F cs w)

abbrev Ls := List (Bool × Nat × Fact)
def FldRel (g : Gh) (w : World) : Ls → List Value → Prop
  | [], cs => cs = []
  | l :: ls, cs => ∃ c1 c2, cs = c1 ++ c2 ∧ c1.length = l.2.1 ∧ (∀ c ∈ c1, c.oneCell' = true) ∧ (l.1 = false → l.2.1 = 1) ∧ l.2.2.p g (mkV l.1 c1) w ∧ FldRel g w ls c2

theorem FldRel.stab {g g' : Gh} {w w' : World} : ∀ (ls : Ls) (cs : List Value), Keeps (ls.flatMap fun l => l.2.2.tags) (ls.flatMap fun l => l.2.2.ids) g g' w w' → FldRel g w ls cs → FldRel g' w' ls cs
  | [], _, _, h => h
  | l :: ls, cs, hk, h => by
    obtain ⟨c1, c2, h1, h2, h3, h3', h4, h5⟩ := h
    refine ⟨c1, c2, h1, h2, h3, h3', l.2.2.stab g g' _ w w' ⟨hk.size, fun b hb ht => hk.block b hb (by simp [List.flatMap_cons, ht]), fun t ht => hk.ids t (by simp [List.flatMap_cons, ht])⟩ h4, ?_⟩
    exact FldRel.stab ls c2 ⟨hk.size, fun b hb ht => hk.block b hb (by rw [List.flatMap_cons]; exact List.mem_append_right _ ht), fun t ht => hk.ids t (by rw [List.flatMap_cons]; exact List.mem_append_right _ ht)⟩ h5

theorem FldRel.one {g : Gh} {w : World} : ∀ (ls : Ls) (cs : List Value), FldRel g w ls cs → ∀ c ∈ cs, c.oneCell' = true
  | [], cs, h => by rw [show cs = [] from h]; simp
  | l :: ls, cs, h => by
    obtain ⟨c1, c2, rfl, _, h3, _, _, h5⟩ := h
    intro c hc
    rcases List.mem_append.1 hc with hc | hc
    · exact h3 c hc
    · exact FldRel.one ls c2 h5 c hc
def lsN : Ls → Nat
  | [] => 0
  | l :: ls => l.2.1 + lsN ls
theorem FldRel.len {g : Gh} {w : World} : ∀ (ls : Ls) (cs : List Value), FldRel g w ls cs → cs.length = lsN ls
  | [], cs, h => by rw [show cs = [] from h]; rfl
  | l :: ls, cs, h => by
    obtain ⟨c1, c2, rfl, h1, _, _, _, h5⟩ := h
    rw [List.length_append, h1, FldRel.len ls c2 h5]; rfl

/-- A struct's value, by its parts. -/
def Fact.flds (ls : Ls) : Fact where
  tags := ls.flatMap fun l => l.2.2.tags
  ids := ls.flatMap fun l => l.2.2.ids
  p := fun g v w => ∃ cs, v = .agg cs.toArray ∧ FldRel g w ls cs
  stab := fun g g' v w w' hk h => by
    obtain ⟨cs, hv, hr⟩ := h
    exact ⟨cs, hv, hr.stab ls cs hk⟩

/-! ### turning facts -/
def Cv (G : List It) (f f' : Fact) : Prop := ∀ a w g v, Facts G g a w → f.p g v w → f'.p g v w
theorem Has.cv {G : List It} {x : Operand} {f f' : Fact} (h : Has G x f) (k : Cv G f f') : Has G x f' := fun a w g hf => k a w g _ hf (h a w g hf)
theorem Cv.refl {G : List It} {f : Fact} : Cv G f f := fun _ _ _ _ _ h => h
theorem Cv.trans {G : List It} {f f' f'' : Fact} (h : Cv G f f') (k : Cv G f' f'') : Cv G f f'' := fun a w g v hf hp => k a w g v hf (h a w g v hf hp)
theorem Cv.m {G : List It} {α : Type} [R : Rp α] {y : α} {T T' : List Nat} (hT : subB T T' = true) : Cv G (Fact.rep T y) (Fact.rep T' y) :=
  fun _ _ _ _ _ h => Rep.mono h (fun _ _ hb => subB_spec hT _ hb)
theorem Cv.fl {G : List It} {α : Type} [R : Rp α] [Fl : Flat α] {y : α} {T T' : List Nat} : Cv G (Fact.rep T y) (Fact.rep T' y) :=
  fun _ _ _ _ _ ⟨cs, h1, h2⟩ => ⟨cs, Fl.flat _ _ _ _ _ _ h1, h2⟩
theorem own_rep {α : Type} [R : Rp α] {t : Nat} {te : List Nat} {e : TypeId} {l : List α} {g : Gh} {v : Value} {w : World} (h : (Fact.own t te e l).p g v w) : Rep (fun b => g.om b ∈ t :: te) l (g.ga t) w := by
  obtain ⟨xs, hown, hrel, htag⟩ := h
  rcases hown.2 with ⟨hn, h0⟩ | ⟨b, cap, cur, hv', _, hb, hnc, hcm, hcs, htake⟩
  · have : l = [] := List.eq_nil_of_length_eq_zero h0
    subst this
    rw [hn]
    exact rep_nil
  · rw [hv']
    refine ⟨_, ⟨some ⟨b, 0, none⟩, cap, rfl, hnc, fun h => (by cases h), ?_⟩, rfl⟩
    intro ad had i x hx
    cases had
    have hlt : b < w.heap.size := (Array.getElem?_eq_some_iff.1 hb).1
    have hom : g.om b = t := htag b (by rw [hv']; rfl)
    obtain ⟨es, he, hc⟩ := RelL.get l xs hrel i x hx
    refine ⟨by simp [hom], hlt, es, fun j u hj => ?_, R.stab _ _ x es w w (Nat.le_refl _) (fun b _ h => ⟨rfl, List.mem_cons_of_mem _ h⟩) he⟩
    have h1 := hc j u hj
    rw [Addr.add_add, Go.Addr.add_lit]
    simp only [Nat.zero_add]
    refine ⟨?_, frozen_of_row w b _ cur e hb⟩
    rw [cell_of_row w b _ cur e (0, 0) hb]
    rw [← htake] at h1
    rw [List.getElem?_take] at h1
    split at h1
    · simpa using h1
    · cases h1
theorem Cv.own {G : List It} {α : Type} [R : Rp α] {t : Nat} {te : List Nat} {e : TypeId} {l : List α} (hrs : look G (rs t) = some (.own t te e l)) : Cv G (.isv t) (Fact.rep (t :: te) l) :=
  fun a w g v hf hv => by
    have h2 := own_rep (hf _ _ hrs)
    show Rep _ l v w
    rw [show v = g.ga t from hv]; exact h2
theorem Cv.mutS {G : List It} {α : Type} [R : Rp α] {t : Nat} {te : List Nat} {l : List α} (hrs : look G (rs t) = some (.mutS t te l)) : Cv G (.isv t) (Fact.rep (t :: te) l) :=
  fun a w g v hf hv => by
    show Rep _ l v w
    have h : SlRel (fun b => g.om b = t) (fun b => g.om b ∈ te) l (g.ga t) w := hf _ _ hrs
    rw [show v = g.ga t from hv]; exact SlRel.rep (fun b hb => by rw [hb]; simp) (fun b hb => List.mem_cons_of_mem _ hb) h

/-- Parts, each turned. -/
def CvL (G : List It) : Ls → Ls → Prop
  | [], [] => True
  | l :: ls, m :: ms => l.1 = m.1 ∧ l.2.1 = m.2.1 ∧ Cv G l.2.2 m.2.2 ∧ CvL G ls ms
  | _, _ => False
theorem CvL.nil {G : List It} : CvL G [] [] := trivial
theorem CvL.cons {G : List It} {ag : Bool} {n : Nat} {f f' : Fact} {ls ms : Ls} (h : Cv G f f') (k : CvL G ls ms) : CvL G ((ag, n, f) :: ls) ((ag, n, f') :: ms) := ⟨rfl, rfl, h, k⟩
theorem Cv.flds {G : List It} {ls ms : Ls} (h : CvL G ls ms) : Cv G (.flds ls) (.flds ms) := fun a w g v hf hp => by
  obtain ⟨cs, hv, hr⟩ := hp
  refine ⟨cs, hv, ?_⟩
  clear hv
  induction ls generalizing ms cs with
  | nil => cases ms with
    | nil => exact hr
    | cons m ms => exact h.elim
  | cons l ls ih => cases ms with
    | nil => exact h.elim
    | cons m ms =>
      obtain ⟨h1, h2, h3, h4⟩ := h
      obtain ⟨c1, c2, e1, e2, e3, e3', e4, e5⟩ := hr
      exact ⟨c1, c2, e1, by rw [← h2]; exact e2, e3, by rw [← h1, ← h2]; exact e3', by rw [← h1]; exact h3 a w g _ hf e4, ih h4 c2 e5⟩

def entsL (T : List Nat) (es : List Ent) : Ls := es.map fun e => (e.R.agg, e.R.n, @Fact.rep e.α e.R T e.y)
theorem entsL_rel {g : Gh} {w : World} {T : List Nat} : ∀ (es : List Ent) (cs : List Value), FldRel g w (entsL T es) cs ↔ EntsRel (fun b => g.om b ∈ T) es cs w
  | [], cs => Iff.rfl
  | e :: es, cs => by
    constructor
    · rintro ⟨c1, c2, h1, h2, h3, _, ⟨ds, h4, h4'⟩, h5⟩
      have hl := e.R.len _ _ _ _ h4
      have : c1 = ds := by
        cases hag : e.R.agg with
        | true => simp [hag, mkV] at h4'; exact h4'
        | false =>
          have h1n := e.R.na hag
          have h2' : c1.length = e.R.n := h2
          simp only [hag, mkV] at h4'
          rw [h1n] at hl h2'
          match c1, ds, h2', hl with
          | [a], [b], _, _ => simp at h4'; rw [h4']
      subst this
      exact ⟨c1, c2, h1, h4, (entsL_rel es c2).1 h5⟩
    · rintro ⟨c1, c2, h1, h2, h3⟩
      exact ⟨c1, c2, h1, e.R.len _ _ _ _ h2, e.R.one _ _ _ _ h2, e.R.na, ⟨c1, h2, rfl⟩, (entsL_rel es c2).2 h3⟩
theorem Cv.opens {G : List It} {α : Type} [R : Rp α] {y : α} {T : List Nat} {es : List Ent} (h : Ch y es) : Cv G (Fact.rep T y) (.flds (entsL T es)) := fun a w g v hf hp => by
  obtain ⟨cs, h1, h2⟩ := hp
  exact ⟨cs, by rw [h2, h.ag]; rfl, (entsL_rel es cs).2 ((h.rel _ _ _).1 h1)⟩
theorem Cv.close {G : List It} {α : Type} [R : Rp α] {y : α} {T : List Nat} {es : List Ent} (h : Ch y es) : Cv G (.flds (entsL T es)) (Fact.rep T y) := fun a w g v hf hp => by
  obtain ⟨cs, h1, h2⟩ := hp
  exact ⟨cs, (h.rel _ _ _).2 ((entsL_rel es cs).1 h2), by rw [h1, h.ag]; rfl⟩

/-! ### facts on values that ghosts keep -/
def Fact.at (i : Nat) (f : Fact) : Fact where
  tags := f.tags
  ids := i :: f.ids
  p := fun g _ w => f.p g (g.ga i) w
  stab := fun g g' v w w' hk h => by
    rw [hk.ids i (by simp)]
    exact f.stab g g' _ w w' ⟨hk.size, hk.block, fun t ht => hk.ids t (List.mem_cons_of_mem _ ht)⟩ h
def HasG (G : List It) (i : Nat) (f : Fact) : Prop := ∀ a w g, Facts G g a w → f.p g (g.ga i) w
theorem HasG.s {G : List It} {i : Nat} {f : Fact} (h : look G (rs i) = some (.at i f)) : HasG G i f := fun _ _ _ hf => hf _ _ h
theorem HasG.cv {G : List It} {i : Nat} {f f' : Fact} (h : HasG G i f) (k : Cv G f f') : HasG G i f' := fun a w g hf => k a w g _ hf (h a w g hf)
theorem Has.at {G : List It} {i : Nat} {f : Fact} {x : Operand} (h : HasG G i f) : Has G x (.at i f) := h

/-! ### variables by their parts -/
def idsOf (t : Nat) : Ls → List Nat
  | [] => []
  | _ :: ls => t :: idsOf (t + 1) ls
/-- Items for the parts. -/
def flI (t : Nat) : Ls → List It → List It
  | [], G => G
  | l :: ls, G => .fact (rs t) (.at t l.2.2) :: flI (t + 1) ls G
def killIds : List Nat → List It → List It
  | [], G => G
  | t :: ts, G => .killId t :: killIds ts G

abbrev Ps := List (Bool × Nat)
def PRel (g : Gh) (i : Nat) : Ps → List Value → Prop
  | [], cs => cs = []
  | l :: ls, cs => ∃ c1 c2, cs = c1 ++ c2 ∧ c1.length = l.2 ∧ (∀ c ∈ c1, c.oneCell' = true) ∧ (l.1 = false → l.2 = 1) ∧ g.ga i = mkV l.1 c1 ∧ PRel g (i + 1) ls c2
def psIds (t : Nat) : Ps → List Nat
  | [] => []
  | _ :: ls => t :: psIds (t + 1) ls
theorem PRel.stab {g g' : Gh} : ∀ (ls : Ps) (i : Nat) (cs : List Value), (∀ t, t ∈ psIds i ls → g'.ga t = g.ga t) → PRel g i ls cs → PRel g' i ls cs
  | [], _, _, _, h => h
  | l :: ls, i, cs, hk, h => by
    obtain ⟨c1, c2, h1, h2, h3, h3', h4, h5⟩ := h
    exact ⟨c1, c2, h1, h2, h3, h3', by rw [hk i (by simp [psIds])]; exact h4, PRel.stab ls (i + 1) c2 (fun t ht => hk t (by simp [psIds, ht])) h5⟩
def psN : Ps → Nat
  | [] => 0
  | l :: ls => l.2 + psN ls
theorem PRel.len {g : Gh} : ∀ (ls : Ps) (i : Nat) (cs : List Value), PRel g i ls cs → cs.length = psN ls
  | [], _, cs, h => by rw [show cs = [] from h]; rfl
  | l :: ls, i, cs, h => by
    obtain ⟨c1, c2, rfl, h1, _, _, _, h5⟩ := h
    rw [List.length_append, h1, PRel.len ls (i + 1) c2 h5]; rfl

/-- A variable of the call's own, by its parts: its address is owner t's value, its parts are the values of t + 1, .. -/
def Fact.obj (t : Nat) (ps : Ps) : Fact where
  tags := [t]
  ids := t :: psIds (t + 1) ps
  p := fun g _ w => ∃ b ty cs, g.ga t = .pointer (some ⟨b, 0, none⟩) ∧ w.heap[b]? = some (.cells cs ty (0, 0)) ∧ g.om b = t ∧ PRel g (t + 1) ps cs.toList
  stab := fun g g' v w w' hk h => by
    obtain ⟨b, ty, cs, h1, h2, h3, h4⟩ := h
    have hlt : b < w.heap.size := (Array.getElem?_eq_some_iff.1 h2).1
    have hb := hk.block b hlt (by rw [h3]; simp)
    exact ⟨b, ty, cs, by rw [hk.ids t (by simp)]; exact h1, by rw [hb.1]; exact h2, by rw [hb.2]; exact h3, h4.stab ps (t + 1) _ (fun s hs => hk.ids s (List.mem_cons_of_mem _ hs))⟩

/-- Where a part lies. -/
def partAt : Ps → Nat → Option (Nat × Bool × Nat)
  | [], _ => none
  | l :: _, 0 => some (0, l)
  | l :: ls, i + 1 => (partAt ls i).map fun x => (x.1 + l.2, x.2)
theorem PRel.part {g : Gh} : ∀ (ps : Ps) (t : Nat) (cs : List Value) (i : Nat) (off : Nat) (ag : Bool) (n : Nat), PRel g t ps cs → partAt ps i = some (off, ag, n) →
    ∃ c, g.ga (t + i) = mkV ag c ∧ c.length = n ∧ off + n ≤ cs.length ∧ (∀ j u, c[j]? = some u → cs[off + j]? = some u)
  | [], _, _, i, _, _, _, _, h => by simp [partAt] at h
  | l :: ls, t, cs, 0, off, ag, n, hp, h => by
    obtain ⟨c1, c2, rfl, h1, _, _, h4, _⟩ := hp
    simp only [partAt, Option.some.injEq, Prod.mk.injEq] at h
    obtain ⟨rfl, rfl⟩ := h
    refine ⟨c1, h4, h1, by rw [List.length_append]; simp at h1 ⊢; omega, fun j u hj => ?_⟩
    have hj2 : j < c1.length := (List.getElem?_eq_some_iff.1 hj).1
    rw [Nat.zero_add, List.getElem?_append_left hj2]; exact hj
  | l :: ls, t, cs, i + 1, off, ag, n, hp, h => by
    obtain ⟨c1, c2, rfl, h1, _, _, _, h5⟩ := hp
    simp only [partAt, Option.map_eq_some_iff] at h
    obtain ⟨⟨o, x⟩, h6, h7⟩ := h
    simp only [Prod.mk.injEq] at h7
    obtain ⟨rfl, rfl⟩ := h7
    obtain ⟨c, k1, k2, k3, k4⟩ := PRel.part ls (t + 1) c2 i o ag n h5 h6
    refine ⟨c, by rw [← k1]; congr 1; omega, k2, by rw [List.length_append]; omega, fun j u hj => ?_⟩
    rw [List.getElem?_append_right (by omega)]
    rw [show o + l.2 + j - c1.length = o + j by omega]
    exact k4 j u hj
end GL
