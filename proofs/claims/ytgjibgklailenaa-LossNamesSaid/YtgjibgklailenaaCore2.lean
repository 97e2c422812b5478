/- Own library, part 2: representation of Go's data. -/
import Derived.Test.YtgjibgklailenaaCore1
namespace GL
open Go

class Rp (α : Type) where
  n : Nat
  agg : Bool
  na : agg = false → n = 1
  rel : (Nat → Prop) → α → List Value → World → Prop
  len : ∀ F x cs w, rel F x cs w → cs.length = n
  one : ∀ F x cs w, rel F x cs w → ∀ c ∈ cs, c.oneCell' = true
  stab : ∀ F F' x cs w w', w.heap.size ≤ w'.heap.size → (∀ b, b < w.heap.size → F b → w'.heap[b]? = w.heap[b]? ∧ F' b) → rel F x cs w → rel F' x cs w'

def mkV (agg : Bool) (cs : List Value) : Value := if agg then .agg cs.toArray else cs.headD undef

/-- The cells at an address hold cs. -/
def CellsAt (w : World) (a : Addr) (cs : List Value) : Prop := ∀ (j : Nat) (u : Value), cs[j]? = some u → w.cell? (a.add j) = some u ∧ w.frozen? (a.add j) = false

theorem Addr.add_block (a : Addr) (n : Nat) : (a.add n).block = a.block := by unfold Addr.add; split <;> rfl

theorem CellsAt.stab {w w' : World} {a : Addr} {cs : List Value} (h : CellsAt w a cs) (hk : w'.heap[a.block]? = w.heap[a.block]?) : CellsAt w' a cs := fun j u hj => by
  have := h j u hj
  exact ⟨by rw [← this.1]; exact World.cell?_of_block (by rw [Addr.add_block]; exact hk), by rw [← this.2]; exact World.frozen?_of_block (by rw [Addr.add_block]; exact hk)⟩

theorem CellsAt.lt {w : World} {a : Addr} {cs : List Value} (h : CellsAt w a cs) (hne : cs ≠ []) : a.block < w.heap.size := by
  cases cs with
  | nil => exact (hne rfl).elim
  | cons c cs =>
    have := World.block_lt_of_cell? _ _ (h 0 c rfl).1
    rwa [Addr.add_block] at this

instance : Rp Int where
  n := 1
  agg := false
  na := fun _ => rfl
  rel := fun _ x cs _ => cs = [.int .i64 x]
  len := fun _ _ _ _ h => by rw [h]; rfl
  one := fun _ _ _ _ h => by rw [h]; simp [Value.oneCell']
  stab := fun _ _ _ _ _ _ _ _ h => h

instance : Rp UInt8 where
  n := 1
  agg := false
  na := fun _ => rfl
  rel := fun _ x cs _ => cs = [.int .u8 (x.toNat : Int)]
  len := fun _ _ _ _ h => by rw [h]; rfl
  one := fun _ _ _ _ h => by rw [h]; simp [Value.oneCell']
  stab := fun _ _ _ _ _ _ _ _ h => h

instance : Rp UInt32 where
  n := 1
  agg := false
  na := fun _ => rfl
  rel := fun _ x cs _ => cs = [.int .u32 (x.toNat : Int)]
  len := fun _ _ _ _ h => by rw [h]; rfl
  one := fun _ _ _ _ h => by rw [h]; simp [Value.oneCell']
  stab := fun _ _ _ _ _ _ _ _ h => h

instance : Rp Bool where
  n := 1
  agg := false
  na := fun _ => rfl
  rel := fun _ x cs _ => cs = [.bool x]
  len := fun _ _ _ _ h => by rw [h]; rfl
  one := fun _ _ _ _ h => by rw [h]; simp [Value.oneCell']
  stab := fun _ _ _ _ _ _ _ _ h => h

/-- A string: its bytes. -/
structure Str where
  s : List UInt8
  deriving DecidableEq

instance : Rp Str where
  n := 1
  agg := false
  na := fun _ => rfl
  rel := fun _ x cs _ => cs = [.string ⟨x.s.toArray⟩]
  len := fun _ _ _ _ h => by rw [h]; rfl
  one := fun _ _ _ _ h => by rw [h]; simp [Value.oneCell']
  stab := fun _ _ _ _ _ _ _ _ h => h

instance {α : Type} [R : Rp α] : Rp (List α) where
  n := 1
  agg := false
  na := fun _ => rfl
  rel := fun F l cs w => ∃ (a : Option Addr) (c : Nat), cs = [.slice a l.length c] ∧ l.length ≤ c ∧ (a = none → l = [] ∧ c = 0) ∧
    ∀ ad, a = some ad → ∀ (i : Nat) (x : α), l[i]? = some x → F ad.block ∧ ad.block < w.heap.size ∧ ∃ es, CellsAt w (ad.add (i * R.n)) es ∧ R.rel F x es w
  len := fun _ _ _ _ h => by obtain ⟨a, c, h, _⟩ := h; rw [h]; rfl
  one := fun _ _ _ _ h => by obtain ⟨a, c, h, _⟩ := h; rw [h]; simp [Value.oneCell']
  stab := fun F F' l cs w w' hs hk h => by
    obtain ⟨a, c, h1, h2, h3, h4⟩ := h
    refine ⟨a, c, h1, h2, h3, fun ad ha i x hx => ?_⟩
    obtain ⟨hF, hlt, es, he, hr⟩ := h4 ad ha i x hx
    have := hk ad.block hlt hF
    exact ⟨this.2, Nat.lt_of_lt_of_le hlt hs, es, he.stab (by rw [Addr.add_block]; exact this.1), R.stab F F' x es w w' hs hk hr⟩

instance {α β : Type} [A : Rp α] [B : Rp β] : Rp (α × β) where
  n := A.n + B.n
  agg := true
  na := fun h => by cases h
  rel := fun F x cs w => ∃ c1 c2, cs = c1 ++ c2 ∧ A.rel F x.1 c1 w ∧ B.rel F x.2 c2 w
  len := fun F x cs w h => by obtain ⟨c1, c2, rfl, h1, h2⟩ := h; rw [List.length_append, A.len _ _ _ _ h1, B.len _ _ _ _ h2]
  one := fun F x cs w h => by
    obtain ⟨c1, c2, rfl, h1, h2⟩ := h
    intro c hc
    rcases List.mem_append.1 hc with hc | hc
    · exact A.one _ _ _ _ h1 c hc
    · exact B.one _ _ _ _ h2 c hc
  stab := fun F F' x cs w w' hs hk h => by
    obtain ⟨c1, c2, h, h1, h2⟩ := h
    exact ⟨c1, c2, h, A.stab _ _ _ _ _ _ hs hk h1, B.stab _ _ _ _ _ _ hs hk h2⟩

/-- A struct: by the tuple of its fields. -/
abbrev Rp.via {α β : Type} (B : Rp β) (f : α → β) : Rp α where
  n := B.n
  agg := true
  na := fun h => by cases h
  rel := fun F x cs w => B.rel F (f x) cs w
  len := fun F x cs w h => B.len F (f x) cs w h
  one := fun F x cs w h => B.one F (f x) cs w h
  stab := fun F F' x cs w w' hs hk h => B.stab F F' (f x) cs w w' hs hk h

def Rep {α : Type} [R : Rp α] (F : Nat → Prop) (x : α) (v : Value) (w : World) : Prop := ∃ cs, R.rel F x cs w ∧ v = mkV R.agg cs

theorem Rep.stab {α : Type} [R : Rp α] {F F' : Nat → Prop} {x : α} {v : Value} {w w' : World} (hs : w.heap.size ≤ w'.heap.size)
    (hk : ∀ b, b < w.heap.size → F b → w'.heap[b]? = w.heap[b]? ∧ F' b) (h : Rep F x v w) : Rep F' x v w' := by
  obtain ⟨cs, h1, h2⟩ := h
  exact ⟨cs, R.stab F F' x cs w w' hs hk h1, h2⟩

theorem Rep.mono {α : Type} [R : Rp α] {F F' : Nat → Prop} {x : α} {v : Value} {w : World} (h : Rep F x v w) (hk : ∀ b, b < w.heap.size → F b → F' b) : Rep F' x v w :=
  h.stab (Nat.le_refl _) (fun b hb hF => ⟨rfl, hk b hb hF⟩)

theorem rep_int {F : Nat → Prop} {x : Int} {v : Value} {w : World} : Rep F x v w ↔ v = .int .i64 x := by
  constructor
  · rintro ⟨cs, h, rfl⟩; cases h; rfl
  · rintro rfl; exact ⟨_, rfl, rfl⟩
theorem rep_u8 {F : Nat → Prop} {x : UInt8} {v : Value} {w : World} : Rep F x v w ↔ v = .int .u8 (x.toNat : Int) := by
  constructor
  · rintro ⟨cs, h, rfl⟩; cases h; rfl
  · rintro rfl; exact ⟨_, rfl, rfl⟩
theorem rep_u32 {F : Nat → Prop} {x : UInt32} {v : Value} {w : World} : Rep F x v w ↔ v = .int .u32 (x.toNat : Int) := by
  constructor
  · rintro ⟨cs, h, rfl⟩; cases h; rfl
  · rintro rfl; exact ⟨_, rfl, rfl⟩
theorem rep_bool {F : Nat → Prop} {x : Bool} {v : Value} {w : World} : Rep F x v w ↔ v = .bool x := by
  constructor
  · rintro ⟨cs, h, rfl⟩; cases h; rfl
  · rintro rfl; exact ⟨_, rfl, rfl⟩
theorem rep_str {F : Nat → Prop} {x : Str} {v : Value} {w : World} : Rep F x v w ↔ v = .string ⟨x.s.toArray⟩ := by
  constructor
  · rintro ⟨cs, h, rfl⟩; cases h; rfl
  · rintro rfl; exact ⟨_, rfl, rfl⟩
theorem rep_nil {α : Type} [Rp α] {F : Nat → Prop} {w : World} : Rep F ([] : List α) (.slice none 0 0) w :=
  ⟨_, ⟨none, 0, rfl, Nat.le_refl _, fun _ => ⟨rfl, rfl⟩, fun _ h => by cases h⟩, rfl⟩
theorem rep_list {α : Type} [R : Rp α] {F : Nat → Prop} {l : List α} {v : Value} {w : World} (h : Rep F l v w) :
    ∃ (a : Option Addr) (c : Nat), v = .slice a l.length c ∧ l.length ≤ c ∧ (a = none → l = [] ∧ c = 0) ∧
    ∀ ad, a = some ad → ∀ (i : Nat) (x : α), l[i]? = some x → F ad.block ∧ ad.block < w.heap.size ∧ ∃ es, CellsAt w (ad.add (i * R.n)) es ∧ R.rel F x es w := by
  obtain ⟨cs, ⟨a, c, rfl, h⟩, rfl⟩ := h
  exact ⟨a, c, rfl, h⟩

/-! ### facts -/
def Fact.rep {α : Type} [Rp α] (tags : List Nat) (x : α) : Fact where
  tags := tags
  ids := []
  p := fun g v w => Rep (fun b => g.om b ∈ tags) x v w
  stab := fun g g' v w w' hk h => Rep.stab hk.size (fun b hb ht => ⟨(hk.block b hb ht).1, by rw [(hk.block b hb ht).2]; exact ht⟩) h

/-- A fact that holds under a condition. -/
def Fact.under (c : Prop) (f : Fact) : Fact where
  tags := f.tags
  ids := f.ids
  p := fun g v w => (c → f.p g v w) ∧ (¬ c → v = undef)
  stab := fun g g' v w w' hk h => ⟨fun hc => f.stab g g' v w w' hk (h.1 hc), h.2⟩

/-- A pointer to a readable datum. -/
def Fact.ptr {α : Type} [R : Rp α] (tags : List Nat) (x : α) : Fact where
  tags := tags
  ids := []
  p := fun g v w => ∃ ad, v = .pointer (some ad) ∧ g.om ad.block ∈ tags ∧ ad.block < w.heap.size ∧ ∃ es, CellsAt w ad es ∧ R.rel (fun b => g.om b ∈ tags) x es w
  stab := fun g g' v w w' hk h => by
    obtain ⟨ad, hv, ht, hlt, es, he, hr⟩ := h
    have hb := hk.block ad.block hlt ht
    exact ⟨ad, hv, by rw [hb.2]; exact ht, Nat.lt_of_lt_of_le hlt hk.size, es, he.stab hb.1,
      R.stab _ _ x es w w' hk.size (fun b hb ht => ⟨(hk.block b hb ht).1, by rw [(hk.block b hb ht).2]; exact ht⟩) hr⟩

/-- A tuple of two, of three. -/
def Fact.tup2 (f1 f2 : Fact) : Fact where
  tags := f1.tags ++ f2.tags
  ids := f1.ids ++ f2.ids
  p := fun g v w => ∃ v1 v2, v = .tuple #[v1, v2] ∧ f1.p g v1 w ∧ f2.p g v2 w
  stab := fun g g' v w w' hk h => by
    obtain ⟨v1, v2, hv, h1, h2⟩ := h
    exact ⟨v1, v2, hv, f1.stab g g' v1 w w' ⟨hk.size, fun b hb ht => hk.block b hb (List.mem_append_left _ ht), fun t ht => hk.ids t (List.mem_append_left _ ht)⟩ h1,
      f2.stab g g' v2 w w' ⟨hk.size, fun b hb ht => hk.block b hb (List.mem_append_right _ ht), fun t ht => hk.ids t (List.mem_append_right _ ht)⟩ h2⟩
def Fact.tup3 (f1 f2 f3 : Fact) : Fact where
  tags := f1.tags ++ (f2.tags ++ f3.tags)
  ids := f1.ids ++ (f2.ids ++ f3.ids)
  p := fun g v w => ∃ v1 v2 v3, v = .tuple #[v1, v2, v3] ∧ f1.p g v1 w ∧ f2.p g v2 w ∧ f3.p g v3 w
  stab := fun g g' v w w' hk h => by
    obtain ⟨v1, v2, v3, hv, h1, h2, h3⟩ := h
    exact ⟨v1, v2, v3, hv, f1.stab g g' v1 w w' ⟨hk.size, fun b hb ht => hk.block b hb (List.mem_append_left _ ht), fun t ht => hk.ids t (List.mem_append_left _ ht)⟩ h1,
      f2.stab g g' v2 w w' ⟨hk.size, fun b hb ht => hk.block b hb (List.mem_append_right _ (List.mem_append_left _ ht)), fun t ht => hk.ids t (List.mem_append_right _ (List.mem_append_left _ ht))⟩ h2,
      f3.stab g g' v3 w w' ⟨hk.size, fun b hb ht => hk.block b hb (List.mem_append_right _ (List.mem_append_right _ ht)), fun t ht => hk.ids t (List.mem_append_right _ (List.mem_append_right _ ht))⟩ h3⟩

/-- The value of an owner (a slice or a pointer into memory of the call's own). -/
def Fact.isv (t : Nat) : Fact where
  tags := []
  ids := [t]
  p := fun g v _ => v = g.ga t
  stab := fun g g' v w w' hk h => by rw [hk.ids t (by simp)]; exact h

/-- Closed types. -/
def aggD : TypeDesc → Bool
  | .struct _ | .array _ _ => true
  | _ => false
structure Ty (P : Program) (t : TypeId) (α : Type) [R : Rp α] : Prop where
  und : ∃ d, P.underlying t = some d ∧ aggD d = R.agg
  sz : ∃ i, P.info? t = some i ∧ i.size = R.n
structure SlTy (P : Program) (t e : TypeId) (α : Type) [R : Rp α] : Prop where
  und : P.underlying t = some (.slice e)
  el : Ty P e α
  pos : 0 < R.n

theorem run_isAgg {P : Program} {t : TypeId} {α : Type} [R : Rp α] (h : Ty P t α) (w : World) : (isAgg t).run P w = .ok R.agg w := by
  obtain ⟨d, h1, h2⟩ := h.und
  simp only [isAgg, Sem.run_bind, run_underlying h1, Result.andThen_ok]
  cases d <;> simp [aggD] at h2 ⊢ <;> simp [← h2]

theorem rt_sizeOf {P : Program} {t : TypeId} {α : Type} [R : Rp α] (h : Ty P t α) (w : World) : (Go.sizeOf t).run P w = .ok R.n w := by
  obtain ⟨i, h1, h2⟩ := h.sz
  simp [Go.sizeOf, typeInfo, h1, h2]

theorem run_loadVar_rel {P : Program} {t : TypeId} {α : Type} [R : Rp α] (h : Ty P t α) {w : World} {a : Addr} {cs : List Value} {F : Nat → Prop} {x : α}
    (hc : CellsAt w a cs) (hr : R.rel F x cs w) : (loadVar t a).run P w = .ok (mkV R.agg cs) w := by
  have hl := R.len _ _ _ _ hr
  unfold loadVar
  simp only [Sem.run_bind, run_isAgg h, Result.andThen_ok]
  cases ha : R.agg with
  | true =>
    have h2 := run_loadCells_list (P := P) w a cs (fun j v hj => (hc j v hj).1)
    rw [hl] at h2
    simp [rt_sizeOf h, h2, mkV]
  | false =>
    have h1 := R.na ha
    rw [h1] at hl
    match cs, hl with
    | [c], _ =>
      have := (hc 0 c rfl).1
      simp only [Go.Addr.add_zero'] at this
      simp [mkV, this]

end GL
