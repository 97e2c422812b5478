/- Own library, texts 1 to 7 in one. -/
import Derived.WalkKit
import Derived.RangeFuncRecord
import Derived.Sort.LoopGhostIn
import Derived.Orders
import Derived.Deep.LoopGhost
import Derived.Scope
import Derived.Laws.OwnMore
set_option linter.unusedVariables false
set_option linter.unusedSimpArgs false
set_option linter.unnecessarySimpa false
namespace GL
section
open Go

/-! ### loops of models -/
inductive Ctl (S B : Type) where
  | next (s : S)
  | brk (b : B)

def loopM {S B : Type} (step : S → Option (Ctl S B)) (n : Nat) : S → Option B :=
  Nat.rec (motive := fun _ => S → Option B) (fun _ => none)
    (fun _ ih s => match step s with
      | none => none
      | some (.next s') => ih s'
      | some (.brk b) => some b) n

theorem loopM_succ {S B : Type} (step : S → Option (Ctl S B)) (n : Nat) (s : S) :
    loopM step (n + 1) s = match step s with
      | none => none
      | some (.next s') => loopM step n s'
      | some (.brk b) => some b := rfl

/-! ### frames -/
structure Fr (C : Nat → Prop) (w w' : World) : Prop where
  os : w'.os = w.os
  tape : w'.tape = w.tape
  output : w'.output = w.output
  size : w.heap.size ≤ w'.heap.size
  block : ∀ k, k < w.heap.size → ¬ C k → w'.heap[k]? = w.heap[k]?

def NoC : Nat → Prop := fun _ => False

theorem Fr.refl (C : Nat → Prop) (w : World) : Fr C w w := ⟨rfl, rfl, rfl, Nat.le_refl _, fun _ _ _ => rfl⟩
theorem Fr.trans {C D : Nat → Prop} {a b c : World} (h : Fr C a b) (k : Fr D b c) (hd : ∀ x, x < a.heap.size → D x → C x) : Fr C a c :=
  ⟨k.os.trans h.os, k.tape.trans h.tape, k.output.trans h.output, Nat.le_trans h.size k.size,
    fun x hx hn => (k.block x (Nat.lt_of_lt_of_le hx h.size) (fun hD => hn (hd x hx hD))).trans (h.block x hx hn)⟩
theorem Fr.drew {C : Nat → Prop} {a w : World} (h : Fr C a w) : Fr C a w.drew := ⟨h.os, h.tape, h.output, h.size, h.block⟩
theorem Fr.alloc (w : World) (o : Obj) : Fr NoC w (w.alloc o) := ⟨rfl, rfl, rfl, by simp, fun k hk _ => RowKit.Below.heap_alloc w o k hk⟩
theorem Fr.below {w w' : World} (h : Fr NoC w w') : RowKit.Below w.heap.size w w' := ⟨h.os, h.tape, h.output, h.size, fun k hk => h.block k hk id⟩

/-! ### ghosts and facts -/
structure Gh where
  om : Nat → Nat
  ga : Nat → Value

/-- What a fact leans on: the ghost agrees, and blocks of its tags are as they were. -/
structure Keeps (tags ids : List Nat) (g g' : Gh) (w w' : World) : Prop where
  size : w.heap.size ≤ w'.heap.size
  block : ∀ b, b < w.heap.size → g.om b ∈ tags → w'.heap[b]? = w.heap[b]? ∧ g'.om b = g.om b
  ids : ∀ t, t ∈ ids → g'.ga t = g.ga t

structure Fact where
  tags : List Nat
  ids : List Nat
  p : Gh → Value → World → Prop
  stab : ∀ g g' v w w', Keeps tags ids g g' w w' → p g v w → p g' v w'

inductive It where
  | fact (s : Nat) (f : Fact)
  | kill (t : Nat)
  | killId (t : Nat)

def disj : List Nat → List Nat → Bool
  | [], _ => true
  | a :: l, m => !(m.elem a) && disj l m

def lookK : List It → List Nat → List Nat → Nat → Option Fact
  | [], _, _, _ => none
  | .kill t :: G, K, I, s => lookK G (t :: K) I s
  | .killId t :: G, K, I, s => lookK G K (t :: I) s
  | .fact s' f :: G, K, I, s => bif Nat.beq s' s then (bif disj f.tags K && disj f.ids I then some f else none) else lookK G K I s

def look (G : List It) (s : Nat) : Option Fact := lookK G [] [] s

theorem lookK_sub : ∀ (G : List It) (K K' I I' : List Nat) (s : Nat) (f : Fact), (∀ x ∈ K', x ∈ K) → (∀ x ∈ I', x ∈ I) → lookK G K I s = some f → lookK G K' I' s = some f
  | [], _, _, _, _, _, _, _, _, h => by simp [lookK] at h
  | .kill t :: G, K, K', I, I', s, f, hk, hi, h => by
    simp only [lookK] at h ⊢
    exact lookK_sub G _ _ _ _ s f (fun x hx => by simp at hx ⊢; rcases hx with rfl | hx; exact .inl rfl; exact .inr (hk x hx)) hi h
  | .killId t :: G, K, K', I, I', s, f, hk, hi, h => by
    simp only [lookK] at h ⊢
    exact lookK_sub G _ _ _ _ s f hk (fun x hx => by simp at hx ⊢; rcases hx with rfl | hx; exact .inl rfl; exact .inr (hi x hx)) h
  | .fact s' f' :: G, K, K', I, I', s, f, hk, hi, h => by
    simp only [lookK] at h ⊢
    cases hb : Nat.beq s' s with
    | true =>
      simp only [hb, cond_true] at h ⊢
      have key : ∀ (l A B : List Nat), (∀ x ∈ B, x ∈ A) → disj l A = true → disj l B = true := by
        intro l A B hAB
        induction l with
        | nil => intro _; rfl
        | cons a l ih =>
          intro h
          simp only [disj, Bool.and_eq_true, Bool.not_eq_true'] at h ⊢
          refine ⟨?_, ih h.2⟩
          have h1 := h.1
          simp at h1 ⊢
          exact fun hm => h1 (hAB a hm)
      cases hd : (disj f'.tags K && disj f'.ids I) with
      | false => simp [hd] at h
      | true =>
        simp only [Bool.and_eq_true] at hd
        simp only [key _ _ _ hk hd.1, key _ _ _ hi hd.2, Bool.and_self, cond_true]
        simpa [hd] using h
    | false =>
      simp only [hb, cond_false] at h ⊢
      exact lookK_sub G K K' I I' s f hk hi h

theorem disj_spec {l K : List Nat} (h : disj l K = true) {t : Nat} (ht : t ∈ K) : t ∉ l := by
  induction l with
  | nil => simp
  | cons a l ih =>
    simp only [disj, Bool.and_eq_true, Bool.not_eq_true'] at h
    have h1 := h.1
    simp at h1
    simp only [List.mem_cons, not_or]
    exact ⟨fun e => h1 (e ▸ ht), ih h.2⟩

theorem lookK_disj : ∀ (G : List It) (K I : List Nat) (s : Nat) (f : Fact), lookK G K I s = some f → disj f.tags K = true ∧ disj f.ids I = true
  | [], _, _, _, _, h => by simp [lookK] at h
  | .kill t :: G, K, I, s, f, h => by
    have := lookK_disj G (t :: K) I s f h
    refine ⟨?_, this.2⟩
    have key : ∀ (l : List Nat), disj l (t :: K) = true → disj l K = true := by
      intro l
      induction l with
      | nil => intro _; rfl
      | cons a l ih =>
        intro h
        simp only [disj, Bool.and_eq_true, Bool.not_eq_true'] at h ⊢
        refine ⟨?_, ih h.2⟩
        have h1 := h.1
        simp at h1 ⊢
        exact h1.2
    exact key _ this.1
  | .killId t :: G, K, I, s, f, h => by
    have := lookK_disj G K (t :: I) s f h
    refine ⟨this.1, ?_⟩
    have key : ∀ (l : List Nat), disj l (t :: I) = true → disj l I = true := by
      intro l
      induction l with
      | nil => intro _; rfl
      | cons a l ih =>
        intro h
        simp only [disj, Bool.and_eq_true, Bool.not_eq_true'] at h ⊢
        refine ⟨?_, ih h.2⟩
        have h1 := h.1
        simp at h1 ⊢
        exact h1.2
    exact key _ this.2
  | .fact s' f' :: G, K, I, s, f, h => by
    simp only [lookK] at h
    cases hb : Nat.beq s' s with
    | true =>
      simp only [hb, cond_true] at h
      cases hd : (disj f'.tags K && disj f'.ids I) with
      | false => simp [hd] at h
      | true =>
        simp [hd] at h
        subst h
        simpa using hd
    | false =>
      simp only [hb, cond_false] at h
      exact lookK_disj G K I s f h

/-! ### environments -/
/-- Tags below 10 are the blocks that were there when the call began. -/
structure GhOk (w0 w : World) (g : Gh) : Prop where
  old : ∀ b, b < w0.heap.size → g.om b < 10
  new : ∀ b, w0.heap.size ≤ b → b < w.heap.size → 10 ≤ g.om b

def Facts (G : List It) (g : Gh) (a : Act) (w : World) : Prop := ∀ s f, look G s = some f → f.p g (a.tmps.getD s undef) w

/-- What a call's walk is over: the program, how many slots, the world at entry, which old blocks may be changed, the tags of the old blocks; the round's record, if it is one; the deferred marks. -/
structure Cx where
  P : Program
  n : Nat
  w0 : World
  C : Nat → Prop
  om0 : Nat → Nat
  rd : Option Nat
  ds : List Deferred
/-- All functions may be called. -/
def Cx.F (X : Cx) : Fence := { Fence.wide with round := X.rd }

structure GhE (X : Cx) (w : World) (g : Gh) : Prop where
  ok : GhOk X.w0 w g
  om : ∀ b, b < X.w0.heap.size → g.om b = X.om0 b

structure Env (X : Cx) (G : List It) (a : Act) (w : World) : Prop where
  size : a.tmps.size = X.n
  defers : a.defers = X.ds
  fr : Fr X.C X.w0 w
  facts : ∃ g : Gh, GhE X w g ∧ Facts G g a w

end
end GL

namespace GL
section
open Go

class Rp (α : Type) where
  n : Nat
  agg : Bool
  na : agg = false → n = 1
  rel : (Nat → Prop) → α → List Value → World → Prop
  len : ∀ F x cs w, rel F x cs w → cs.length = n
  one : ∀ F x cs w, rel F x cs w → ∀ c ∈ cs, c.oneCell' = true
  stab : ∀ F F' x cs w w', w.heap.size ≤ w'.heap.size → (∀ b, b < w.heap.size → F b → w'.heap[b]? = w.heap[b]? ∧ F' b) → rel F x cs w → rel F' x cs w'

def mkV (agg : Bool) (cs : List Value) : Value := if agg then .agg cs.toArray else cs.headD undef

/-- The cells at an address hold cs. -/
def CellsAt (w : World) (a : Addr) (cs : List Value) : Prop := ∀ (j : Nat) (u : Value), cs[j]? = some u → w.cell? (a.add j) = some u ∧ w.frozen? (a.add j) = false

theorem Addr.add_block (a : Addr) (n : Nat) : (a.add n).block = a.block := by unfold Addr.add; split <;> rfl

theorem CellsAt.stab {w w' : World} {a : Addr} {cs : List Value} (h : CellsAt w a cs) (hk : w'.heap[a.block]? = w.heap[a.block]?) : CellsAt w' a cs := fun j u hj => by
  have := h j u hj
  exact ⟨by rw [← this.1]; exact World.cell?_of_block (by rw [Addr.add_block]; exact hk), by rw [← this.2]; exact World.frozen?_of_block (by rw [Addr.add_block]; exact hk)⟩

theorem CellsAt.lt {w : World} {a : Addr} {cs : List Value} (h : CellsAt w a cs) (hne : cs ≠ []) : a.block < w.heap.size := by
  cases cs with
  | nil => exact (hne rfl).elim
  | cons c cs =>
    have := World.block_lt_of_cell? _ _ (h 0 c rfl).1
    rwa [Addr.add_block] at this

instance : Rp Int where
  n := 1
  agg := false
  na := fun _ => rfl
  rel := fun _ x cs _ => cs = [.int .i64 x]
  len := fun _ _ _ _ h => by rw [h]; rfl
  one := fun _ _ _ _ h => by rw [h]; simp [Value.oneCell']
  stab := fun _ _ _ _ _ _ _ _ h => h

instance : Rp UInt8 where
  n := 1
  agg := false
  na := fun _ => rfl
  rel := fun _ x cs _ => cs = [.int .u8 (x.toNat : Int)]
  len := fun _ _ _ _ h => by rw [h]; rfl
  one := fun _ _ _ _ h => by rw [h]; simp [Value.oneCell']
  stab := fun _ _ _ _ _ _ _ _ h => h

instance : Rp UInt32 where
  n := 1
  agg := false
  na := fun _ => rfl
  rel := fun _ x cs _ => cs = [.int .u32 (x.toNat : Int)]
  len := fun _ _ _ _ h => by rw [h]; rfl
  one := fun _ _ _ _ h => by rw [h]; simp [Value.oneCell']
  stab := fun _ _ _ _ _ _ _ _ h => h

instance : Rp Bool where
  n := 1
  agg := false
  na := fun _ => rfl
  rel := fun _ x cs _ => cs = [.bool x]
  len := fun _ _ _ _ h => by rw [h]; rfl
  one := fun _ _ _ _ h => by rw [h]; simp [Value.oneCell']
  stab := fun _ _ _ _ _ _ _ _ h => h

/-- A string: its bytes. -/
structure Str where
  s : List UInt8
  deriving DecidableEq

instance : Rp Str where
  n := 1
  agg := false
  na := fun _ => rfl
  rel := fun _ x cs _ => cs = [.string ⟨x.s.toArray⟩]
  len := fun _ _ _ _ h => by rw [h]; rfl
  one := fun _ _ _ _ h => by rw [h]; simp [Value.oneCell']
  stab := fun _ _ _ _ _ _ _ _ h => h

instance {α : Type} [R : Rp α] : Rp (List α) where
  n := 1
  agg := false
  na := fun _ => rfl
  rel := fun F l cs w => ∃ (a : Option Addr) (c : Nat), cs = [.slice a l.length c] ∧ l.length ≤ c ∧ (a = none → l = [] ∧ c = 0) ∧
    ∀ ad, a = some ad → ∀ (i : Nat) (x : α), l[i]? = some x → F ad.block ∧ ad.block < w.heap.size ∧ ∃ es, CellsAt w (ad.add (i * R.n)) es ∧ R.rel F x es w
  len := fun _ _ _ _ h => by obtain ⟨a, c, h, _⟩ := h; rw [h]; rfl
  one := fun _ _ _ _ h => by obtain ⟨a, c, h, _⟩ := h; rw [h]; simp [Value.oneCell']
  stab := fun F F' l cs w w' hs hk h => by
    obtain ⟨a, c, h1, h2, h3, h4⟩ := h
    refine ⟨a, c, h1, h2, h3, fun ad ha i x hx => ?_⟩
    obtain ⟨hF, hlt, es, he, hr⟩ := h4 ad ha i x hx
    have := hk ad.block hlt hF
    exact ⟨this.2, Nat.lt_of_lt_of_le hlt hs, es, he.stab (by rw [Addr.add_block]; exact this.1), R.stab F F' x es w w' hs hk hr⟩

instance {α β : Type} [A : Rp α] [B : Rp β] : Rp (α × β) where
  n := A.n + B.n
  agg := true
  na := fun h => by cases h
  rel := fun F x cs w => ∃ c1 c2, cs = c1 ++ c2 ∧ A.rel F x.1 c1 w ∧ B.rel F x.2 c2 w
  len := fun F x cs w h => by obtain ⟨c1, c2, rfl, h1, h2⟩ := h; rw [List.length_append, A.len _ _ _ _ h1, B.len _ _ _ _ h2]
  one := fun F x cs w h => by
    obtain ⟨c1, c2, rfl, h1, h2⟩ := h
    intro c hc
    rcases List.mem_append.1 hc with hc | hc
    · exact A.one _ _ _ _ h1 c hc
    · exact B.one _ _ _ _ h2 c hc
  stab := fun F F' x cs w w' hs hk h => by
    obtain ⟨c1, c2, h, h1, h2⟩ := h
    exact ⟨c1, c2, h, A.stab _ _ _ _ _ _ hs hk h1, B.stab _ _ _ _ _ _ hs hk h2⟩

/-- A struct: by the tuple of its fields. -/
abbrev Rp.via {α β : Type} (B : Rp β) (f : α → β) : Rp α where
  n := B.n
  agg := true
  na := fun h => by cases h
  rel := fun F x cs w => B.rel F (f x) cs w
  len := fun F x cs w h => B.len F (f x) cs w h
  one := fun F x cs w h => B.one F (f x) cs w h
  stab := fun F F' x cs w w' hs hk h => B.stab F F' (f x) cs w w' hs hk h

def Rep {α : Type} [R : Rp α] (F : Nat → Prop) (x : α) (v : Value) (w : World) : Prop := ∃ cs, R.rel F x cs w ∧ v = mkV R.agg cs

theorem Rep.stab {α : Type} [R : Rp α] {F F' : Nat → Prop} {x : α} {v : Value} {w w' : World} (hs : w.heap.size ≤ w'.heap.size)
    (hk : ∀ b, b < w.heap.size → F b → w'.heap[b]? = w.heap[b]? ∧ F' b) (h : Rep F x v w) : Rep F' x v w' := by
  obtain ⟨cs, h1, h2⟩ := h
  exact ⟨cs, R.stab F F' x cs w w' hs hk h1, h2⟩

theorem Rep.mono {α : Type} [R : Rp α] {F F' : Nat → Prop} {x : α} {v : Value} {w : World} (h : Rep F x v w) (hk : ∀ b, b < w.heap.size → F b → F' b) : Rep F' x v w :=
  h.stab (Nat.le_refl _) (fun b hb hF => ⟨rfl, hk b hb hF⟩)

theorem rep_int {F : Nat → Prop} {x : Int} {v : Value} {w : World} : Rep F x v w ↔ v = .int .i64 x := by
  constructor
  · rintro ⟨cs, h, rfl⟩; cases h; rfl
  · rintro rfl; exact ⟨_, rfl, rfl⟩
theorem rep_u8 {F : Nat → Prop} {x : UInt8} {v : Value} {w : World} : Rep F x v w ↔ v = .int .u8 (x.toNat : Int) := by
  constructor
  · rintro ⟨cs, h, rfl⟩; cases h; rfl
  · rintro rfl; exact ⟨_, rfl, rfl⟩
theorem rep_u32 {F : Nat → Prop} {x : UInt32} {v : Value} {w : World} : Rep F x v w ↔ v = .int .u32 (x.toNat : Int) := by
  constructor
  · rintro ⟨cs, h, rfl⟩; cases h; rfl
  · rintro rfl; exact ⟨_, rfl, rfl⟩
theorem rep_bool {F : Nat → Prop} {x : Bool} {v : Value} {w : World} : Rep F x v w ↔ v = .bool x := by
  constructor
  · rintro ⟨cs, h, rfl⟩; cases h; rfl
  · rintro rfl; exact ⟨_, rfl, rfl⟩
theorem rep_str {F : Nat → Prop} {x : Str} {v : Value} {w : World} : Rep F x v w ↔ v = .string ⟨x.s.toArray⟩ := by
  constructor
  · rintro ⟨cs, h, rfl⟩; cases h; rfl
  · rintro rfl; exact ⟨_, rfl, rfl⟩
theorem rep_nil {α : Type} [Rp α] {F : Nat → Prop} {w : World} : Rep F ([] : List α) (.slice none 0 0) w :=
  ⟨_, ⟨none, 0, rfl, Nat.le_refl _, fun _ => ⟨rfl, rfl⟩, fun _ h => by cases h⟩, rfl⟩
theorem rep_list {α : Type} [R : Rp α] {F : Nat → Prop} {l : List α} {v : Value} {w : World} (h : Rep F l v w) :
    ∃ (a : Option Addr) (c : Nat), v = .slice a l.length c ∧ l.length ≤ c ∧ (a = none → l = [] ∧ c = 0) ∧
    ∀ ad, a = some ad → ∀ (i : Nat) (x : α), l[i]? = some x → F ad.block ∧ ad.block < w.heap.size ∧ ∃ es, CellsAt w (ad.add (i * R.n)) es ∧ R.rel F x es w := by
  obtain ⟨cs, ⟨a, c, rfl, h⟩, rfl⟩ := h
  exact ⟨a, c, rfl, h⟩

/-! ### facts -/
def Fact.rep {α : Type} [Rp α] (tags : List Nat) (x : α) : Fact where
  tags := tags
  ids := []
  p := fun g v w => Rep (fun b => g.om b ∈ tags) x v w
  stab := fun g g' v w w' hk h => Rep.stab hk.size (fun b hb ht => ⟨(hk.block b hb ht).1, by rw [(hk.block b hb ht).2]; exact ht⟩) h

/-- A fact that holds under a condition. -/
def Fact.under (c : Prop) (f : Fact) : Fact where
  tags := f.tags
  ids := f.ids
  p := fun g v w => (c → f.p g v w) ∧ (¬ c → v = undef)
  stab := fun g g' v w w' hk h => ⟨fun hc => f.stab g g' v w w' hk (h.1 hc), h.2⟩

/-- A pointer to a readable datum. -/
def Fact.ptr {α : Type} [R : Rp α] (tags : List Nat) (x : α) : Fact where
  tags := tags
  ids := []
  p := fun g v w => ∃ ad, v = .pointer (some ad) ∧ g.om ad.block ∈ tags ∧ ad.block < w.heap.size ∧ ∃ es, CellsAt w ad es ∧ R.rel (fun b => g.om b ∈ tags) x es w
  stab := fun g g' v w w' hk h => by
    obtain ⟨ad, hv, ht, hlt, es, he, hr⟩ := h
    have hb := hk.block ad.block hlt ht
    exact ⟨ad, hv, by rw [hb.2]; exact ht, Nat.lt_of_lt_of_le hlt hk.size, es, he.stab hb.1,
      R.stab _ _ x es w w' hk.size (fun b hb ht => ⟨(hk.block b hb ht).1, by rw [(hk.block b hb ht).2]; exact ht⟩) hr⟩

/-- A tuple of two, of three. -/
def Fact.tup2 (f1 f2 : Fact) : Fact where
  tags := f1.tags ++ f2.tags
  ids := f1.ids ++ f2.ids
  p := fun g v w => ∃ v1 v2, v = .tuple #[v1, v2] ∧ f1.p g v1 w ∧ f2.p g v2 w
  stab := fun g g' v w w' hk h => by
    obtain ⟨v1, v2, hv, h1, h2⟩ := h
    exact ⟨v1, v2, hv, f1.stab g g' v1 w w' ⟨hk.size, fun b hb ht => hk.block b hb (List.mem_append_left _ ht), fun t ht => hk.ids t (List.mem_append_left _ ht)⟩ h1,
      f2.stab g g' v2 w w' ⟨hk.size, fun b hb ht => hk.block b hb (List.mem_append_right _ ht), fun t ht => hk.ids t (List.mem_append_right _ ht)⟩ h2⟩
def Fact.tup3 (f1 f2 f3 : Fact) : Fact where
  tags := f1.tags ++ (f2.tags ++ f3.tags)
  ids := f1.ids ++ (f2.ids ++ f3.ids)
  p := fun g v w => ∃ v1 v2 v3, v = .tuple #[v1, v2, v3] ∧ f1.p g v1 w ∧ f2.p g v2 w ∧ f3.p g v3 w
  stab := fun g g' v w w' hk h => by
    obtain ⟨v1, v2, v3, hv, h1, h2, h3⟩ := h
    exact ⟨v1, v2, v3, hv, f1.stab g g' v1 w w' ⟨hk.size, fun b hb ht => hk.block b hb (List.mem_append_left _ ht), fun t ht => hk.ids t (List.mem_append_left _ ht)⟩ h1,
      f2.stab g g' v2 w w' ⟨hk.size, fun b hb ht => hk.block b hb (List.mem_append_right _ (List.mem_append_left _ ht)), fun t ht => hk.ids t (List.mem_append_right _ (List.mem_append_left _ ht))⟩ h2,
      f3.stab g g' v3 w w' ⟨hk.size, fun b hb ht => hk.block b hb (List.mem_append_right _ (List.mem_append_right _ ht)), fun t ht => hk.ids t (List.mem_append_right _ (List.mem_append_right _ ht))⟩ h3⟩

/-- The value of an owner (a slice or a pointer into memory of the call's own). -/
def Fact.isv (t : Nat) : Fact where
  tags := []
  ids := [t]
  p := fun g v _ => v = g.ga t
  stab := fun g g' v w w' hk h => by rw [hk.ids t (by simp)]; exact h

/-- Closed types. -/
def aggD : TypeDesc → Bool
  | .struct _ | .array _ _ => true
  | _ => false
structure Ty (P : Program) (t : TypeId) (α : Type) [R : Rp α] : Prop where
  und : ∃ d, P.underlying t = some d ∧ aggD d = R.agg
  sz : ∃ i, P.info? t = some i ∧ i.size = R.n
structure SlTy (P : Program) (t e : TypeId) (α : Type) [R : Rp α] : Prop where
  und : P.underlying t = some (.slice e)
  el : Ty P e α
  pos : 0 < R.n

theorem run_isAgg {P : Program} {t : TypeId} {α : Type} [R : Rp α] (h : Ty P t α) (w : World) : (isAgg t).run P w = .ok R.agg w := by
  obtain ⟨d, h1, h2⟩ := h.und
  simp only [isAgg, Sem.run_bind, run_underlying h1, Result.andThen_ok]
  cases d <;> simp [aggD] at h2 ⊢ <;> simp [← h2]

theorem rt_sizeOf {P : Program} {t : TypeId} {α : Type} [R : Rp α] (h : Ty P t α) (w : World) : (Go.sizeOf t).run P w = .ok R.n w := by
  obtain ⟨i, h1, h2⟩ := h.sz
  simp [Go.sizeOf, typeInfo, h1, h2]

theorem run_loadVar_rel {P : Program} {t : TypeId} {α : Type} [R : Rp α] (h : Ty P t α) {w : World} {a : Addr} {cs : List Value} {F : Nat → Prop} {x : α}
    (hc : CellsAt w a cs) (hr : R.rel F x cs w) : (loadVar t a).run P w = .ok (mkV R.agg cs) w := by
  have hl := R.len _ _ _ _ hr
  unfold loadVar
  simp only [Sem.run_bind, run_isAgg h, Result.andThen_ok]
  cases ha : R.agg with
  | true =>
    have h2 := run_loadCells_list (P := P) w a cs (fun j v hj => (hc j v hj).1)
    rw [hl] at h2
    simp [rt_sizeOf h, h2, mkV]
  | false =>
    have h1 := R.na ha
    rw [h1] at hl
    match cs, hl with
    | [c], _ =>
      have := (hc 0 c rfl).1
      simp only [Go.Addr.add_zero'] at this
      simp [mkV, this]

end
end GL

namespace GL
section
open Go

/-- No deferred call. -/
def ndB : Op → Bool
  | .defer _ => false
  | _ => true
theorem Cx.F_none {X : Cx} (h : X.rd = none) : X.F = Fence.wide := by unfold Cx.F; rw [h]; rfl
theorem wpIn_of {rd : Option Nat} {P : Program} {o : Oper} {a : Act} {w : World} {K : Act → World → Prop} {Q : Exit → Act → World → Prop} (hnd : ndB o.op = true) (h : o.wp P a w K Q) :
    o.wpIn { Fence.wide with round := rd } 0 P a w K Q := by
  refine ⟨fun _ _ => trivial, ?_⟩
  rw [Oper.semAt_eq _ _ _ (fun c hc => by rw [hc] at hnd; cases hnd)]
  unfold Oper.wp at h
  revert h
  generalize (execOp a.eval o).run P w = r
  intro h
  cases r with
  | ok x w' =>
    cases x with
    | value v => exact h
    | skip => exact h
    | defer d => exact h
    | enter f args => exact ⟨fun h => (by cases h), callsIn_wide (n := 0).2 h⟩
    | row row args => exact ⟨fun h => (by cases h), fun c cs _ => let ⟨v, w'', r, s⟩ := h c cs; ⟨v, w'', r, stepsIn_wide.2 s⟩⟩
    | _ => exact h.elim
  | halt hh w' =>
    cases hh with
    | panic v => exact h
    | _ => exact h.elim

def CWalk (X : Cx) (G : List It) (c : Code) (Q : Exit → Act → World → Prop) : Prop := ∀ a w, Env X G a w → c.wpIn X.F 0 X.P Q a w
def Walk (X : Cx) (ops : Array Oper) (Q : Exit → Act → World → Prop) (G : List It) (l : List Oper) : Prop := ∀ a w, Env X G a w → wpListIn X.F 0 X.P ops Q l a w
def Leaf (X : Cx) (G : List It) (Q : Exit → Act → World → Prop) (e : Exit) : Prop := ∀ a w, Env X G a w → Q e a w

def Has (G : List It) (x : Operand) (f : Fact) : Prop := ∀ a w g, Facts G g a w → f.p g (a.eval x) w
def Sub (G G' : List It) : Prop := ∀ a w g, Facts G g a w → Facts G' g a w

theorem Hs {G : List It} {t : Nat} {f : Fact} (h : look G t = some f) : Has G (.tmp t) f := fun _ _ _ hf => hf t f h
theorem Has.u {G : List It} {t : Nat} {f : Fact} {c : Prop} (h : look G t = some (f.under c)) (hc : c) : Has G (.tmp t) f := fun _ _ _ hf => (hf t _ h).1 hc
theorem Has.int {G : List It} {n : Int} : Has G (.const (.int .i64 n)) (Fact.rep [] n) := fun _ _ _ _ => rep_int.2 rfl
theorem Has.u8 {G : List It} {k : Int} (n : UInt8) (h : (n.toNat : Int) = k) : Has G (.const (.int .u8 k)) (Fact.rep [] n) := fun _ _ _ _ => rep_u8.2 (by rw [h]; rfl)
theorem Has.u32 {G : List It} {k : Int} (n : UInt32) (h : (n.toNat : Int) = k) : Has G (.const (.int .u32 k)) (Fact.rep [] n) := fun _ _ _ _ => rep_u32.2 (by rw [h]; rfl)
theorem Has.bool {G : List It} {b : Bool} : Has G (.const (.bool b)) (Fact.rep [] b) := fun _ _ _ _ => rep_bool.2 rfl
theorem Has.nil {G : List It} (α : Type) [Rp α] : Has G (.const (.slice none 0 0)) (Fact.rep [] ([] : List α)) := fun _ _ _ _ => rep_nil

theorem Has.mono {G : List It} {x : Operand} {α : Type} [Rp α] {y : α} {T T' : List Nat} (h : Has G x (Fact.rep T y)) (hT : ∀ t, t ∈ T → t ∈ T') : Has G x (Fact.rep T' y) :=
  fun a w g hf => Rep.mono (h a w g hf) (fun _ _ hb => hT _ hb)

def subB : List Nat → List Nat → Bool
  | [], _ => true
  | a :: l, m => m.elem a && subB l m
theorem subB_spec {l m : List Nat} (h : subB l m = true) : ∀ t, t ∈ l → t ∈ m := by
  induction l with
  | nil => intro t ht; cases ht
  | cons a l ih =>
    simp only [subB, Bool.and_eq_true] at h
    intro t ht
    rcases List.mem_cons.1 ht with rfl | ht
    · simpa using h.1
    · exact ih h.2 t ht
theorem Has.m {G : List It} {x : Operand} {α : Type} [Rp α] {y : α} {T T' : List Nat} (h : Has G x (Fact.rep T y)) (hT : subB T T' = true) : Has G x (Fact.rep T' y) := h.mono (subB_spec hT)

/-- Data that lean on no memory. -/
class Flat (α : Type) [R : Rp α] : Prop where
  flat : ∀ F F' x cs w w', R.rel F x cs w → R.rel F' x cs w'
instance : Flat Int := ⟨fun _ _ _ _ _ _ h => h⟩
instance : Flat UInt8 := ⟨fun _ _ _ _ _ _ h => h⟩
instance : Flat UInt32 := ⟨fun _ _ _ _ _ _ h => h⟩
instance : Flat Bool := ⟨fun _ _ _ _ _ _ h => h⟩
instance : Flat Str := ⟨fun _ _ _ _ _ _ h => h⟩
theorem Has.fl {G : List It} {x : Operand} {α : Type} [R : Rp α] [Fl : Flat α] {y : α} {T T' : List Nat} (h : Has G x (Fact.rep T y)) : Has G x (Fact.rep T' y) :=
  fun a w g hf => by
    obtain ⟨cs, h1, h2⟩ := h a w g hf
    exact ⟨cs, Fl.flat _ _ _ _ _ _ h1, h2⟩

theorem facts_nil {g : Gh} {a : Act} {w : World} : Facts [] g a w := fun s f h => by simp [look, lookK] at h
theorem Sub.nil {G : List It} : Sub G [] := fun _ _ _ _ => facts_nil
theorem Sub.cons {G G' : List It} {s : Nat} {f : Fact} (h : Has G (.tmp s) f) (k : Sub G G') : Sub G (.fact s f :: G') := fun a w g hf s' f' hl => by
  simp only [look, lookK] at hl
  cases hb : Nat.beq s s' with
  | true =>
    have : s = s' := Nat.eq_of_beq_eq_true hb
    subst this
    simp only [hb, cond_true] at hl
    cases hc : (disj f.tags [] && disj f.ids []) with
    | true => simp only [hc, cond_true, Option.some.injEq] at hl; subst hl; exact h a w g hf
    | false => simp [hc] at hl
  | false =>
    simp only [hb, cond_false] at hl
    exact k a w g hf s' f' hl
theorem Env.sub {X : Cx} {G G' : List It} {a : Act} {w : World} (e : Env X G a w) (h : Sub G G') : Env X G' a w :=
  ⟨e.size, e.defers, e.fr, let ⟨g, h1, h2⟩ := e.facts; ⟨g, h1, h a w g h2⟩⟩

section
variable {X : Cx} {G : List It} {Q : Exit → Act → World → Prop}

theorem CWalk.sub {G' : List It} {c : Code} (h : Sub G G') (k : CWalk X G' c Q) : CWalk X G c Q := fun a w e => k a w (e.sub h)
theorem Leaf.sub {G' : List It} {x : Exit} (h : Sub G G') (k : Leaf X G' Q x) : Leaf X G Q x := fun a w e => k a w (e.sub h)

theorem Cs {x y : Code} (h : CWalk X G x (Exit.then (y.wpIn X.F 0 X.P Q) Q)) : CWalk X G (.seq x y) Q := fun a w e => wpIn_seq (h a w e)
theorem CWalk.skip (h : Leaf X G Q .normal) : CWalk X G .skip Q := fun a w e => wpIn_skip (h a w e)
theorem CWalk.exit {id : Nat} (h : Leaf X G Q (.exit id)) : CWalk X G (.exit id) Q := fun a w e => wpIn_exit (h a w e)
theorem CWalk.ret (h : Leaf X G Q .ret) : CWalk X G .ret Q := fun a w e => wpIn_ret (h a w e)
theorem CWalk.block {id : Nat} {c : Code} (h : CWalk X G c (Exit.inBlock id Q)) : CWalk X G (.block id c) Q := fun a w e => wpIn_block (h a w e)
theorem CWalk.cond {t : Nat} {T : List Nat} {b : Bool} {x y : Code} (hb : look G t = some (Fact.rep T b)) (ht : b = true → CWalk X G x Q) (hf : b = false → CWalk X G y Q) : CWalk X G (.cond (.tmp t) x y) Q := fun a w e => by
  obtain ⟨g, _, h2⟩ := e.facts
  have hv : a.eval (.tmp t) = .bool b := rep_bool.1 (h2 t _ hb)
  exact wpIn_cond_split hv (fun h => ht h a w e) (fun h => hf h a w e)
theorem Cr {id : Nat} {l : List Oper} (h : Walk X l.toArray Q G l) : CWalk X G (.region id l.toArray false) Q := fun a w e => wpIn_region_lit (h a w e)

theorem Lt {y : Code} (h : CWalk X G y Q) : Leaf X G (Exit.then (y.wpIn X.F 0 X.P Q) Q) .normal := h
theorem Leaf.thenE {id : Nat} {K : Act → World → Prop} (h : Leaf X G Q (.exit id)) : Leaf X G (Exit.then K Q) (.exit id) := h
theorem Leaf.thenR {K : Act → World → Prop} (h : Leaf X G Q .ret) : Leaf X G (Exit.then K Q) .ret := h
theorem Leaf.blockN {id : Nat} (h : Leaf X G Q .normal) : Leaf X G (Exit.inBlock id Q) .normal := h
theorem Leaf.blockR {id : Nat} (h : Leaf X G Q .ret) : Leaf X G (Exit.inBlock id Q) .ret := h
theorem Leaf.blockE {id : Nat} (h : Leaf X G Q .normal) : Leaf X G (Exit.inBlock id Q) (.exit id) := fun a w e => by
  simp only [Exit.inBlock, if_true]; exact h a w e
theorem Wn {ops : Array Oper} (h : Leaf X G Q .normal) : Walk X ops Q G [] := h

/-! ### operations -/
def Yields (P : Program) (o : Oper) (a : Act) (w : World) (R : Value → World → Prop) : Prop :=
  ∀ (K : Act → World → Prop) (Q : Exit → Act → World → Prop), (∀ v w', R v w' → K (a.put o.dst v) w') → o.wp P a w K Q

theorem Yields.val {P : Program} {o : Oper} {a : Act} {w : World} {R : Value → World → Prop} {v : Value} {w' : World}
    (h : (execOp a.eval o).run P w = .ok (.value v) w') (hR : R v w') : Yields P o a w R := fun K Q hK => by
  unfold Oper.wp; rw [h]; exact hK v w' hR

/-- An operation that changes nothing that was there: its result has the fact f. -/
def Spec (X : Cx) (G : List It) (o : Oper) (f : Fact) : Prop := ∀ a w g, a.tmps.size = X.n → Fr X.C X.w0 w → GhE X w g → Facts G g a w →
  Yields X.P o a w (fun v w' => Fr NoC w w' ∧ ∃ g', GhE X w' g' ∧ (∀ b, b < w.heap.size → g'.om b = g.om b) ∧ (∀ t, g'.ga t = g.ga t) ∧ f.p g' v w')

theorem Spec.pure {o : Oper} {f : Fact} (h : ∀ a w g, Facts G g a w → ∃ v, (execOp a.eval o).run X.P w = .ok (.value v) w ∧ f.p g v w) : Spec X G o f :=
  fun a w g _ _ hg hf => let ⟨v, hr, hp⟩ := h a w g hf; Yields.val hr ⟨Fr.refl _ _, g, hg, fun _ _ => rfl, fun _ => rfl, hp⟩

theorem Act.getD_put {a : Act} {d t : Nat} {v : Value} (hd : d < a.tmps.size) : (a.put (some d) v).tmps.getD t undef = if d = t then v else a.tmps.getD t undef := by
  simp only [Act.put, Array.getD_eq_getD_getElem?, Array.getElem?_setIfInBounds]
  by_cases h : d = t
  · subst h; simp [hd]
  · simp [h]

theorem Facts.keep {G : List It} {g g' : Gh} {a : Act} {w w' : World} (h : Facts G g a w) (hw : Fr NoC w w') (hom : ∀ b, b < w.heap.size → g'.om b = g.om b) (hga : ∀ t, g'.ga t = g.ga t) : Facts G g' a w' :=
  fun s f hl => f.stab g g' _ w w' ⟨hw.size, fun b hb _ => ⟨hw.block b hb id, hom b hb⟩, fun t _ => hga t⟩ (h s f hl)

theorem Facts.put {G : List It} {g : Gh} {a : Act} {w : World} {d : Nat} {v : Value} {f : Fact} (hd : d < a.tmps.size) (h : Facts G g a w) (hf : f.p g v w) : Facts (.fact d f :: G) g (a.put (some d) v) w := fun s f' hl => by
  rw [Act.getD_put hd]
  simp only [look, lookK] at hl
  cases hb : Nat.beq d s with
  | true =>
    have : d = s := Nat.eq_of_beq_eq_true hb
    subst this
    simp only [hb, cond_true] at hl
    cases hc : (disj f.tags [] && disj f.ids []) with
    | true => simp only [hc, cond_true, Option.some.injEq] at hl; subst hl; simpa using hf
    | false => simp [hc] at hl
  | false =>
    have hne : d ≠ s := fun he => by subst he; simp at hb
    simp only [hb, cond_false] at hl
    rw [if_neg hne]
    exact h s f' hl

theorem Env.put {d : Nat} {v : Value} {f : Fact} {a : Act} {w w' : World} {g g' : Gh} (hd : d < X.n) (hs : a.tmps.size = X.n) (hde : a.defers = X.ds) (hfr : Fr X.C X.w0 w) (hf : Facts G g a w)
    (hw : Fr NoC w w') (hg' : GhE X w' g') (hom : ∀ b, b < w.heap.size → g'.om b = g.om b) (hga : ∀ t, g'.ga t = g.ga t) (hp : f.p g' v w') : Env X (.fact d f :: G) (a.put (some d) v) w' :=
  ⟨by simp [Act.put, hs], hde, hfr.trans hw (fun _ _ h => h.elim), g', hg', (hf.keep hw hom hga).put (by rw [hs]; exact hd) hp⟩

theorem Walk.op {ops : Array Oper} {rest : List Oper} {d : Nat} {op : Op} {ty : TypeId} {pos : String} {af : Array Edge} {f : Fact} (hd : Nat.blt d X.n = true)
    (h : Spec X G ⟨some d, op, ty, pos, af, none⟩ f) (k : Walk X ops Q (.fact d f :: G) rest) (hnd : ndB op = true := by rfl) : Walk X ops Q G (⟨some d, op, ty, pos, af, none⟩ :: rest) := fun a w e => by
  obtain ⟨g, hg, hf⟩ := e.facts
  refine wpListIn_plain rfl fun K hK => ?_
  refine wpIn_of hnd ?_
  refine h a w g e.size e.fr hg hf K Q (fun v w' ⟨hw, g', hg', hom, hga, hp⟩ => hK _ _ (k _ _ ?_))
  exact Env.put (by simpa [Nat.blt_eq] using hd) e.size e.defers e.fr hf hw hg' hom hga hp

theorem yielded_of {ops : Array Oper} {a : Act} {j dj : Nat} {b : Bool} (hj : (ops[j]?).bind (·.dst) = some dj) (hb : a.tmps.getD dj undef = .bool b) : yielded ops a.tmps j = some b := by
  have : a.tmps[dj]? = some (.bool b) := by
    rw [Array.getD_eq_getD_getElem?] at hb
    cases h : a.tmps[dj]? with
    | none => rw [h] at hb; cases hb
    | some v => rw [h] at hb; simp at hb; rw [hb]
  unfold yielded
  rw [hj]
  simp [this]

/-- A guarded operation. -/
theorem Walk.opg {ops : Array Oper} {rest : List Oper} {d j dj : Nat} {want b : Bool} {T : List Nat} {op : Op} {ty : TypeId} {pos : String} {af : Array Edge} {f : Fact} (hd : Nat.blt d X.n = true)
    (hj : (ops[j]?).bind (·.dst) = some dj) (hb : look G dj = some (Fact.rep T b))
    (h : b = want → Spec X G ⟨some d, op, ty, pos, af, some (j, want)⟩ f) (k : Walk X ops Q (.fact d (f.under (b = want)) :: G) rest) (hnd : ndB op = true := by rfl) : Walk X ops Q G (⟨some d, op, ty, pos, af, some (j, want)⟩ :: rest) := fun a w e => by
  obtain ⟨g, hg, hf⟩ := e.facts
  have hy := yielded_of hj (rep_bool.1 (hf dj _ hb))
  have hd' : d < X.n := by simpa [Nat.blt_eq] using hd
  refine wpListIn_step fun K hK => ?_
  simp only [Region.wanted, hy]
  by_cases hw : b = want
  · subst hw
    simp only [beq_self_eq_true, if_true]
    refine wpIn_of hnd ?_
    exact h rfl a w g e.size e.fr hg hf K Q (fun v w' ⟨hw, g', hg', hom, hga, hp⟩ => hK _ _ (k _ _ (Env.put hd' e.size e.defers e.fr hf hw hg' hom hga ⟨fun _ => hp, fun h => (h rfl).elim⟩)))
  · have : (some b == some want) = false := by simp [hw]
    simp only [this, Bool.false_eq_true, if_false]
    refine ⟨fun _ _ => trivial, ?_⟩
    exact hK _ _ (k _ _ (Env.put hd' e.size e.defers e.fr hf (Fr.refl _ _) hg (fun _ _ => rfl) (fun _ => rfl) ⟨fun hc => (hw hc).elim, fun _ => rfl⟩))
/-- A guarded operation whose guard is guarded itself. -/
theorem Walk.opgu {ops : Array Oper} {rest : List Oper} {d j dj : Nat} {want b : Bool} {c : Prop} {T : List Nat} {op : Op} {ty : TypeId} {pos : String} {af : Array Edge} {f : Fact} (hd : Nat.blt d X.n = true)
    (hj : (ops[j]?).bind (·.dst) = some dj) (hb : look G dj = some ((Fact.rep T b).under c))
    (h : c ∧ b = want → Spec X G ⟨d, op, ty, pos, af, some (j, want)⟩ f) (k : Walk X ops Q (.fact d (f.under (c ∧ b = want)) :: G) rest) (hnd : ndB op = true := by rfl) : Walk X ops Q G (⟨some d, op, ty, pos, af, some (j, want)⟩ :: rest) := fun a w e => by
  obtain ⟨g, hg, hf⟩ := e.facts
  have hd' : d < X.n := by simpa [Nat.blt_eq] using hd
  have hu := hf dj _ hb
  refine wpListIn_step fun K hK => ?_
  by_cases hc : c
  · have hy := yielded_of hj (rep_bool.1 (hu.1 hc))
    simp only [Region.wanted, hy]
    by_cases hw : b = want
    · subst hw
      simp only [beq_self_eq_true, if_true]
      refine wpIn_of hnd ?_
      exact h ⟨hc, rfl⟩ a w g e.size e.fr hg hf K Q (fun v w' ⟨hw, g', hg', hom, hga, hp⟩ => hK _ _ (k _ _ (Env.put hd' e.size e.defers e.fr hf hw hg' hom hga ⟨fun _ => hp, fun h => (h ⟨hc, rfl⟩).elim⟩)))
    · have : (some b == some want) = false := by simp [hw]
      simp only [this, Bool.false_eq_true, if_false]
      refine ⟨fun _ _ => trivial, ?_⟩
      exact hK _ _ (k _ _ (Env.put hd' e.size e.defers e.fr hf (Fr.refl _ _) hg (fun _ _ => rfl) (fun _ => rfl) ⟨fun hc => (hw hc.2).elim, fun _ => rfl⟩))
  · have hy : (yielded ops a.tmps j == some want) = false := by
      have h1 : a.tmps.getD dj undef = undef := hu.2 hc
      unfold yielded
      rw [hj]
      simp only [Option.bind_some]
      rw [Array.getD_eq_getD_getElem?] at h1
      cases h2 : a.tmps[dj]? with
      | none => rfl
      | some v => rw [h2] at h1; simp at h1; subst h1; rfl
    simp only [Region.wanted, hy, Bool.false_eq_true, if_false]
    refine ⟨fun _ _ => trivial, ?_⟩
    exact hK _ _ (k _ _ (Env.put hd' e.size e.defers e.fr hf (Fr.refl _ _) hg (fun _ _ => rfl) (fun _ => rfl) ⟨fun h => (hc h.1).elim, fun _ => rfl⟩))
end
end
end GL

namespace GL
section
open Go

section
variable {X : Cx} {G : List It} {Q : Exit → Act → World → Prop}

/-! ### loops -/
def LoopQ {S B : Type} (X : Cx) (Gs : S → List It) (out : B → Exit × List It) (c : Ctl S B) : Exit → Act → World → Prop := fun e a w =>
  match c with
  | .next s' => e = .normal ∧ Env X (Gs s') a w
  | .brk b => e ≠ .normal ∧ e = (out b).1 ∧ Env X (out b).2 a w

theorem Leaf.next {S B : Type} {Gs : S → List It} {out : B → Exit × List It} {c : Ctl S B} {s' : S} (hc : some (Ctl.next s') = some c) (h : Sub G (Gs s')) :
    Leaf X G (LoopQ X Gs out c) .normal := fun a w e => by
  cases hc; exact ⟨rfl, e.sub h⟩
theorem Leaf.brk {S B : Type} {Gs : S → List It} {out : B → Exit × List It} {c : Ctl S B} {b : B} {e : Exit} (hc : some (Ctl.brk b) = some c) (hn : e ≠ .normal) (he : e = (out b).1) (h : Sub G (out b).2) :
    Leaf X G (LoopQ X Gs out c) e := fun a w env => by
  cases hc; exact ⟨hn, he, env.sub h⟩

theorem CWalk.loop {S B : Type} {step : S → Option (Ctl S B)} {n : Nat} {s0 : S} {r : B} {body : Code} (Gs : S → List It) (out : B → Exit × List It)
    (hm : loopM step n s0 = some r) (h0 : Sub G (Gs s0))
    (round : ∀ s c, step s = some c → CWalk X (Gs s) body (LoopQ X Gs out c))
    (after : (out r).1 ≠ .normal → Leaf X (out r).2 Q (out r).1) : CWalk X G (.loop body) Q := fun a w env => by
  refine wpIn_loop_ghost (fun m a w => ∃ s, loopM step m s = some r ∧ Env X (Gs s) a w) n ⟨s0, hm, env.sub h0⟩ ?_
  rintro m a w ⟨s, hs, e⟩
  cases m with
  | zero => cases hs
  | succ m =>
    rw [loopM_succ] at hs
    cases hst : step s with
    | none => rw [hst] at hs; cases hs
    | some c =>
      rw [hst] at hs
      refine Code.wpIn_mono ?_ (round s c hst a w e)
      intro e' a' w' hq
      cases c with
      | next s' =>
        obtain ⟨rfl, henv⟩ := hq
        exact ⟨m, Nat.lt_succ_self m, s', hs, henv⟩
      | brk b =>
        obtain ⟨hn, he, henv⟩ := hq
        cases hs
        have := after (he ▸ hn) a' w' henv
        rw [← he] at this
        cases e' with
        | normal => exact (hn rfl).elim
        | exit id => exact this
        | goto l => exact this
        | ret => exact this
        | panic ch => exact this
        | outgrown => exact this

/-! ### where ways meet -/
def JQ {S : Type} (X : Cx) (Gj : S → List It) (R : S → Prop) : Act → World → Prop := fun a w => ∃ p, R p ∧ Env X (Gj p) a w
theorem CWalk.seqJ {S : Type} (Gj : S → List It) (R : S → Prop) {x y : Code} (hJ : ∀ p, R p → CWalk X (Gj p) y Q) (h : CWalk X G x (Exit.then (JQ X Gj R) Q)) : CWalk X G (.seq x y) Q := fun a w e =>
  wpIn_seq (Code.wpIn_mono (fun e' a' w' hq => by
    cases e' with
    | normal => obtain ⟨p, hR, henv⟩ := hq; exact hJ p hR a' w' henv
    | exit id => exact hq
    | goto l => exact hq
    | ret => exact hq
    | panic ch => exact hq
    | outgrown => exact hq) (h a w e))
theorem Leaf.join {S : Type} {Gj : S → List It} {R : S → Prop} (p : S) (hR : R p) (h : Sub G (Gj p)) : Leaf X G (Exit.then (JQ X Gj R) Q) .normal := fun _ _ e => ⟨p, hR, e.sub h⟩

/-! ### models -/
theorem bind_some {α β : Type} {e : Option α} {f : α → Option β} {r : β} (h : Option.bind e f = some r) : ∃ x, e = some x ∧ f x = some r := by
  cases e with
  | none => cases h
  | some x => exact ⟨x, rfl, h⟩
theorem cond_t {α : Type} {c : Bool} {A B r : α} (hb : c = true) (h : (bif c then A else B) = r) : A = r := by rw [hb] at h; exact h
theorem cond_f {α : Type} {c : Bool} {A B r : α} (hb : c = false) (h : (bif c then A else B) = r) : B = r := by rw [hb] at h; exact h
/-- A guarded step. -/
def gO {α : Type} [Inhabited α] (c : Bool) (e : Option α) : Option α := bif c then e else some default
theorem gO_t {α : Type} [Inhabited α] {c : Bool} {e : Option α} {x : α} (h : gO c e = some x) (hc : c = true) : e = some x := by rw [hc] at h; exact h
theorem and_t {a b : Bool} (h : a = true) (k : b = true) : (a && b) = true := by rw [h, k]; rfl
theorem not_t {a : Bool} (h : a = false) : (!a) = true := by rw [h]; rfl
/-- More rounds than any loop takes. -/
def FUEL : Nat := 18446744073709551616

/-! ### results: facts in terms of classes of blocks, each with a list of tags -/
abbrev Tg := Nat → List Nat
structure Shape where
  f : Tg → Fact
  tg : ∀ (T : Tg) (t : Nat), t ∈ (f T).tags → ∃ c, t ∈ T c
  idn : ∀ T : Tg, (f T).ids = []
  re : ∀ (T T' : Tg) (g g' : Gh) (v : Value) (w : World), (∀ c b, b < w.heap.size → g.om b ∈ T c → g'.om b ∈ T' c) → (f T).p g v w → (f T').p g' v w

def Shape.rep {α : Type} [Rp α] (c : Nat) (x : α) : Shape where
  f := fun T => Fact.rep (T c) x
  tg := fun _ _ h => ⟨c, h⟩
  idn := fun _ => rfl
  re := fun T T' g g' v w hk h => Rep.mono h (hk c)
def Shape.fl {α : Type} [Rp α] [Fl : Flat α] (x : α) : Shape where
  f := fun _ => Fact.rep [] x
  tg := fun _ _ h => nomatch h
  idn := fun _ => rfl
  re := fun T T' g g' v w hk h => by
    obtain ⟨cs, h1, h2⟩ := h
    exact ⟨cs, Fl.flat _ _ _ _ _ _ h1, h2⟩
def Shape.tup2 (s1 s2 : Shape) : Shape where
  f := fun T => Fact.tup2 (s1.f T) (s2.f T)
  tg := fun T t h => (List.mem_append.1 h).elim (s1.tg T t) (s2.tg T t)
  idn := fun T => by show (s1.f T).ids ++ (s2.f T).ids = []; rw [s1.idn, s2.idn]; rfl
  re := fun T T' g g' v w hk h => by
    obtain ⟨v1, v2, hv, h1, h2⟩ := h
    exact ⟨v1, v2, hv, s1.re T T' g g' v1 w hk h1, s2.re T T' g g' v2 w hk h2⟩
def Shape.tup3 (s1 s2 s3 : Shape) : Shape where
  f := fun T => Fact.tup3 (s1.f T) (s2.f T) (s3.f T)
  tg := fun T t h => (List.mem_append.1 h).elim (s1.tg T t) (fun h => (List.mem_append.1 h).elim (s2.tg T t) (s3.tg T t))
  idn := fun T => by show (s1.f T).ids ++ ((s2.f T).ids ++ (s3.f T).ids) = []; rw [s1.idn, s2.idn, s3.idn]; rfl
  re := fun T T' g g' v w hk h => by
    obtain ⟨v1, v2, v3, hv, h1, h2, h3⟩ := h
    exact ⟨v1, v2, v3, hv, s1.re T T' g g' v1 w hk h1, s2.re T T' g g' v2 w hk h2, s3.re T T' g g' v3 w hk h3⟩

theorem Shape.keep (s : Shape) {T : Tg} {g : Gh} {v : Value} {w w' : World} (hs : w.heap.size ≤ w'.heap.size) (hk : ∀ b, b < w.heap.size → (∃ c, g.om b ∈ T c) → w'.heap[b]? = w.heap[b]?)
    (h : (s.f T).p g v w) : (s.f T).p g v w' :=
  (s.f T).stab g g v w w' ⟨hs, fun b hb ht => ⟨hk b hb (s.tg T _ ht), rfl⟩, fun _ _ => rfl⟩ h

def cst (T : List Nat) : Tg := fun _ => T
def All2 (T : List Nat) (g : Gh) (w : World) : List Shape → List Value → Prop
  | [], [] => True
  | s :: ss, v :: vs => (s.f (cst T)).p g v w ∧ All2 T g w ss vs
  | _, _ => False

/-- The contract of a function that only reads what was there: arguments of the given shapes, a result of the given shape; shc: classes of the result that may lean on the arguments' memory. -/
def Ctr (P : Program) (k : FuncId) (pre : List Shape) (out : Shape) (shc : List Nat) : Prop :=
  ∀ (w : World) (g : Gh) (T : List Nat) (vs : List Value), All2 T g w pre vs → Calls P k vs.toArray w (fun e w' => ∃ v, e = .returned v ∧ Fr NoC w w' ∧ ∃ cls : Nat → Nat,
    ∀ (T' : Tg) (g' : Gh), (∀ b, w.heap.size ≤ b → b < w'.heap.size → g'.om b ∈ T' (cls b)) → (∀ b c, b < w.heap.size → g.om b ∈ T → c ∈ shc → g'.om b ∈ T' c) → (out.f T').p g' v w')

/-- Has, for a list of operands. -/
def HasAll (G : List It) (T : List Nat) : List Operand → List Shape → Prop
  | [], [] => True
  | x :: xs, s :: ss => Has G x (s.f (cst T)) ∧ HasAll G T xs ss
  | _, _ => False

theorem HasAll.nil {T : List Nat} : HasAll G T [] [] := trivial
theorem HasAll.cons {T : List Nat} {x : Operand} {xs : List Operand} {s : Shape} {ss : List Shape} (h : Has G x (s.f (cst T))) (k : HasAll G T xs ss) : HasAll G T (x :: xs) (s :: ss) := ⟨h, k⟩

theorem HasAll.all2 {T : List Nat} {xs : List Operand} {ss : List Shape} (h : HasAll G T xs ss) {a : Act} {w : World} {g : Gh} (hf : Facts G g a w) : All2 T g w ss (xs.map a.eval) := by
  induction xs generalizing ss with
  | nil => cases ss with
    | nil => trivial
    | cons s ss => exact h.elim
  | cons x xs ih => cases ss with
    | nil => exact h.elim
    | cons s ss => exact ⟨h.1 a w g hf, ih h.2⟩

/-- Closed: function k has a body, and may be entered. -/
def enters (P : Program) (k : FuncId) : Bool :=
  match P.funcs[k]? with
  | some fn => !(fn.name == "runtime.NumGoroutine") && fn.body.isSome
  | none => false

theorem run_enter {P : Program} {k : FuncId} (h : enters P k = true) (args : Array Value) (w : World) : (callFunc k args).run P w = .ok (.enter k args) w := by
  unfold enters at h
  cases hf : P.funcs[k]? with
  | none => simp [hf] at h
  | some fn =>
    simp [hf] at h
    obtain ⟨h1, h2⟩ := h
    obtain ⟨c, hb⟩ := Option.isSome_iff_exists.1 h2
    simp [callFunc, hf, h1, hb]

def tagCls (g : Gh) (n t : Nat) (cls : Nat → Nat) : Gh := ⟨fun b => if b < n then g.om b else t + cls b, g.ga⟩
def tagNew (g : Gh) (n t : Nat) : Gh := ⟨fun b => if b < n then g.om b else t, g.ga⟩

theorem GhE.tagCls {w w' : World} {g : Gh} (h : GhE X w g) {t : Nat} {cls : Nat → Nat} (ht : 10 ≤ t) (h0 : X.w0.heap.size ≤ w.heap.size) : GhE X w' (tagCls g w.heap.size t cls) := by
  refine ⟨⟨fun b hb => ?_, fun b hb hb' => ?_⟩, fun b hb => ?_⟩
  · simp only [GL.tagCls]; rw [if_pos (by omega)]; exact h.ok.old b hb
  · simp only [GL.tagCls]; split
    · exact h.ok.new b hb (by assumption)
    · omega
  · simp only [GL.tagCls]; rw [if_pos (by omega)]; exact h.om b hb
theorem GhE.tagNew {w w' : World} {g : Gh} (h : GhE X w g) {t : Nat} (ht : 10 ≤ t) (_ : w.heap.size ≤ w'.heap.size) (h0 : X.w0.heap.size ≤ w.heap.size) : GhE X w' (tagNew g w.heap.size t) :=
  h.tagCls (cls := fun _ => 0) ht h0

/-- The tags of a result's classes, at a call. -/
def cT (t : Nat) (T shc : List Nat) : Tg := fun c => bif shc.elem c then (t + c) :: T else [t + c]

theorem Spec.call {k : FuncId} {pre : List Shape} {out : Shape} {shc : List Nat} {d : Option Nat} {xs : List Operand} {ats : Array TypeId} {ty : TypeId} {pos : String} {af : Array Edge} {gd : Option (Nat × Bool)}
    (T : List Nat) (t : Nat) (ht : Nat.ble 10 t = true) (hk : enters X.P k = true) (hc : Ctr X.P k pre out shc) (hx : HasAll G T xs pre) :
    Spec X G ⟨d, .call { callee := .value (.func k), args := xs.toArray, argTypes := ats }, ty, pos, af, gd⟩ (out.f (cT t T shc)) := fun a w g hs hfr hg hf K Q hK => by
  have ht' : 10 ≤ t := by simpa using ht
  have hcall := hc w g T _ (hx.all2 hf)
  have hrun : (execOp a.eval ⟨d, .call { callee := .value (.func k), args := xs.toArray, argTypes := ats }, ty, pos, af, gd⟩).run X.P w = .ok (.enter k (xs.map a.eval).toArray) w := by
    unfold execOp
    simp [resolve, Deferred.ofValue, Act.eval, invoke, run_enter hk]
  unfold Oper.wp
  rw [hrun]
  refine Calls.mono hcall ?_
  rintro e w' ⟨v, rfl, hw, cls, hp⟩
  refine hK v w' ⟨hw, GL.tagCls g w.heap.size t cls, hg.tagCls ht' hfr.size, fun b hb => by simp [GL.tagCls, hb], fun _ => rfl, ?_⟩
  refine hp _ _ ?_ ?_
  · intro b h1 _
    simp only [GL.tagCls, cT]
    rw [if_neg (Nat.not_lt.2 h1)]
    cases shc.elem (cls b) <;> simp
  · intro b c h1 h2 h3
    simp only [GL.tagCls, cT]
    rw [if_pos h1, show shc.elem c = true by simpa using h3]
    simp [h2]

/-! ### a function's own walk -/
/-- The context of a call of an ordinary function: all old blocks that the arguments lean on have tag 0, all others 9. -/
def om0 (w : World) (g : Gh) (T : List Nat) : Nat → Nat := fun b => if g.om b ∈ T then 0 else 9

/-- What is to be shown at a return. -/
def RetR (X : Cx) (out : Shape) (TT : List (List Nat)) : Ending → World → Prop := fun e w' => ∃ v, e = .returned v ∧ Fr X.C X.w0 w' ∧ ∃ g, GhE X w' g ∧ (out.f (fun c => TT.getD c [])).p g v w'

def clsOf : List (List Nat) → Nat → Nat
  | [], _ => 0
  | l :: ls, t => bif l.elem t then 0 else clsOf ls t + 1
/-- Closed: each tag from 10 on has one class; tag 0 is in classes that may lean on the arguments. -/
def clsB (TT : List (List Nat)) (shc : List Nat) : Bool :=
  TT.zipIdx.all fun x => x.1.all fun t => (Nat.ble 10 t && Nat.beq (clsOf TT t) x.2) || (Nat.beq t 0 && shc.elem x.2)
theorem clsB_spec {TT : List (List Nat)} {shc : List Nat} (h : clsB TT shc = true) {c t : Nat} (ht : t ∈ TT.getD c []) : (10 ≤ t ∧ clsOf TT t = c) ∨ (t = 0 ∧ c ∈ shc) := by
  have hc : c < TT.length := by
    rcases Nat.lt_or_ge c TT.length with h | h
    · exact h
    · rw [List.getD_eq_getElem?_getD, List.getElem?_eq_none h] at ht; simp at ht
  have h1 : (TT[c], c) ∈ TT.zipIdx := by
    rw [List.mem_zipIdx_iff_getElem?]; simp [hc]
  have ht' : t ∈ TT[c] := by rw [List.getD_eq_getElem?_getD, List.getElem?_eq_getElem hc] at ht; exact ht
  have h2 := List.all_eq_true.1 (List.all_eq_true.1 h _ h1) _ ht'
  simp only [Bool.or_eq_true, Bool.and_eq_true] at h2
  rcases h2 with ⟨h3, h4⟩ | ⟨h3, h4⟩
  · exact .inl ⟨by simpa using h3, Nat.eq_of_beq_eq_true h4⟩
  · exact .inr ⟨Nat.eq_of_beq_eq_true h3, by simpa using h4⟩

theorem ctr_of_walkG {P : Program} {k : FuncId} {fn : Func} {c : Code} {pre : List Shape} {out : Shape} {shc : List Nat} (TT : List (List Nat)) (n : Nat) (hf : P.funcs[k]? = some fn) (hb : fn.body = some c) (hnt : fn.ntmps = n)
    (hn : Nat.ble pre.length n = true) (hT : clsB TT shc = true) {PO : (Ending → World → Prop) → Exit → Act → World → Prop}
    (hcl : ∀ (R : Ending → World → Prop) (args : Array Value) (w : World), c.wpIn Fence.wide 0 P (PO R) { tmps := args ++ Array.replicate (fn.ntmps - args.size) undef, defers := [] } w → Calls P k args w R)
    (h : ∀ (w0 : World) (om : Nat → Nat), CWalk ⟨P, n, w0, NoC, om, none, []⟩ (pre.zipIdx.map fun x => It.fact x.2 (x.1.f (cst [0]))) c (PO (RetR ⟨P, n, w0, NoC, om, none, []⟩ out TT))) : Ctr P k pre out shc := by
  subst hnt
  intro w g T0 vs hvs
  have hn' : pre.length ≤ fn.ntmps := by simpa using hn
  have hlen : ∀ (pre : List Shape) (vs : List Value), All2 T0 g w pre vs → pre.length = vs.length := by
    intro pre
    induction pre with
    | nil => intro vs h; cases vs with
      | nil => rfl
      | cons v vs => exact h.elim
    | cons s ss ih => intro vs h; cases vs with
      | nil => exact h.elim
      | cons v vs => simp [ih vs h.2]
  have hl := hlen pre vs hvs
  let om : Nat → Nat := om0 w g T0
  let g0 : Gh := ⟨fun b => if b < w.heap.size then om b else 10, g.ga⟩
  refine Calls.mono (hcl (RetR ⟨P, fn.ntmps, w, NoC, om, none, []⟩ out TT) _ _ (h w om _ _ ?_)) ?_
  · refine ⟨by simp; omega, rfl, Fr.refl _ _, g0, ⟨⟨fun b hb => ?_, fun b hb hb' => ?_⟩, fun b hb => ?_⟩, ?_⟩
    · simp only [g0, if_pos hb, om, om0]; split <;> omega
    · exact absurd hb' (Nat.not_lt.2 hb)
    · simp only [g0]; exact if_pos hb
    · have key : ∀ (pre : List Shape) (vs : List Value) (i : Nat) (tm : Array Value), All2 T0 g w pre vs → (∀ j v, vs[j]? = some v → tm.getD (i + j) undef = v) →
          Facts ((pre.zipIdx i).map fun x => It.fact x.2 (x.1.f (cst [0]))) g0 ⟨tm, []⟩ w := by
        intro pre
        induction pre with
        | nil => intro vs i tm _ _ s f hl; simp [look, lookK] at hl
        | cons s ss ih =>
          intro vs i tm h hv
          cases vs with
          | nil => exact h.elim
          | cons v vs =>
            have hrest := ih vs (i + 1) tm h.2 (fun j u hj => by have := hv (j + 1) u hj; rwa [show i + (j + 1) = i + 1 + j by omega] at this)
            intro s' f' hl
            simp only [List.zipIdx_cons, List.map_cons, look, lookK] at hl
            cases hb : Nat.beq i s' with
            | true =>
              have he : i = s' := Nat.eq_of_beq_eq_true hb
              subst he
              simp only [hb, cond_true] at hl
              cases hc : (disj (s.f (cst [0])).tags [] && disj (s.f (cst [0])).ids []) with
              | true =>
                simp only [hc, cond_true, Option.some.injEq] at hl
                subst hl
                have h0 := hv 0 v rfl
                simp only [Nat.add_zero] at h0
                show (s.f (cst [0])).p g0 (tm.getD i undef) w
                rw [h0]
                refine s.re (cst T0) (cst [0]) g g0 v w ?_ h.1
                intro c b hb hm
                simp only [cst] at hm
                simp [g0, hb, om, om0, hm, cst]
              | false => simp [hc] at hl
            | false =>
              simp only [hb, cond_false] at hl
              exact hrest s' f' hl
      refine key pre vs 0 _ hvs ?_
      intro j v hj
      have hjl : j < vs.length := (List.getElem?_eq_some_iff.1 hj).1
      simp only [Nat.zero_add]
      rw [Array.getD_eq_getD_getElem?, Array.getElem?_append_left (by simpa using hjl)]
      simp [hj]
  · rintro e w' ⟨v, rfl, hw, g1, hg1, hp⟩
    refine ⟨v, rfl, hw, fun b => clsOf TT (g1.om b), fun T' g' hnew hold => out.re _ T' g1 g' v w' ?_ hp⟩
    intro c b hb hm
    rcases Nat.lt_or_ge b w.heap.size with hlt | hge
    · have h2 := hg1.om b hlt
      have h3 : g1.om b < 10 := hg1.ok.old b hlt
      rcases clsB_spec hT hm with ⟨h1, _⟩ | ⟨h4, hsh⟩
      · omega
      · refine hold b c hlt ?_ hsh
        rw [h4] at h2
        simp only [om, om0] at h2
        split at h2
        · assumption
        · omega
    · rcases clsB_spec hT hm with ⟨_, h1⟩ | ⟨h4, _⟩
      · rw [← h1]; exact hnew b hge hb
      · have := hg1.ok.new b hge hb
        omega

theorem ctr_of_walk {P : Program} {k : FuncId} {fn : Func} {c : Code} {pre : List Shape} {out : Shape} {shc : List Nat} (TT : List (List Nat)) (n : Nat) (hf : P.funcs[k]? = some fn) (hb : fn.body = some c) (hnt : fn.ntmps = n)
    (hn : Nat.ble pre.length n = true) (hT : clsB TT shc = true)
    (h : ∀ (w0 : World) (om : Nat → Nat), CWalk ⟨P, n, w0, NoC, om, none, []⟩ (pre.zipIdx.map fun x => It.fact x.2 (x.1.f (cst [0]))) c (bodyPost P fn (RetR ⟨P, n, w0, NoC, om, none, []⟩ out TT))) : Ctr P k pre out shc :=
  ctr_of_walkG TT n hf hb hnt hn hT (fun R args w hq => calls_of_wp hf hb (wpIn_wide (n := 0).1 hq)) h
end
end
end GL

namespace GL
section
open Go

/-- int's wrap. -/
def wI (x : Int) : Int := IntKind.i64.wrap x

/-- An element, or a panic. -/
def idx {α : Type} (l : List α) (i : Int) : Option α := if 0 ≤ i then l[i.toNat]? else none

theorem eval_const (a : Act) (v : Value) : a.eval (.const v) = v := rfl

section
variable {X : Cx} {G : List It} {d : Option Nat} {ty : TypeId} {pos : String} {af : Array Edge} {gd : Option (Nat × Bool)}

theorem Spec.move {x : Operand} {f : Fact} (h : Has G x f) : Spec X G ⟨d, .move x, ty, pos, af, gd⟩ f :=
  Spec.pure fun a w g hf => ⟨a.eval x, rfl, h a w g hf⟩
theorem Spec.assign {x : Operand} {f : Fact} (h : Has G x f) : Spec X G ⟨d, .assign x, ty, pos, af, gd⟩ f :=
  Spec.pure fun a w g hf => ⟨a.eval x, rfl, h a w g hf⟩

theorem Spec.len {x : Operand} {α : Type} [Rp α] {T : List Nat} {l : List α} {t e : TypeId} (h : Has G x (Fact.rep T l)) (ht : X.P.underlying t = some (.slice e)) :
    Spec X G ⟨d, .call { callee := .builtin .len, args := #[x], argTypes := #[t] }, ty, pos, af, gd⟩ (Fact.rep [] (l.length : Int)) :=
  Spec.pure fun a w g hf => by
    obtain ⟨ad, c, hv, _⟩ := rep_list (h a w g hf)
    refine ⟨.int .i64 l.length, ?_, rep_int.2 rfl⟩
    unfold execOp
    simp [resolve, invoke, builtin, hv, Builtin.len_, run_underlying ht, goInt]

/-! ints -/
theorem Spec.bin_int {op : BinOp} {x y : Operand} {t t' : TypeId} {T T' : List Nat} {m n : Int} {β : Type} [Rp β] {r : β} {v : Value} (hx : Has G x (Fact.rep T m)) (hy : Has G y (Fact.rep T' n))
    (hr : ∀ w, (binOp op t (.int .i64 m) (.int .i64 n)).run X.P w = .ok v w) (hv : ∀ w F, Rep F r v w) :
    Spec X G ⟨d, .binOp op t x y t', ty, pos, af, gd⟩ (Fact.rep [] r) :=
  Spec.pure fun a w g hf => ⟨v, by
    have h1 := rep_int.1 (hx a w g hf)
    have h2 := rep_int.1 (hy a w g hf)
    unfold execOp
    simp [h1, h2, eqGuard_at_int, hr], hv w _⟩

section
variable {x y : Operand} {t t' : TypeId} {T T' : List Nat} {m n : Int} (hx : Has G x (Fact.rep T m)) (hy : Has G y (Fact.rep T' n))
include hx hy
theorem Spec.addI : Spec X G ⟨d, .binOp .add t x y t', ty, pos, af, gd⟩ (Fact.rep [] (wI (m + n))) :=
  Spec.bin_int hx hy (fun w => by simp [binOp, Op.intArith]; try rfl) (fun _ _ => rep_int.2 rfl)
theorem Spec.subI : Spec X G ⟨d, .binOp .sub t x y t', ty, pos, af, gd⟩ (Fact.rep [] (wI (m - n))) :=
  Spec.bin_int hx hy (fun w => by simp [binOp, Op.intArith]; try rfl) (fun _ _ => rep_int.2 rfl)
theorem Spec.mulI : Spec X G ⟨d, .binOp .mul t x y t', ty, pos, af, gd⟩ (Fact.rep [] (wI (m * n))) :=
  Spec.bin_int hx hy (fun w => by simp [binOp, Op.intArith]; try rfl) (fun _ _ => rep_int.2 rfl)
theorem Spec.eqlI : Spec X G ⟨d, .binOp .eql t x y t', ty, pos, af, gd⟩ (Fact.rep [] (m == n)) :=
  Spec.bin_int hx hy (fun w => by simp [binOp, Op.intCmp]; try rfl) (fun _ _ => rep_bool.2 rfl)
theorem Spec.neqI : Spec X G ⟨d, .binOp .neq t x y t', ty, pos, af, gd⟩ (Fact.rep [] (m != n)) :=
  Spec.bin_int hx hy (fun w => by simp [binOp, Op.intCmp]; try rfl) (fun _ _ => rep_bool.2 rfl)
theorem Spec.lssI : Spec X G ⟨d, .binOp .lss t x y t', ty, pos, af, gd⟩ (Fact.rep [] (decide (m < n))) :=
  Spec.bin_int hx hy (fun w => by simp [binOp, Op.intCmp]; try rfl) (fun _ _ => rep_bool.2 rfl)
theorem Spec.leqI : Spec X G ⟨d, .binOp .leq t x y t', ty, pos, af, gd⟩ (Fact.rep [] (decide (m ≤ n))) :=
  Spec.bin_int hx hy (fun w => by simp [binOp, Op.intCmp]; try rfl) (fun _ _ => rep_bool.2 rfl)
theorem Spec.gtrI : Spec X G ⟨d, .binOp .gtr t x y t', ty, pos, af, gd⟩ (Fact.rep [] (decide (m > n))) :=
  Spec.bin_int hx hy (fun w => by simp [binOp, Op.intCmp]; try rfl) (fun _ _ => rep_bool.2 rfl)
theorem Spec.geqI : Spec X G ⟨d, .binOp .geq t x y t', ty, pos, af, gd⟩ (Fact.rep [] (decide (m ≥ n))) :=
  Spec.bin_int hx hy (fun w => by simp [binOp, Op.intCmp]; try rfl) (fun _ _ => rep_bool.2 rfl)
end
/-- Division, whole part: by a number that is not 0. -/
def quoI (m n : Int) : Option Int := if n = 0 then none else some (wI (m.tdiv n))
def remI (m n : Int) : Option Int := if n = 0 then none else some (m.tmod n)
theorem Spec.quoI {x y : Operand} {t t' : TypeId} {T T' : List Nat} {m n r : Int} (hr : GL.quoI m n = some r) (hx : Has G x (Fact.rep T m)) (hy : Has G y (Fact.rep T' n)) :
    Spec X G ⟨d, .binOp .quo t x y t', ty, pos, af, gd⟩ (Fact.rep [] r) := by
  unfold GL.quoI at hr
  split at hr
  · cases hr
  · rename_i hn
    cases hr
    exact Spec.bin_int hx hy (fun w => by simp [binOp, Op.intDiv, hn]; try rfl) (fun _ _ => rep_int.2 rfl)
theorem Spec.remI {x y : Operand} {t t' : TypeId} {T T' : List Nat} {m n r : Int} (hr : GL.remI m n = some r) (hx : Has G x (Fact.rep T m)) (hy : Has G y (Fact.rep T' n)) :
    Spec X G ⟨d, .binOp .rem t x y t', ty, pos, af, gd⟩ (Fact.rep [] r) := by
  unfold GL.remI at hr
  split at hr
  · cases hr
  · rename_i hn
    cases hr
    exact Spec.bin_int hx hy (fun w => by simp [binOp, Op.intDiv, hn]; try rfl) (fun _ _ => rep_int.2 rfl)

/-! bytes -/
theorem Spec.bin_u8 {op : BinOp} {x y : Operand} {t t' : TypeId} {T T' : List Nat} {m n : UInt8} {β : Type} [Rp β] {r : β} {v : Value} (hx : Has G x (Fact.rep T m)) (hy : Has G y (Fact.rep T' n))
    (hr : ∀ w, (binOp op t (.int .u8 m.toNat) (.int .u8 n.toNat)).run X.P w = .ok v w) (hv : ∀ w F, Rep F r v w) :
    Spec X G ⟨d, .binOp op t x y t', ty, pos, af, gd⟩ (Fact.rep [] r) :=
  Spec.pure fun a w g hf => ⟨v, by
    have h1 := rep_u8.1 (hx a w g hf)
    have h2 := rep_u8.1 (hy a w g hf)
    unfold execOp
    simp [h1, h2, eqGuard_at_int, hr], hv w _⟩
section
variable {x y : Operand} {t t' : TypeId} {T T' : List Nat} {m n : UInt8} (hx : Has G x (Fact.rep T m)) (hy : Has G y (Fact.rep T' n))
include hx hy
theorem Spec.eqlB : Spec X G ⟨d, .binOp .eql t x y t', ty, pos, af, gd⟩ (Fact.rep [] (m == n)) :=
  Spec.bin_u8 hx hy (v := .bool (m == n)) (fun w => by
    have : ((m.toNat : Int) == (n.toNat : Int)) = (m == n) := by
      rw [Bool.eq_iff_iff]; simp [← UInt8.toNat_inj]; omega
    simp [binOp, Op.intCmp, this]) (fun _ _ => rep_bool.2 rfl)
end

/-! bools -/
theorem Spec.not {x : Operand} {t : TypeId} {T : List Nat} {m : Bool} (hx : Has G x (Fact.rep T m)) : Spec X G ⟨d, .unOp .not t x, ty, pos, af, gd⟩ (Fact.rep [] (!m)) :=
  Spec.pure fun a w g hf => ⟨.bool (!m), by
    have h1 := rep_bool.1 (hx a w g hf)
    unfold execOp
    simp [h1, Op.unary], rep_bool.2 rfl⟩
theorem Spec.or {c y : Operand} {T T' : List Nat} {m n : Bool} (hc : Has G c (Fact.rep T m)) (hy : m = false → Has G y (Fact.rep T' n)) :
    Spec X G ⟨d, .pick c (.const (.bool true)) y, ty, pos, af, gd⟩ (Fact.rep [] (m || n)) :=
  Spec.pure fun a w g hf => by
    have h1 := rep_bool.1 (hc a w g hf)
    cases m with
    | true => exact ⟨.bool true, by unfold execOp; simp [h1, asBool, eval_const], rep_bool.2 rfl⟩
    | false => exact ⟨.bool n, by have h2 := rep_bool.1 (hy rfl a w g hf); unfold execOp; simp [h1, h2, asBool], rep_bool.2 rfl⟩
theorem Spec.and {c y : Operand} {T T' : List Nat} {m n : Bool} (hc : Has G c (Fact.rep T m)) (hy : m = true → Has G y (Fact.rep T' n)) :
    Spec X G ⟨d, .pick c y (.const (.bool false)), ty, pos, af, gd⟩ (Fact.rep [] (m && n)) :=
  Spec.pure fun a w g hf => by
    have h1 := rep_bool.1 (hc a w g hf)
    cases m with
    | false => exact ⟨.bool false, by unfold execOp; simp [h1, asBool, eval_const], rep_bool.2 rfl⟩
    | true => exact ⟨.bool n, by have h2 := rep_bool.1 (hy rfl a w g hf); unfold execOp; simp [h1, h2, asBool], rep_bool.2 rfl⟩

/-! reading memory -/
theorem run_indexAt {P : Program} {t e : TypeId} {α : Type} [R : Rp α] (ht : P.underlying t = some (.slice e)) (he : Ty P e α) {ad : Addr} {len cap : Nat} {i : Int} (h0 : 0 ≤ i) (h1 : i < len) (w : World) :
    (Instr.indexAt t (.slice (some ad) len cap) (.int .i64 i)).run P w = .ok (.pointer (some (ad.add (i.toNat * R.n)))) w := by
  unfold Instr.indexAt
  simp [asIntOf, run_underlying ht, h0, h1, rt_sizeOf he]

theorem Spec.indexAddr {x i : Operand} {α : Type} [R : Rp α] {T T' : List Nat} {l : List α} {n : Int} {r : α} {t e : TypeId} (hr : idx l n = some r) (ht : SlTy X.P t e α)
    (hx : Has G x (Fact.rep T l)) (hi : Has G i (Fact.rep T' n)) : Spec X G ⟨d, .indexAddr t x i, ty, pos, af, gd⟩ (Fact.ptr T r) := by
  unfold idx at hr
  split at hr
  case isFalse => cases hr
  rename_i h0
  have hlt : n.toNat < l.length := (List.getElem?_eq_some_iff.1 hr).1
  refine Spec.pure fun a w g hf => ?_
  obtain ⟨ad, c, hv, hc, hnil, hcells⟩ := rep_list (hx a w g hf)
  have h2 := rep_int.1 (hi a w g hf)
  cases ad with
  | none => have := (hnil rfl).1; subst this; simp at hlt
  | some ad =>
    obtain ⟨hF, hb, es, he, hrel⟩ := hcells ad rfl n.toNat r hr
    refine ⟨.pointer (some (ad.add (n.toNat * R.n))), ?_, ad.add (n.toNat * R.n), rfl, ?_, ?_, es, he, hrel⟩
    · unfold execOp
      simp [hv, h2, run_indexAt (R := R) ht.und ht.el h0 (show n < (l.length : Int) by omega)]
    · rw [Addr.add_block]; exact hF
    · rw [Addr.add_block]; exact hb

theorem Spec.load {x : Operand} {α : Type} [R : Rp α] {T : List Nat} {r : α} {t : TypeId} (ht : Ty X.P t α) (hx : Has G x (Fact.ptr T r)) : Spec X G ⟨d, .load t x, ty, pos, af, gd⟩ (Fact.rep T r) :=
  Spec.pure fun a w g hf => by
    obtain ⟨ad, hv, _, _, es, he, hrel⟩ := hx a w g hf
    refine ⟨mkV R.agg es, ?_, es, hrel, rfl⟩
    unfold execOp
    simp [hv, Instr.loadAt, Instr.sureAddr, run_loadVar_rel ht he hrel]

/-! tuples -/
theorem Spec.ext0 {x : Operand} {f1 f2 : Fact} (hx : Has G x (Fact.tup2 f1 f2)) : Spec X G ⟨d, .extract x 0, ty, pos, af, gd⟩ f1 :=
  Spec.pure fun a w g hf => by
    obtain ⟨v1, v2, hv, h1, _⟩ := hx a w g hf
    exact ⟨v1, by unfold execOp; simp [hv, Instr.extract], h1⟩
theorem Spec.ext1 {x : Operand} {f1 f2 : Fact} (hx : Has G x (Fact.tup2 f1 f2)) : Spec X G ⟨d, .extract x 1, ty, pos, af, gd⟩ f2 :=
  Spec.pure fun a w g hf => by
    obtain ⟨v1, v2, hv, _, h2⟩ := hx a w g hf
    exact ⟨v2, by unfold execOp; simp [hv, Instr.extract], h2⟩

theorem Spec.flat {o : Oper} {α : Type} [R : Rp α] [Flat α] {y : α} {T T' : List Nat} (h : Spec X G o (Fact.rep T y)) : Spec X G o (Fact.rep T' y) := fun a w g hs hfr hg hf K Q hK =>
  h a w g hs hfr hg hf K Q (fun v w' ⟨h1, g', h2, h3, h4, ⟨cs, h5, h6⟩⟩ => hK v w' ⟨h1, g', h2, h3, h4, ⟨cs, Flat.flat _ _ _ _ _ _ h5, h6⟩⟩)

/-! strings -/
theorem run_bytes {P : Program} {w : World} {l : List UInt8} {a : Option Addr} {c : Nat} {F : Nat → Prop} (h : Rep F l (.slice a l.length c) w) :
    (Conv.bytesToString (.slice a l.length c)).run P w = .ok (.string ⟨l.toArray⟩) w := by
  obtain ⟨a', c', hv, hc, hnil, hcells⟩ := rep_list h
  cases hv
  cases a with
  | none =>
    have := (hnil rfl).1
    subst this
    rfl
  | some ad =>
    have hl : ∀ j : Nat, j < (l.map fun x => (x.toNat : Int)).length → w.cell? (ad.add j) = some (.int .u8 ((l.map fun x => (x.toNat : Int)).getD j 0)) := by
      intro j hj
      have hj' : j < l.length := by simpa using hj
      obtain ⟨_, _, es, he, hrel⟩ := hcells ad rfl j l[j] (List.getElem?_eq_getElem hj')
      cases hrel
      have := (he 0 _ rfl).1
      simp only [Go.Addr.add_zero', show Rp.n UInt8 = 1 from rfl, Nat.mul_one] at this
      rw [this]
      simp [List.getD, hj']
    have hld : (loadCells ad l.length).run P w = .ok (((l.map fun x => (x.toNat : Int)).map fun n => Value.int .u8 n).toArray) w := by
      have := run_loadCells_list (P := P) w ad ((l.map fun x => (x.toNat : Int)).map fun n => Value.int .u8 n) (fun j v hj => by
        have hj2 : j < l.length := by
          have := (List.getElem?_eq_some_iff.1 hj).1
          simpa using this
        rw [hl j (by simpa using hj2)]
        rw [List.getElem?_map] at hj
        simp [hj2] at hj
        simp [List.getD, hj2, hj])
      simpa using this
    rw [show l.length = (l.map fun x => (x.toNat : Int)).length by simp] at hld ⊢
    rw [run_bytesToString w ad _ c _ hld, foldl_push_bytes]
    have he : (l.map fun x => (x.toNat : Int)).map (fun n => UInt8.ofNat n.toNat) = l := by
      rw [List.map_map]
      conv => rhs; rw [← List.map_id l]
      exact List.map_congr_left (fun x _ => by simp)
    rw [he]
    simp

theorem Spec.toStr {x : Operand} {T : List Nat} {l : List UInt8} {t e s : TypeId} (ht : X.P.underlying t = some (.slice e)) (he : X.P.underlying e = some (.int .u8)) (hs : X.P.underlying s = some .string)
    (hx : Has G x (Fact.rep T l)) : Spec X G ⟨d, .convert t s x, ty, pos, af, gd⟩ (Fact.rep [] (Str.mk l)) :=
  Spec.pure fun a w g hf => by
    have h := hx a w g hf
    obtain ⟨ad, c, hv, _⟩ := rep_list h
    refine ⟨.string ⟨l.toArray⟩, ?_, rep_str.2 rfl⟩
    have h' : Rep (fun b => g.om b ∈ T) l (.slice ad l.length c) w := by rw [← hv]; exact h
    unfold execOp
    simp [hv, run_convert_bytes_string w t s e ad l.length c ht he hs, run_bytes h']

theorem Spec.eqlS {x y : Operand} {t t' : TypeId} {T T' : List Nat} {m n : Str} (hx : Has G x (Fact.rep T m)) (hy : Has G y (Fact.rep T' n)) :
    Spec X G ⟨d, .binOp .eql t x y t', ty, pos, af, gd⟩ (Fact.rep [] (m.s == n.s)) :=
  Spec.pure fun a w g hf => ⟨.bool (m.s == n.s), by
    have h1 := rep_str.1 (hx a w g hf)
    have h2 := rep_str.1 (hy a w g hf)
    unfold execOp
    simp [h1, h2, eqGuard_at_string, binOp, Op.stringOp], rep_bool.2 rfl⟩
theorem Spec.neqS {x y : Operand} {t t' : TypeId} {T T' : List Nat} {m n : Str} (hx : Has G x (Fact.rep T m)) (hy : Has G y (Fact.rep T' n)) :
    Spec X G ⟨d, .binOp .neq t x y t', ty, pos, af, gd⟩ (Fact.rep [] (!(m.s == n.s))) :=
  Spec.pure fun a w g hf => ⟨.bool (!(m.s == n.s)), by
    have h1 := rep_str.1 (hx a w g hf)
    have h2 := rep_str.1 (hy a w g hf)
    unfold execOp
    simp [h1, h2, eqGuard_at_string, binOp, Op.stringOp], rep_bool.2 rfl⟩
end
end
end GL

namespace GL
section
open Go

/-- The cells of a list of data. -/
def RelL {α : Type} [R : Rp α] (F : Nat → Prop) : List α → List Value → World → Prop
  | [], cs, _ => cs = []
  | x :: l, cs, w => ∃ c1 c2, cs = c1 ++ c2 ∧ R.rel F x c1 w ∧ RelL F l c2 w

section
variable {α : Type} [R : Rp α] {F F' : Nat → Prop} {w w' : World}

theorem RelL.stab (hs : w.heap.size ≤ w'.heap.size) (hk : ∀ b, b < w.heap.size → F b → w'.heap[b]? = w.heap[b]? ∧ F' b) : ∀ (l : List α) (cs : List Value), RelL F l cs w → RelL F' l cs w'
  | [], _, h => h
  | x :: l, cs, h => by
    obtain ⟨c1, c2, h, h1, h2⟩ := h
    exact ⟨c1, c2, h, R.stab F F' x c1 w w' hs hk h1, RelL.stab hs hk l c2 h2⟩
theorem RelL.len : ∀ (l : List α) (cs : List Value), RelL F l cs w → cs.length = l.length * R.n
  | [], cs, h => by rw [show cs = [] from h]; simp
  | x :: l, cs, h => by
    obtain ⟨c1, c2, rfl, h1, h2⟩ := h
    rw [List.length_append, R.len _ _ _ _ h1, RelL.len l c2 h2, List.length_cons, Nat.add_mul]; omega
theorem RelL.one : ∀ (l : List α) (cs : List Value), RelL F l cs w → ∀ c ∈ cs, c.oneCell' = true
  | [], cs, h => by rw [show cs = [] from h]; simp
  | x :: l, cs, h => by
    obtain ⟨c1, c2, rfl, h1, h2⟩ := h
    intro c hc
    rcases List.mem_append.1 hc with hc | hc
    · exact R.one _ _ _ _ h1 c hc
    · exact RelL.one l c2 h2 c hc
theorem RelL.app : ∀ (l m : List α) (cs ds : List Value), RelL F l cs w → RelL F m ds w → RelL F (l ++ m) (cs ++ ds) w
  | [], m, cs, ds, h, k => by rw [show cs = [] from h]; exact k
  | x :: l, m, cs, ds, h, k => by
    obtain ⟨c1, c2, rfl, h1, h2⟩ := h
    exact ⟨c1, c2 ++ ds, by simp, h1, RelL.app l m c2 ds h2 k⟩
theorem RelL.get : ∀ (l : List α) (cs : List Value), RelL F l cs w → ∀ (i : Nat) (x : α), l[i]? = some x → ∃ es, R.rel F x es w ∧ ∀ (j : Nat) (u : Value), es[j]? = some u → cs[i * R.n + j]? = some u
  | [], _, _, i, x, hx => by simp at hx
  | y :: l, cs, h, i, x, hx => by
    obtain ⟨c1, c2, rfl, h1, h2⟩ := h
    have hl1 := R.len _ _ _ _ h1
    cases i with
    | zero =>
      simp at hx
      subst hx
      refine ⟨c1, h1, fun j u hj => ?_⟩
      have : j < c1.length := (List.getElem?_eq_some_iff.1 hj).1
      simp only [Nat.zero_mul, Nat.zero_add]
      rw [List.getElem?_append_left this]; exact hj
    | succ i =>
      simp at hx
      obtain ⟨es, he, hc⟩ := RelL.get l c2 h2 i x hx
      refine ⟨es, he, fun j u hj => ?_⟩
      rw [show (i + 1) * R.n + j = c1.length + (i * R.n + j) by rw [hl1, Nat.add_mul]; omega]
      rw [List.getElem?_append_right (by omega)]
      rw [show c1.length + (i * R.n + j) - c1.length = i * R.n + j by omega]
      exact hc j u hj
theorem RelL.rep {x : α} {c : List Value} (h : R.rel F x c w) : ∀ n : Nat, RelL F (List.replicate n x) (List.replicate n c).flatten w
  | 0 => rfl
  | n + 1 => by
    rw [List.replicate_succ, List.replicate_succ, List.flatten_cons]
    exact ⟨c, _, rfl, h, RelL.rep h n⟩
theorem RelL.set : ∀ (l : List α) (cs : List Value), RelL F l cs w → ∀ (i : Nat) (x : α) (es : List Value), i < l.length → R.rel F x es w →
    RelL F (l.set i x) (cs.take (i * R.n) ++ es ++ cs.drop (i * R.n + R.n)) w
  | [], _, _, i, x, es, hi, _ => by simp at hi
  | y :: l, cs, h, i, x, es, hi, he => by
    obtain ⟨c1, c2, rfl, h1, h2⟩ := h
    have hl1 := R.len _ _ _ _ h1
    cases i with
    | zero =>
      simp only [Nat.zero_mul, List.take_zero, List.nil_append, Nat.zero_add, List.set_cons_zero]
      exact ⟨es, c2, by rw [← hl1, List.drop_left], he, h2⟩
    | succ i =>
      have := RelL.set l c2 h2 i x es (by simpa using hi) he
      refine ⟨c1, _, ?_, h1, this⟩
      rw [show (i + 1) * R.n = c1.length + i * R.n by rw [hl1, Nat.add_mul]; omega]
      rw [show c1.length + i * R.n + R.n = c1.length + (i * R.n + R.n) by omega]
      rw [List.take_append, List.drop_append]
      rw [List.take_of_length_le (show c1.length ≤ c1.length + i * R.n by omega)]
      rw [show c1.length + i * R.n - c1.length = i * R.n by omega, show c1.length + (i * R.n + R.n) - c1.length = i * R.n + R.n by omega]
      rw [List.drop_of_length_le (show c1.length ≤ c1.length + (i * R.n + R.n) by omega)]
      simp
end

/-- The block in which an owner's memory lies. -/
def ownB : Value → Option Nat
  | .slice (some a) _ _ => some a.block
  | .pointer (some a) => some a.block
  | _ => none

/-- A slice of the call's own: its elements. -/
def Fact.own {α : Type} [R : Rp α] (t : Nat) (te : List Nat) (e : TypeId) (l : List α) : Fact where
  tags := t :: te
  ids := [t]
  p := fun g _ w => ∃ xs, w.ownsRow 0 e R.n (g.ga t) l.length xs ∧ RelL (fun b => g.om b ∈ te) l xs w ∧ ∀ b, (g.ga t).ownBlock = some b → g.om b = t
  stab := fun g g' v w w' hk h => by
    obtain ⟨xs, h1, h2, h3⟩ := h
    have hid := hk.ids t (by simp)
    refine ⟨xs, ?_, RelL.stab hk.size (fun b hb ht => ⟨(hk.block b hb (List.mem_cons_of_mem _ ht)).1, by rw [(hk.block b hb (List.mem_cons_of_mem _ ht)).2]; exact ht⟩) l xs h2, ?_⟩
    · rw [hid]
      refine ⟨h1.1, ?_⟩
      rcases h1.2 with hn | ⟨b, cap, cur, hv, h0, hb, rest⟩
      · exact .inl hn
      · refine .inr ⟨b, cap, cur, hv, h0, ?_, rest⟩
        have hlt : b < w.heap.size := (Array.getElem?_eq_some_iff.1 hb).1
        rw [(hk.block b hlt (by rw [h3 b (by rw [hv]; rfl)]; simp)).1]
        exact hb
    · rw [hid]
      intro b hb
      have hlt := (h1.lt b hb).2
      rw [(hk.block b hlt (by rw [h3 b hb]; simp)).2]
      exact h3 b hb

/-- A pointer into an owner's memory: so many elements of so many cells in. -/
def Fact.pto (t : Nat) (n : Nat) : Fact where
  tags := []
  ids := [t]
  p := fun g v _ => ∃ b, ownB (g.ga t) = some b ∧ v = .pointer (some ⟨b, n, none⟩)
  stab := fun g g' v w w' hk h => by rw [hk.ids t (by simp)]; exact h

/-- The slot of an owner's memory. -/
def rs (t : Nat) : Nat := 100000 + t

structure OwnTy (P : Program) (t e : TypeId) (α : Type) [R : Rp α] : Prop where
  und : P.underlying t = some (.slice e)
  el : Ty P e α
  pos : 0 < R.n
  info : ∃ i z, P.info? e = some i ∧ i.zero = some z ∧ i.size = R.n ∧ i.bytes ≤ 32768 ∧ z.cells.size = R.n

theorem OwnTy.sl {P : Program} {t e : TypeId} {α : Type} [R : Rp α] (h : OwnTy P t e α) : SlTy P t e α := ⟨h.und, h.el, h.pos⟩

/-- Lists that grow: within bounds. -/
def app {α : Type} (l m : List α) : Option (List α) := if l.length + m.length < 4294967296 then some (l ++ m) else none

/-- An operation, and what is known behind it, ahead of all that was known. -/
def Step (X : Cx) (G : List It) (o : Oper) (I : List It) : Prop := ∀ G', Sub G' G → ∀ a w, Env X G' a w → Yields X.P o a w (fun v w' => Env X (I ++ G') (a.put o.dst v) w')
theorem Walk.step {X : Cx} {G I : List It} {Q : Exit → Act → World → Prop} {ops : Array Oper} {rest : List Oper} {o : Oper} (hg : o.guard = none)
    (h : Step X G o I) (k : Walk X ops Q (I ++ G) rest) (hnd : ndB o.op = true := by rfl) : Walk X ops Q G (o :: rest) := fun a w e =>
  wpListIn_plain hg fun K hK => wpIn_of hnd <| h G (fun _ _ _ h => h) a w e K Q (fun _ _ he => hK _ _ (k _ _ he))
theorem Env.at {X : Cx} {G G' : List It} {a : Act} {w : World} (hs : Sub G' G) (e : Env X G' a w) : Env X G a w := e.sub hs

/-- The ghost behind a change of one owner's memory. -/
def ghOwn (g : Gh) (n t : Nat) (v : Value) : Gh := ⟨fun b => if b < n then g.om b else t, fun s => if s = t then v else g.ga s⟩

/-- The facts that stand behind a change of owner t: those that lean on neither its memory nor its value. -/
theorem facts_killed {G : List It} {g g' : Gh} {a : Act} {w w' : World} {t : Nat} (h : Facts G g a w) (hs : w.heap.size ≤ w'.heap.size)
    (hb : ∀ b, b < w.heap.size → g.om b ≠ t → w'.heap[b]? = w.heap[b]?) (hom : ∀ b, b < w.heap.size → g'.om b = g.om b) (hga : ∀ s, s ≠ t → g'.ga s = g.ga s) : Facts (.killId t :: .kill t :: G) g' a w' := fun s f hl => by
  have hl1 : lookK G [t] [t] s = some f := hl
  have hd := lookK_disj G [t] [t] s f hl1
  have h1 := disj_spec hd.1 (show t ∈ [t] by simp)
  have h2 := disj_spec hd.2 (show t ∈ [t] by simp)
  have hl2 : look G s = some f := lookK_sub G [t] [] [t] [] s f (by simp) (by simp) hl1
  refine f.stab g g' _ w w' ⟨hs, fun b hbl ht => ⟨hb b hbl (fun he => h1 (he ▸ ht)), hom b hbl⟩, fun s' hs' => hga s' (fun he => h2 (he ▸ hs'))⟩ (h s f hl2)

/-- The same, where no block has turned. -/
theorem facts_killedId {G : List It} {g g' : Gh} {a : Act} {w w' : World} {t : Nat} (h : Facts G g a w) (hs : w.heap.size ≤ w'.heap.size)
    (hb : ∀ b, b < w.heap.size → w'.heap[b]? = w.heap[b]?) (hom : ∀ b, b < w.heap.size → g'.om b = g.om b) (hga : ∀ s, s ≠ t → g'.ga s = g.ga s) : Facts (.killId t :: G) g' a w' := fun s f hl => by
  have hl1 : lookK G [] [t] s = some f := hl
  have hd := lookK_disj G [] [t] s f hl1
  have h2 := disj_spec hd.2 (show t ∈ [t] by simp)
  have hl2 : look G s = some f := lookK_sub G [] [] [t] [] s f (by simp) (by simp) hl1
  refine f.stab g g' _ w w' ⟨hs, fun b hbl ht => ⟨hb b hbl, hom b hbl⟩, fun s' hs' => hga s' (fun he => h2 (he ▸ hs'))⟩ (h s f hl2)

theorem facts_killed' {G : List It} {g : Gh} {a : Act} {w w' : World} {t : Nat} (h : Facts G g a w) (hs : w.heap.size ≤ w'.heap.size)
    (hb : ∀ b, b < w.heap.size → g.om b ≠ t → w'.heap[b]? = w.heap[b]?) : Facts (.kill t :: G) g a w' := fun s f hl => by
  have hl1 : lookK G [t] [] s = some f := hl
  have hd := lookK_disj G [t] [] s f hl1
  have h1 := disj_spec hd.1 (show t ∈ [t] by simp)
  have hl2 : look G s = some f := lookK_sub G [t] [] [] [] s f (by simp) (by simp) hl1
  exact f.stab g g _ w w' ⟨hs, fun b hbl ht => ⟨hb b hbl (fun he => h1 (he ▸ ht)), rfl⟩, fun _ _ => rfl⟩ (h s f hl2)

theorem lookK_nil_spec {d : Nat} {f : Fact} {G : List It} {s : Nat} {f' : Fact} (hl : look (.fact d f :: G) s = some f') : (d = s ∧ f' = f) ∨ (d ≠ s ∧ look G s = some f') := by
  simp only [look, lookK] at hl
  cases hb : Nat.beq d s with
  | true =>
    left
    simp only [hb, cond_true] at hl
    refine ⟨Nat.eq_of_beq_eq_true hb, ?_⟩
    cases hc : (disj f.tags [] && disj f.ids []) with
    | true => simp only [hc, cond_true, Option.some.injEq] at hl; exact hl.symm
    | false => simp [hc] at hl
  | false =>
    right
    simp only [hb, cond_false] at hl
    exact ⟨fun he => by subst he; simp at hb, hl⟩

/-- A fact whose slot is no real one. -/
theorem Facts.ghost {G : List It} {g : Gh} {a : Act} {w : World} {s : Nat} {f : Fact} (h : Facts G g a w) (hp : ∀ v, f.p g v w) : Facts (.fact s f :: G) g a w := fun s' f' hl => by
  rcases lookK_nil_spec hl with ⟨rfl, rfl⟩ | ⟨_, hl⟩
  · exact hp _
  · exact h s' f' hl

theorem GhE.own {X : Cx} {w w' : World} {g : Gh} (h : GhE X w g) {t : Nat} {v : Value} (ht : 10 ≤ t) (h0 : X.w0.heap.size ≤ w.heap.size) : GhE X w' (ghOwn g w.heap.size t v) := by
  refine ⟨⟨fun b hb => ?_, fun b hb hb' => ?_⟩, fun b hb => ?_⟩
  · simp only [ghOwn]; rw [if_pos (by omega)]; exact h.ok.old b hb
  · simp only [ghOwn]; split
    · exact h.ok.new b hb (by assumption)
    · exact ht
  · simp only [ghOwn]; rw [if_pos (by omega)]; exact h.om b hb

/-- A block changed that has a tag from 10 on is none that was there. -/
theorem Fr.own {X : Cx} {w w' : World} {g : Gh} (hfr : Fr X.C X.w0 w) (h : GhE X w g) {t : Nat} (ht : 10 ≤ t) (hg : w.grownBy w' (some 0) ∨ True)
    (hos : w'.os = w.os) (htape : w'.tape = w.tape) (hout : w'.output = w.output) (hs : w.heap.size ≤ w'.heap.size)
    (hb : ∀ b, b < w.heap.size → g.om b ≠ t → w'.heap[b]? = w.heap[b]?) : Fr X.C X.w0 w' :=
  ⟨hos.trans hfr.os, htape.trans hfr.tape, hout.trans hfr.output, Nat.le_trans hfr.size hs, fun k hk hn =>
    (hb k (Nat.lt_of_lt_of_le hk hfr.size) (fun he => by have := h.ok.old k hk; omega)).trans (hfr.block k hk hn)⟩

section
variable {X : Cx} {G : List It} {Q : Exit → Act → World → Prop} {ops : Array Oper} {rest : List Oper} {d : Nat} {ty : TypeId} {pos : String} {af : Array Edge}

/-- The zero value of a type. -/
def ZeroTy {α : Type} [R : Rp α] (P : Program) (e : TypeId) (z : α) : Prop := ∃ zv, (P.info? e).bind (·.zero) = some zv ∧ ∀ w, R.rel (fun _ => False) z zv.cells.toList w

/-- make([]T, n). -/
def makeL {α : Type} (z : α) (n : Int) : Option (List α) := if 0 ≤ n ∧ n < 4294967296 then some (List.replicate n.toNat z) else none

theorem madeCells_flatten (z : List Value) : ∀ n : Nat, (madeCells z.toArray (n * z.length)).toList = (List.replicate n z).flatten := by
  intro n
  apply List.ext_getElem?
  intro j
  by_cases hz : z.length = 0
  · have : z = [] := List.eq_nil_of_length_eq_zero hz
    subst this
    simp [madeCells]
  have hflat : ∀ m : Nat, ((List.replicate m z).flatten)[j]? = if j < m * z.length then z[j % z.length]? else none := by
    intro m
    induction m generalizing j with
    | zero => simp
    | succ m ih =>
      rw [List.replicate_succ, List.flatten_cons]
      by_cases hj : j < z.length
      · rw [List.getElem?_append_left hj, Nat.mod_eq_of_lt hj, if_pos (by rw [Nat.add_mul]; omega)]
      · rw [List.getElem?_append_right (by omega), ih]
        have h1 : (j - z.length) % z.length = j % z.length := by
          rw [Nat.mod_eq_sub_mod (show z.length ≤ j by omega)]
        rw [h1]
        by_cases h2 : j < (m + 1) * z.length
        · rw [if_pos h2, if_pos (by rw [Nat.add_mul] at h2; omega)]
        · rw [if_neg h2, if_neg (by rw [Nat.add_mul] at h2; omega)]
  rw [hflat]
  by_cases hj : j < n * z.length
  · have hm : j % z.length < z.length := Nat.mod_lt _ (by omega)
    simp [madeCells, hj, hm]
  · simp [madeCells, hj]

theorem Step.makeOwn {α : Type} [R : Rp α] {n : Operand} {m : Int} {T : List Nat} {z : α} {l : List α} (t : Nat) {ts e : TypeId} (hl : makeL z m = some l) (ht : Nat.ble 10 t = true) (hd : Nat.blt d X.n = true) (hty : OwnTy X.P ts e α)
    (hz : ZeroTy X.P e z)
    (hn : Has G n (Fact.rep T m)) :
    Step X G ⟨some d, .makeSlice ts n n, ty, pos, af, none⟩ [.fact d (.isv t), .fact (rs t) (.own t [] e l), .killId t] := fun G' hsub a w env K Q hK => by
    have ht' : 10 ≤ t := by simpa using ht
    have hd' : d < X.n := by simpa [Nat.blt_eq] using hd
    obtain ⟨g, hg, hf'⟩ := env.facts
    have hf := hsub a w g hf'
    have hnv := rep_int.1 (hn a w g hf)
    unfold makeL at hl
    split at hl
    case isFalse => cases hl
    rename_i hm
    cases hl
    obtain ⟨i, zv, hi, hiz, hisz, hby, hzs⟩ := hty.info
    have hbytes : i.bytes * m.toNat ≤ 281474976710656 := by
      have : i.bytes * m.toNat ≤ 32768 * 4294967296 := Nat.mul_le_mul hby (by omega)
      omega
    obtain ⟨w', hr, hown, hgr⟩ := run_make_full (P := X.P) w 0 ts e i zv R.n hty.und hi hiz hisz .i64 .i64 m.toNat hbytes (by simp only [maxLen]; omega) (Nat.zero_le _)
    have hrun : (execOp a.eval ⟨some d, .makeSlice ts n n, ty, pos, af, none⟩).run X.P w = .ok (.value (.slice (some ⟨w.heap.size, 0, none⟩) m.toNat m.toNat)) w' := by
      have hm' : ((m.toNat : Nat) : Int) = m := by omega
      rw [hm'] at hr
      unfold execOp
      simp [hnv, hr]
    unfold Oper.wp
    rw [hrun]
    refine hK _ w' ?_
    have hb : ∀ b, b < w.heap.size → w'.heap[b]? = w.heap[b]? := fun b hb => hgr.block b hb (by simp)
    refine ⟨by simp [Act.put, env.size], env.defers, Fr.own env.fr hg ht' (.inr trivial) hgr.os hgr.tape hgr.output hgr.size (fun b hb' _ => hb b hb'),
      ghOwn g w.heap.size t (.slice (some ⟨w.heap.size, 0, none⟩) m.toNat m.toNat), hg.own ht' env.fr.size, ?_⟩
    refine Facts.put (by rw [env.size]; exact hd') ?_ (by simp [Fact.isv, ghOwn])
    refine Facts.ghost ?_ (fun v => ⟨_, by simp only [ghOwn, if_true, List.length_replicate]; exact hown, ?_, by simp [ghOwn, Value.ownBlock]⟩)
    · exact facts_killedId hf' hgr.size (fun b hb' => hb b hb') (fun b hb => by simp [ghOwn, hb]) (fun s hs => by simp [ghOwn, hs])
    · have h1 := madeCells_flatten zv.cells.toList m.toNat
      simp only [Array.toArray_toList, Array.length_toList, hzs] at h1
      rw [h1]
      refine RelL.rep ?_ m.toNat
      obtain ⟨zv', hz1, hz2⟩ := hz
      rw [hi] at hz1
      simp only [Option.bind_some, hiz, Option.some.injEq] at hz1
      subst hz1
      exact R.stab _ _ z _ w' w' (Nat.le_refl _) (fun _ _ h => h.elim) (hz2 w')

theorem Addr.add_add (a : Addr) (p q : Nat) : (a.add p).add q = a.add (p + q) := by
  unfold Addr.add
  by_cases hp : p = 0 <;> by_cases hq : q = 0 <;> simp [hp, hq, Nat.add_assoc]

/-- The cells of a slice that is read, one after the other. -/
theorem cells_of_rep {α : Type} [R : Rp α] {F : Nat → Prop} {w : World} {ad : Addr} : ∀ (m : List α) (k : Nat), (∀ (i : Nat) (y : α), m[i]? = some y → ∃ es, CellsAt w (ad.add ((k + i) * R.n)) es ∧ R.rel F y es w) →
    ∃ news, RelL F m news w ∧ CellsAt w (ad.add (k * R.n)) news
  | [], _, _ => ⟨[], rfl, fun j u hj => by simp at hj⟩
  | y :: m, k, h => by
    obtain ⟨es, hes, hey⟩ := h 0 y rfl
    obtain ⟨news, hn1, hn2⟩ := cells_of_rep m (k + 1) (fun i z hz => by
      obtain ⟨es', h1, h2⟩ := h (i + 1) z hz
      exact ⟨es', by rw [show k + 1 + i = k + (i + 1) by omega]; exact h1, h2⟩)
    have hel := R.len _ _ _ _ hey
    refine ⟨es ++ news, ⟨es, news, rfl, hey, hn1⟩, fun j u hj => ?_⟩
    by_cases hjl : j < es.length
    · rw [List.getElem?_append_left hjl] at hj
      exact hes j u hj
    · rw [List.getElem?_append_right (by omega)] at hj
      have h1 := hn2 _ u hj
      have h2 : k * R.n + j = (k + 1) * R.n + (j - es.length) := by rw [Nat.add_mul, hel]; omega
      rw [Addr.add_add, h2, ← Addr.add_add]
      exact h1

/-- append, as it runs on a slice of the call's own and one that is read. -/
theorem run_append {P : Program} {α : Type} [R : Rp α] {F : Nat → Prop} {w : World} {ts e ty : TypeId} (hty : OwnTy P ts e α) {v xv : Value} {n : Nat} {m : List α} {xs : List Value}
    (hlen : n + m.length < 4294967296) (hown : w.ownsRow 0 e R.n v n xs) (hx : Rep F m xv w) :
    ∃ v' w' news, (Builtin.append_ #[ts, ts] ty #[v, xv]).run P w = .ok v' w' ∧ w'.ownsRow 0 e R.n v' (n + m.length) (xs ++ news) ∧ w.grownBy w' v.ownBlock ∧ RelL F m news w ∧
      ∀ b, v'.ownBlock = some b → v.ownBlock = some b ∨ b = w.heap.size := by
  obtain ⟨ad, c, rfl, hxc, hxn, hxcells⟩ := rep_list hx
  obtain ⟨i, zv, hi, hiz, hisz, hby, hzs⟩ := hty.info
  have hbytes : (n + m.length) * i.bytes ≤ 140737488355328 := by
    have : (n + m.length) * i.bytes ≤ 4294967296 * 32768 := Nat.mul_le_mul (by omega) hby
    omega
  cases ad with
  | none =>
    obtain ⟨hm0, hc0⟩ := hxn rfl
    subst hm0 hc0
    refine ⟨v, w, [], ?_, ?_, ⟨rfl, rfl, rfl, Nat.le_refl _, fun _ _ _ => rfl⟩, rfl, fun b hb => .inl hb⟩
    · exact run_append_owned_none (P := P) (w := w) 0 ts ty e i R.n hty.und hi _ _ xs hown
    · simpa using hown
  | some ad =>
    obtain ⟨news, hn1, hn2⟩ := cells_of_rep (w := w) (F := F) (ad := ad) m 0 (fun i y hy => by
      obtain ⟨_, _, es, h1, h2⟩ := hxcells ad rfl i y hy
      exact ⟨es, by simpa using h1, h2⟩)
    have hn2 : CellsAt w ad news := by simpa [Go.Addr.add_zero'] using hn2
    have hnl := RelL.len _ _ hn1
    obtain ⟨v', w', hrun, h2, h3, _⟩ := Go.run_append_own (P := P) w 0 ts ty e i zv R.n i.bytes hty.und hi hiz hisz rfl hzs hty.pos v n xs hown ad m.length c news
      hnl (fun j u hj => (hn2 j u hj).1) (RelL.one _ _ hn1) (by simp only [maxLen]; omega) hbytes (Nat.zero_le _)
    refine ⟨v', w', news, hrun, h2, h3, hn1, fun b hb => ?_⟩
    rcases hown.2 with ⟨rfl, rfl⟩ | ⟨g, cap, cur, rfl, hbg, hg, hnc, hcm, hcs, htake⟩
    · by_cases hm : m.length = 0
      · have h4 : v' = .slice none 0 0 := by
          have := ‹v' = .slice none 0 0 ↔ _›
          exact this.2 ⟨rfl, hm⟩
        rw [h4] at hb; cases hb
      · have hr := run_append_nil (P := P) w ts ty e i zv hty.und hi hiz ad m.length c news (by rw [hnl, hisz]) (fun j u hj => (hn2 j u hj).1) (by omega) (by omega) (by simp only [Nat.zero_add] at hbytes; omega)
        rw [hrun] at hr
        simp only [Result.ok.injEq] at hr
        rw [hr.1] at hb
        simp only [Value.ownBlock, Option.some.injEq] at hb
        exact .inr hb.symm
    · by_cases hroom : n + m.length ≤ cap
      · have hr := run_append_room (P := P) w ts ty e i hty.und hi g n cap cur hg ad m.length c news (by rw [hnl, hisz]) (fun j u hj => (hn2 j u hj).1) (RelL.one _ _ hn1) hroom
          (by rw [hnl, hcs, hisz, ← Nat.add_mul]; exact Nat.mul_le_mul_right _ hroom)
        rw [hrun] at hr
        simp only [Result.ok.injEq] at hr
        rw [hr.1] at hb
        exact .inl hb
      · have holds : ∀ j u, xs[j]? = some u → w.cell? ((⟨g, 0, none⟩ : Addr).add j) = some u := hown.cells (g := g) rfl
        have hr := run_append_grow (P := P) w ts ty e i zv hty.und hi hiz ⟨g, 0, none⟩ n cap xs (by rw [hown.1, hisz]) holds ad m.length c news (by rw [hnl, hisz]) (fun j u hj => (hn2 j u hj).1) (by omega) (by omega) (growslice_fits (by omega) hbytes)
        rw [hrun] at hr
        simp only [Result.ok.injEq] at hr
        rw [hr.1] at hb
        simp only [Value.ownBlock, Option.some.injEq] at hb
        exact .inr hb.symm

theorem RelL.flat {α : Type} [R : Rp α] [Fl : Flat α] {F F' : Nat → Prop} {w w' : World} : ∀ (l : List α) (cs : List Value), RelL F l cs w → RelL F' l cs w'
  | [], _, h => h
  | x :: l, cs, h => by
    obtain ⟨c1, c2, h, h1, h2⟩ := h
    exact ⟨c1, c2, h, Fl.flat _ _ _ _ _ _ h1, RelL.flat l c2 h2⟩

/-- What elements keep behind a change of owner t. -/
def ElKeep {α : Type} [R : Rp α] (t : Nat) (te te' : List Nat) : Prop := ∀ (F' : Nat → Prop) (g : Gh) (w w' : World) (l : List α) (cs : List Value), w.heap.size ≤ w'.heap.size →
  (∀ b, b < w.heap.size → g.om b ≠ t → w'.heap[b]? = w.heap[b]?) → (∀ b, b < w.heap.size → g.om b ∈ te' → F' b) → RelL (fun b => g.om b ∈ te) l cs w → RelL F' l cs w'
theorem ElKeep.flat {α : Type} [R : Rp α] [Flat α] {t : Nat} {te te' : List Nat} : ElKeep (α := α) t te te' := fun _ _ _ _ l cs _ _ _ h => h.flat l cs
theorem ElKeep.tags {α : Type} [R : Rp α] {t : Nat} {te te' : List Nat} (h1 : subB te te' = true) (h2 : te.elem t = false) : ElKeep (α := α) t te te' := fun F' g w w' l cs hs hb hF h => by
  refine RelL.stab hs (fun b hlt ht => ⟨hb b hlt (fun he => ?_), hF b hlt (subB_spec h1 _ ht)⟩) l cs h
  rw [he] at ht
  simp at h2
  exact h2 ht

/-- append to a slice of the call's own. -/
theorem Step.append {α : Type} [R : Rp α] {s x : Operand} {T te te' : List Nat} {l m r : List α} (t : Nat) {ts e : TypeId} (hr : app l m = some r) (ht : Nat.ble 10 t = true) (hd : Nat.blt d X.n = true) (hty : OwnTy X.P ts e α)
    (hs : Has G s (.isv t)) (hrs : look G (rs t) = some (.own t te e l)) (hx : Has G x (Fact.rep T m)) (hte : ElKeep (α := α) t te te') (hT : ElKeep (α := α) t T te') :
    Step X G ⟨some d, .call { callee := .builtin .append, args := #[s, x], argTypes := #[ts, ts] }, ty, pos, af, none⟩ [.fact d (.isv t), .fact (rs t) (.own t te' e r), .killId t, .kill t] := fun G' hsub a w env K Q hK => by
    have ht' : 10 ≤ t := by simpa using ht
    have hd' : d < X.n := by simpa [Nat.blt_eq] using hd
    obtain ⟨g, hg, hf'⟩ := env.facts
    have hf := hsub a w g hf'
    have hsv : a.eval s = g.ga t := hs a w g hf
    obtain ⟨xs, hown, hrel, htag⟩ := hf _ _ hrs
    unfold app at hr
    split at hr
    case isFalse => cases hr
    rename_i hlen
    cases hr
    obtain ⟨v', w', news, hrun, hown', hgr, hnew, hblk⟩ := run_append (ty := ty) hty hlen hown (hx a w g hf)
    have hrun' : (execOp a.eval ⟨some d, .call { callee := .builtin .append, args := #[s, x], argTypes := #[ts, ts] }, ty, pos, af, none⟩).run X.P w = .ok (.value v') w' := by
      unfold execOp
      simp [resolve, invoke, builtin, hsv, hrun]
    unfold Oper.wp
    rw [hrun']
    refine hK v' w' ?_
    have hb : ∀ b, b < w.heap.size → g.om b ≠ t → w'.heap[b]? = w.heap[b]? := fun b hb hne => hgr.block b hb (fun he => hne (htag b he.symm))
    refine ⟨by simp [Act.put, env.size], env.defers, Fr.own env.fr hg ht' (.inr trivial) hgr.os hgr.tape hgr.output hgr.size hb,
      ghOwn g w.heap.size t v', hg.own ht' env.fr.size, ?_⟩
    refine Facts.put (by rw [env.size]; exact hd') ?_ (by simp [Fact.isv, ghOwn])
    have hF : ∀ b, b < w.heap.size → g.om b ∈ te' → (ghOwn g w.heap.size t v').om b ∈ te' := fun b hb h => by simp [ghOwn, hb, h]
    refine Facts.ghost ?_ (fun v => ⟨xs ++ news, by simp only [ghOwn, if_true, List.length_append]; exact hown', RelL.app l m xs news (hte _ g w w' l xs hgr.size hb hF hrel) (hT _ g w w' m news hgr.size hb hF hnew), ?_⟩)
    · exact facts_killed hf' hgr.size hb (fun b hb => by simp [ghOwn, hb]) (fun s hs => by simp [ghOwn, hs])
    · simp only [ghOwn, if_true]
      intro b hb'
      rcases hblk b hb' with h1 | h1
      · rw [if_pos (hown.lt b h1).2]; exact htag b h1
      · rw [if_neg (by omega)]
/-- A slice of the call's own, as one that is read. -/
theorem Has.own {α : Type} [R : Rp α] {x : Operand} {t : Nat} {te : List Nat} {e : TypeId} {l : List α} (hs : Has G x (.isv t)) (hrs : look G (rs t) = some (.own t te e l)) : Has G x (Fact.rep (t :: te) l) := fun a w g hf => by
  have hv : a.eval x = g.ga t := hs a w g hf
  obtain ⟨xs, hown, hrel, htag⟩ := hf _ _ hrs
  show Rep _ l (a.eval x) w
  rw [hv]
  rcases hown.2 with ⟨hn, h0⟩ | ⟨b, cap, cur, hv', _, hb, hnc, hcm, hcs, htake⟩
  · have : l = [] := List.eq_nil_of_length_eq_zero h0
    subst this
    rw [hn]
    exact rep_nil
  · rw [hv']
    refine ⟨_, ⟨some ⟨b, 0, none⟩, cap, rfl, hnc, fun h => (by cases h), ?_⟩, rfl⟩
    intro ad had i x hx
    cases had
    have hlt : b < w.heap.size := (Array.getElem?_eq_some_iff.1 hb).1
    have hom : g.om b = t := htag b (by rw [hv']; rfl)
    obtain ⟨es, he, hc⟩ := RelL.get l xs hrel i x hx
    refine ⟨by simp [hom], hlt, es, fun j u hj => ?_, R.stab _ _ x es w w (Nat.le_refl _) (fun b _ h => ⟨rfl, List.mem_cons_of_mem _ h⟩) he⟩
    have h1 := hc j u hj
    rw [Addr.add_add, Go.Addr.add_lit]
    simp only [Nat.zero_add]
    refine ⟨?_, frozen_of_row w b _ cur e hb⟩
    rw [cell_of_row w b _ cur e (0, 0) hb]
    rw [← htake] at h1
    rw [List.getElem?_take] at h1
    split at h1
    · simpa using h1
    · cases h1

/-- A slice, its elements leaning on other memory than itself. -/
def SlRel {α : Type} [R : Rp α] (F Fe : Nat → Prop) (l : List α) (v : Value) (w : World) : Prop :=
  ∃ (a : Option Addr) (c : Nat), v = .slice a l.length c ∧ l.length ≤ c ∧ (a = none → l = [] ∧ c = 0) ∧
    ∀ ad, a = some ad → ∀ (i : Nat) (x : α), l[i]? = some x → F ad.block ∧ ad.block < w.heap.size ∧ ∃ es, CellsAt w (ad.add (i * R.n)) es ∧ R.rel Fe x es w
theorem SlRel.stab {α : Type} [R : Rp α] {F Fe F' Fe' : Nat → Prop} {l : List α} {v : Value} {w w' : World} (hs : w.heap.size ≤ w'.heap.size)
    (hk : ∀ b, b < w.heap.size → F b → w'.heap[b]? = w.heap[b]? ∧ F' b) (hk' : ∀ b, b < w.heap.size → Fe b → w'.heap[b]? = w.heap[b]? ∧ Fe' b) (h : SlRel F Fe l v w) : SlRel F' Fe' l v w' := by
  obtain ⟨a, c, h1, h2, h3, h4⟩ := h
  refine ⟨a, c, h1, h2, h3, fun ad ha i x hx => ?_⟩
  obtain ⟨hF, hlt, es, he, hr⟩ := h4 ad ha i x hx
  have := hk ad.block hlt hF
  exact ⟨this.2, Nat.lt_of_lt_of_le hlt hs, es, he.stab (by rw [Addr.add_block]; exact this.1), R.stab Fe Fe' x es w w' hs hk' hr⟩
theorem SlRel.rep {α : Type} [R : Rp α] {F Fe H : Nat → Prop} {l : List α} {v : Value} {w : World} (h1 : ∀ b, F b → H b) (h2 : ∀ b, Fe b → H b) (h : SlRel F Fe l v w) : Rep H l v w := by
  obtain ⟨a, c, hv, k⟩ := SlRel.stab (F' := H) (Fe' := H) (Nat.le_refl _) (fun b _ hb => ⟨rfl, h1 b hb⟩) (fun b _ hb => ⟨rfl, h2 b hb⟩) h
  exact ⟨_, ⟨a, c, rfl, k⟩, hv⟩
theorem Rep.sl {α : Type} [R : Rp α] {F : Nat → Prop} {l : List α} {v : Value} {w : World} (h : Rep F l v w) : SlRel F F l v w := rep_list h

end
end
end GL

namespace GL
section
open Go

/-- An array variable of n elements. -/
structure ArrTy (P : Program) (t e : TypeId) (n : Nat) (α : Type) [R : Rp α] (z : α) : Prop where
  und : P.underlying t = some (.array n e)
  big : Nat.ble 2 n = true
  el : Ty P e α
  zero : ∃ i zv c, P.info? t = some i ∧ i.zero = some zv ∧ zv.cells.toList = (List.replicate n c).flatten ∧ ∀ w, R.rel (fun _ => False) z c w

/-- An index that is in range. -/
def bnd (n : Nat) (i : Int) : Option Nat := if 0 ≤ i ∧ i < n then some i.toNat else none
theorem bnd_some {n : Nat} {i : Int} {k : Nat} (h : bnd n i = some k) : 0 ≤ i ∧ i < n ∧ k = i.toNat := by
  unfold bnd at h
  split at h
  · rename_i hi; cases h; exact ⟨hi.1, hi.2, rfl⟩
  · cases h

theorem rep_cells {α : Type} [R : Rp α] {F : Nat → Prop} {x : α} {cs : List Value} {w : World} (h : R.rel F x cs w) : (mkV R.agg cs).cells = cs.toArray := by
  unfold mkV
  cases ha : R.agg with
  | true => simp [Value.cells]
  | false =>
    have hl := R.len _ _ _ _ h
    have h1 := R.one _ _ _ _ h
    rw [R.na ha] at hl
    match cs, hl, h1 with
    | [c], _, h1 =>
      have := h1 c (by simp)
      cases c <;> simp_all [Value.cells, Value.oneCell']

theorem take_splice (cs es : List Value) (p s m : Nat) (hs : es.length = s) (h : p + s ≤ m) (hm : m ≤ cs.length) :
    (cs.take p ++ es ++ cs.drop (p + s)).take m = (cs.take m).take p ++ es ++ (cs.take m).drop (p + s) := by
  have h1 : (cs.take p ++ es).length = p + s := by rw [List.length_append, List.length_take, hs]; omega
  rw [List.take_append, h1, List.take_of_length_le (by omega), List.drop_take, List.take_take, Nat.min_eq_left (by omega)]

section
variable {X : Cx} {G : List It} {Q : Exit → Act → World → Prop} {ops : Array Oper} {rest : List Oper} {d : Nat} {dO : Option Nat} {ty : TypeId} {pos : String} {af : Array Edge} {gd : Option (Nat × Bool)}

theorem Spec.idxOwn {α : Type} [R : Rp α] {x i : Operand} {T te : List Nat} {l : List α} {n : Int} {k t : Nat} {ts e : TypeId} (hk : bnd l.length n = some k) (hty : OwnTy X.P ts e α)
    (hx : Has G x (.isv t)) (hrs : look G (rs t) = some (.own t te e l)) (hi : Has G i (Fact.rep T n)) : Spec X G ⟨dO, .indexAddr ts x i, ty, pos, af, gd⟩ (Fact.pto t (k * R.n)) := by
  obtain ⟨h0, h1, rfl⟩ := bnd_some hk
  refine Spec.pure fun a w g hf => ?_
  have hv : a.eval x = g.ga t := hx a w g hf
  obtain ⟨xs, hown, _⟩ := hf _ _ hrs
  have h2 := rep_int.1 (hi a w g hf)
  rcases hown.2 with ⟨_, hn⟩ | ⟨b, cap, cur, hv', _⟩
  · omega
  · refine ⟨.pointer (some ⟨b, n.toNat * R.n, none⟩), ?_, b, by rw [hv']; rfl, rfl⟩
    unfold execOp
    simp only [hv, h2, hv', Sem.run_bind, Sem.run_map]
    rw [run_indexAt (R := R) hty.und hty.el h0 h1]
    simp [Go.Addr.add_lit]

/-! what a call gave, written -/
/-! stores -/
theorem run_storeVar {P : Program} {e : TypeId} {α : Type} [R : Rp α] (hty : Ty P e α) {w : World} {b o : Nat} {cur : Array Value} {te : TypeId} (hb : w.heap[b]? = some (.cells cur te (0, 0))) {F : Nat → Prop} {x : α} {v : Value} {w0 : World} (hx : Rep F x v w0)
    (hlen : o + R.n ≤ cur.size) : ∃ es, v = mkV R.agg es ∧ R.rel F x es w0 ∧ (storeVar e ⟨b, o, none⟩ v).run P w = .ok () (w.setRow b (cur.toList.take o ++ es ++ cur.toList.drop (o + R.n)).toArray) := by
  obtain ⟨es, hr, rfl⟩ := hx
  have hl := R.len _ _ _ _ hr
  have hc := rep_cells hr
  have h1 := run_storeCells_at P b o te es 0 cur w hb (by omega) (R.one _ _ _ _ hr)
  simp only [Nat.add_zero, hl] at h1
  refine ⟨es, rfl, hr, ?_⟩
  unfold storeVar
  simp [rt_sizeOf hty, hc, hl, h1]

theorem Step.storeOwn {α : Type} [R : Rp α] {p x : Operand} {T te te' : List Nat} {l : List α} {y : α} {k t : Nat} {e e' : TypeId} (ht : Nat.ble 10 t = true) (hk : k < l.length) (hty : Ty X.P e α)
    (hp : Has G p (.pto t (k * R.n))) (hrs : look G (rs t) = some (.own t te e' l)) (hx : Has G x (Fact.rep T y)) (hte : ElKeep (α := α) t te te') (hT : ElKeep (α := α) t T te') :
    Step X G ⟨none, .store e p x, ty, pos, af, none⟩ [.fact (rs t) (.own t te' e' (l.set k y)), .kill t] := fun G' hsub a w env K Q hK => by
    have ht' : 10 ≤ t := by simpa using ht
    obtain ⟨g, hg, hf'⟩ := env.facts
    have hf := hsub a w g hf'
    obtain ⟨b, hb, hv⟩ := hp a w g hf
    obtain ⟨xs, hown, hrel, htag⟩ := hf _ _ hrs
    rcases hown.2 with ⟨hnil, hn⟩ | ⟨b', cap, cs, hga, h0, hh, hnc, hcm, hcs, htake⟩
    · rw [hnil] at hb; cases hb
    rw [hga] at hb
    simp only [ownB, Option.some.injEq] at hb
    subst hb
    have hom : g.om b' = t := htag b' (by rw [hga]; rfl)
    have hlen := RelL.len l _ hrel
    have hk1 : k * R.n + R.n ≤ l.length * R.n := by
      have h1 : k * R.n + R.n = (k + 1) * R.n := by rw [Nat.add_mul]; omega
      rw [h1]
      exact Nat.mul_le_mul_right _ hk
    have hk2 : l.length * R.n ≤ cs.size := by rw [hcs]; exact Nat.mul_le_mul_right _ hnc
    obtain ⟨es, hes, hr, hrun⟩ := run_storeVar (P := X.P) hty hh (hx a w g hf) (show k * R.n + R.n ≤ cs.size by omega)
    have hel := R.len _ _ _ _ hr
    have hrun' : (execOp a.eval ⟨none, .store e p x, ty, pos, af, none⟩).run X.P w = .ok .skip (w.setRow b' (cs.toList.take (k * R.n) ++ es ++ cs.toList.drop (k * R.n + R.n)).toArray) := by
      unfold execOp
      simp only [hv, Instr.storeAt, Instr.sureAddr, Sem.run_bind, Sem.run_pure, Result.andThen_ok]
      rw [hrun]
      rfl
    unfold Oper.wp
    rw [hrun']
    refine hK undef _ ?_
    have hb : ∀ b, b < w.heap.size → g.om b ≠ t → (w.setRow b' (cs.toList.take (k * R.n) ++ es ++ cs.toList.drop (k * R.n + R.n)).toArray).heap[b]? = w.heap[b]? := fun b hb hne => setRow_other w b' b _ (fun h => hne (by rw [h]; exact hom))
    have hsz : (w.setRow b' (cs.toList.take (k * R.n) ++ es ++ cs.toList.drop (k * R.n + R.n)).toArray).heap.size = w.heap.size := by simp
    refine ⟨by simp [Act.put, env.size], env.defers, Fr.own env.fr hg ht' (.inr trivial) rfl rfl rfl (by rw [hsz]; exact Nat.le_refl _) hb, g, ⟨⟨hg.ok.old, fun b h1 h2 => hg.ok.new b h1 (by rw [hsz] at h2; exact h2)⟩, hg.om⟩, ?_⟩
    show Facts _ g a _
    refine Facts.ghost ?_ (fun v => ⟨xs.take (k * R.n) ++ es ++ xs.drop (k * R.n + R.n), ⟨?_, .inr ⟨b', cap, _, by rw [hga, List.length_set], h0, setRow_heap w b' cs _ e' (0, 0) hh, by rw [List.length_set]; exact hnc, hcm, ?_, ?_⟩⟩, ?_, htag⟩)
    · exact facts_killed' hf' (by rw [hsz]; exact Nat.le_refl _) hb
    · simp only [List.length_append, List.length_take, List.length_drop, List.length_set, hlen, hel]
      omega
    · simp only [List.size_toArray, List.length_append, List.length_take, List.length_drop, Array.length_toList, hel]
      omega
    · rw [← htake, List.length_set]
      exact take_splice cs.toList es (k * R.n) R.n (l.length * R.n) hel hk1 (by rw [Array.length_toList]; exact hk2)
    · have hF : ∀ b, b < w.heap.size → g.om b ∈ te' → g.om b ∈ te' := fun _ _ h => h
      have h1 := hte (fun b => g.om b ∈ te') g w (w.setRow b' (cs.toList.take (k * R.n) ++ es ++ cs.toList.drop (k * R.n + R.n)).toArray) l xs (by rw [hsz]; exact Nat.le_refl _) hb hF hrel
      have h2 := hT (fun b => g.om b ∈ te') g w (w.setRow b' (cs.toList.take (k * R.n) ++ es ++ cs.toList.drop (k * R.n + R.n)).toArray) [y] es (by rw [hsz]; exact Nat.le_refl _) hb hF ⟨es, [], by simp, hr, rfl⟩
      obtain ⟨c1, c2, hc, hc1, hc2⟩ := h2
      have hc2' : c2 = [] := hc2
      subst hc2'
      simp only [List.append_nil] at hc
      subst hc
      exact RelL.set l xs h1 k y es hk hc1

end
end
end GL

