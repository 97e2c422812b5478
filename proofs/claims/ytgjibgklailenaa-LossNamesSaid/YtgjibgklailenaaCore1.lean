/- Own library, part 1: facts about values in worlds, environments, walks. -/
import Derived.WalkKit
import Derived.RangeFuncRecord
import Derived.Sort.LoopGhostIn
import Derived.Orders
namespace GL
open Go

/-! ### loops of models -/
inductive Ctl (S B : Type) where
  | next (s : S)
  | brk (b : B)

def loopM {S B : Type} (step : S → Option (Ctl S B)) (n : Nat) : S → Option B :=
  Nat.rec (motive := fun _ => S → Option B) (fun _ => none)
    (fun _ ih s => match step s with
      | none => none
      | some (.next s') => ih s'
      | some (.brk b) => some b) n

theorem loopM_succ {S B : Type} (step : S → Option (Ctl S B)) (n : Nat) (s : S) :
    loopM step (n + 1) s = match step s with
      | none => none
      | some (.next s') => loopM step n s'
      | some (.brk b) => some b := rfl

/-! ### frames -/
structure Fr (C : Nat → Prop) (w w' : World) : Prop where
  os : w'.os = w.os
  tape : w'.tape = w.tape
  output : w'.output = w.output
  size : w.heap.size ≤ w'.heap.size
  block : ∀ k, k < w.heap.size → ¬ C k → w'.heap[k]? = w.heap[k]?

def NoC : Nat → Prop := fun _ => False

theorem Fr.refl (C : Nat → Prop) (w : World) : Fr C w w := ⟨rfl, rfl, rfl, Nat.le_refl _, fun _ _ _ => rfl⟩
theorem Fr.trans {C D : Nat → Prop} {a b c : World} (h : Fr C a b) (k : Fr D b c) (hd : ∀ x, x < a.heap.size → D x → C x) : Fr C a c :=
  ⟨k.os.trans h.os, k.tape.trans h.tape, k.output.trans h.output, Nat.le_trans h.size k.size,
    fun x hx hn => (k.block x (Nat.lt_of_lt_of_le hx h.size) (fun hD => hn (hd x hx hD))).trans (h.block x hx hn)⟩
theorem Fr.drew {C : Nat → Prop} {a w : World} (h : Fr C a w) : Fr C a w.drew := ⟨h.os, h.tape, h.output, h.size, h.block⟩
theorem Fr.alloc (w : World) (o : Obj) : Fr NoC w (w.alloc o) := ⟨rfl, rfl, rfl, by simp, fun k hk _ => RowKit.Below.heap_alloc w o k hk⟩
theorem Fr.setCell (w : World) (a : Addr) (v : Value) : Fr (· = a.block) w (w.setCell a v) :=
  ⟨rfl, rfl, rfl, by simp, fun k _ hn => heap_setCell_other w a k v hn⟩
theorem Fr.weaken {C D : Nat → Prop} {w w' : World} (h : Fr C w w') (hd : ∀ x, x < w.heap.size → C x → D x) : Fr D w w' :=
  ⟨h.os, h.tape, h.output, h.size, fun k hk hn => h.block k hk (fun hc => hn (hd k hk hc))⟩
theorem Fr.below {w w' : World} (h : Fr NoC w w') : RowKit.Below w.heap.size w w' := ⟨h.os, h.tape, h.output, h.size, fun k hk => h.block k hk id⟩

/-! ### ghosts and facts -/
structure Gh where
  om : Nat → Nat
  ga : Nat → Value

/-- What a fact leans on: the ghost agrees, and blocks of its tags are as they were. -/
structure Keeps (tags ids : List Nat) (g g' : Gh) (w w' : World) : Prop where
  size : w.heap.size ≤ w'.heap.size
  block : ∀ b, b < w.heap.size → g.om b ∈ tags → w'.heap[b]? = w.heap[b]? ∧ g'.om b = g.om b
  ids : ∀ t, t ∈ ids → g'.ga t = g.ga t

structure Fact where
  tags : List Nat
  ids : List Nat
  p : Gh → Value → World → Prop
  stab : ∀ g g' v w w', Keeps tags ids g g' w w' → p g v w → p g' v w'

inductive It where
  | fact (s : Nat) (f : Fact)
  | kill (t : Nat)
  | killId (t : Nat)

def disj : List Nat → List Nat → Bool
  | [], _ => true
  | a :: l, m => !(m.elem a) && disj l m

def lookK : List It → List Nat → List Nat → Nat → Option Fact
  | [], _, _, _ => none
  | .kill t :: G, K, I, s => lookK G (t :: K) I s
  | .killId t :: G, K, I, s => lookK G K (t :: I) s
  | .fact s' f :: G, K, I, s => bif Nat.beq s' s then (bif disj f.tags K && disj f.ids I then some f else none) else lookK G K I s

def look (G : List It) (s : Nat) : Option Fact := lookK G [] [] s

theorem lookK_sub : ∀ (G : List It) (K K' I I' : List Nat) (s : Nat) (f : Fact), (∀ x ∈ K', x ∈ K) → (∀ x ∈ I', x ∈ I) → lookK G K I s = some f → lookK G K' I' s = some f
  | [], _, _, _, _, _, _, _, _, h => by simp [lookK] at h
  | .kill t :: G, K, K', I, I', s, f, hk, hi, h => by
    simp only [lookK] at h ⊢
    exact lookK_sub G _ _ _ _ s f (fun x hx => by simp at hx ⊢; rcases hx with rfl | hx; exact .inl rfl; exact .inr (hk x hx)) hi h
  | .killId t :: G, K, K', I, I', s, f, hk, hi, h => by
    simp only [lookK] at h ⊢
    exact lookK_sub G _ _ _ _ s f hk (fun x hx => by simp at hx ⊢; rcases hx with rfl | hx; exact .inl rfl; exact .inr (hi x hx)) h
  | .fact s' f' :: G, K, K', I, I', s, f, hk, hi, h => by
    simp only [lookK] at h ⊢
    cases hb : Nat.beq s' s with
    | true =>
      simp only [hb, cond_true] at h ⊢
      have key : ∀ (l A B : List Nat), (∀ x ∈ B, x ∈ A) → disj l A = true → disj l B = true := by
        intro l A B hAB
        induction l with
        | nil => intro _; rfl
        | cons a l ih =>
          intro h
          simp only [disj, Bool.and_eq_true, Bool.not_eq_true'] at h ⊢
          refine ⟨?_, ih h.2⟩
          have h1 := h.1
          simp at h1 ⊢
          exact fun hm => h1 (hAB a hm)
      cases hd : (disj f'.tags K && disj f'.ids I) with
      | false => simp [hd] at h
      | true =>
        simp only [Bool.and_eq_true] at hd
        simp only [key _ _ _ hk hd.1, key _ _ _ hi hd.2, Bool.and_self, cond_true]
        simpa [hd] using h
    | false =>
      simp only [hb, cond_false] at h ⊢
      exact lookK_sub G K K' I I' s f hk hi h

theorem disj_spec {l K : List Nat} (h : disj l K = true) {t : Nat} (ht : t ∈ K) : t ∉ l := by
  induction l with
  | nil => simp
  | cons a l ih =>
    simp only [disj, Bool.and_eq_true, Bool.not_eq_true'] at h
    have h1 := h.1
    simp at h1
    simp only [List.mem_cons, not_or]
    exact ⟨fun e => h1 (e ▸ ht), ih h.2⟩

theorem lookK_disj : ∀ (G : List It) (K I : List Nat) (s : Nat) (f : Fact), lookK G K I s = some f → disj f.tags K = true ∧ disj f.ids I = true
  | [], _, _, _, _, h => by simp [lookK] at h
  | .kill t :: G, K, I, s, f, h => by
    have := lookK_disj G (t :: K) I s f h
    refine ⟨?_, this.2⟩
    have key : ∀ (l : List Nat), disj l (t :: K) = true → disj l K = true := by
      intro l
      induction l with
      | nil => intro _; rfl
      | cons a l ih =>
        intro h
        simp only [disj, Bool.and_eq_true, Bool.not_eq_true'] at h ⊢
        refine ⟨?_, ih h.2⟩
        have h1 := h.1
        simp at h1 ⊢
        exact h1.2
    exact key _ this.1
  | .killId t :: G, K, I, s, f, h => by
    have := lookK_disj G K (t :: I) s f h
    refine ⟨this.1, ?_⟩
    have key : ∀ (l : List Nat), disj l (t :: I) = true → disj l I = true := by
      intro l
      induction l with
      | nil => intro _; rfl
      | cons a l ih =>
        intro h
        simp only [disj, Bool.and_eq_true, Bool.not_eq_true'] at h ⊢
        refine ⟨?_, ih h.2⟩
        have h1 := h.1
        simp at h1 ⊢
        exact h1.2
    exact key _ this.2
  | .fact s' f' :: G, K, I, s, f, h => by
    simp only [lookK] at h
    cases hb : Nat.beq s' s with
    | true =>
      simp only [hb, cond_true] at h
      cases hd : (disj f'.tags K && disj f'.ids I) with
      | false => simp [hd] at h
      | true =>
        simp [hd] at h
        subst h
        simpa using hd
    | false =>
      simp only [hb, cond_false] at h
      exact lookK_disj G K I s f h

/-! ### environments -/
/-- Tags below 10 are the blocks that were there when the call began. -/
structure GhOk (w0 w : World) (g : Gh) : Prop where
  old : ∀ b, b < w0.heap.size → g.om b < 10
  new : ∀ b, w0.heap.size ≤ b → b < w.heap.size → 10 ≤ g.om b

def Facts (G : List It) (g : Gh) (a : Act) (w : World) : Prop := ∀ s f, look G s = some f → f.p g (a.tmps.getD s undef) w

/-- What a call's walk is over: the program, how many slots, the world at entry, which old blocks may be changed, the tags of the old blocks; the round's record, if it is one; the deferred marks. -/
structure Cx where
  P : Program
  n : Nat
  w0 : World
  C : Nat → Prop
  om0 : Nat → Nat
  rd : Option Nat
  ds : List Deferred
/-- All functions may be called. -/
def Cx.F (X : Cx) : Fence := { Fence.wide with round := X.rd }

structure GhE (X : Cx) (w : World) (g : Gh) : Prop where
  ok : GhOk X.w0 w g
  om : ∀ b, b < X.w0.heap.size → g.om b = X.om0 b

structure Env (X : Cx) (G : List It) (a : Act) (w : World) : Prop where
  size : a.tmps.size = X.n
  defers : a.defers = X.ds
  fr : Fr X.C X.w0 w
  facts : ∃ g : Gh, GhE X w g ∧ Facts G g a w

end GL
