/- Own library, part 3: walks. -/
import Derived.Test.YtgjibgklailenaaCore2
import Derived.Deep.LoopGhost
import Derived.Scope
namespace GL
open Go

/-- No deferred call. -/
def ndB : Op → Bool
  | .defer _ => false
  | _ => true
theorem Cx.F_none {X : Cx} (h : X.rd = none) : X.F = Fence.wide := by unfold Cx.F; rw [h]; rfl
theorem wpIn_of {rd : Option Nat} {P : Program} {o : Oper} {a : Act} {w : World} {K : Act → World → Prop} {Q : Exit → Act → World → Prop} (hnd : ndB o.op = true) (h : o.wp P a w K Q) :
    o.wpIn { Fence.wide with round := rd } 0 P a w K Q := by
  refine ⟨fun _ _ => trivial, ?_⟩
  rw [Oper.semAt_eq _ _ _ (fun c hc => by rw [hc] at hnd; cases hnd)]
  unfold Oper.wp at h
  revert h
  generalize (execOp a.eval o).run P w = r
  intro h
  cases r with
  | ok x w' =>
    cases x with
    | value v => exact h
    | skip => exact h
    | defer d => exact h
    | enter f args => exact ⟨fun h => (by cases h), callsIn_wide (n := 0).2 h⟩
    | row row args => exact ⟨fun h => (by cases h), fun c cs _ => let ⟨v, w'', r, s⟩ := h c cs; ⟨v, w'', r, stepsIn_wide.2 s⟩⟩
    | _ => exact h.elim
  | halt hh w' =>
    cases hh with
    | panic v => exact h
    | _ => exact h.elim

def CWalk (X : Cx) (G : List It) (c : Code) (Q : Exit → Act → World → Prop) : Prop := ∀ a w, Env X G a w → c.wpIn X.F 0 X.P Q a w
def Walk (X : Cx) (ops : Array Oper) (Q : Exit → Act → World → Prop) (G : List It) (l : List Oper) : Prop := ∀ a w, Env X G a w → wpListIn X.F 0 X.P ops Q l a w
def Leaf (X : Cx) (G : List It) (Q : Exit → Act → World → Prop) (e : Exit) : Prop := ∀ a w, Env X G a w → Q e a w

def Has (G : List It) (x : Operand) (f : Fact) : Prop := ∀ a w g, Facts G g a w → f.p g (a.eval x) w
def Sub (G G' : List It) : Prop := ∀ a w g, Facts G g a w → Facts G' g a w

theorem Has.s {G : List It} {t : Nat} {f : Fact} (h : look G t = some f) : Has G (.tmp t) f := fun _ _ _ hf => hf t f h
theorem Has.u {G : List It} {t : Nat} {f : Fact} {c : Prop} (h : look G t = some (f.under c)) (hc : c) : Has G (.tmp t) f := fun _ _ _ hf => (hf t _ h).1 hc
theorem Has.int {G : List It} {n : Int} : Has G (.const (.int .i64 n)) (Fact.rep [] n) := fun _ _ _ _ => rep_int.2 rfl
theorem Has.u8 {G : List It} {k : Int} (n : UInt8) (h : (n.toNat : Int) = k) : Has G (.const (.int .u8 k)) (Fact.rep [] n) := fun _ _ _ _ => rep_u8.2 (by rw [h]; rfl)
theorem Has.u32 {G : List It} {k : Int} (n : UInt32) (h : (n.toNat : Int) = k) : Has G (.const (.int .u32 k)) (Fact.rep [] n) := fun _ _ _ _ => rep_u32.2 (by rw [h]; rfl)
theorem Has.bool {G : List It} {b : Bool} : Has G (.const (.bool b)) (Fact.rep [] b) := fun _ _ _ _ => rep_bool.2 rfl
theorem Has.nil {G : List It} (α : Type) [Rp α] : Has G (.const (.slice none 0 0)) (Fact.rep [] ([] : List α)) := fun _ _ _ _ => rep_nil

theorem Has.mono {G : List It} {x : Operand} {α : Type} [Rp α] {y : α} {T T' : List Nat} (h : Has G x (Fact.rep T y)) (hT : ∀ t, t ∈ T → t ∈ T') : Has G x (Fact.rep T' y) :=
  fun a w g hf => Rep.mono (h a w g hf) (fun _ _ hb => hT _ hb)

def subB : List Nat → List Nat → Bool
  | [], _ => true
  | a :: l, m => m.elem a && subB l m
theorem subB_spec {l m : List Nat} (h : subB l m = true) : ∀ t, t ∈ l → t ∈ m := by
  induction l with
  | nil => intro t ht; cases ht
  | cons a l ih =>
    simp only [subB, Bool.and_eq_true] at h
    intro t ht
    rcases List.mem_cons.1 ht with rfl | ht
    · simpa using h.1
    · exact ih h.2 t ht
theorem Has.m {G : List It} {x : Operand} {α : Type} [Rp α] {y : α} {T T' : List Nat} (h : Has G x (Fact.rep T y)) (hT : subB T T' = true) : Has G x (Fact.rep T' y) := h.mono (subB_spec hT)

/-- Data that lean on no memory. -/
class Flat (α : Type) [R : Rp α] : Prop where
  flat : ∀ F F' x cs w w', R.rel F x cs w → R.rel F' x cs w'
instance : Flat Int := ⟨fun _ _ _ _ _ _ h => h⟩
instance : Flat UInt8 := ⟨fun _ _ _ _ _ _ h => h⟩
instance : Flat UInt32 := ⟨fun _ _ _ _ _ _ h => h⟩
instance : Flat Bool := ⟨fun _ _ _ _ _ _ h => h⟩
instance : Flat Str := ⟨fun _ _ _ _ _ _ h => h⟩
theorem Has.fl {G : List It} {x : Operand} {α : Type} [R : Rp α] [Fl : Flat α] {y : α} {T T' : List Nat} (h : Has G x (Fact.rep T y)) : Has G x (Fact.rep T' y) :=
  fun a w g hf => by
    obtain ⟨cs, h1, h2⟩ := h a w g hf
    exact ⟨cs, Fl.flat _ _ _ _ _ _ h1, h2⟩

theorem facts_nil {g : Gh} {a : Act} {w : World} : Facts [] g a w := fun s f h => by simp [look, lookK] at h
theorem Sub.nil {G : List It} : Sub G [] := fun _ _ _ _ => facts_nil
theorem Sub.cons {G G' : List It} {s : Nat} {f : Fact} (h : Has G (.tmp s) f) (k : Sub G G') : Sub G (.fact s f :: G') := fun a w g hf s' f' hl => by
  simp only [look, lookK] at hl
  cases hb : Nat.beq s s' with
  | true =>
    have : s = s' := Nat.eq_of_beq_eq_true hb
    subst this
    simp only [hb, cond_true] at hl
    cases hc : (disj f.tags [] && disj f.ids []) with
    | true => simp only [hc, cond_true, Option.some.injEq] at hl; subst hl; exact h a w g hf
    | false => simp [hc] at hl
  | false =>
    simp only [hb, cond_false] at hl
    exact k a w g hf s' f' hl
theorem Sub.refl {G : List It} : Sub G G := fun _ _ _ h => h

theorem Env.sub {X : Cx} {G G' : List It} {a : Act} {w : World} (e : Env X G a w) (h : Sub G G') : Env X G' a w :=
  ⟨e.size, e.defers, e.fr, let ⟨g, h1, h2⟩ := e.facts; ⟨g, h1, h a w g h2⟩⟩

section
variable {X : Cx} {G : List It} {Q : Exit → Act → World → Prop}

theorem CWalk.sub {G' : List It} {c : Code} (h : Sub G G') (k : CWalk X G' c Q) : CWalk X G c Q := fun a w e => k a w (e.sub h)
theorem Leaf.sub {G' : List It} {x : Exit} (h : Sub G G') (k : Leaf X G' Q x) : Leaf X G Q x := fun a w e => k a w (e.sub h)

theorem CWalk.seq {x y : Code} (h : CWalk X G x (Exit.then (y.wpIn X.F 0 X.P Q) Q)) : CWalk X G (.seq x y) Q := fun a w e => wpIn_seq (h a w e)
theorem CWalk.skip (h : Leaf X G Q .normal) : CWalk X G .skip Q := fun a w e => wpIn_skip (h a w e)
theorem CWalk.exit {id : Nat} (h : Leaf X G Q (.exit id)) : CWalk X G (.exit id) Q := fun a w e => wpIn_exit (h a w e)
theorem CWalk.ret (h : Leaf X G Q .ret) : CWalk X G .ret Q := fun a w e => wpIn_ret (h a w e)
theorem CWalk.block {id : Nat} {c : Code} (h : CWalk X G c (Exit.inBlock id Q)) : CWalk X G (.block id c) Q := fun a w e => wpIn_block (h a w e)
theorem CWalk.cond {t : Nat} {T : List Nat} {b : Bool} {x y : Code} (hb : look G t = some (Fact.rep T b)) (ht : b = true → CWalk X G x Q) (hf : b = false → CWalk X G y Q) : CWalk X G (.cond (.tmp t) x y) Q := fun a w e => by
  obtain ⟨g, _, h2⟩ := e.facts
  have hv : a.eval (.tmp t) = .bool b := rep_bool.1 (h2 t _ hb)
  exact wpIn_cond_split hv (fun h => ht h a w e) (fun h => hf h a w e)
theorem CWalk.region {id : Nat} {l : List Oper} (h : Walk X l.toArray Q G l) : CWalk X G (.region id l.toArray false) Q := fun a w e => wpIn_region_lit (h a w e)

theorem Leaf.thenN {y : Code} (h : CWalk X G y Q) : Leaf X G (Exit.then (y.wpIn X.F 0 X.P Q) Q) .normal := h
theorem Leaf.thenE {id : Nat} {K : Act → World → Prop} (h : Leaf X G Q (.exit id)) : Leaf X G (Exit.then K Q) (.exit id) := h
theorem Leaf.thenR {K : Act → World → Prop} (h : Leaf X G Q .ret) : Leaf X G (Exit.then K Q) .ret := h
theorem Leaf.blockN {id : Nat} (h : Leaf X G Q .normal) : Leaf X G (Exit.inBlock id Q) .normal := h
theorem Leaf.blockR {id : Nat} (h : Leaf X G Q .ret) : Leaf X G (Exit.inBlock id Q) .ret := h
theorem Leaf.blockE {id : Nat} (h : Leaf X G Q .normal) : Leaf X G (Exit.inBlock id Q) (.exit id) := fun a w e => by
  simp only [Exit.inBlock, if_true]; exact h a w e
theorem Leaf.blockO {id id' : Nat} (hne : Nat.beq id' id = false) (h : Leaf X G Q (.exit id')) : Leaf X G (Exit.inBlock id Q) (.exit id') := fun a w e => by
  have : id' ≠ id := fun he => by subst he; simp at hne
  simp only [Exit.inBlock, if_neg this]; exact h a w e

theorem CWalk.scope {c : Code} (h : CWalk X G c (Exit.noGoto Q)) (hrd : X.rd = none := by rfl) : CWalk X G (.scope c) Q := fun a w e => by
  rw [Cx.F_none hrd]; refine wpIn_wide.2 (wp_scope_straight (wpIn_wide (n := 0).1 ?_)); rw [← Cx.F_none hrd]; exact h a w e
theorem CWalk.label {l : Nat} (h : Leaf X G Q .normal) : CWalk X G (.label l) Q := fun a w e => wpIn_label (h a w e)
theorem Leaf.scN (h : Leaf X G Q .normal) : Leaf X G (Exit.noGoto Q) .normal := h
theorem Leaf.scR (h : Leaf X G Q .ret) : Leaf X G (Exit.noGoto Q) .ret := h
theorem Leaf.scE {id : Nat} (h : Leaf X G Q (.exit id)) : Leaf X G (Exit.noGoto Q) (.exit id) := h

theorem Walk.nil {ops : Array Oper} (h : Leaf X G Q .normal) : Walk X ops Q G [] := h

/-! ### operations -/
def Yields (P : Program) (o : Oper) (a : Act) (w : World) (R : Value → World → Prop) : Prop :=
  ∀ (K : Act → World → Prop) (Q : Exit → Act → World → Prop), (∀ v w', R v w' → K (a.put o.dst v) w') → o.wp P a w K Q

theorem Yields.val {P : Program} {o : Oper} {a : Act} {w : World} {R : Value → World → Prop} {v : Value} {w' : World}
    (h : (execOp a.eval o).run P w = .ok (.value v) w') (hR : R v w') : Yields P o a w R := fun K Q hK => by
  unfold Oper.wp; rw [h]; exact hK v w' hR

/-- An operation that changes nothing that was there: its result has the fact f. -/
def Spec (X : Cx) (G : List It) (o : Oper) (f : Fact) : Prop := ∀ a w g, a.tmps.size = X.n → Fr X.C X.w0 w → GhE X w g → Facts G g a w →
  Yields X.P o a w (fun v w' => Fr NoC w w' ∧ ∃ g', GhE X w' g' ∧ (∀ b, b < w.heap.size → g'.om b = g.om b) ∧ (∀ t, g'.ga t = g.ga t) ∧ f.p g' v w')

theorem Spec.pure {o : Oper} {f : Fact} (h : ∀ a w g, Facts G g a w → ∃ v, (execOp a.eval o).run X.P w = .ok (.value v) w ∧ f.p g v w) : Spec X G o f :=
  fun a w g _ _ hg hf => let ⟨v, hr, hp⟩ := h a w g hf; Yields.val hr ⟨Fr.refl _ _, g, hg, fun _ _ => rfl, fun _ => rfl, hp⟩

theorem Act.getD_put {a : Act} {d t : Nat} {v : Value} (hd : d < a.tmps.size) : (a.put (some d) v).tmps.getD t undef = if d = t then v else a.tmps.getD t undef := by
  simp only [Act.put, Array.getD_eq_getD_getElem?, Array.getElem?_setIfInBounds]
  by_cases h : d = t
  · subst h; simp [hd]
  · simp [h]

theorem Facts.keep {G : List It} {g g' : Gh} {a : Act} {w w' : World} (h : Facts G g a w) (hw : Fr NoC w w') (hom : ∀ b, b < w.heap.size → g'.om b = g.om b) (hga : ∀ t, g'.ga t = g.ga t) : Facts G g' a w' :=
  fun s f hl => f.stab g g' _ w w' ⟨hw.size, fun b hb _ => ⟨hw.block b hb id, hom b hb⟩, fun t _ => hga t⟩ (h s f hl)

theorem Facts.put {G : List It} {g : Gh} {a : Act} {w : World} {d : Nat} {v : Value} {f : Fact} (hd : d < a.tmps.size) (h : Facts G g a w) (hf : f.p g v w) : Facts (.fact d f :: G) g (a.put (some d) v) w := fun s f' hl => by
  rw [Act.getD_put hd]
  simp only [look, lookK] at hl
  cases hb : Nat.beq d s with
  | true =>
    have : d = s := Nat.eq_of_beq_eq_true hb
    subst this
    simp only [hb, cond_true] at hl
    cases hc : (disj f.tags [] && disj f.ids []) with
    | true => simp only [hc, cond_true, Option.some.injEq] at hl; subst hl; simpa using hf
    | false => simp [hc] at hl
  | false =>
    have hne : d ≠ s := fun he => by subst he; simp at hb
    simp only [hb, cond_false] at hl
    rw [if_neg hne]
    exact h s f' hl

theorem Env.put {d : Nat} {v : Value} {f : Fact} {a : Act} {w w' : World} {g g' : Gh} (hd : d < X.n) (hs : a.tmps.size = X.n) (hde : a.defers = X.ds) (hfr : Fr X.C X.w0 w) (hf : Facts G g a w)
    (hw : Fr NoC w w') (hg' : GhE X w' g') (hom : ∀ b, b < w.heap.size → g'.om b = g.om b) (hga : ∀ t, g'.ga t = g.ga t) (hp : f.p g' v w') : Env X (.fact d f :: G) (a.put (some d) v) w' :=
  ⟨by simp [Act.put, hs], hde, hfr.trans hw (fun _ _ h => h.elim), g', hg', (hf.keep hw hom hga).put (by rw [hs]; exact hd) hp⟩

theorem Walk.op {ops : Array Oper} {rest : List Oper} {d : Nat} {op : Op} {ty : TypeId} {pos : String} {af : Array Edge} {f : Fact} (hd : Nat.blt d X.n = true)
    (h : Spec X G ⟨some d, op, ty, pos, af, none⟩ f) (k : Walk X ops Q (.fact d f :: G) rest) (hnd : ndB op = true := by rfl) : Walk X ops Q G (⟨some d, op, ty, pos, af, none⟩ :: rest) := fun a w e => by
  obtain ⟨g, hg, hf⟩ := e.facts
  refine wpListIn_plain rfl fun K hK => ?_
  refine wpIn_of hnd ?_
  refine h a w g e.size e.fr hg hf K Q (fun v w' ⟨hw, g', hg', hom, hga, hp⟩ => hK _ _ (k _ _ ?_))
  exact Env.put (by simpa [Nat.blt_eq] using hd) e.size e.defers e.fr hf hw hg' hom hga hp

theorem yielded_of {ops : Array Oper} {a : Act} {j dj : Nat} {b : Bool} (hj : (ops[j]?).bind (·.dst) = some dj) (hb : a.tmps.getD dj undef = .bool b) : yielded ops a.tmps j = some b := by
  have : a.tmps[dj]? = some (.bool b) := by
    rw [Array.getD_eq_getD_getElem?] at hb
    cases h : a.tmps[dj]? with
    | none => rw [h] at hb; cases hb
    | some v => rw [h] at hb; simp at hb; rw [hb]
  unfold yielded
  rw [hj]
  simp [this]

/-- A guarded operation. -/
theorem Walk.opg {ops : Array Oper} {rest : List Oper} {d j dj : Nat} {want b : Bool} {T : List Nat} {op : Op} {ty : TypeId} {pos : String} {af : Array Edge} {f : Fact} (hd : Nat.blt d X.n = true)
    (hj : (ops[j]?).bind (·.dst) = some dj) (hb : look G dj = some (Fact.rep T b))
    (h : b = want → Spec X G ⟨some d, op, ty, pos, af, some (j, want)⟩ f) (k : Walk X ops Q (.fact d (f.under (b = want)) :: G) rest) (hnd : ndB op = true := by rfl) : Walk X ops Q G (⟨some d, op, ty, pos, af, some (j, want)⟩ :: rest) := fun a w e => by
  obtain ⟨g, hg, hf⟩ := e.facts
  have hy := yielded_of hj (rep_bool.1 (hf dj _ hb))
  have hd' : d < X.n := by simpa [Nat.blt_eq] using hd
  refine wpListIn_step fun K hK => ?_
  simp only [Region.wanted, hy]
  by_cases hw : b = want
  · subst hw
    simp only [beq_self_eq_true, if_true]
    refine wpIn_of hnd ?_
    exact h rfl a w g e.size e.fr hg hf K Q (fun v w' ⟨hw, g', hg', hom, hga, hp⟩ => hK _ _ (k _ _ (Env.put hd' e.size e.defers e.fr hf hw hg' hom hga ⟨fun _ => hp, fun h => (h rfl).elim⟩)))
  · have : (some b == some want) = false := by simp [hw]
    simp only [this, Bool.false_eq_true, if_false]
    refine ⟨fun _ _ => trivial, ?_⟩
    exact hK _ _ (k _ _ (Env.put hd' e.size e.defers e.fr hf (Fr.refl _ _) hg (fun _ _ => rfl) (fun _ => rfl) ⟨fun hc => (hw hc).elim, fun _ => rfl⟩))
/-- A guarded operation whose guard is guarded itself. -/
theorem Walk.opgu {ops : Array Oper} {rest : List Oper} {d j dj : Nat} {want b : Bool} {c : Prop} {T : List Nat} {op : Op} {ty : TypeId} {pos : String} {af : Array Edge} {f : Fact} (hd : Nat.blt d X.n = true)
    (hj : (ops[j]?).bind (·.dst) = some dj) (hb : look G dj = some ((Fact.rep T b).under c))
    (h : c ∧ b = want → Spec X G ⟨d, op, ty, pos, af, some (j, want)⟩ f) (k : Walk X ops Q (.fact d (f.under (c ∧ b = want)) :: G) rest) (hnd : ndB op = true := by rfl) : Walk X ops Q G (⟨some d, op, ty, pos, af, some (j, want)⟩ :: rest) := fun a w e => by
  obtain ⟨g, hg, hf⟩ := e.facts
  have hd' : d < X.n := by simpa [Nat.blt_eq] using hd
  have hu := hf dj _ hb
  refine wpListIn_step fun K hK => ?_
  by_cases hc : c
  · have hy := yielded_of hj (rep_bool.1 (hu.1 hc))
    simp only [Region.wanted, hy]
    by_cases hw : b = want
    · subst hw
      simp only [beq_self_eq_true, if_true]
      refine wpIn_of hnd ?_
      exact h ⟨hc, rfl⟩ a w g e.size e.fr hg hf K Q (fun v w' ⟨hw, g', hg', hom, hga, hp⟩ => hK _ _ (k _ _ (Env.put hd' e.size e.defers e.fr hf hw hg' hom hga ⟨fun _ => hp, fun h => (h ⟨hc, rfl⟩).elim⟩)))
    · have : (some b == some want) = false := by simp [hw]
      simp only [this, Bool.false_eq_true, if_false]
      refine ⟨fun _ _ => trivial, ?_⟩
      exact hK _ _ (k _ _ (Env.put hd' e.size e.defers e.fr hf (Fr.refl _ _) hg (fun _ _ => rfl) (fun _ => rfl) ⟨fun hc => (hw hc.2).elim, fun _ => rfl⟩))
  · have hy : (yielded ops a.tmps j == some want) = false := by
      have h1 : a.tmps.getD dj undef = undef := hu.2 hc
      unfold yielded
      rw [hj]
      simp only [Option.bind_some]
      rw [Array.getD_eq_getD_getElem?] at h1
      cases h2 : a.tmps[dj]? with
      | none => rfl
      | some v => rw [h2] at h1; simp at h1; subst h1; rfl
    simp only [Region.wanted, hy, Bool.false_eq_true, if_false]
    refine ⟨fun _ _ => trivial, ?_⟩
    exact hK _ _ (k _ _ (Env.put hd' e.size e.defers e.fr hf (Fr.refl _ _) hg (fun _ _ => rfl) (fun _ => rfl) ⟨fun h => (hc h.1).elim, fun _ => rfl⟩))
end
end GL
