/- Own library, part 11: closed facts about types, and small things for printed proofs. -/
import Derived.Test.YtgjibgklailenaaCore10
namespace GL
open Go

def tyB (P : Program) (t : TypeId) (n : Nat) (agg : Bool) : Bool :=
  match P.underlying t, P.info? t with
  | some d, some i => (aggD d == agg) && Nat.beq i.size n
  | _, _ => false
theorem Ty.of {P : Program} {t : TypeId} {α : Type} [R : Rp α] (h : tyB P t R.n R.agg = true) : Ty P t α := by
  unfold tyB at h
  cases h1 : P.underlying t with
  | none => simp [h1] at h
  | some d =>
    cases h2 : P.info? t with
    | none => simp [h1, h2] at h
    | some i =>
      simp only [h1, h2, Bool.and_eq_true, beq_iff_eq] at h
      exact ⟨⟨d, h1, h.1⟩, ⟨i, h2, Nat.eq_of_beq_eq_true h.2⟩⟩
theorem SlTy.of {P : Program} {t e : TypeId} {α : Type} [R : Rp α] (hu : P.underlying t = some (.slice e)) (h : tyB P e R.n R.agg = true) (hp : Nat.blt 0 R.n = true) : SlTy P t e α :=
  ⟨hu, Ty.of h, by simpa using hp⟩
def ownB' (P : Program) (e : TypeId) (n : Nat) : Bool :=
  match P.info? e with
  | some i => (match i.zero with
    | some z => Nat.beq z.cells.size n
    | none => false) && Nat.beq i.size n && Nat.ble i.bytes 32768
  | none => false
theorem OwnTy.of {P : Program} {t e : TypeId} {α : Type} [R : Rp α] (hu : P.underlying t = some (.slice e)) (h : tyB P e R.n R.agg = true) (hp : Nat.blt 0 R.n = true) (ho : ownB' P e R.n = true) : OwnTy P t e α := by
  refine ⟨hu, Ty.of h, by simpa using hp, ?_⟩
  unfold ownB' at ho
  cases h1 : P.info? e with
  | none => simp [h1] at ho
  | some i =>
    rw [h1] at ho
    cases h2 : i.zero with
    | none => simp [h2] at ho
    | some z =>
      simp only [h2, Bool.and_eq_true] at ho
      exact ⟨i, z, rfl, h2, Nat.eq_of_beq_eq_true ho.1.2, by simpa using ho.2, Nat.eq_of_beq_eq_true ho.1.1⟩
theorem ArrTy.of {P : Program} {t e : TypeId} {n : Nat} {α : Type} [R : Rp α] {z : α} {c : List Value} (hu : P.underlying t = some (.array n e)) (hb : Nat.ble 2 n = true) (h : tyB P e R.n R.agg = true)
    (hz : ((P.info? t).bind (·.zero)).map (fun v => v.cells.toList) = some ((List.replicate n c).flatten)) (hc : ∀ w, R.rel (fun _ => False) z c w) : ArrTy P t e n α z := by
  refine ⟨hu, hb, Ty.of h, ?_⟩
  cases h1 : P.info? t with
  | none => simp [h1] at hz
  | some i =>
    cases h2 : i.zero with
    | none => simp [h1, h2] at hz
    | some v =>
      simp [h1, h2] at hz
      exact ⟨i, v, c, rfl, h2, hz, hc⟩

theorem nil_rel {α : Type} [Rp α] {F : Nat → Prop} {w : World} : Rp.rel F ([] : List α) [.slice none 0 0] w := ⟨none, 0, rfl, Nat.le_refl _, fun _ => ⟨rfl, rfl⟩, fun _ h => by cases h⟩

theorem bnd_lt {n : Nat} {i : Int} {k : Nat} {m : Nat} (h : bnd n i = some k) (hm : m = n) : k < m := by
  have := bnd_some h; omega

theorem selim_l {α β γ : Type} {f : α → γ} {g : β → γ} {x : α} {r : γ} (h : Sum.elim f g (Sum.inl x) = r) : f x = r := h
theorem selim_r {α β γ : Type} {f : α → γ} {g : β → γ} {x : β} {r : γ} (h : Sum.elim f g (Sum.inr x) = r) : g x = r := h

section
variable {X : Cx} {G : List It}
theorem AllOk.nil {ops : Array Oper} {AH : List (List Nat × List Nat)} {fs : List Fact} {k : Nat} : AllOk X ops AH fs G [] k := trivial
theorem AllOk.cons {ops : Array Oper} {AH : List (List Nat × List Nat)} {fs : List Fact} {o : Oper} {l : List Oper} {k : Nat} (h : OpOk X ops (ctx ops AH fs G k) o (fOf fs k)) (hr : AllOk X ops AH fs G l (k + 1)) :
    AllOk X ops AH fs G (o :: l) k := ⟨h, hr⟩

theorem Has.ownM {α : Type} [R : Rp α] {x : Operand} {t : Nat} {te te' : List Nat} {e : TypeId} {l : List α} (h : Has G x (.own t te e l)) (hT : subB te te' = true) : Has G x (.own t te' e l) := fun a w g hf => by
  obtain ⟨xs, h1, h2, h3⟩ := h a w g hf
  exact ⟨xs, h1, RelL.stab (Nat.le_refl _) (fun b _ hb => ⟨rfl, subB_spec hT _ hb⟩) l xs h2, h3⟩
theorem Has.arrM {α : Type} [R : Rp α] {x : Operand} {t N : Nat} {te te' : List Nat} {l : List α} (h : Has G x (.arr t te N l)) (hT : subB te te' = true) : Has G x (.arr t te' N l) := fun a w g hf => by
  obtain ⟨b, ty, cs, h1, h2, h3, h4, h5⟩ := h a w g hf
  exact ⟨b, ty, cs, h1, h2, RelL.stab (Nat.le_refl _) (fun b _ hb => ⟨rfl, subB_spec hT _ hb⟩) l _ h3, h4, h5⟩

theorem HasEach.nil {α : Type} [Rp α] {T : List Nat} : HasEach G T [] ([] : List α) := trivial
theorem HasEach.cons {α : Type} [Rp α] {T : List Nat} {x : Operand} {xs : List Operand} {y : α} {ys : List α} (h : Has G x (Fact.rep T y)) (k : HasEach G T xs ys) : HasEach G T (x :: xs) (y :: ys) := ⟨h, k⟩

end
end GL
