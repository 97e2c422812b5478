/- Own library, part 22: literals of small arrays. -/
import Derived.Test.YtgjibgklailenaaCore21
namespace GL
open Go

theorem fill_mono {p q : Nat → Option (Nat × Nat)} (h : ∀ i x, p i = some x → q i = some x) : ∀ (us : List (Nat × Value)) (cs r : Array Value), Instr.fill p cs us = some r → Instr.fill q cs us = some r
  | [], _, _, hr => hr
  | (i, v) :: us, cs, r, hr => by
    simp only [Instr.fill] at hr ⊢
    cases hp : p i with
    | none => simp [hp] at hr
    | some x =>
      rw [h i x hp]
      simp only [hp] at hr
      simp only
      split at hr
      · cases hr
      · rename_i hne
        rw [if_neg hne]
        exact fill_mono h us _ r hr

section
variable {X : Cx} {G : List It} {d : Option Nat} {ty : TypeId} {pos : String} {af : Array Edge} {gd : Option (Nat × Bool)}
theorem Spec.buildA {t : TypeId} {pl : List (Nat × Nat)} {ls ls' : Ls} {us : List (Nat × Operand)} {ua : Array (Nat × Operand)} (ht : BuildTyA X.P t pl ls) (hu : ua = us.toArray) (h : BP G pl ls us ls') :
    Spec X G ⟨d, .build t ua, ty, pos, af, gd⟩ (.flds ls') :=
  Spec.pure fun a w g hf => by
    obtain ⟨it, e, n, ie, zv, zc, h1, h2, h3, h3', h4, h5, h6⟩ := ht.h
    obtain ⟨cs', k1, k2⟩ := h a w g hf zc (h5 g w)
    refine ⟨.agg cs'.toArray, ?_, cs', rfl, k2⟩
    unfold execOp
    have hb : X.P.built t ((ua.map fun (i, x) => (i, a.eval x)).toList) = some cs'.toArray := by
      unfold Program.built
      simp only [h1, h2, h3, h3', h4]
      have := fill_mono (q := fun i => some (i * ie.size, ie.size)) (fun i x hx => by rw [h6 i x (by simpa using hx)]) _ _ _ k1
      rw [← this, hu]
      simp
    simp only [Sem.run_bind, run_build w t _ _ hb, Result.andThen_ok]
    simp
end
end GL
