/- Own library, part 28: structs in structs. -/
import Derived.Test.YtgjibgklailenaaCore27
namespace GL
open Go

/-- Two lists of parts of the same cells. -/
def FlatR (ls fl : Ls) : Prop := ∀ g w cs, FldRel g w ls cs ↔ FldRel g w fl cs
theorem FlatR.nil : FlatR [] [] := fun _ _ _ => Iff.rfl
theorem FlatR.cons {l : Bool × Nat × Fact} {ls fl : Ls} (h : FlatR ls fl) : FlatR (l :: ls) (l :: fl) := fun g w cs => by
  constructor
  · rintro ⟨c1, c2, h1, h2, h3, h4, h5, h6⟩; exact ⟨c1, c2, h1, h2, h3, h4, h5, (h g w c2).1 h6⟩
  · rintro ⟨c1, c2, h1, h2, h3, h4, h5, h6⟩; exact ⟨c1, c2, h1, h2, h3, h4, h5, (h g w c2).2 h6⟩
theorem FldRel.append {g : Gh} {w : World} : ∀ (l m : Ls) (cs : List Value), FldRel g w (l ++ m) cs ↔ ∃ c1 c2, cs = c1 ++ c2 ∧ FldRel g w l c1 ∧ FldRel g w m c2
  | [], m, cs => ⟨fun h => ⟨[], cs, rfl, rfl, h⟩, fun ⟨c1, c2, h1, h2, h3⟩ => by rw [show c1 = [] from h2] at h1; rw [h1]; exact h3⟩
  | a :: l, m, cs => by
    constructor
    · rintro ⟨c1, c2, h1, h2, h3, h4, h5, h6⟩
      obtain ⟨d1, d2, h7, h8, h9⟩ := (FldRel.append l m c2).1 h6
      exact ⟨c1 ++ d1, d2, by rw [h1, h7, List.append_assoc], ⟨c1, d1, rfl, h2, h3, h4, h5, h8⟩, h9⟩
    · rintro ⟨e1, e2, h1, ⟨c1, c2, k1, h2, h3, h4, h5, h6⟩, h9⟩
      exact ⟨c1, c2 ++ e2, by rw [h1, k1, List.append_assoc], h2, h3, h4, h5, (FldRel.append l m _).2 ⟨c2, e2, rfl, h6, h9⟩⟩
theorem FlatR.sub {inner inner' ls fl : Ls} {n : Nat} (hi : FlatR inner inner') (hn : lsN inner' = n) (h : FlatR ls fl) : FlatR ((true, n, .flds inner) :: ls) (inner' ++ fl) := fun g w cs => by
  constructor
  · rintro ⟨c1, c2, h1, h2, h3, h4, ⟨cs', h5, h5'⟩, h6⟩
    have : c1 = cs' := by
      simp only [mkV, if_true] at h5
      exact toA_inj (by injection h5)
    subst this
    exact (FldRel.append inner' fl cs).2 ⟨c1, c2, h1, (hi g w c1).1 h5', (h g w c2).1 h6⟩
  · intro hh
    obtain ⟨c1, c2, h1, h2, h3⟩ := (FldRel.append inner' fl cs).1 hh
    exact ⟨c1, c2, h1, by rw [h2.len]; exact hn, FldRel.one _ _ h2, (fun h => by cases h), ⟨c1, rfl, (hi g w c1).2 h2⟩, (h g w c2).2 h3⟩
theorem Cv.flat {G : List It} {ls fl : Ls} (h : FlatR ls fl) : Cv G (.flds ls) (.flds fl) := fun _ w g _ _ ⟨cs, hv, hr⟩ => ⟨cs, hv, (h g w cs).1 hr⟩
theorem Cv.unflat {G : List It} {ls fl : Ls} (h : FlatR ls fl) : Cv G (.flds fl) (.flds ls) := fun _ w g _ _ ⟨cs, hv, hr⟩ => ⟨cs, hv, (h g w cs).2 hr⟩

theorem FldRel.zs {g : Gh} {w : World} {inner ls : Ls} {c1 c2 : List Value} {n : Nat} (hi : FldRel g w inner c1) (k : FldRel g w ls c2) (hn : c1.length = n := by rfl) : FldRel g w ((true, n, .flds inner) :: ls) (c1 ++ c2) :=
  ⟨c1, c2, rfl, hn, FldRel.one _ _ hi, (fun h => by cases h), ⟨c1, rfl, hi⟩, k⟩

section
variable {X : Cx} {G : List It} {d : Option Nat} {ty : TypeId} {pos : String} {af : Array Edge} {gd : Option (Nat × Bool)}
theorem Spec.unflat {o : Oper} {ls fl : Ls} (h : FlatR ls fl) (k : Spec X G o (.flds fl)) : Spec X G o (.flds ls) := fun a w g hs hfr hg hf K Q hK =>
  k a w g hs hfr hg hf K Q (fun v w' ⟨h1, g', h2, h3, h4, ⟨cs, hv, hr⟩⟩ => hK v w' ⟨h1, g', h2, h3, h4, ⟨cs, hv, (h g' w' cs).2 hr⟩⟩)

/-- Some of the parts of a variable. -/
theorem PRel.append {g : Gh} : ∀ (a b : Ps) (t : Nat) (cs : List Value), PRel g t (a ++ b) cs ↔ ∃ c1 c2, cs = c1 ++ c2 ∧ PRel g t a c1 ∧ PRel g (t + a.length) b c2
  | [], b, t, cs => ⟨fun h => ⟨[], cs, rfl, rfl, h⟩, fun ⟨c1, c2, h1, h2, h3⟩ => by rw [show c1 = [] from h2] at h1; rw [h1]; exact h3⟩
  | l :: a, b, t, cs => by
    have e : t + (l :: a).length = t + 1 + a.length := by simp; omega
    constructor
    · rintro ⟨c1, c2, h1, h2, h3, h4, h5, h6⟩
      obtain ⟨d1, d2, h7, h8, h9⟩ := (PRel.append a b (t + 1) c2).1 h6
      exact ⟨c1 ++ d1, d2, by rw [h1, h7, List.append_assoc], ⟨c1, d1, rfl, h2, h3, h4, h5, h8⟩, by rw [e]; exact h9⟩
    · rintro ⟨e1, e2, h1, ⟨c1, c2, k1, h2, h3, h4, h5, h6⟩, h9⟩
      exact ⟨c1, c2 ++ e2, by rw [h1, k1, List.append_assoc], h2, h3, h4, h5, (PRel.append a b (t + 1) _).2 ⟨c2, e2, rfl, h6, by rw [← e]; exact h9⟩⟩

theorem Spec.loadParts {x : Operand} {e : TypeId} {α : Type} [R : Rp α] {t i off : Nat} {a b ps : Ps} {ls : Ls} (hty : Ty X.P e α) (hag : R.agg = true) (hps : a ++ lsPs ls ++ b = ps) (hi : a.length = i) (ho' : psN a = off) (hn : lsN ls = R.n) (hx : Has G x (.pto t off))
    (ho : look G (rs t) = some (.obj t ps)) (hf : HasGs G (t + 1 + i) ls) : Spec X G ⟨d, .load e x, ty, pos, af, gd⟩ (.flds ls) :=
  Spec.pure fun ac w g hfa => by
    subst hps hi ho'
    obtain ⟨b0, hb, hv⟩ := hx ac w g hfa
    obtain ⟨b', ty', cs, h1, h2, h3, h4⟩ := hfa _ _ ho
    rw [h1] at hb
    simp only [ownB, Option.some.injEq] at hb
    subst hb
    rw [List.append_assoc] at h4
    obtain ⟨c1, c2, e1, k1, k2⟩ := (PRel.append _ _ _ _).1 h4
    obtain ⟨c3, c4, e2, k3, k4⟩ := (PRel.append _ _ _ _).1 k2
    have h5 := k3.flds hfa ls _ _ hf
    have hl := h5.len
    have hl1 := k1.len
    refine ⟨mkV R.agg c3, ?_, c3, by rw [hag]; rfl, h5⟩
    have hc : CellsAt w ⟨b', psN a, none⟩ c3 := fun j u hj => by
      have hjl : j < c3.length := (List.getElem?_eq_some_iff.1 hj).1
      rw [Go.Addr.add_lit]
      refine ⟨?_, frozen_of_row w b' _ cs ty' h2⟩
      rw [cell_of_row w b' _ cs ty' (0, 0) h2]
      have h6 : cs.toList[psN a + j]? = some u := by
        rw [e1, e2, List.getElem?_append_right (by omega), hl1, Nat.add_sub_cancel_left, List.getElem?_append_left hjl]; exact hj
      simpa using h6
    unfold execOp
    simp [hv, Instr.loadAt, Instr.sureAddr, run_loadVar_cells hty hc (by rw [hl, hn])]
end
end GL
