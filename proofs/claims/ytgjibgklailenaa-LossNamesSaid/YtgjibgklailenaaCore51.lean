/- Own library, part 51: array variables as results, arrays built of parts. -/
import Derived.Test.YtgjibgklailenaaCore50
namespace GL
open Go

theorem HasR.arr {P : Program} {G : List It} {p : Nat} {e : TypeId} {α : Type} [R : Rp α] {t N : Nat} {te : List Nat} {l : List α} (hty : Ty P e (ArrV N α)) (hx : Has G (.tmp p) (.isv t)) (ho : look G (rs t) = some (.arr t te N l)) :
    HasR P G (.cell p e) (Fact.rep te (ArrV.mk l : ArrV N α)) := fun a w g hfa => by
  have hv : a.tmps.getD p undef = g.ga t := hx a w g hfa
  obtain ⟨b, ty', cs, hp, hh, hrel, hom, hl⟩ := hfa _ _ ho
  have hc : CellsAt w ⟨b, 0, none⟩ cs.toList := fun j u hj => by
    rw [Go.Addr.add_lit, Nat.zero_add]
    refine ⟨?_, frozen_of_row w b _ cs ty' hh⟩
    rw [cell_of_row w b _ cs ty' (0, 0) hh, ← Array.getElem?_toList]
    exact hj
  have hr : (inferInstance : Rp (ArrV N α)).rel (fun b => g.om b ∈ te) (ArrV.mk l) cs.toList w := ⟨hl, hrel⟩
  refine ⟨mkV true cs.toList, ?_, cs.toList, hr, rfl⟩
  unfold resOne
  simp only [hv, hp, asAddr, Sem.run_bind, Sem.run_pure, Result.andThen_ok]
  exact run_loadVar_rel hty hc hr

def ArrFl {α : Type} [R : Rp α] : Ls → List α → Prop
  | [], [] => True
  | l :: ls, x :: xs => l.1 = false ∧ l.2.1 = 1 ∧ (∃ T, l.2.2 = Fact.rep T x) ∧ ArrFl ls xs
  | _, _ => False
theorem ArrFl.nil {α : Type} [R : Rp α] : ArrFl [] ([] : List α) := trivial
theorem ArrFl.cons {α : Type} [R : Rp α] {T : List Nat} {x : α} {ls : Ls} {xs : List α} (k : ArrFl ls xs) : ArrFl ((false, 1, Fact.rep T x) :: ls) (x :: xs) := ⟨rfl, rfl, ⟨T, rfl⟩, k⟩
theorem ArrFl.rel {α : Type} [R : Rp α] [Fl : Flat α] (ha : R.agg = false) (hn : R.n = 1) {g : Gh} {w : World} {F : Nat → Prop} : ∀ (ls : Ls) (xs : List α) (cs : List Value), ArrFl ls xs → FldRel g w ls cs → RelL F xs cs w
  | [], [], cs, _, h => h
  | [], _ :: _, _, h, _ => h.elim
  | _ :: _, [], _, h, _ => h.elim
  | l :: ls, x :: xs, cs, ⟨h1, h2, ⟨T, h3⟩, h4⟩, ⟨c1, c2, hcs, hl, _, _, hp, hr⟩ => by
    rw [h2] at hl
    obtain ⟨c, rfl⟩ := List.length_eq_one_iff.1 hl
    rw [h3, h1] at hp
    obtain ⟨es, hes, he⟩ := hp
    have hel := R.len _ _ _ _ hes
    rw [hn] at hel
    obtain ⟨d, rfl⟩ := List.length_eq_one_iff.1 hel
    rw [ha] at he
    have hcd : c = d := he
    subst hcd
    exact ⟨[c], c2, hcs, Flat.flat _ _ _ _ _ _ hes, ArrFl.rel ha hn ls xs c2 h4 hr⟩
theorem Cv.fldsArr {G : List It} {α : Type} [R : Rp α] [Fl : Flat α] {N : Nat} {ls : Ls} {xs : List α} (ha : R.agg = false) (hn : R.n = 1) (h : ArrFl ls xs) (hN : xs.length = N) : Cv G (.flds ls) (Fact.rep [] (ArrV.mk xs : ArrV N α)) := fun a w g v _ hp => by
  obtain ⟨cs, hv, hr⟩ := hp
  exact ⟨cs, ⟨hN, ArrFl.rel ha hn ls xs cs h hr⟩, hv⟩
end GL
