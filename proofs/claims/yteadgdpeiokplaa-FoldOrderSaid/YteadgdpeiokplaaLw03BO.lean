/- Plain law of the folding functions, part 2: the references and the laws. -/
import Derived.Test.YteadgdpeiokplaaLw03AO
namespace Go.Proofs.Yteadgdpeiokplaa
open Go GL

theorem FUEL_gt {n : Nat} (h : n ≤ 9223372036854775807) : n < FUEL := by unfold FUEL; omega

def GreatS (l : List (List UInt8)) : Bool := decide (300 < l.length) || l.any fun b => decide (1000 < b.length)

theorem great_eq (l : List (List UInt8)) (hl : l.length ≤ 9223372036854775807) : ref03_Great l = some (GreatS l) := by
  unfold ref03_Great GreatS
  by_cases h : 300 < l.length
  · rw [decide_eq_true (show (l.length : Int) > 300 by omega), decide_eq_true h]; rfl
  · rw [decide_eq_false (show ¬(l.length : Int) > 300 by omega), decide_eq_false h]
    have := loop_any (step := fun s : Int => ref03_Great_L1 l s) (fun k => (k : Int)) l.length (fun k => (l[k]?.map (fun b => decide (1000 < b.length))).getD false) (Sum.inr ()) (Sum.inl ()) (FUEL_gt hl) (fun k hk => by
      obtain ⟨x, hx⟩ : ∃ x, l[k]? = some x := ⟨_, List.getElem?_eq_getElem hk⟩
      unfold ref03_Great_L1
      simp only [decide_eq_true (show (k : Int) < (l.length : Int) by omega), cond_true, idx_nat, hx, Option.bind_some, wI_succ (show k < 9223372036854775807 by omega), Option.map_some, Option.getD_some]
      rw [show decide ((x.length : Int) > 1000) = decide (1000 < x.length) from decide_eq_decide.2 (by omega)]
      cases decide (1000 < x.length) <;> rfl) (by
      unfold ref03_Great_L1
      rw [decide_eq_false (by omega)]; rfl)
    simp only [cond_false, Bool.false_or]
    erw [this]
    rw [any_range l (fun b => decide (1000 < b.length)) _ (fun k hk => by simp [List.getElem?_eq_getElem hk])]
    cases l.any fun b => decide (1000 < b.length) <;> rfl

theorem great_false {l : List (List UInt8)} (h : GreatS l = false) : l.length ≤ 300 ∧ ∀ b ∈ l, b.length ≤ 1000 := by
  unfold GreatS at h
  simp at h
  exact ⟨h.1, fun b hb => by have := h.2 b hb; omega⟩

theorem blockB_len {b : List UInt8} (h : blockB b = true) : b.length = 0 ∨ b.length = 128 := by
  unfold blockB at h
  simpa using h

end Go.Proofs.Yteadgdpeiokplaa
