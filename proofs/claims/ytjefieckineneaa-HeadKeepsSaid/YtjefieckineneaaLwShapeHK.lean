/- Plain law: configs. -/
import Derived.Test.YtjefieckineneaaGhk3
namespace Go.Proofs.Ytjefieckineneaa
open Go GL

theorem fuel_lt {n : Nat} (h : n < 4294967296) : n < FUEL := by unfold FUEL; omega

/-- A loop over a list, that leaves where an element has p. -/
theorem loop_any_list {α B : Type} (l : List α) (p : α → Bool) {step : Int → Option (Ctl Int B)} (yes no : B) (hl : l.length < 4294967296)
    (h1 : ∀ k (hk : k < l.length), step (k : Int) = some (bif p l[k] then .brk yes else .next ((k + 1 : Nat) : Int))) (h2 : step (l.length : Int) = some (.brk no)) :
    loopM step FUEL (0 : Int) = some (bif l.any p then yes else no) := by
  have := loop_any (step := step) (fun k => (k : Int)) l.length (fun k => (l[k]?.map p).getD false) yes no (fuel_lt hl) (fun k hk => by
    rw [h1 k hk]; simp [hk]) h2
  rw [any_range l p _ (fun k hk => by simp [hk])] at this
  simpa using this

def outB (r : Arr3_Int) : Bool := decide (r.e0 < r.e1) || decide (r.e0 > r.e2)
theorem bounds_eq (l : List Arr3_Int) (hl : l.length < 4294967296) : shape_bounds l = some (!(l.any outB)) := by
  unfold shape_bounds
  rw [loop_any_list l outB (Sum.inr ()) (Sum.inl ()) hl]
  · cases h : l.any outB <;> simp
  · intro k hk
    unfold shape_bounds_L1
    rw [show decide ((k : Int) < (l.length : Int)) = true by simp; omega, idx_nat, List.getElem?_eq_getElem hk, wI_succ (by omega)]
    simp only [cond_true, Option.bind_some, outB]
    cases (decide (l[k].e0 < l[k].e1) || decide (l[k].e0 > l[k].e2)) <;> rfl
  · unfold shape_bounds_L1
    simp

/-- Configs that may be. -/
def MayC (c : Config) : Prop := (3 ≤ c.Members ∧ c.Members ≤ 16) ∧ (1 ≤ c.Chunk ∧ c.Chunk ≤ 8) ∧ (1 ≤ c.Rows ∧ c.Rows ≤ 8) ∧ (2 ≤ c.Heads ∧ c.Heads ≤ 8) ∧ (c.Members + 1) * (c.Heads + 1) ≤ c.Log ∧ c.Log ≤ 255
def mayC (c : Config) : Bool := ((decide (3 ≤ c.Members) && decide (c.Members ≤ 16)) && (decide (1 ≤ c.Chunk) && decide (c.Chunk ≤ 8))) && ((decide (1 ≤ c.Rows) && decide (c.Rows ≤ 8)) && ((decide (2 ≤ c.Heads) && decide (c.Heads ≤ 8)) && (decide ((c.Members + 1) * (c.Heads + 1) ≤ c.Log) && decide (c.Log ≤ 255))))
theorem mayC_iff (c : Config) : mayC c = true ↔ MayC c := by simp [mayC, MayC, and_assoc]
theorem mayC_f {c : Config} (h : ¬ MayC c) : mayC c = false := by rw [← mayC_iff] at h; simpa using h

theorem wI_need {c : Config} (h1 : 3 ≤ c.Members ∧ c.Members ≤ 16) (h2 : 2 ≤ c.Heads ∧ c.Heads ≤ 8) : wI ((wI (c.Members + 1)) * (wI (c.Heads + 1))) = (c.Members + 1) * (c.Heads + 1) := by
  rw [wI_id (x := c.Members + 1) (by omega) (by omega), wI_id (x := c.Heads + 1) (by omega) (by omega)]
  have h3 : (c.Members + 1) * (c.Heads + 1) ≤ 17 * 9 := Int.mul_le_mul (by omega) (by omega) (by omega) (by omega)
  have h4 : 0 ≤ (c.Members + 1) * (c.Heads + 1) := Int.mul_nonneg (by omega) (by omega)
  exact wI_id (by omega) (by omega)
theorem check_eq (c : Config) : shape_Check c = some (bif mayC c then 0 else 8) := by
  unfold shape_Check
  rw [bounds_eq _ (by simp)]
  simp only [Option.bind_some, List.any_cons, List.any_nil, Bool.or_false, outB]
  by_cases h : (3 ≤ c.Members ∧ c.Members ≤ 16) ∧ (1 ≤ c.Chunk ∧ c.Chunk ≤ 8) ∧ (1 ≤ c.Rows ∧ c.Rows ≤ 8) ∧ (2 ≤ c.Heads ∧ c.Heads ≤ 8)
  · obtain ⟨h1, h2, h3, h4⟩ := h
    have hb : (decide (c.Members < 3) || decide (c.Members > 16) || ((decide (c.Chunk < 1) || decide (c.Chunk > 8)) || ((decide (c.Rows < 1) || decide (c.Rows > 8)) || (decide (c.Heads < 2) || decide (c.Heads > 8))))) = false := by simp; omega
    rw [hb]
    simp only [gO, Bool.not_false, Bool.not_true, Bool.false_or, cond_true]
    rw [bounds_eq _ (by simp)]
    simp only [Option.bind_some, List.any_cons, List.any_nil, Bool.or_false, outB, wI_need h1 h4]
    by_cases h5 : (c.Members + 1) * (c.Heads + 1) ≤ c.Log ∧ c.Log ≤ 255
    · rw [(mayC_iff c).2 ⟨h1, h2, h3, h4, h5⟩]
      have : (decide (c.Log < (c.Members + 1) * (c.Heads + 1)) || decide (c.Log > 255)) = false := by simp; omega
      rw [this]; rfl
    · rw [mayC_f (fun h => h5 h.2.2.2.2)]
      have : (decide (c.Log < (c.Members + 1) * (c.Heads + 1)) || decide (c.Log > 255)) = true := by simp; omega
      rw [this]; rfl
  · have hb : (decide (c.Members < 3) || decide (c.Members > 16) || ((decide (c.Chunk < 1) || decide (c.Chunk > 8)) || ((decide (c.Rows < 1) || decide (c.Rows > 8)) || (decide (c.Heads < 2) || decide (c.Heads > 8))))) = true := by simp; omega
    rw [hb, mayC_f (fun hm => h ⟨hm.1, hm.2.1, hm.2.2.1, hm.2.2.2.1⟩)]
    rfl
theorem wI_str {c : Config} (h : MayC c) : wI (c.Chunk * c.Rows) = c.Chunk * c.Rows ∧ 1 ≤ c.Chunk * c.Rows ∧ c.Chunk * c.Rows ≤ 64 := by
  obtain ⟨_, h2, h3, _⟩ := h
  have h4 : c.Chunk * c.Rows ≤ 8 * 8 := Int.mul_le_mul (by omega) (by omega) (by omega) (by omega)
  have h5 : 1 * 1 ≤ c.Chunk * c.Rows := Int.mul_le_mul (by omega) (by omega) (by omega) (by omega)
  exact ⟨wI_id (by omega) (by omega), by omega, by omega⟩
theorem stripes_eq (c : Config) : shape_Stripes c = some (bif mayC c then (c.Chunk * c.Rows, 0) else (0, 8)) := by
  unfold shape_Stripes shape_told
  rw [check_eq]
  cases h : mayC c with
  | true => simp [(wI_str ((mayC_iff c).1 h)).1]
  | false => simp
end Go.Proofs.Ytjefieckineneaa
