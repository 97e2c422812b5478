/- Plain law of the folding functions, part 2: the references and the laws. -/
import Derived.Test.YtfilegnndamngaaLw03AT
namespace Go.Proofs.Ytfilegnndamngaa
open Go GL

theorem FUEL_gt {n : Nat} (h : n ≤ 9223372036854775807) : n < FUEL := by unfold FUEL; omega

def GreatS (l : List (List UInt8)) : Bool := decide (300 < l.length) || l.any fun b => decide (1000 < b.length)

theorem great_false {l : List (List UInt8)} (h : GreatS l = false) : l.length ≤ 300 ∧ ∀ b ∈ l, b.length ≤ 1000 := by
  unfold GreatS at h
  simp at h
  exact ⟨h.1, fun b hb => by have := h.2 b hb; omega⟩

theorem blockB_len {b : List UInt8} (h : blockB b = true) : b.length = 0 ∨ b.length = 128 := by
  unfold blockB at h
  simpa using h

theorem whole_eq {b : List UInt8} (h : blockB b = true) : ref02_Whole b = some (padL b) := by
  have hb := blockB_len h
  unfold ref02_Whole
  rw [show (128 : Int) = ((128 : Nat) : Int) from rfl, makeL_some _ _ (by omega)]
  simp only [Option.bind_some]
  have hp := padL_len h
  have := loop_map (step := fun s : Int × (List UInt8) => ref02_Whole_L1 b s.1 s.2) (padL b) (List.replicate 128 0) b.length (padL b) (FUEL_gt (by omega)) (fun k hk => by
    obtain ⟨x, hx⟩ : ∃ x, b[k]? = some x := ⟨_, List.getElem?_eq_getElem hk⟩
    have hpx : (padL b)[k]? = some x := by unfold padL; rw [if_neg (by omega)]; exact hx
    unfold ref02_Whole_L1
    simp only [decide_eq_true (show (k : Int) < (b.length : Int) by omega), cond_true, idx_nat, hx, Option.bind_some, wI_succ (show k < 9223372036854775807 by omega)]
    rw [mix_len _ _ _ (by simp [hp]), bnd_nat (by simp; omega)]
    simp only [Option.bind_some]
    rw [mix_set _ _ _ (by simp [hp]) _ hpx]) (by
    unfold ref02_Whole_L1
    rw [decide_eq_false (by omega)]
    simp only [cond_false]
    congr 2
    rcases hb with hb | hb
    · rw [hb]; simp [padL, hb]
    · rw [hb]; exact mix_end _ _ 128 hp (by simp))
  rw [this]; rfl

theorem two_eq {a b : List UInt8} (ha : blockB a = true) (h : blockB b = true) : ref03_Two a b = some (xorL (padL a) (padL b)) := by
  have hb := blockB_len h
  unfold ref03_Two
  rw [whole_eq ha]
  simp only [Option.bind_some]
  have hpa := padL_len ha
  have hpb := padL_len h
  have hr : (xorL (padL a) (padL b)).length = 128 := by rw [xorL_len]; omega
  have := loop_run (step := fun s : (List UInt8) × Int => ref03_Two_L1 b s.1 s.2) (fun k => ((xorL (padL a) (padL b)).take k ++ (padL a).drop k, (k : Int))) b.length (xorL (padL a) (padL b)) (FUEL_gt (by omega)) (fun k hk => by
    obtain ⟨x, hx⟩ : ∃ x, b[k]? = some x := ⟨_, List.getElem?_eq_getElem hk⟩
    have hpx : (padL b)[k]? = some x := by rw [show padL b = b from if_neg (by omega)]; exact hx
    obtain ⟨y, hy⟩ : ∃ y, (padL a)[k]? = some y := ⟨_, List.getElem?_eq_getElem (by omega)⟩
    unfold ref03_Two_L1
    simp only [decide_eq_true (show (k : Int) < (b.length : Int) by omega), cond_true, idx_nat, hx, Option.bind_some, wI_succ (show k < 9223372036854775807 by omega)]
    rw [mix_len _ _ _ (by omega), bnd_nat (by omega)]
    simp only [Option.bind_some]
    rw [mix_get _ _ _ (by omega), hy]
    simp only [Option.bind_some]
    rw [mix_set _ _ _ (by omega) _ (xorL_get hy hpx)]) (by
    unfold ref03_Two_L1
    rw [decide_eq_false (by omega)]
    simp only [cond_false]
    congr 2
    rcases hb with hb | hb
    · rw [hb]; simp only [List.take_zero, List.drop_zero, List.nil_append]
      rw [show padL b = List.replicate 128 0 from if_pos hb, xorL_zero hpa]
    · rw [hb]; exact mix_end _ _ 128 hr hpa)
  have h0 : (padL a, (0 : Int)) = (fun k : Nat => ((xorL (padL a) (padL b)).take k ++ (padL a).drop k, (k : Int))) 0 := by simp
  rw [h0, this]; rfl

theorem all_eq {l : List (List UInt8)} (hl : l.length ≤ 9223372036854775807) (h : l.all blockB = true) : ref03_All l = some (foldS l) := by
  have h := List.all_eq_true.1 h
  unfold ref03_All
  rw [show (128 : Int) = ((128 : Nat) : Int) from rfl, makeL_some _ _ (by omega)]
  simp only [Option.bind_some]
  have := loop_run (step := fun s : (List UInt8) × Int => ref03_All_L1 l s.1 s.2) (fun k => (foldS (l.take k), (k : Int))) l.length (foldS l) (FUEL_gt (by omega)) (fun k hk => by
    obtain ⟨x, hx⟩ : ∃ x, l[k]? = some x := ⟨_, List.getElem?_eq_getElem hk⟩
    have hbx := h x (List.mem_of_getElem? hx)
    have hl128 := foldS_len (l.take k) (fun b hb => h b (List.mem_of_mem_take hb))
    unfold ref03_All_L1
    simp only [decide_eq_true (show (k : Int) < (l.length : Int) by omega), cond_true, idx_nat, hx, Option.bind_some, wI_succ (show k < 9223372036854775807 by omega)]
    rw [two_eq (by simp [blockB, hl128]) hbx, take_succ_get _ _ _ hx, foldS_snoc]
    rw [show padL (foldS (l.take k)) = foldS (l.take k) from if_neg (by omega)]
    rfl) (by
    unfold ref03_All_L1
    rw [decide_eq_false (by omega), List.take_length]; rfl)
  have h0 : ((List.replicate 128 (0 : UInt8)), (0 : Int)) = (fun k : Nat => (foldS (l.take k), (k : Int))) 0 := by simp [foldS]
  rw [h0, this]; rfl

end Go.Proofs.Ytfilegnndamngaa
