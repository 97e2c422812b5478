/- Plain law of the folding functions, part 2: the references and the laws. -/
import Derived.Test.YteadgdpeiokplaaLw03A
namespace Go.Proofs.Yteadgdpeiokplaa
open Go GL

theorem FUEL_gt {n : Nat} (h : n ≤ 9223372036854775807) : n < FUEL := by unfold FUEL; omega

def GreatS (l : List (List UInt8)) : Bool := decide (300 < l.length) || l.any fun b => decide (1000 < b.length)

theorem great_eq (l : List (List UInt8)) (hl : l.length ≤ 9223372036854775807) : ref03_Great l = some (GreatS l) := by
  unfold ref03_Great GreatS
  by_cases h : 300 < l.length
  · rw [decide_eq_true (show (l.length : Int) > 300 by omega), decide_eq_true h]; rfl
  · rw [decide_eq_false (show ¬(l.length : Int) > 300 by omega), decide_eq_false h]
    have := loop_any (step := fun s : Int => ref03_Great_L1 l s) (fun k => (k : Int)) l.length (fun k => (l[k]?.map (fun b => decide (1000 < b.length))).getD false) (Sum.inr true) (Sum.inl ()) (FUEL_gt hl) (fun k hk => by
      obtain ⟨x, hx⟩ : ∃ x, l[k]? = some x := ⟨_, List.getElem?_eq_getElem hk⟩
      unfold ref03_Great_L1
      simp only [decide_eq_true (show (k : Int) < (l.length : Int) by omega), cond_true, idx_nat, hx, Option.bind_some, wI_succ (show k < 9223372036854775807 by omega), Option.map_some, Option.getD_some]
      rw [show decide ((x.length : Int) > 1000) = decide (1000 < x.length) from decide_eq_decide.2 (by omega)]
      cases decide (1000 < x.length) <;> rfl) (by
      unfold ref03_Great_L1
      rw [decide_eq_false (by omega)]; rfl)
    simp only [cond_false, Bool.false_or]
    erw [this]
    rw [any_range l (fun b => decide (1000 < b.length)) _ (fun k hk => by simp [List.getElem?_eq_getElem hk])]
    cases l.any fun b => decide (1000 < b.length) <;> rfl

theorem great_false {l : List (List UInt8)} (h : GreatS l = false) : l.length ≤ 300 ∧ ∀ b ∈ l, b.length ≤ 1000 := by
  unfold GreatS at h
  simp at h
  exact ⟨h.1, fun b hb => by have := h.2 b hb; omega⟩

theorem twin_eq {l : List (List UInt8)} (h : GreatS l = false) : ref03_Twin l = some l := by
  obtain ⟨h1, h2⟩ := great_false h
  unfold ref03_Twin
  have := loop_run (step := fun s : Int × (List (List UInt8)) => ref03_Twin_L1 l s.1 s.2) (fun k => ((k : Int), l.take k)) l.length l (FUEL_gt (by omega)) (fun k hk => by
    obtain ⟨x, hx⟩ : ∃ x, l[k]? = some x := ⟨_, List.getElem?_eq_getElem hk⟩
    have hxl := h2 x (List.mem_of_getElem? hx)
    unfold ref03_Twin_L1
    simp only [decide_eq_true (show (k : Int) < (l.length : Int) by omega), cond_true, idx_nat, hx, Option.bind_some, wI_succ (show k < 9223372036854775807 by omega)]
    rw [app_some _ _ (by simp; omega)]
    simp only [Option.bind_some, List.nil_append]
    rw [app_some _ _ (by simp; omega), take_succ_get _ _ _ hx]
    rfl) (by
    unfold ref03_Twin_L1
    rw [decide_eq_false (by omega), List.take_length]; rfl)
  have h0 : ((0 : Int), ([] : List (List UInt8))) = (fun k : Nat => ((k : Int), l.take k)) 0 := by simp
  rw [h0, this]; rfl

theorem block_eq (b : List UInt8) : ref02_Block b = some (blockB b) := by
  unfold ref02_Block blockB
  congr 1
  rw [Bool.eq_iff_iff]; simp only [Bool.or_eq_true, beq_iff_eq]; omega

theorem blocks_eq (l : List (List UInt8)) (hl : l.length ≤ 9223372036854775807) : ref03_Blocks l = some (l.all blockB) := by
  unfold ref03_Blocks
  have := loop_any (step := fun s : Int => ref03_Blocks_L1 l s) (fun k => (k : Int)) l.length (fun k => (l[k]?.map (fun b => !blockB b)).getD false) (Sum.inr ()) (Sum.inl ()) (FUEL_gt hl) (fun k hk => by
      obtain ⟨x, hx⟩ : ∃ x, l[k]? = some x := ⟨_, List.getElem?_eq_getElem hk⟩
      unfold ref03_Blocks_L1
      simp only [decide_eq_true (show (k : Int) < (l.length : Int) by omega), cond_true, idx_nat, hx, Option.bind_some, wI_succ (show k < 9223372036854775807 by omega), Option.map_some, Option.getD_some, block_eq]
      cases blockB x <;> rfl) (by
      unfold ref03_Blocks_L1
      rw [decide_eq_false (by omega)]; rfl)
  erw [this]
  rw [any_range l (fun b => !blockB b) (fun k => (l[k]?.map (fun b => !blockB b)).getD false) (fun k hk => by show _ = !blockB l[k]; simp only [List.getElem?_eq_getElem hk, Option.map_some, Option.getD_some])]
  rw [List.all_eq_not_any_not]
  cases l.any fun b => !blockB b <;> rfl

theorem blockB_len {b : List UInt8} (h : blockB b = true) : b.length = 0 ∨ b.length = 128 := by
  unfold blockB at h
  simpa using h

theorem whole_eq {b : List UInt8} (h : blockB b = true) : ref02_Whole b = some (padL b) := by
  have hb := blockB_len h
  unfold ref02_Whole
  rw [show (128 : Int) = ((128 : Nat) : Int) from rfl, makeL_some _ _ (by omega)]
  simp only [Option.bind_some]
  have hp := padL_len h
  have := loop_map (step := fun s : Int × (List UInt8) => ref02_Whole_L1 b s.1 s.2) (padL b) (List.replicate 128 0) b.length (padL b) (FUEL_gt (by omega)) (fun k hk => by
    obtain ⟨x, hx⟩ : ∃ x, b[k]? = some x := ⟨_, List.getElem?_eq_getElem hk⟩
    have hpx : (padL b)[k]? = some x := by unfold padL; rw [if_neg (by omega)]; exact hx
    unfold ref02_Whole_L1
    simp only [decide_eq_true (show (k : Int) < (b.length : Int) by omega), cond_true, idx_nat, hx, Option.bind_some, wI_succ (show k < 9223372036854775807 by omega)]
    rw [mix_len _ _ _ (by simp [hp]), bnd_nat (by simp; omega)]
    simp only [Option.bind_some]
    rw [mix_set _ _ _ (by simp [hp]) _ hpx]) (by
    unfold ref02_Whole_L1
    rw [decide_eq_false (by omega)]
    simp only [cond_false]
    congr 2
    rcases hb with hb | hb
    · rw [hb]; simp [padL, hb]
    · rw [hb]; exact mix_end _ _ 128 hp (by simp))
  rw [this]; rfl

theorem two_eq {a b : List UInt8} (ha : blockB a = true) (h : blockB b = true) : ref03_Two a b = some (xorL (padL a) (padL b)) := by
  have hb := blockB_len h
  unfold ref03_Two
  rw [whole_eq ha]
  simp only [Option.bind_some]
  have hpa := padL_len ha
  have hpb := padL_len h
  have hr : (xorL (padL a) (padL b)).length = 128 := by rw [xorL_len]; omega
  have := loop_map (step := fun s : Int × (List UInt8) => ref03_Two_L1 b s.1 s.2) (xorL (padL a) (padL b)) (padL a) b.length (xorL (padL a) (padL b)) (FUEL_gt (by omega)) (fun k hk => by
    obtain ⟨x, hx⟩ : ∃ x, b[k]? = some x := ⟨_, List.getElem?_eq_getElem hk⟩
    have hpx : (padL b)[k]? = some x := by rw [show padL b = b from if_neg (by omega)]; exact hx
    obtain ⟨y, hy⟩ : ∃ y, (padL a)[k]? = some y := ⟨_, List.getElem?_eq_getElem (by omega)⟩
    unfold ref03_Two_L1
    simp only [decide_eq_true (show (k : Int) < (b.length : Int) by omega), cond_true, idx_nat, hx, Option.bind_some, wI_succ (show k < 9223372036854775807 by omega)]
    rw [mix_len _ _ _ (by omega), bnd_nat (by omega)]
    simp only [Option.bind_some]
    rw [mix_get _ _ _ (by omega), hy]
    simp only [Option.bind_some]
    rw [mix_set _ _ _ (by omega) _ (xorL_get hy hpx)]) (by
    unfold ref03_Two_L1
    rw [decide_eq_false (by omega)]
    simp only [cond_false]
    congr 2
    rcases hb with hb | hb
    · rw [hb]; simp only [List.take_zero, List.drop_zero, List.nil_append]
      rw [show padL b = List.replicate 128 0 from if_pos hb, xorL_zero hpa]
    · rw [hb]; exact mix_end _ _ 128 hr hpa)
  rw [this]; rfl

theorem all_eq {l : List (List UInt8)} (hl : l.length ≤ 9223372036854775807) (h : l.all blockB = true) : ref03_All l = some (foldS l) := by
  have h := List.all_eq_true.1 h
  unfold ref03_All
  rw [show (128 : Int) = ((128 : Nat) : Int) from rfl, makeL_some _ _ (by omega)]
  simp only [Option.bind_some]
  have := loop_run (step := fun s : (List UInt8) × Int => ref03_All_L1 l s.1 s.2) (fun k => (foldS (l.take k), (k : Int))) l.length (foldS l) (FUEL_gt (by omega)) (fun k hk => by
    obtain ⟨x, hx⟩ : ∃ x, l[k]? = some x := ⟨_, List.getElem?_eq_getElem hk⟩
    have hbx := h x (List.mem_of_getElem? hx)
    have hl128 := foldS_len (l.take k) (fun b hb => h b (List.mem_of_mem_take hb))
    unfold ref03_All_L1
    simp only [decide_eq_true (show (k : Int) < (l.length : Int) by omega), cond_true, idx_nat, hx, Option.bind_some, wI_succ (show k < 9223372036854775807 by omega)]
    rw [two_eq (by simp [blockB, hl128]) hbx, take_succ_get _ _ _ hx, foldS_snoc]
    rw [show padL (foldS (l.take k)) = foldS (l.take k) from if_neg (by omega)]
    rfl) (by
    unfold ref03_All_L1
    rw [decide_eq_false (by omega), List.take_length]; rfl)
  have h0 : ((List.replicate 128 (0 : UInt8)), (0 : Int)) = (fun k : Nat => (foldS (l.take k), (k : Int))) 0 := by simp [foldS]
  rw [h0, this]; rfl

theorem rfold_eq (l : List (List UInt8)) (hl : l.length ≤ 9223372036854775807) : ref03_Fold l = some (FoldSpec l) := by
  unfold ref03_Fold FoldSpec
  by_cases h16 : 16 < l.length
  · rw [if_pos h16, decide_eq_true (by omega)]; rfl
  · rw [if_neg h16, decide_eq_false (by omega), blocks_eq l hl]
    simp only [cond_false, Option.bind_some]
    cases hb : l.all blockB with
    | false => rfl
    | true => rw [all_eq hl hb]; rfl

theorem same_eq (l m : List (List UInt8)) (hl : l.length ≤ 9223372036854775807) : ref03_Same l m = some (decide (l = m)) := by
  unfold ref03_Same
  by_cases h : l.length = m.length
  · rw [show ((l.length : Int) != (m.length : Int)) = false by simp; omega]
    have := loop_any (step := fun s : Int => ref03_Same_L1 l m s) (fun k => (k : Int)) l.length (fun k => !decide (l[k]? = m[k]?)) (Sum.inr ()) (Sum.inl ()) (FUEL_gt hl) (fun k hk => by
      obtain ⟨x, hx⟩ : ∃ x, l[k]? = some x := ⟨_, List.getElem?_eq_getElem hk⟩
      obtain ⟨y, hy⟩ : ∃ y, m[k]? = some y := ⟨_, List.getElem?_eq_getElem (by omega)⟩
      unfold ref03_Same_L1
      simp only [decide_eq_true (show (k : Int) < (l.length : Int) by omega), cond_true, idx_nat, hx, hy, Option.bind_some, wI_succ (show k < 9223372036854775807 by omega), Option.some.injEq]
      rw [show decide (x = y) = (x == y) by rw [Bool.eq_iff_iff]; simp]
      cases x == y <;> rfl) (by
      unfold ref03_Same_L1
      rw [decide_eq_false (by omega)]; rfl)
    simp only [cond_false]
    erw [this]
    have hk : ((List.range l.length).any fun k => !decide (l[k]? = m[k]?)) = !decide (l = m) := by
      rw [Bool.eq_iff_iff, List.any_eq_true]
      simp only [List.mem_range, Bool.not_eq_true', decide_eq_false_iff_not]
      constructor
      · rintro ⟨k, _, h1⟩ rfl; exact h1 rfl
      · intro hne
        apply Classical.byContradiction
        intro hno
        refine hne (List.ext_getElem? fun k => ?_)
        by_cases hk : k < l.length
        · exact Classical.byContradiction fun h1 => hno ⟨k, hk, h1⟩
        · rw [List.getElem?_eq_none (by omega), List.getElem?_eq_none (by omega)]
    rw [hk]
    cases decide (l = m) <;> rfl
  · rw [show ((l.length : Int) != (m.length : Int)) = true by simp; omega]
    rw [decide_eq_false (fun e => h (by rw [e]))]
    rfl

theorem tells_true (l : List (List UInt8)) (hl : l.length ≤ 9223372036854775807) : law03_FoldTells l = some true := by
  unfold law03_FoldTells
  rw [great_eq l hl]
  simp only [Option.bind_some]
  cases hg : GreatS l with
  | true => rfl
  | false =>
  rw [twin_eq hg]
  simp only [Option.bind_some, cond_false]
  rw [fold_eq, rfold_eq l hl]
  simp only [Option.bind_some, beq_self_eq_true, bne_self_eq_false, Bool.not_true, Bool.or_false, cond_false]
  have hlen : (FoldSpec l).1.length ≤ 128 := by
    unfold FoldSpec
    split
    · simp
    · split
      · rename_i h; rw [foldS_len l (List.all_eq_true.1 h)]; omega
      · simp
  generalize (FoldSpec l).1 = a at hlen
  have := loop_map (step := fun s : Int × (List UInt8) => law03_FoldTells_L1 s.1 s.2) (a.map (· + 1)) a a.length () (FUEL_gt (by omega)) (fun k hk => by
    obtain ⟨x, hx⟩ : ∃ x, a[k]? = some x := ⟨_, List.getElem?_eq_getElem hk⟩
    unfold law03_FoldTells_L1
    simp only [mix_len (a.map (· + 1)) a k (by simp)]
    simp only [decide_eq_true (show (k : Int) < (a.length : Int) by omega), cond_true, wI_succ (show k < 9223372036854775807 by omega), bnd_nat hk, Option.bind_some]
    rw [mix_get _ _ _ (by simp), hx]
    simp only [Option.bind_some]
    rw [mix_set _ _ _ (by simp) _ (by rw [List.getElem?_map, hx]; rfl)]) (by
    unfold law03_FoldTells_L1
    rw [decide_eq_false (by simp)]; rfl)
  rw [this]
  simp only [Option.bind_some]
  rw [same_eq l l hl]
  simp
end Go.Proofs.Yteadgdpeiokplaa
