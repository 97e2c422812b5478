/- Plain law: PlanFewest. -/
import Derived.Test.YthdeieeckjhfpaaLwPlanAF
namespace Go.Proofs.Ythdeieeckjhfpaa
open Go GL

theorem both_len {h : Head} (hd : ∀ k, h.Dirty.getD k false = true → (h.Blocks.getD k []).length ≠ 0) : ∀ k, (slotsOf (unk h) k).length + (slotsOf (dty h) k).length ≤ k
  | 0 => by simp [slotsOf]
  | k + 1 => by
    have ih := both_len hd k
    rw [slotsOf_succ, slotsOf_succ]
    have hk := hd k
    cases h1 : unk h k with
    | false => cases h2 : dty h k <;> simp <;> omega
    | true =>
      have h2 : dty h k = false := by
        cases h2 : dty h k with
        | false => rfl
        | true =>
          have := hk h2
          unfold unk at h1
          simp only [beq_iff_eq] at h1
          exact (this h1).elim
      rw [h2]
      simp
      omega
theorem fewest_loop {c : Config} {h : Head} (o : OfH c h) :
    loopM (fun s : Int × Int × Int => law17_PlanFewest_L1 c h s.1 s.2.1 s.2.2) FUEL ((0 : Int), (1 : Int), (0 : Int)) = some (((restS h).length : Int), ((oldS h).length : Int)) := by
  have hm1 := o.m.1
  have hnb := o.nb
  have hnd := o.nd
  have := loop_run (step := fun s : Int × Int × Int => law17_PlanFewest_L1 c h s.1 s.2.1 s.2.2) (fun k => (((slotsOf (unk h) k).length : Int), (((slotsOf (dty h) k).length + 1 : Nat) : Int), (k : Int))) h.Dirty.length (((restS h).length : Int), ((oldS h).length : Int)) (fuel_lt (by omega)) (fun k hk => by
    have h1 := slotsOf_len (unk h) k
    have h2 := slotsOf_len (dty h) k
    unfold law17_PlanFewest_L1 law17_PlanFewest_J3 law17_PlanFewest_J2
    simp only
    rw [wI_id (x := c.Members - 1) (by omega) (by omega), decide_eq_true (show (k : Int) < c.Members - 1 by omega), idx_nat, idx_nat, getD_some (show k < h.Blocks.length by omega) [], getD_some hk false, wI_succ (by omega), wI_succ (by omega), wI_succ (by omega), slotsOf_succ, slotsOf_succ]
    simp only [cond_true, Option.bind_some]
    rw [show (((h.Blocks.getD k []).length : Int) == 0) = unk h k by unfold unk; rw [Bool.eq_iff_iff]; simp]
    rw [show dty h k = h.Dirty.getD k false from rfl]
    cases h.Dirty.getD k false <;> cases unk h k <;> simp) (by
    unfold law17_PlanFewest_L1
    simp only
    rw [wI_id (x := c.Members - 1) (by omega) (by omega), decide_eq_false (by omega)]
    unfold restS oldS
    simp)
  exact this
theorem old_len (h : Head) : (oldS h).length = (slotsOf (dty h) h.Dirty.length).length + 1 := by unfold oldS; simp
theorem less_len (a b : Plan) : (lessP a b).Reads.length = min a.Reads.length b.Reads.length := by
  unfold lessP
  by_cases h : b.Reads.length < a.Reads.length
  · rw [decide_eq_true h]; simp only [cond_true]; omega
  · rw [decide_eq_false h]; simp only [cond_false]; omega
theorem pick_len (lost : Int) (h : Head) : min (restS h).length (oldS h).length ≤ (pickS lost h).Reads.length := by
  unfold pickS
  cases decide (lost ∈ restS h) with
  | true => simp only [cond_true]; omega
  | false =>
    cases decide (lost ∈ oldS h) with
    | true => simp only [cond_true, cond_false]; omega
    | false => simp only [cond_false]; rw [less_len]; exact Nat.le_refl _
theorem alive_true : law17_alive = some true := by kernel_rfl
theorem fewest_true (c : Config) (h : Head) (missing : Int) : law17_PlanFewest c h missing = some true := by
  unfold law17_PlanFewest
  rw [alive_true, of_eq, of_eq]
  obtain ⟨b, hb, hsm⟩ := hgreat_eq h
  rw [hb]
  simp only [Option.bind_some, Bool.not_true, Bool.or_false]
  cases b with
  | true => rfl
  | false =>
  cases hm : mayH c h with
  | false =>
    have e : planS c h (-1) = (Plan.mk 0 [], 8) := by unfold planS; rw [hm]; rfl
    rw [e]; rfl
  | true =>
  have o := mayH_of hm
  have hm1 := o.m.1
  have hnb := o.nb
  have hnd := o.nd
  have hp : planIn c (-1) = true := by simp [planIn]; omega
  cases hd : ((h.Phase == 0) && anyD h) with
  | false =>
    have e : planS c h (-1) = (Plan.mk 0 [], 6) := by unfold planS; rw [hm, hp, hd]; rfl
    rw [e]; rfl
  | true =>
  have hbl := both_len o.di h.Dirty.length
  have hol := old_len h
  have hrl : (restS h).length = (slotsOf (unk h) h.Dirty.length).length := rfl
  have key : ∃ K R, planS c h (-1) = (Plan.mk K R, 0) ∧ R.length = min (restS h).length (oldS h).length := by
    unfold planS
    rw [hm, hp, hd]
    simp only [cond_true]
    cases hr : ((restS h).length == 0) with
    | true => exact ⟨1, [], rfl, by simp at hr; simp [hr]⟩
    | false =>
      simp only [cond_false]
      have e1 : (-1 : Int) ∉ restS h := fun hx => by
        obtain ⟨i, _, _, h3⟩ := (slotsOf_mem _ _ _).1 hx
        omega
      have e2 : (-1 : Int) ∉ oldS h := fun hx => by
        unfold oldS at hx
        rcases List.mem_append.1 hx with hx | hx
        · obtain ⟨i, _, _, h3⟩ := (slotsOf_mem _ _ _).1 hx
          omega
        · simp at hx <;> omega
      refine ⟨(pickS (lostS c h (-1)) h).Kind, (pickS (lostS c h (-1)) h).Reads, rfl, ?_⟩
      have e3 : lostS c h (-1) = -1 := rfl
      rw [e3]
      unfold pickS
      rw [decide_eq_false e1, decide_eq_false e2]
      simp only [cond_false]
      rw [less_len]
  obtain ⟨K, R, e, hR⟩ := key
  rw [e]
  simp only [bne_self_eq_false, Bool.or_self, cond_false]
  rw [fewest_loop o]
  simp only [Option.bind_some]
  rw [wI_id (by omega) (by omega)]
  have g1 : ((R.length : Int) == min ((restS h).length : Int) ((oldS h).length : Int)) = true := by rw [beq_iff_eq]; omega
  have g2 : decide ((2 : Int) * (R.length : Int) ≤ c.Members) = true := by rw [decide_eq_true_eq]; omega
  rw [g1, g2]
  simp only [Bool.and_self, Bool.true_and, Option.some.injEq, Bool.or_eq_true, decide_eq_true_eq, bne_iff_ne]
  unfold planS
  rw [hm, hd]
  cases planIn c missing with
  | false => exact .inl (by simp)
  | true =>
    simp only [cond_true]
    cases hr : ((restS h).length == 0) with
    | true =>
      right
      simp at hr
      simp only [cond_true, List.length_nil]
      have : R.length = 0 := by rw [hR, hr]; simp
      omega
    | false =>
      right
      simp only [cond_false]
      have := pick_len (lostS c h missing) h
      omega
end Go.Proofs.Ythdeieeckjhfpaa
