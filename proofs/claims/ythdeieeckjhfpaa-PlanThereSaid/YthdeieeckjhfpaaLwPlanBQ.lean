/- Plain law: PlanThere. -/
import Derived.Test.YthdeieeckjhfpaaLwPlanAQ
namespace Go.Proofs.Ythdeieeckjhfpaa
open Go GL

structure PlanOk (c : Config) (h : Head) (missing : Int) (K : UInt8) (R : List Int) : Prop where
  sorted : R.Pairwise (· < ·)
  len : R.length ≤ h.Blocks.length
  at' : ∀ k ∈ R, ∃ n : Nat, k = (n : Int) ∧ n < h.Blocks.length ∧ memS c h.Stripe k ≠ missing
  kind : (K = 1 ∧ R = [] ∧ restS h = []) ∨ (K = 2 ∧ R = restS h ∧ R ≠ []) ∨ (K = 3 ∧ R = oldS h)
theorem rest_sorted (h : Head) : (restS h).Pairwise (· < ·) := slotsOf_sorted _ _
theorem old_sorted (h : Head) : (oldS h).Pairwise (· < ·) := by
  unfold oldS
  rw [List.pairwise_append]
  refine ⟨slotsOf_sorted _ _, by simp, fun a ha b hb => ?_⟩
  obtain ⟨i, h1, _, rfl⟩ := (slotsOf_mem _ _ _).1 ha
  simp at hb
  omega
theorem rest_at {h : Head} {k : Int} (hk : k ∈ restS h) : ∃ n : Nat, k = (n : Int) ∧ n < h.Dirty.length ∧ unk h n = true := by
  obtain ⟨i, h1, h2, rfl⟩ := (slotsOf_mem _ _ _).1 hk
  exact ⟨i, rfl, h1, h2⟩
theorem old_at {h : Head} {k : Int} (hk : k ∈ oldS h) : ∃ n : Nat, k = (n : Int) ∧ n ≤ h.Dirty.length := by
  unfold oldS at hk
  rcases List.mem_append.1 hk with hk | hk
  · obtain ⟨i, h1, h2, rfl⟩ := (slotsOf_mem _ _ _).1 hk
    exact ⟨i, rfl, by omega⟩
  · simp at hk
    exact ⟨h.Dirty.length, hk, Nat.le_refl _⟩
theorem not_missing {c : Config} {h : Head} (o : OfH c h) {missing : Int} {R : List Int} (hl : lostS c h missing ∉ R) (hp : -1 ≤ missing) {k : Int} (hk : k ∈ R) (h0 : 0 ≤ k) (h1 : k < c.Members) : memS c h.Stripe k ≠ missing := by
  intro he
  have hs := mem_slo o.m h.Stripe k h0 h1
  rw [he] at hs
  have hm0 : 0 ≤ missing := by
    rw [← he]; unfold memS
    exact Int.emod_nonneg _ (by omega)
  unfold lostS at hl
  rw [show (missing == -1) = false by simp; omega] at hl
  simp only [cond_false] at hl
  rw [hs] at hl
  exact hl hk
theorem plan_ok {c : Config} {h : Head} (hm : mayH c h = true) {missing : Int} (hp : planIn c missing = true) (hd : ((h.Phase == 0) && anyD h) = true) :
    ∃ K R, planS c h missing = (Plan.mk K R, 0) ∧ PlanOk c h missing K R := by
  have o := mayH_of hm
  have hm1 := o.m.1
  have hnb := o.nb
  have hnd := o.nd
  have hpi : -1 ≤ missing ∧ missing < c.Members := by simpa [planIn] using hp
  unfold planS
  rw [hm, hp, hd]
  simp only [cond_true]
  have hl1 := slotsOf_len (unk h) h.Dirty.length
  have hl2 := slotsOf_len (dty h) h.Dirty.length
  cases hr : ((restS h).length == 0) with
  | true =>
    have he : restS h = [] := List.eq_nil_of_length_eq_zero (by simpa using hr)
    exact ⟨1, [], rfl, by simp, by simp, by simp, .inl ⟨rfl, rfl, he⟩⟩
  | false =>
    have hne : restS h ≠ [] := by intro h; rw [h] at hr; simp at hr
    have a1 : lostS c h missing ∉ restS h → PlanOk c h missing 2 (restS h) := fun hl => ⟨rest_sorted h, by unfold restS; omega, fun k hk => by
      obtain ⟨n, rfl, h1, _⟩ := rest_at hk
      exact ⟨n, rfl, by omega, not_missing o hl hpi.1 hk (by omega) (by omega)⟩, .inr (.inl ⟨rfl, rfl, hne⟩)⟩
    have a2 : lostS c h missing ∉ oldS h → PlanOk c h missing 3 (oldS h) := fun hl => ⟨old_sorted h, by unfold oldS; simp; omega, fun k hk => by
      obtain ⟨n, rfl, h1⟩ := old_at hk
      exact ⟨n, rfl, by omega, not_missing o hl hpi.1 hk (by omega) (by omega)⟩, .inr (.inr ⟨rfl, rfl⟩)⟩
    unfold pickS
    simp only [cond_false]
    by_cases h1 : lostS c h missing ∈ restS h
    · rw [decide_eq_true h1]
      exact ⟨3, _, rfl, a2 (rest_old o h1)⟩
    · rw [decide_eq_false h1]
      by_cases h2 : lostS c h missing ∈ oldS h
      · rw [decide_eq_true h2]
        exact ⟨2, _, rfl, a1 h1⟩
      · rw [decide_eq_false h2]
        unfold lessP
        cases decide ((Plan.mk 3 (oldS h)).Reads.length < (Plan.mk 2 (restS h)).Reads.length) with
        | true => exact ⟨3, _, rfl, a2 h2⟩
        | false => exact ⟨2, _, rfl, a1 h1⟩

def flags (M : Nat) (R : List Int) : List Bool := (List.range M).map fun i : Nat => decide ((i : Int) ∈ R)
theorem flags_len (M : Nat) (R : List Int) : (flags M R).length = M := by simp [flags]
theorem flags_get {M : Nat} (R : List Int) {k : Nat} (hk : k < M) : (flags M R)[k]? = some (decide ((k : Int) ∈ R)) := by simp [flags, hk]
theorem flags_set (M : Nat) (R : List Int) (n : Nat) : (flags M R).set n true = flags M (R ++ [(n : Int)]) := by
  refine List.ext_getElem (by simp [flags]) fun i h1 h2 => ?_
  have hi : i < M := by simpa [flags] using h2
  rw [List.getElem_set]
  by_cases he : n = i
  · subst he; simp [flags]
  · rw [if_neg he]
    simp only [flags, List.getElem_map, List.getElem_range]
    have : (i : Int) ≠ (n : Int) := by omega
    simp [this]
theorem there_L1 {c : Config} {h : Head} (o : OfH c h) {missing : Int} {K : UInt8} {R : List Int} (p : PlanOk c h missing K R) :
    loopM (fun s : Int × (List Bool) => law17_PlanThere_L1 c h missing (Plan.mk K R, 0) s.1 s.2) FUEL ((0 : Int), List.replicate h.Blocks.length false) = some (Sum.inl (flags h.Blocks.length R)) := by
  have hm1 := o.m.1
  have hnb := o.nb
  have hlen := p.len
  have := loop_run (step := fun s : Int × (List Bool) => law17_PlanThere_L1 c h missing (Plan.mk K R, 0) s.1 s.2) (fun k => ((k : Int), flags h.Blocks.length (R.take k))) R.length (Sum.inl (flags h.Blocks.length R)) (fuel_lt (by omega)) (fun k hk => by
    obtain ⟨n, hn, hnl, hne⟩ := p.at' _ (List.getElem_mem hk)
    unfold law17_PlanThere_L1
    simp only
    rw [decide_eq_true (show (k : Int) < (R.length : Int) by omega), idx_nat, List.getElem?_eq_getElem hk, wI_succ (by omega)]
    simp only [cond_true, Option.bind_some]
    rw [hn] at hne
    rw [hn, member_eq o.m o.s1 o.s2 (by omega) (by omega)]
    simp only [Option.bind_some, bne_self_eq_false, Bool.false_or]
    rw [show (memS c h.Stripe (n : Int) == missing) = false by simpa using hne]
    simp only [Bool.not_false, Bool.true_and, Bool.false_or]
    have hset : (flags h.Blocks.length (R.take k)).set n true = flags h.Blocks.length (R.take (k + 1)) := by
      rw [flags_set, take_succ_get _ _ _ (List.getElem?_eq_getElem hk), hn]
    by_cases h0 : k = 0
    · subst h0
      rw [show decide (((0 : Nat) : Int) > 0) = false from rfl]
      simp only [gO, cond_false, Option.bind_some, Bool.false_and]
      rw [bnd_nat (by rw [flags_len]; exact hnl)]
      simp only [Option.bind_some]
      rw [hset]
    · rw [decide_eq_true (show (k : Int) > 0 by omega), wI_id (x := (k : Int) - 1) (by omega) (by omega), show ((k : Int) - 1) = ((k - 1 : Nat) : Int) by omega, idx_nat, List.getElem?_eq_getElem (show k - 1 < R.length by omega)]
      simp only [gO, cond_true, Option.bind_some, Bool.true_and]
      have hs := List.pairwise_iff_getElem.1 p.sorted (k - 1) k (by omega) hk (by omega)
      rw [hn] at hs
      rw [decide_eq_false (show ¬ (n : Int) ≤ R[k - 1] by omega)]
      simp only [cond_false]
      rw [bnd_nat (by rw [flags_len]; exact hnl)]
      simp only [Option.bind_some]
      rw [hset]) (by
    unfold law17_PlanThere_L1
    simp only
    rw [decide_eq_false (by omega), List.take_length]; rfl)
  have e0 : flags h.Blocks.length (R.take 0) = List.replicate h.Blocks.length false := by
    refine List.ext_getElem (by simp [flags]) fun i h1 h2 => by simp [flags]
  rw [← e0]
  exact this
theorem there_L2 {c : Config} {h : Head} (o : OfH c h) {missing : Int} {K : UInt8} {R : List Int} (p : PlanOk c h missing K R) :
    loopM (fun s : Int => law17_PlanThere_L2 c h (Plan.mk K R, 0) (flags h.Blocks.length R) s) FUEL (0 : Int) = some (Sum.inl ()) := by
  have hm1 := o.m.1
  have hnb := o.nb
  have hnd := o.nd
  refine loop_run (step := fun s : Int => law17_PlanThere_L2 c h (Plan.mk K R, 0) (flags h.Blocks.length R) s) (fun k => (k : Int)) h.Dirty.length (Sum.inl ()) (fuel_lt (by omega)) (fun k hk => ?_) ?_
  · unfold law17_PlanThere_L2
    simp only
    rw [wI_id (x := c.Members - 1) (by omega) (by omega), decide_eq_true (show (k : Int) < c.Members - 1 by omega), idx_nat, idx_nat, getD_some (show k < h.Blocks.length by omega) [], getD_some hk false, wI_succ (by omega), bnd_nat (by rw [flags_len]; omega)]
    simp only [cond_true, Option.bind_some]
    have hkn : decide (((h.Blocks.getD k []).length : Int) > 0) = !unk h k := by
      unfold unk; rw [Bool.eq_iff_iff]; simp only [decide_eq_true_eq, Bool.not_eq_true', beq_eq_false_iff_ne]; omega
    rw [hkn]
    have hg := flags_get R (show k < h.Blocks.length by omega)
    rcases p.kind with ⟨rfl, rfl, hr⟩ | ⟨rfl, hR, _⟩ | ⟨rfl, hR⟩
    · have hu : unk h k = false := by
        cases hu : unk h k with
        | false => rfl
        | true =>
          have : (k : Int) ∈ restS h := (slotsOf_mem _ _ _).2 ⟨k, hk, hu, rfl⟩
          rw [hr] at this
          cases this
      simp only [show ((1 : UInt8) != 3) = true from rfl, show ((1 : UInt8) == 3) = false from rfl, gO, cond_true, cond_false, Option.bind_some, Bool.and_false, hg, hu, Bool.true_and, Bool.false_and]
      rfl
    · have hu : decide ((k : Int) ∈ R) = unk h k := by
        rw [Bool.eq_iff_iff, decide_eq_true_eq, hR]
        exact ⟨fun hx => by obtain ⟨n, h1, _, h2⟩ := rest_at hx; obtain rfl : k = n := by omega
                            exact h2, fun hx => (slotsOf_mem _ _ _).2 ⟨k, hk, hx, rfl⟩⟩
      simp only [show ((2 : UInt8) != 3) = true from rfl, show ((2 : UInt8) == 3) = false from rfl, gO, cond_true, cond_false, Option.bind_some, Bool.and_false, hg, hu, Bool.true_and, Bool.false_and]
      cases unk h k <;> rfl
    · have hu : decide ((k : Int) ∈ R) = h.Dirty.getD k false := by
        rw [Bool.eq_iff_iff, decide_eq_true_eq, hR]
        unfold oldS
        rw [List.mem_append]
        constructor
        · rintro (hx | hx)
          · obtain ⟨n, _, h2, h3⟩ := (slotsOf_mem _ _ _).1 hx
            obtain rfl : k = n := by omega
            exact h2
          · simp at hx; omega
        · exact fun hx => .inl ((slotsOf_mem _ _ _).2 ⟨k, hk, hx, rfl⟩)
      simp only [show ((3 : UInt8) != 3) = false from rfl, show ((3 : UInt8) == 3) = true from rfl, gO, cond_true, cond_false, Option.bind_some, Bool.and_true, Bool.false_and, Bool.not_false, hg, hu, Bool.true_and]
      cases h.Dirty.getD k false <;> rfl
  · unfold law17_PlanThere_L2
    rw [wI_id (x := c.Members - 1) (by omega) (by omega), decide_eq_false (by omega)]
    rfl
theorem alive_true : law17_alive = some true := by kernel_rfl
theorem there_true (c : Config) (h : Head) (missing : Int) : law17_PlanThere c h missing = some true := by
  unfold law17_PlanThere
  rw [alive_true]
  obtain ⟨b, hb, hsm⟩ := hgreat_eq h
  rw [hb]
  cases b with
  | true => rfl
  | false =>
  simp only [Option.bind_some, gO, Bool.not_false, cond_true, hcheck_eq, Bool.false_or, Bool.not_true, Bool.or_false]
  cases hm : mayH c h with
  | false => rfl
  | true =>
  have o := mayH_of hm
  have hm1 := o.m.1
  have hnb := o.nb
  have hnd := o.nd
  simp only [cond_true, bne_self_eq_false, Bool.false_or]
  rw [show (decide (missing < (-1 : Int)) || decide (missing ≥ c.Members)) = !planIn c missing by rw [Bool.eq_iff_iff]; simp [planIn] <;> omega]
  cases hp : planIn c missing with
  | false => rfl
  | true =>
  simp only [Bool.not_true, cond_false, of_eq, Option.bind_some]
  cases hd : ((h.Phase == 0) && anyD h) with
  | false =>
    have e : planS c h missing = (Plan.mk 0 [], 6) := by unfold planS; rw [hm, hp, hd]; rfl
    rw [e, dirty_eq h (by omega)]
    simp only [show ((6 : Int) != 0) = true from rfl, show ((6 : Int) == 6) = true from rfl, cond_true, List.length_nil, bne, Bool.not_not]
    cases hph : (h.Phase == 0) with
    | false => rfl
    | true =>
      rw [hph, Bool.true_and] at hd
      rw [hd]; rfl
  | true =>
    obtain ⟨K, R, e, p⟩ := plan_ok hm hp hd
    rw [e]
    simp only [bne_self_eq_false, cond_false]
    rw [← hnb, makeL_some _ _ (by omega)]
    simp only [Option.bind_some]
    rw [there_L1 o p]
    simp only [Option.bind_some, Sum.elim_inl]
    have h2 := there_L2 o p
    rw [h2]
    simp only [Option.bind_some, Sum.elim_inl]
    rw [wI_id (x := (h.Blocks.length : Int) - 1) (by omega) (by omega), show ((h.Blocks.length : Int) - 1) = ((h.Dirty.length : Nat) : Int) by omega, bnd_nat (by rw [flags_len]; omega)]
    simp only [Option.bind_some]
    rw [flags_get R (show h.Dirty.length < h.Blocks.length by omega)]
    simp only [Option.bind_some]
    rcases p.kind with ⟨rfl, rfl, hr⟩ | ⟨rfl, hR, hne⟩ | ⟨rfl, hR⟩
    · simp
    · have h3 : (h.Dirty.length : Int) ∉ R := by
        rw [hR]; intro hx
        obtain ⟨n, h1, h2, _⟩ := rest_at hx
        omega
      rw [decide_eq_false h3, show ((R.length : Int) == 0) = false by simpa using hne]
      rfl
    · have h3 : (h.Dirty.length : Int) ∈ R := by rw [hR]; unfold oldS; simp
      have h4 : ((R.length : Int) == 0) = false := by rw [hR]; unfold oldS; simp; omega
      rw [decide_eq_true h3, h4]
      rfl
end Go.Proofs.Ythdeieeckjhfpaa
