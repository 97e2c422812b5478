/- Plain law: HomeApart, its end. -/
import Derived.Test.YtcnmlbgcnkfnhaaLwHomeAA
namespace Go.Proofs.Ytcnmlbgcnkfnhaa
open Go GL

def flags (M : Nat) (R : List Int) : List Bool := (List.range M).map fun i : Nat => decide ((i : Int) ∈ R)
theorem flags_len (M : Nat) (R : List Int) : (flags M R).length = M := by simp [flags]
theorem flags_get {M : Nat} (R : List Int) {k : Nat} (hk : k < M) : (flags M R)[k]? = some (decide ((k : Int) ∈ R)) := by simp [flags, hk]
theorem flags_set (M : Nat) (R : List Int) (n : Nat) : (flags M R).set n true = flags M (R ++ [(n : Int)]) := by
  refine List.ext_getElem (by simp [flags]) fun i h1 h2 => ?_
  have hi : i < M := by simpa [flags] using h2
  rw [List.getElem_set]
  by_cases he : n = i
  · subst he; simp [flags]
  · rw [if_neg he]
    simp only [flags, List.getElem_map, List.getElem_range]
    have : (i : Int) ≠ (n : Int) := by omega
    simp [this]
theorem mem_inj {c : Config} (hm : MayC c) (stripe : Int) {a b : Int} (ha : 0 ≤ a) (ha' : a < c.Members) (hb : 0 ≤ b) (hb' : b < c.Members) (h : memS c stripe a = memS c stripe b) : a = b := by
  rw [← mem_slo hm stripe a ha ha', h, mem_slo hm stripe b hb hb']
theorem memS_in {c : Config} (hm : MayC c) (stripe a : Int) : 0 ≤ memS c stripe a ∧ memS c stripe a < c.Members := by
  have := hm.1
  exact ⟨Int.emod_nonneg _ (by omega), Int.emod_lt_of_pos _ (by omega)⟩
def disksS (c : Config) (h : Head) (missing : Int) : List Int := (actsS c h missing (slotsR h)).map (·.Disk)
theorem disksS_mem {c : Config} {h : Head} (missing : Int) (m : Int) : m ∈ disksS c h missing ↔ ∃ s ∈ slotsR h, memS c h.Stripe s = m ∧ m ≠ missing := by
  unfold disksS actsS
  simp only [List.mem_map, List.mem_filter, List.map_map, Function.comp, goes, Bool.not_eq_true', beq_eq_false_iff_ne]
  constructor
  · rintro ⟨s, ⟨h1, h2⟩, rfl⟩; exact ⟨s, h1, rfl, h2⟩
  · rintro ⟨s, h1, rfl, h2⟩; exact ⟨s, ⟨h1, h2⟩, rfl⟩
theorem disksS_nodup {c : Config} {h : Head} (o : OfH c h) (missing : Int) : (disksS c h missing).Pairwise (· ≠ ·) := by
  have hnd := o.nd
  have hm1 := o.m.1
  unfold disksS actsS
  rw [List.map_map, List.pairwise_map]
  refine List.Pairwise.imp_of_mem ?_ ((slotsR_sorted h).filter _)
  intro a b ha hb hab he
  obtain ⟨i, rfl, h1, _⟩ := slotsR_at (List.mem_filter.1 ha).1
  obtain ⟨j, rfl, h2, _⟩ := slotsR_at (List.mem_filter.1 hb).1
  have := mem_inj o.m h.Stripe (by omega) (by omega) (by omega) (by omega) he
  omega
theorem apart_L1 {c : Config} {h : Head} (hm : mayH c h = true) (missing : Int) (hp : h.Phase.toNat ≠ 0) (e : Int) :
    loopM (fun s : Int × (List Bool) => law21_HomeApart_L1 c missing h (actsS c h missing (slotsR h), e) s.1 s.2) FUEL ((0 : Int), List.replicate h.Blocks.length false) = some (Sum.inl (flags h.Blocks.length (disksS c h missing))) := by
  have o := mayH_of hm
  have hm1 := o.m.1
  have hnb := o.nb
  have hnd := o.nd
  have hs64 := wI_str o.m
  have hs1 := o.s1
  have hs2 := o.s2
  have hal := actsS_len c h missing (slotsR h)
  have hsr : (slotsR h).length ≤ h.Dirty.length + 1 := by unfold slotsR; have := slotsOf_len (dty h) h.Dirty.length; simp; omega
  have hnod := disksS_nodup o missing
  generalize hA : actsS c h missing (slotsR h) = A at *
  have hD : disksS c h missing = A.map (·.Disk) := by unfold disksS; rw [hA]
  rw [hD] at hnod ⊢
  have := loop_run (step := fun s : Int × (List Bool) => law21_HomeApart_L1 c missing h (A, e) s.1 s.2) (fun k => ((k : Int), flags h.Blocks.length ((A.map (·.Disk)).take k))) A.length (Sum.inl (flags h.Blocks.length (A.map (·.Disk)))) (fuel_lt (by omega)) (fun k hk => by
    have hmem : A[k] ∈ actsS c h missing (slotsR h) := by rw [hA]; exact List.getElem_mem hk
    unfold actsS at hmem
    obtain ⟨s, hs, hse⟩ := List.mem_map.1 hmem
    obtain ⟨hs, hg⟩ := List.mem_filter.1 hs
    simp only [goes, Bool.not_eq_true', beq_eq_false_iff_ne] at hg
    have hb := blk128 o hp hs
    obtain ⟨d1, d2⟩ := memS_in o.m h.Stripe s
    obtain ⟨d, hd⟩ := Int.eq_ofNat_of_zero_le d1
    have q1 : (A[k].Kind != (1 : UInt8)) = false := by rw [← hse]; rfl
    have q0 : A[k].Disk = (d : Int) := by rw [← hse]; exact hd
    have q2 : decide (A[k].Disk < (0 : Int)) = false := by rw [q0]; simp
    have q3 : decide (A[k].Disk ≥ c.Members) = false := by rw [q0, decide_eq_false_iff_not]; omega
    have q4 : (A[k].Disk == missing) = false := by rw [beq_eq_false_iff_ne, ← hse]; exact hg
    have q5 : (A[k].At != (wI (h.Stripe + (1 : Int)))) = false := by rw [wI_id (x := h.Stripe + 1) (by omega) (by omega), ← hse]; simp [actOf]
    have q6 : (((A[k].Data).length : Int) != (128 : Int)) = false := by rw [← hse]; simp only [actOf]; rw [hb]; rfl
    have hdM : d < h.Blocks.length := by omega
    have hnot : ((d : Int) ∈ (A.map (·.Disk)).take k) → False := fun hx => by
      obtain ⟨j, hj, hje⟩ := List.getElem_of_mem hx
      have hjk : j < k := by simp at hj; omega
      have h3 := List.pairwise_iff_getElem.1 hnod j k (by simp; omega) (by simp; exact hk) hjk
      rw [List.getElem_take] at hje
      apply h3
      rw [hje]
      simp [q0]
    unfold law21_HomeApart_L1
    simp only
    rw [decide_eq_true (show (k : Int) < (A.length : Int) by omega), idx_nat, List.getElem?_eq_getElem hk, wI_succ (by omega)]
    simp only [cond_true, Option.bind_some, q1, q2, q3, q4, q5, q6, gO, Bool.or_self, Bool.not_false]
    rw [q0, bnd_nat (by rw [flags_len]; exact hdM)]
    simp only [Option.bind_some]
    rw [flags_get _ hdM, decide_eq_false hnot]
    simp only [Option.bind_some, Bool.or_self, cond_false]
    rw [flags_set, take_succ_get (A.map (·.Disk)) k (d : Int) (by simp [List.getElem?_eq_getElem hk, q0])]) (by
    unfold law21_HomeApart_L1
    simp only
    rw [decide_eq_false (by omega), List.take_of_length_le (by simp)]; rfl)
  have e0 : flags h.Blocks.length ((A.map (·.Disk)).take 0) = List.replicate h.Blocks.length false := by
    refine List.ext_getElem (by simp [flags]) fun i h1 h2 => by simp [flags]
  rw [← e0]
  exact this
theorem apart_L2 {c : Config} {h : Head} (o : OfH c h) (missing : Int) :
    loopM (fun s : Int => law21_HomeApart_L2 c missing h (flags h.Blocks.length (disksS c h missing)) s) FUEL (0 : Int) = some (Sum.inl ()) := by
  have hm1 := o.m.1
  have hnb := o.nb
  have hnd := o.nd
  refine loop_run (step := fun s : Int => law21_HomeApart_L2 c missing h (flags h.Blocks.length (disksS c h missing)) s) (fun k => (k : Int)) h.Dirty.length (Sum.inl ()) (fuel_lt (by omega)) (fun k hk => ?_) ?_
  · obtain ⟨d1, d2⟩ := memS_in o.m h.Stripe (k : Int)
    obtain ⟨d, hd⟩ := Int.eq_ofNat_of_zero_le d1
    unfold law21_HomeApart_L2
    rw [wI_id (x := c.Members - 1) (by omega) (by omega), decide_eq_true (show (k : Int) < c.Members - 1 by omega), member_eq o.m o.s1 o.s2 (by omega) (by omega), wI_succ (by omega)]
    simp only [cond_true, Option.bind_some, bne_self_eq_false, gO, Bool.not_false, Bool.false_or]
    rw [hd, bnd_nat (by rw [flags_len]; omega)]
    simp only [Option.bind_some]
    rw [flags_get _ (show d < h.Blocks.length by omega), idx_nat, getD_some hk false]
    simp only [Option.bind_some]
    have key : decide ((d : Int) ∈ disksS c h missing) = (h.Dirty.getD k false && ((d : Int) != missing)) := by
      rw [Bool.eq_iff_iff, decide_eq_true_eq, Bool.and_eq_true, bne_iff_ne, disksS_mem]
      constructor
      · rintro ⟨s, hs, h1, h2⟩
        obtain ⟨n, rfl, h3, h4⟩ := slotsR_at hs
        have : (n : Int) = (k : Int) := mem_inj o.m h.Stripe (by omega) (by omega) (by omega) (by omega) (by rw [h1, hd])
        obtain rfl : n = k := by omega
        exact ⟨h4 hk, h2⟩
      · rintro ⟨h1, h2⟩
        exact ⟨(k : Int), List.mem_append_left _ ((slotsOf_mem _ _ _).2 ⟨k, hk, h1, rfl⟩), hd, h2⟩
    rw [key]
    simp
  · unfold law21_HomeApart_L2
    rw [wI_id (x := c.Members - 1) (by omega) (by omega), decide_eq_false (by omega)]
    rfl
theorem alive_true : law21_alive = some true := by kernel_rfl
theorem apart_true (c : Config) (missing : Int) (h : Head) : law21_HomeApart c missing h = some true := by
  unfold law21_HomeApart
  rw [alive_true]
  obtain ⟨b, hb, hsm⟩ := hgreat_eq h
  rw [hb]
  cases b with
  | true => rfl
  | false =>
  simp only [Option.bind_some, Bool.not_true, Bool.or_self, cond_false]
  unfold home_Lay home_member
  rw [hcheck_eq]
  cases hm : mayH c h with
  | false => rfl
  | true =>
  have o := mayH_of hm
  have hm1 := o.m.1
  have hnb := o.nb
  simp only [cond_true, Option.bind_some, bne_self_eq_false, cond_false]
  cases hp : (decide (missing ≥ (-1 : Int)) && decide (missing < c.Members)) with
  | false => rfl
  | true =>
  simp only [Bool.not_true, cond_false]
  rw [hdeal_eq]
  by_cases hph : h.Phase.toNat = 0
  · have : dealS c h = (dealD, 6) := by unfold dealS; rw [hm, decide_eq_true hph]; rfl
    rw [this]; rfl
  · have : (dealS c h).2 = 0 := by unfold dealS; rw [hm, decide_eq_false hph]; rfl
    simp only [Option.bind_some, this, bne_self_eq_false, cond_false]
    rw [acts_eq hm missing hph]
    simp only [Option.bind_some, bne_self_eq_false, cond_false]
    rw [← hnb, makeL_some _ _ (by omega)]
    simp only [Option.bind_some]
    rw [apart_L1 hm missing hph 0]
    simp only [Option.bind_some, Sum.elim_inl]
    rw [apart_L2 o missing]
    rfl
end Go.Proofs.Ytcnmlbgcnkfnhaa
