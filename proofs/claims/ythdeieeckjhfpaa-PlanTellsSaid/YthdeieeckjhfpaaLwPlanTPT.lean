/- Plain law: a head's plan, by the reference. -/
import Derived.Test.YthdeieeckjhfpaaLwPlanAPT
namespace Go.Proofs.Ythdeieeckjhfpaa
open Go GL

theorem memS_in {c : Config} (hm : MayC c) (stripe k : Int) : 0 ≤ memS c stripe k ∧ memS c stripe k < c.Members := by
  have := hm.1
  unfold memS
  exact ⟨Int.emod_nonneg _ (by omega), Int.emod_lt_of_pos _ (by omega)⟩
/-! ### sums of members -/
def sumF (f : Nat → Int) : Nat → Int
  | 0 => 0
  | n + 1 => sumF f n + f n
theorem sumF_shift (f : Nat → Int) : ∀ n, sumF (fun i => f (i + 1)) n = sumF f n + f n - f 0
  | 0 => by simp [sumF]
  | n + 1 => by
    have := sumF_shift f n
    simp only [sumF] at this ⊢
    omega
theorem sumF_congr {f g : Nat → Int} : ∀ n, (∀ i, i < n → f i = g i) → sumF f n = sumF g n
  | 0, _ => rfl
  | n + 1, h => by
    simp only [sumF]
    rw [sumF_congr n (fun i hi => h i (by omega)), h n (by omega)]
theorem sumF_id : ∀ n : Nat, 2 * sumF (fun i => (i : Int)) n = (n : Int) * ((n : Int) - 1)
  | 0 => by simp [sumF]
  | n + 1 => by
    have := sumF_id n
    simp only [sumF]
    rw [Int.mul_add, this]
    push_cast
    simp only [Int.add_sub_cancel, Int.mul_sub, Int.add_mul, Int.mul_one, Int.one_mul]
    omega
theorem sum_round (M : Nat) : ∀ a : Nat, sumF (fun i => (((a + i : Nat) : Int)) % (M : Int)) M = sumF (fun i => (i : Int)) M
  | 0 => sumF_congr M (fun i hi => by rw [Nat.zero_add]; exact Int.emod_eq_of_lt (by omega) (by omega))
  | a + 1 => by
    rw [← sum_round M a]
    have := sumF_shift (fun i => (((a + i : Nat) : Int)) % (M : Int)) M
    rw [show (fun i => (((a + 1 + i : Nat) : Int)) % (M : Int)) = (fun i => (fun i => (((a + i : Nat) : Int)) % (M : Int)) (i + 1)) by funext i; simp only; congr 2; omega, this]
    simp only [Nat.add_zero]
    rw [show ((a + M : Nat) : Int) = (a : Int) + (M : Int) by push_cast; rfl, Int.add_emod_right]
    omega
theorem sumF_le (f : Nat → Int) (B : Int) (hB : 0 ≤ B) : ∀ n, (∀ i, i < n → 0 ≤ f i ∧ f i ≤ B) → 0 ≤ sumF f n ∧ sumF f n ≤ B * n
  | 0, _ => by simp [sumF]
  | n + 1, h => by
    have h1 := sumF_le f B hB n (fun i hi => h i (by omega))
    have h2 := h n (by omega)
    simp only [sumF]
    push_cast
    rw [Int.mul_add, Int.mul_one]
    omega

theorem same_round {M : Int} (hM : 0 < M) (r k : Int) : (r * (M - 1) + k) % M = (M - 1 - r % M + 1 + k) % M := by
  apply Int.emod_eq_emod_iff_emod_sub_eq_zero.2
  have h := Int.mul_ediv_add_emod r M
  rw [show r * (M - 1) + k - (M - 1 - r % M + 1 + k) = M * (r - 1 - r / M) by
    rw [Int.mul_sub, Int.mul_sub, Int.mul_sub, Int.mul_comm r M]
    omega]
  exact Int.mul_emod_right M _
theorem on_low {c : Config} (hm : MayC c) {stripe k : Int} (s0 : 0 ≤ stripe) (s1 : stripe < c.Chunk * c.Rows) (h0 : 0 ≤ k) (h1 : k < c.Members) :
    Option.bind (quoI stripe c.Chunk) (fun x1 => Option.bind (remI (wI ((wI (x1 * (wI (c.Members - (1 : Int))))) + k)) c.Members) (fun x8 => some x8)) = some (memS c stripe k) := by
  have hM := hm.1
  have hs := wI_str hm
  have hc := hm.2.1
  have h1' : 0 ≤ stripe / c.Chunk := Int.ediv_nonneg s0 (by omega)
  have h2' : stripe / c.Chunk ≤ stripe := Int.ediv_le_self c.Chunk s0
  unfold quoI remI memS parS
  rw [if_neg (by omega), Int.tdiv_eq_ediv_of_nonneg s0, wI_id (x := stripe / c.Chunk) (by omega) (by omega)]
  simp only [Option.bind_some]
  rw [if_neg (by omega), wI_id (x := c.Members - 1) (by omega) (by omega)]
  have p0 : 0 ≤ stripe / c.Chunk * (c.Members - 1) := Int.mul_nonneg h1' (by omega)
  have p1 : stripe / c.Chunk * (c.Members - 1) ≤ 64 * 16 := Int.mul_le_mul (by omega) (by omega) (by omega) (by omega)
  rw [wI_id (x := stripe / c.Chunk * (c.Members - 1)) (by omega) (by omega), wI_id (by omega) (by omega), Int.tmod_eq_emod_of_nonneg (by omega), same_round (by omega)]
  simp only [Option.bind_some]
theorem on_r1 {c : Config} (hm : MayC c) {stripe k : Int} (s0 : 0 ≤ stripe) (s1 : stripe < c.Chunk * c.Rows) (h0 : 0 ≤ k) (h1 : k < c.Members - 1) : ref07_On_r1 c stripe k = some (memS c stripe k) := by
  have hM := hm.1
  rw [← on_low hm s0 s1 h0 (by omega)]
  unfold ref07_On_r1
  rw [wI_id (x := c.Members - 1) (by omega) (by omega), show (k == c.Members - 1) = false by simp; omega]
  simp only [cond_false]
theorem on_eq {c : Config} (hm : MayC c) {stripe k : Int} (s0 : 0 ≤ stripe) (s1 : stripe < c.Chunk * c.Rows) (h0 : 0 ≤ k) (h1 : k < c.Members) : ref07_On c stripe k = some (memS c stripe k) := by
  have hM := hm.1
  by_cases hk : k = c.Members - 1
  case neg =>
    rw [← on_low hm s0 s1 h0 h1]
    unfold ref07_On
    rw [wI_id (x := c.Members - 1) (by omega) (by omega), show (k == c.Members - 1) = false by simpa using hk]
    simp only [cond_false]
  obtain ⟨M, hMn⟩ : ∃ M : Nat, c.Members = ((M + 1 : Nat) : Int) := ⟨(c.Members - 1).toNat, by omega⟩
  have hle : ∀ i : Nat, 0 ≤ memS c stripe (i : Int) ∧ memS c stripe (i : Int) ≤ 16 := fun i => by have := memS_in hm stripe (i : Int); omega
  unfold ref07_On
  rw [wI_id (x := c.Members - 1) (by omega) (by omega), show (k == c.Members - 1) = true by simpa using hk]
  simp only [cond_true]
  have hL := loop_run (step := fun q : Int × Int => ref07_On_L1 c stripe q.1 q.2) (fun i => (sumF (fun j => memS c stripe (j : Int)) i, (i : Int))) M (sumF (fun j => memS c stripe (j : Int)) M) (fuel_lt (by omega)) (fun i hi => by
    unfold ref07_On_L1
    simp only
    rw [wI_id (x := c.Members - 1) (by omega) (by omega), decide_eq_true (by omega), on_r1 hm s0 s1 (by omega) (by omega), wI_succ (by omega)]
    simp only [cond_true, Option.bind_some]
    have b1 := sumF_le (fun j => memS c stripe (j : Int)) 16 (by omega) i (fun j _ => hle j)
    have b2 := hle i
    rw [wI_id (by omega) (by omega)]
    rfl) (by
    unfold ref07_On_L1
    simp only
    rw [wI_id (x := c.Members - 1) (by omega) (by omega), decide_eq_false (by omega)]; rfl)
  have e0 : ((0 : Int), (0 : Int)) = (fun i : Nat => (sumF (fun j => memS c stripe (j : Int)) i, (i : Int))) 0 := rfl
  rw [e0, hL]
  have hq : ∃ x, quoI stripe c.Chunk = some x := by
    unfold quoI
    have hc := hm.2.1
    rw [if_neg (by omega)]
    exact ⟨_, rfl⟩
  obtain ⟨x, hx⟩ := hq
  rw [hx]
  simp only [Option.bind_some]
  have p0 : 0 ≤ c.Members * (c.Members - 1) := Int.mul_nonneg (by omega) (by omega)
  have p1 : c.Members * (c.Members - 1) ≤ 16 * 16 := Int.mul_le_mul (by omega) (by omega) (by omega) (by omega)
  unfold quoI
  rw [wI_id (x := c.Members * (c.Members - 1)) (by omega) (by omega), if_neg (by omega), Int.tdiv_eq_ediv_of_nonneg p0]
  simp only [Option.bind_some]
  have hp := parS_in hm stripe
  obtain ⟨a, ha⟩ : ∃ a : Nat, parS c stripe + 1 = (a : Int) := ⟨(parS c stripe + 1).toNat, by omega⟩
  have hall : sumF (fun j => memS c stripe (j : Int)) (M + 1) = sumF (fun i => (i : Int)) (M + 1) := by
    rw [← sum_round (M + 1) a]
    refine sumF_congr _ (fun i _ => ?_)
    unfold memS
    rw [ha, hMn]; push_cast; rfl
  have hid := sumF_id (M + 1)
  rw [← hall] at hid
  have hcm : c.Members * (c.Members - 1) = 2 * sumF (fun j => memS c stripe (j : Int)) (M + 1) := by rw [hid, hMn]
  rw [hcm, Int.mul_ediv_cancel_left _ (by omega)]
  have hkM : k = (M : Int) := by omega
  have b1 := sumF_le (fun j => memS c stripe (j : Int)) 16 (by omega) (M + 1) (fun j _ => hle j)
  have b2 := hle M
  rw [wI_id (x := sumF _ _) (by omega) (by omega)]
  simp only [sumF, hkM]
  rw [show sumF (fun j => memS c stripe (j : Int)) M + memS c stripe (M : Int) - sumF (fun j => memS c stripe (j : Int)) M = memS c stripe (M : Int) by omega, wI_id (by omega) (by omega)]


theorem slo_mem {c : Config} (hm : MayC c) (stripe m : Int) (h0 : 0 ≤ m) (h1 : m < c.Members) : memS c stripe (sloS c stripe m) = m := by
  have hM := hm.1
  have hp := parS_in hm stripe
  unfold sloS memS
  generalize parS c stripe = p at *
  generalize c.Members = M at *
  by_cases h : m + M - p - 1 < M
  · rw [Int.emod_eq_of_lt (show 0 ≤ m + M - p - 1 by omega) h, show p + 1 + (m + M - p - 1) = m + M by omega, Int.add_emod_right, Int.emod_eq_of_lt h0 h1]
  · have e : (m + M - p - 1) % M = m - p - 1 := by
      rw [show m + M - p - 1 = (m - p - 1) + M by omega, Int.add_emod_right, Int.emod_eq_of_lt (by omega) (by omega)]
    rw [e, show p + 1 + (m - p - 1) = m by omega, Int.emod_eq_of_lt h0 h1]

/-! ### the reference's plan -/
theorem rrest_eq {c : Config} {h : Head} (o : OfH c h) : ref17_Rest c h = some (restS h) := by
  have hM := o.m.1
  have hnb := o.nb
  have hnd := o.nd
  unfold ref17_Rest
  have hL := loop_run (step := fun q : (List Int) × Int => ref17_Rest_L1 c h q.1 q.2) (fun k => (slotsOf (unk h) k, (k : Int))) h.Dirty.length (restS h) (fuel_lt (by omega)) (fun k hk => by
    unfold ref17_Rest_L1 ref17_Rest_J2
    simp only
    have hkb : k < h.Blocks.length := by omega
    have hl := slotsOf_len (unk h) k
    rw [wI_id (x := c.Members - 1) (by omega) (by omega), decide_eq_true (by omega), idx_nat, List.getElem?_eq_getElem hkb, wI_succ (by omega), slotsOf_succ]
    simp only [cond_true, Option.bind_some]
    have hu : unk h k = (((h.Blocks[k].length : Nat) : Int) == 0) := by
      unfold unk
      rw [List.getD_eq_getElem?_getD, List.getElem?_eq_getElem hkb, Option.getD_some, Bool.eq_iff_iff]
      simp
    rw [hu]
    cases (((h.Blocks[k].length : Nat) : Int) == 0) with
    | true =>
      simp only [cond_true]
      rw [app_some _ _ (by simp; omega)]
      rfl
    | false => rfl) (by
    unfold ref17_Rest_L1
    simp only
    rw [wI_id (x := c.Members - 1) (by omega) (by omega), decide_eq_false (by omega)]; rfl)
  have e0 : (([] : List Int), (0 : Int)) = (fun k : Nat => (slotsOf (unk h) k, (k : Int))) 0 := rfl
  rw [e0, hL]
  rfl
theorem rold_eq {c : Config} {h : Head} (o : OfH c h) : ref17_Old c h = some (oldS h) := by
  have hM := o.m.1
  have hnb := o.nb
  have hnd := o.nd
  unfold ref17_Old
  have hL := loop_run (step := fun q : (List Int) × Int => ref17_Old_L1 c h q.1 q.2) (fun k => (slotsOf (dty h) k, (k : Int))) h.Dirty.length (slotsOf (dty h) h.Dirty.length) (fuel_lt (by omega)) (fun k hk => by
    unfold ref17_Old_L1 ref17_Old_J2
    simp only
    have hl := slotsOf_len (dty h) k
    rw [wI_id (x := c.Members - 1) (by omega) (by omega), decide_eq_true (by omega), idx_nat, List.getElem?_eq_getElem hk, wI_succ (by omega), slotsOf_succ]
    simp only [cond_true, Option.bind_some]
    have hu : dty h k = h.Dirty[k] := by
      unfold dty
      rw [List.getD_eq_getElem?_getD, List.getElem?_eq_getElem hk, Option.getD_some]
    rw [hu]
    cases h.Dirty[k] with
    | true =>
      simp only [cond_true]
      rw [app_some _ _ (by simp; omega)]
      rfl
    | false => rfl) (by
    unfold ref17_Old_L1
    simp only
    rw [wI_id (x := c.Members - 1) (by omega) (by omega), decide_eq_false (by omega)]; rfl)
  have e0 : (([] : List Int), (0 : Int)) = (fun k : Nat => (slotsOf (dty h) k, (k : Int))) 0 := rfl
  rw [e0, hL]
  simp only [Option.bind_some]
  have hl := slotsOf_len (dty h) h.Dirty.length
  rw [wI_id (by omega) (by omega), app_some _ _ (by simp; omega)]
  simp only [Option.bind_some]
  unfold oldS
  rw [hnd]
theorem rclear_eq {c : Config} (hm : MayC c) {stripe : Int} (s0 : 0 ≤ stripe) (s1 : stripe < c.Chunk * c.Rows) (R : List Int) (missing : Int) (hR : ∀ k ∈ R, 0 ≤ k ∧ k < c.Members) (hl : R.length < 4294967296) :
    ref17_clear c stripe R missing = some (!(R.any fun k => memS c stripe k == missing)) := by
  unfold ref17_clear
  rw [loop_any_list (step := fun q : Int => ref17_clear_L1 c stripe R missing q) R (fun k => memS c stripe k == missing) (Sum.inr ()) (Sum.inl ()) hl (fun k hk => by
    unfold ref17_clear_L1
    have := hR _ (List.getElem_mem hk)
    rw [decide_eq_true (by omega), idx_nat, List.getElem?_eq_getElem hk, wI_succ (by omega)]
    simp only [cond_true, Option.bind_some]
    rw [on_eq hm s0 s1 this.1 this.2]
    simp only [Option.bind_some]
    cases (memS c stripe R[k] == missing) <;> rfl) (by
    unfold ref17_clear_L1
    rw [decide_eq_false (by omega)]; rfl)]
  cases (R.any fun k => memS c stripe k == missing) <;> rfl
theorem lost_any {c : Config} {h : Head} (o : OfH c h) {missing : Int} (h0 : -1 ≤ missing) (h1 : missing < c.Members) (R : List Int) (hR : ∀ k ∈ R, 0 ≤ k ∧ k < c.Members) :
    (R.any fun k => memS c h.Stripe k == missing) = decide (lostS c h missing ∈ R) := by
  rw [Bool.eq_iff_iff, List.any_eq_true, decide_eq_true_iff]
  unfold lostS
  by_cases he : missing = -1
  · subst he
    constructor
    · rintro ⟨k, hk, e⟩
      have := memS_in o.m h.Stripe k
      simp at e; omega
    · intro hx
      have := hR _ hx
      simp at this
  · rw [show (missing == -1) = false by simpa using he]
    simp only [cond_false]
    constructor
    · rintro ⟨k, hk, e⟩
      have hk' := hR k hk
      have e : memS c h.Stripe k = missing := by simpa using e
      rw [← e, mem_slo o.m _ _ hk'.1 hk'.2]; exact hk
    · intro hx
      exact ⟨_, hx, by rw [slo_mem o.m _ _ (by omega) h1]; simp⟩
theorem rest_in {c : Config} {h : Head} (o : OfH c h) : ∀ k ∈ restS h, 0 ≤ k ∧ k < c.Members := by
  intro k hk
  have hnd := o.nd
  obtain ⟨i, hi, _, rfl⟩ := (slotsOf_mem _ _ _).1 hk
  omega
theorem old_in {c : Config} {h : Head} (o : OfH c h) : ∀ k ∈ oldS h, 0 ≤ k ∧ k < c.Members := by
  intro k hk
  have hnd := o.nd
  unfold oldS at hk
  rcases List.mem_append.1 hk with hk | hk
  · obtain ⟨i, hi, _, rfl⟩ := (slotsOf_mem _ _ _).1 hk
    omega
  · simp at hk; omega
theorem rmade_eq {c : Config} {h : Head} (o : OfH c h) {missing : Int} (h0 : -1 ≤ missing) (h1 : missing < c.Members) :
    ref17_Made c h missing = some (bif (restS h).length == 0 then Plan.mk 1 [] else pickS (lostS c h missing) h) := by
  have hM := o.m.1
  have hnd := o.nd
  have hrl : (restS h).length ≤ h.Dirty.length := slotsOf_len _ _
  have hol : (oldS h).length ≤ h.Dirty.length + 1 := by unfold oldS; have := slotsOf_len (dty h) h.Dirty.length; simp; omega
  unfold ref17_Made
  rw [rrest_eq o, rold_eq o]
  simp only [Option.bind_some]
  rw [show (((restS h).length : Int) == 0) = ((restS h).length == 0) by rw [Bool.eq_iff_iff]; simp]
  cases hz : (restS h).length == 0 with
  | true => rfl
  | false =>
  simp only [cond_false]
  rw [rclear_eq o.m o.s1 o.s2 _ _ (rest_in o) (by omega), rclear_eq o.m o.s1 o.s2 _ _ (old_in o) (by omega), lost_any o h0 h1 _ (rest_in o), lost_any o h0 h1 _ (old_in o)]
  simp only [Option.bind_some]
  unfold pickS lessP
  cases decide (lostS c h missing ∈ restS h) with
  | true => rfl
  | false =>
  by_cases hle : (restS h).length ≤ (oldS h).length
  · rw [decide_eq_true (show ((restS h).length : Int) ≤ ((oldS h).length : Int) by omega), show decide ((Plan.mk 3 (oldS h)).Reads.length < (Plan.mk 2 (restS h)).Reads.length) = false from decide_eq_false (by simp only; omega)]
    cases decide (lostS c h missing ∈ oldS h) <;> rfl
  · rw [decide_eq_false (show ¬ ((restS h).length : Int) ≤ ((oldS h).length : Int) by omega), show decide ((Plan.mk 3 (oldS h)).Reads.length < (Plan.mk 2 (restS h)).Reads.length) = true from decide_eq_true (by simp only; omega)]
    cases decide (lostS c h missing ∈ oldS h) <;> rfl
theorem rof_eq (c : Config) (h : Head) (missing : Int) : ref17_Of c h missing = some (planS c h missing) := by
  unfold ref17_Of planS
  rw [rcheck_eq]
  cases hm : mayH c h with
  | false => rfl
  | true =>
  have o := mayH_of hm
  have hM := o.m.1
  have hnd := o.nd
  simp only [cond_true, Option.bind_some, bne_self_eq_false, cond_false]
  rw [show (decide (missing < (-1 : Int)) || decide (missing ≥ c.Members)) = !planIn c missing by rw [Bool.eq_iff_iff]; simp [planIn] <;> omega]
  cases hp : planIn c missing with
  | false => rfl
  | true =>
  unfold planIn at hp
  simp only [Bool.and_eq_true, decide_eq_true_eq] at hp
  simp only [Bool.not_true, cond_false, cond_true]
  rw [dirty_eq h (by omega)]
  cases hph : (h.Phase == 0) with
  | false => rw [show (h.Phase != 0) = true by simpa [bne] using hph]; rfl
  | true =>
  rw [show (h.Phase != 0) = false by simpa [bne] using hph]
  simp only [gO, Bool.not_false, cond_true, Option.bind_some, Bool.false_or, Bool.true_and]
  cases anyD h with
  | false => rfl
  | true =>
  simp only [Bool.not_true, cond_false, cond_true]
  rw [rmade_eq o hp.1 hp.2]
  cases ((restS h).length == 0) <;> rfl
theorem plan_len (c : Config) (h : Head) (missing : Int) : (planS c h missing).1.Reads.length ≤ h.Dirty.length + 1 := by
  have hrl : (restS h).length ≤ h.Dirty.length := slotsOf_len _ _
  have hol : (oldS h).length ≤ h.Dirty.length + 1 := by unfold oldS; have := slotsOf_len (dty h) h.Dirty.length; simp; omega
  unfold planS pickS lessP
  cases mayH c h with
  | false => simp
  | true =>
  cases planIn c missing with
  | false => simp
  | true =>
  cases ((h.Phase == 0) && anyD h) with
  | false => simp
  | true =>
  cases ((restS h).length == 0) with
  | true => simp
  | false =>
  cases decide (lostS c h missing ∈ restS h) with
  | true => simpa using hol
  | false =>
  cases decide (lostS c h missing ∈ oldS h) with
  | true => simp; omega
  | false =>
  cases decide ((Plan.mk 3 (oldS h)).Reads.length < (Plan.mk 2 (restS h)).Reads.length) with
  | true => simpa using hol
  | false => simp; omega
theorem psame_self (p : Plan) (hl : p.Reads.length < 4294967296) : ref17_Same p p = some true := by
  unfold ref17_Same
  simp only [bne_self_eq_false, Bool.or_self, cond_false]
  rw [loop_any_list (step := fun q : Int => ref17_Same_L1 p p q) p.Reads (fun _ => false) (Sum.inr ()) (Sum.inl ()) hl (fun k hk => by
    unfold ref17_Same_L1
    rw [decide_eq_true (by omega), idx_nat, List.getElem?_eq_getElem hk, wI_succ (by omega)]
    simp) (by
    unfold ref17_Same_L1
    rw [decide_eq_false (by omega)]; rfl)]
  rw [show (p.Reads.any fun _ => false) = false from List.any_eq_false.2 (fun _ _ => by simp)]
  rfl

theorem plantells_true (c : Config) (h : Head) (missing : Int) : law17_PlanTells c h missing = some true := by
  unfold law17_PlanTells
  obtain ⟨g, hg, hs⟩ := hgreat_eq h
  rw [hg]
  simp only [Option.bind_some]
  cases g with
  | true => rfl
  | false =>
  have sm := hs rfl
  have hpl := plan_len c h missing
  simp only [cond_false]
  rw [htwin_eq sm]
  simp only [Option.bind_some, of_eq, rof_eq]
  rw [psame_self _ (by have := sm.nd; omega)]
  simp only [Option.bind_some, beq_self_eq_true, Bool.and_self, gO, cond_true]
  rw [rsame_self h (by have := sm.nb; omega) (by have := sm.nd; omega)]
  rfl
end Go.Proofs.Ythdeieeckjhfpaa
