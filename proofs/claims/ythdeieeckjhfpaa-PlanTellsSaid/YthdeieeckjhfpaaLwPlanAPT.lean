/- Plain law: a head's plan. -/
import Derived.Test.YthdeieeckjhfpaaLwHeadSPT
namespace Go.Proofs.Ythdeieeckjhfpaa
open Go GL

theorem hasTrue_eq (l : List Bool) (hl : l.length < 4294967296) : slices_Contains_bool_bool l true = some (l.any id) := by
  unfold slices_Contains_bool_bool slices_Index_bool_bool
  obtain ⟨b, hb, hq⟩ := loop_inv (step := fun s : Int => slices_Index_bool_bool_L1 l true s) l.length (fun k s => s = (k : Int) ∧ ∀ j (hj : j < l.length), j < k → l[j] = false)
    (fun b => (∃ k : Nat, b = Sum.inr (k : Int) ∧ l.any id = true) ∨ (b = Sum.inl () ∧ l.any id = false)) (fun k s hk hI => by
      obtain ⟨rfl, hI⟩ := hI
      unfold slices_Index_bool_bool_L1
      by_cases hlt : k < l.length
      · rw [decide_eq_true (show (k : Int) < (l.length : Int) by omega), idx_nat, List.getElem?_eq_getElem hlt, wI_succ (by omega)]
        simp only [cond_true, Option.bind_some]
        cases ho : l[k] with
        | false =>
          refine .inl ⟨_, rfl, hlt, rfl, fun j hj hjk => ?_⟩
          by_cases he : j = k
          · subst he; exact ho
          · exact hI j hj (by omega)
        | true => exact .inr ⟨_, rfl, .inl ⟨k, rfl, List.any_eq_true.2 ⟨l[k], List.getElem_mem _, by rw [ho]; rfl⟩⟩⟩
      · rw [decide_eq_false (show ¬(k : Int) < (l.length : Int) by omega)]
        refine .inr ⟨_, rfl, .inr ⟨rfl, ?_⟩⟩
        rw [List.any_eq_false]
        intro x hx
        obtain ⟨j, hj, rfl⟩ := List.getElem_of_mem hx
        rw [hI j hj (by omega)]; simp) FUEL 0 0 (Nat.zero_le _) (by have := fuel_lt hl; omega) ⟨rfl, fun j _ hj => by omega⟩
  rw [hb]
  rcases hq with ⟨k, rfl, h⟩ | ⟨rfl, h⟩
  · rw [h]; simp
  · rw [h]; rfl
theorem hasInt_eq (l : List Int) (x : Int) (hl : l.length < 4294967296) : slices_Contains_int_int l x = some (decide (x ∈ l)) := by
  unfold slices_Contains_int_int slices_Index_int_int
  obtain ⟨b, hb, hq⟩ := loop_inv (step := fun s : Int => slices_Index_int_int_L1 l x s) l.length (fun k s => s = (k : Int) ∧ ∀ j (hj : j < l.length), j < k → l[j] ≠ x)
    (fun b => (∃ k : Nat, b = Sum.inr (k : Int) ∧ x ∈ l) ∨ (b = Sum.inl () ∧ x ∉ l)) (fun k s hk hI => by
      obtain ⟨rfl, hI⟩ := hI
      unfold slices_Index_int_int_L1
      by_cases hlt : k < l.length
      · rw [decide_eq_true (show (k : Int) < (l.length : Int) by omega), idx_nat, List.getElem?_eq_getElem hlt, wI_succ (by omega)]
        simp only [cond_true, Option.bind_some]
        cases ho : (x == l[k]) with
        | false =>
          refine .inl ⟨_, rfl, hlt, rfl, fun j hj hjk => ?_⟩
          by_cases he : j = k
          · subst he; intro h2; rw [h2] at ho; simp at ho
          · exact hI j hj (by omega)
        | true => exact .inr ⟨_, rfl, .inl ⟨k, rfl, by rw [beq_iff_eq] at ho; rw [ho]; exact List.getElem_mem _⟩⟩
      · rw [decide_eq_false (show ¬(k : Int) < (l.length : Int) by omega)]
        refine .inr ⟨_, rfl, .inr ⟨rfl, fun hx => ?_⟩⟩
        obtain ⟨j, hj, rfl⟩ := List.getElem_of_mem hx
        exact hI j hj (by omega) rfl) FUEL 0 0 (Nat.zero_le _) (by have := fuel_lt hl; omega) ⟨rfl, fun j _ hj => by omega⟩
  rw [hb]
  rcases hq with ⟨k, rfl, h⟩ | ⟨rfl, h⟩
  · rw [decide_eq_true h]; simp
  · rw [decide_eq_false h]; rfl

/-- The places below k at which p holds. -/
def slotsOf (p : Nat → Bool) (k : Nat) : List Int := ((List.range k).filter p).map fun i : Nat => (i : Int)
theorem slotsOf_succ (p : Nat → Bool) (k : Nat) : slotsOf p (k + 1) = bif p k then slotsOf p k ++ [(k : Int)] else slotsOf p k := by
  unfold slotsOf
  rw [List.range_succ, List.filter_append, List.map_append]
  rw [show List.filter p [k] = bif p k then [k] else [] by simp only [List.filter]; cases p k <;> rfl]
  cases hd : p k <;> simp
theorem slotsOf_len (p : Nat → Bool) (k : Nat) : (slotsOf p k).length ≤ k := by unfold slotsOf; rw [List.length_map]; exact Nat.le_trans (List.length_filter_le _ _) (by simp)
theorem slotsOf_mem (p : Nat → Bool) (k : Nat) (x : Int) : x ∈ slotsOf p k ↔ ∃ i : Nat, i < k ∧ p i = true ∧ x = (i : Int) := by
  unfold slotsOf
  simp only [List.mem_map, List.mem_filter, List.mem_range]
  exact ⟨fun ⟨i, h, e⟩ => ⟨i, h.1, h.2, e.symm⟩, fun ⟨i, h1, h2, e⟩ => ⟨i, ⟨h1, h2⟩, e.symm⟩⟩
theorem slotsOf_sorted (p : Nat → Bool) (k : Nat) : (slotsOf p k).Pairwise (· < ·) := by
  unfold slotsOf
  rw [List.pairwise_map]
  exact (List.Pairwise.filter p (List.pairwise_lt_range (n := k))).imp (fun h => by omega)

def unk (h : Head) (i : Nat) : Bool := (h.Blocks.getD i []).length == 0
def dty (h : Head) (i : Nat) : Bool := h.Dirty.getD i false
def restS (h : Head) : List Int := slotsOf (unk h) h.Dirty.length
def oldS (h : Head) : List Int := slotsOf (dty h) h.Dirty.length ++ [(h.Dirty.length : Int)]
def lessP (a b : Plan) : Plan := bif decide (b.Reads.length < a.Reads.length) then b else a
def pickS (lost : Int) (h : Head) : Plan :=
  bif decide (lost ∈ restS h) then Plan.mk 3 (oldS h) else bif decide (lost ∈ oldS h) then Plan.mk 2 (restS h) else lessP (Plan.mk 2 (restS h)) (Plan.mk 3 (oldS h))

theorem cmp_eq (a b : Int) : cmp_Compare_int a b = some (bif decide (a < b) then -1 else bif decide (a > b) then 1 else 0) := by
  unfold cmp_Compare_int cmp_isNaN_int
  simp only [bne_self_eq_false, Option.bind_some, cond_false]
  cases decide (a < b) <;> cases decide (a > b) <;> rfl
theorem cmpP_eq (a b : Plan) : ∃ n : Int, plan_Of_1 a b = some n ∧ decide (n < 0) = decide (a.Reads.length < b.Reads.length) := by
  unfold plan_Of_1
  rw [cmp_eq]
  refine ⟨_, rfl, ?_⟩
  by_cases h : a.Reads.length < b.Reads.length
  · rw [decide_eq_true (show (a.Reads.length : Int) < (b.Reads.length : Int) by omega), decide_eq_true h]; rfl
  · rw [decide_eq_false (show ¬(a.Reads.length : Int) < (b.Reads.length : Int) by omega), decide_eq_false h]
    cases decide ((a.Reads.length : Int) > (b.Reads.length : Int)) <;> rfl
theorem min1_eq (a : Plan) : slices_MinFunc_api_Plan_api_Plan [a] (fun y => plan_Of_1 y.1 y.2) = some a := by
  unfold slices_MinFunc_api_Plan_api_Plan slices_MinFunc_api_Plan_api_Plan_J1
  have : loopM (fun s : Int × UInt8 × (List Int) => slices_MinFunc_api_Plan_api_Plan_L2 [a] (fun y => plan_Of_1 y.1 y.2) s.1 s.2.1 s.2.2) FUEL ((1 : Int), a.Kind, a.Reads) = some (a.Kind, a.Reads) :=
    loop_run (fun _ => ((1 : Int), a.Kind, a.Reads)) 0 (a.Kind, a.Reads) (by unfold FUEL; omega) (fun k hk => by omega) rfl
  have hi : idx [a] (0 : Int) = some a := rfl
  rw [show decide ((([a].length : Nat) : Int) < 1) = false from rfl, hi]
  simp only [cond_false, Option.bind_some]
  rw [this]
  rfl
theorem min2_eq (a b : Plan) : slices_MinFunc_api_Plan_api_Plan [a, b] (fun y => plan_Of_1 y.1 y.2) = some (lessP a b) := by
  unfold slices_MinFunc_api_Plan_api_Plan slices_MinFunc_api_Plan_api_Plan_J1
  have : loopM (fun s : Int × UInt8 × (List Int) => slices_MinFunc_api_Plan_api_Plan_L2 [a, b] (fun y => plan_Of_1 y.1 y.2) s.1 s.2.1 s.2.2) FUEL ((1 : Int), a.Kind, a.Reads) = some ((lessP a b).Kind, (lessP a b).Reads) :=
    loop_run (fun k => if k = 0 then ((1 : Int), a.Kind, a.Reads) else ((2 : Int), (lessP a b).Kind, (lessP a b).Reads)) 1 _ (by unfold FUEL; omega) (fun k hk => by
      obtain rfl : k = 0 := by omega
      obtain ⟨n, h1, h2⟩ := cmpP_eq b (Plan.mk a.Kind a.Reads)
      show slices_MinFunc_api_Plan_api_Plan_L2 [a, b] (fun y => plan_Of_1 y.1 y.2) 1 a.Kind a.Reads = some (Ctl.next ((2 : Int), (lessP a b).Kind, (lessP a b).Reads))
      unfold slices_MinFunc_api_Plan_api_Plan_L2
      show Option.bind (plan_Of_1 b (Plan.mk a.Kind a.Reads)) _ = _
      rw [h1]
      simp only [Option.bind_some, h2]
      unfold lessP
      cases decide (b.Reads.length < a.Reads.length) <;> rfl) rfl
  have hi : idx [a, b] (0 : Int) = some a := rfl
  rw [show decide ((([a, b].length : Nat) : Int) < 1) = false from rfl, hi]
  simp only [cond_false, Option.bind_some]
  rw [this]
  rfl
theorem some_eq (lost : Int) (l : List Plan) (hl : l.length < 100) (hx : ∀ p ∈ l, p.Reads.length < 4294967296) : plan_some lost l = some (l.filter fun p => !decide (lost ∈ p.Reads)) := by
  unfold plan_some
  have := loop_run (step := fun s : (List Plan) × Int => plan_some_L1 lost l s.1 s.2) (fun k => ((l.take k).filter (fun p => !decide (lost ∈ p.Reads)), (k : Int))) l.length (l.filter fun p => !decide (lost ∈ p.Reads)) (fuel_lt (by omega)) (fun k hk => by
    unfold plan_some_L1 plan_some_J2
    have hp := hx _ (List.getElem_mem hk)
    have hlen : ((l.take k).filter (fun p => !decide (lost ∈ p.Reads))).length ≤ k := Nat.le_trans (List.length_filter_le _ _) (by simp; omega)
    simp only
    rw [decide_eq_true (show (k : Int) < (l.length : Int) by omega), idx_nat, List.getElem?_eq_getElem hk, wI_succ (by omega)]
    simp only [cond_true, Option.bind_some]
    rw [hasInt_eq _ _ hp, take_succ_get _ _ _ (List.getElem?_eq_getElem hk), List.filter_append]
    simp only [Option.bind_some]
    rw [show List.filter (fun p => !decide (lost ∈ p.Reads)) [l[k]] = bif !decide (lost ∈ l[k].Reads) then [l[k]] else [] by simp only [List.filter]; cases (decide (lost ∈ l[k].Reads)) <;> rfl]
    cases (!decide (lost ∈ l[k].Reads)) with
    | false => simp
    | true =>
      simp only [cond_true]
      rw [app_some _ _ (by simp only [List.length_cons, List.length_nil]; omega)]
      rfl) (by
    unfold plan_some_L1
    simp only
    rw [decide_eq_false (by omega), List.take_length]; rfl)
  replace this : loopM (fun s : (List Plan) × Int => plan_some_L1 lost l s.1 s.2) FUEL (([] : List Plan), (0 : Int)) = _ := this
  rw [this]
  rfl

/-! members and slots -/
theorem divide_eq {a b : Int} (ha : 0 ≤ a) (ha2 : a ≤ 1000000) (hb : 0 < b) : turn_divide a b = some (a / b, a % b) := by
  unfold turn_divide quoI remI
  rw [if_neg (by omega), if_neg (by omega), Int.tdiv_eq_ediv_of_nonneg ha, Int.tmod_eq_emod_of_nonneg ha]
  have h1 : 0 ≤ a / b := Int.ediv_nonneg ha (by omega)
  have h2 : a / b ≤ a := Int.ediv_le_self b ha
  rw [wI_id (by omega) (by omega)]
  rfl
def parS (c : Config) (stripe : Int) : Int := c.Members - 1 - (stripe / c.Chunk) % c.Members
def memS (c : Config) (stripe k : Int) : Int := (parS c stripe + 1 + k) % c.Members
def sloS (c : Config) (stripe m : Int) : Int := (m + c.Members - parS c stripe - 1) % c.Members
theorem parS_in {c : Config} (hm : MayC c) (stripe : Int) : 0 ≤ parS c stripe ∧ parS c stripe < c.Members := by
  have := hm.1
  unfold parS
  have h1 := Int.emod_nonneg (stripe / c.Chunk) (show c.Members ≠ 0 by omega)
  have h2 := Int.emod_lt_of_pos (stripe / c.Chunk) (show 0 < c.Members by omega)
  omega
theorem mem_slo {c : Config} (hm : MayC c) (stripe k : Int) (h0 : 0 ≤ k) (h1 : k < c.Members) : sloS c stripe (memS c stripe k) = k := by
  have hM := hm.1
  have hp := parS_in hm stripe
  unfold sloS memS
  generalize parS c stripe = p at *
  generalize c.Members = M at *
  by_cases h : p + 1 + k < M
  · rw [Int.emod_eq_of_lt (show 0 ≤ p + 1 + k by omega) h, show p + 1 + k + M - p - 1 = k + M by omega, Int.add_emod_right, Int.emod_eq_of_lt h0 h1]
  · have e : (p + 1 + k) % M = p + 1 + k - M := by
      rw [show p + 1 + k = (p + 1 + k - M) + M by omega, Int.add_emod_right, Int.emod_eq_of_lt (by omega) (by omega)]
      omega
    rw [e, show p + 1 + k - M + M - p - 1 = k by omega, Int.emod_eq_of_lt h0 h1]
theorem at_eq {c : Config} (hm : MayC c) {stripe k : Int} (s0 : 0 ≤ stripe) (s1 : stripe < c.Chunk * c.Rows) (h0 : 0 ≤ k) (h1 : k < c.Members) : turn_at c stripe k c.Members = some (⟨c, stripe / c.Chunk⟩, 0) := by
  unfold turn_at
  have hs := wI_str hm
  have hc := hm.2.1
  rw [stripes_eq, (mayC_iff c).2 hm]
  simp only [cond_true, Option.bind_some, bne_self_eq_false, cond_false]
  rw [decide_eq_false (show ¬ stripe < 0 by omega), decide_eq_false (show ¬ stripe ≥ c.Chunk * c.Rows by omega), decide_eq_false (show ¬ k < 0 by omega), decide_eq_false (show ¬ k ≥ c.Members by omega)]
  simp only [cond_false]
  unfold turn_at_J1
  rw [divide_eq s0 (by omega) (by omega)]
  rfl
theorem row_small {c : Config} (hm : MayC c) {stripe : Int} (s0 : 0 ≤ stripe) (s1 : stripe < c.Chunk * c.Rows) : 0 ≤ stripe / c.Chunk ∧ stripe / c.Chunk ≤ 64 := by
  have hs := wI_str hm
  have hc := hm.2.1
  have h1 : 0 ≤ stripe / c.Chunk := Int.ediv_nonneg s0 (by omega)
  have h2 : stripe / c.Chunk ≤ stripe := Int.ediv_le_self c.Chunk s0
  omega
theorem parity_eq {c : Config} (hm : MayC c) {stripe : Int} (s0 : 0 ≤ stripe) (s1 : stripe < c.Chunk * c.Rows) : turn_row_parity ⟨c, stripe / c.Chunk⟩ = some (parS c stripe) := by
  have hM := hm.1
  have hr := row_small hm s0 s1
  have hp := parS_in hm stripe
  unfold turn_row_parity
  simp only
  rw [divide_eq hr.1 (by omega) (by omega)]
  simp only [Option.bind_some]
  rw [wI_id (x := c.Members - 1) (by omega) (by omega)]
  unfold parS at hp ⊢
  rw [wI_id (by omega) (by omega)]
theorem slot_eq {c : Config} (hm : MayC c) {stripe k : Int} (s0 : 0 ≤ stripe) (s1 : stripe < c.Chunk * c.Rows) (h0 : 0 ≤ k) (h1 : k < c.Members) : turn_Slot c stripe k = some (sloS c stripe k, 0) := by
  have hM := hm.1
  have hp := parS_in hm stripe
  unfold turn_Slot turn_row_slot
  rw [at_eq hm s0 s1 h0 h1]
  simp only [Option.bind_some, bne_self_eq_false, cond_false]
  rw [parity_eq hm s0 s1]
  simp only [Option.bind_some]
  rw [wI_id (x := k + c.Members) (by omega) (by omega), wI_id (x := k + c.Members - parS c stripe) (by omega) (by omega), wI_id (by omega) (by omega), divide_eq (by omega) (by omega) (by omega)]
  rfl
def lostS (c : Config) (h : Head) (missing : Int) : Int := bif missing == -1 then -1 else sloS c h.Stripe missing
theorem lost_eq {c : Config} {h : Head} (o : OfH c h) {missing : Int} (h0 : -1 ≤ missing) (h1 : missing < c.Members) : plan_lost c h.Stripe missing = some (lostS c h missing) := by
  unfold plan_lost lostS
  by_cases he : missing = -1
  · subst he; rfl
  · rw [show (missing == -1) = false by simp [he]]
    simp only [cond_false]
    rw [slot_eq o.m o.s1 o.s2 (by omega) h1]
    rfl
def planIn (c : Config) (missing : Int) : Bool := decide (-1 ≤ missing) && decide (missing < c.Members)
def planS (c : Config) (h : Head) (missing : Int) : Plan × Int :=
  bif mayH c h then (bif planIn c missing then (bif (h.Phase == 0) && anyD h then (bif (restS h).length == 0 then (Plan.mk 1 [], 0) else (pickS (lostS c h missing) h, 0)) else (Plan.mk 0 [], 6)) else (Plan.mk 0 [], 2)) else (Plan.mk 0 [], 8)
theorem rest_old {c : Config} {h : Head} (o : OfH c h) {x : Int} (h1 : x ∈ restS h) : x ∉ oldS h := by
  intro h2
  obtain ⟨i, a1, a2, rfl⟩ := (slotsOf_mem _ _ _).1 h1
  unfold oldS at h2
  rcases List.mem_append.1 h2 with h2 | h2
  · obtain ⟨j, b1, b2, b3⟩ := (slotsOf_mem _ _ _).1 h2
    obtain rfl : i = j := by omega
    have := o.di i b2
    unfold unk at a2
    simp at a2 this
    exact this a2
  · simp at h2; omega
theorem of_eq (c : Config) (h : Head) (missing : Int) : plan_Of c h missing = some (planS c h missing) := by
  unfold plan_Of planS
  rw [hcheck_eq]
  cases hm : mayH c h with
  | false => rfl
  | true =>
  have o := mayH_of hm
  have hm1 := o.m.1
  have hnb := o.nb
  have hnd := o.nd
  simp only [cond_true, Option.bind_some, bne_self_eq_false, cond_false]
  rw [show (decide (missing < (-1 : Int)) || decide (missing ≥ c.Members)) = !planIn c missing by rw [Bool.eq_iff_iff]; simp [planIn] <;> omega]
  cases hp : planIn c missing with
  | false => rfl
  | true =>
  have hpi : -1 ≤ missing ∧ missing < c.Members := by simpa [planIn] using hp
  simp only [Bool.not_true, cond_false, cond_true]
  rw [hasTrue_eq _ (by omega)]
  cases hph : (h.Phase == 0) with
  | false =>
    simp only [bne, hph, Bool.not_false, Bool.not_true, gO, cond_false, Option.bind_some, Bool.true_or, cond_true, Bool.false_and]
  | true =>
  simp only [bne, hph, Bool.not_true, Bool.not_false, gO, cond_true, Option.bind_some, Bool.false_or, Bool.true_and]
  rw [show h.Dirty.any id = anyD h from rfl]
  cases had : anyD h with
  | false => rfl
  | true =>
  simp only [Bool.not_true, cond_false, cond_true]
  have hl1 := slotsOf_len (unk h) h.Dirty.length
  have hl2 := slotsOf_len (dty h) h.Dirty.length
  have := loop_run (step := fun s : Int × (List Int) × (List Int) => plan_Of_L1 h s.1 s.2.1 s.2.2) (fun k => ((k : Int), slotsOf (unk h) k, slotsOf (dty h) k)) h.Dirty.length (slotsOf (unk h) h.Dirty.length, slotsOf (dty h) h.Dirty.length) (fuel_lt (by omega)) (fun k hk => by
    have h1 := slotsOf_len (unk h) k
    have h2 := slotsOf_len (dty h) k
    unfold plan_Of_L1 plan_Of_J3 plan_Of_J2
    simp only
    rw [decide_eq_true (show (k : Int) < (h.Dirty.length : Int) by omega), idx_nat, idx_nat, getD_some hk false, getD_some (show k < h.Blocks.length by omega) [], wI_succ (by omega), slotsOf_succ, slotsOf_succ]
    simp only [cond_true, Option.bind_some]
    rw [show (((h.Blocks.getD k []).length : Int) == 0) = unk h k by unfold unk; rw [Bool.eq_iff_iff]; simp]
    rw [show dty h k = h.Dirty.getD k false from rfl]
    rw [app_some _ _ (by simp; omega), app_some _ _ (by simp; omega)]
    cases h.Dirty.getD k false <;> cases unk h k <;> rfl) (by
    unfold plan_Of_L1
    simp only
    rw [decide_eq_false (by omega)]; rfl)
  replace this : loopM (fun s : Int × (List Int) × (List Int) => plan_Of_L1 h s.1 s.2.1 s.2.2) FUEL ((0 : Int), ([] : List Int), ([] : List Int)) = _ := this
  rw [this]
  simp only [Option.bind_some]
  rw [show (((slotsOf (unk h) h.Dirty.length).length : Int) == 0) = ((restS h).length == 0) by unfold restS; rw [Bool.eq_iff_iff]; simp]
  cases hr : ((restS h).length == 0) with
  | true => rfl
  | false =>
  simp only [cond_false]
  rw [app_some _ _ (by simp; omega), lost_eq o hpi.1 hpi.2, wI_id (x := c.Members - 1) (by omega) (by omega), ← hnd]
  simp only [Option.bind_some]
  rw [show slotsOf (dty h) h.Dirty.length ++ [(h.Dirty.length : Int)] = oldS h from rfl, show slotsOf (unk h) h.Dirty.length = restS h from rfl]
  rw [some_eq _ _ (by simp) (fun p hp => by
    simp only [List.mem_cons, List.not_mem_nil, or_false] at hp
    rcases hp with rfl | rfl
    · simp only; unfold restS; omega
    · simp only; unfold oldS; simp; omega)]
  simp only [Option.bind_some, List.filter_cons, List.filter_nil]
  unfold pickS
  by_cases h1 : lostS c h missing ∈ restS h
  · have h2 := rest_old o h1
    rw [decide_eq_true h1, decide_eq_false h2]
    exact (by simp only [Bool.not_true, Bool.not_false, if_true, Bool.false_eq_true, if_false]; rw [min1_eq]; rfl)
  · rw [decide_eq_false h1]
    by_cases h2 : lostS c h missing ∈ oldS h
    · rw [decide_eq_true h2]
      exact (by simp only [Bool.not_true, Bool.not_false, if_true, Bool.false_eq_true, if_false]; rw [min1_eq]; rfl)
    · rw [decide_eq_false h2]
      exact (by simp only [Bool.not_false, if_true]; rw [min2_eq]; rfl)
end Go.Proofs.Ythdeieeckjhfpaa
