/- Plain law: a head's plan. -/
import Derived.Test.YtcnmlbgcnkfnhaaLwHeadSA
namespace Go.Proofs.Ytcnmlbgcnkfnhaa
open Go GL

/-- The places below k at which p holds. -/
def slotsOf (p : Nat → Bool) (k : Nat) : List Int := ((List.range k).filter p).map fun i : Nat => (i : Int)
theorem slotsOf_succ (p : Nat → Bool) (k : Nat) : slotsOf p (k + 1) = bif p k then slotsOf p k ++ [(k : Int)] else slotsOf p k := by
  unfold slotsOf
  rw [List.range_succ, List.filter_append, List.map_append]
  rw [show List.filter p [k] = bif p k then [k] else [] by simp only [List.filter]; cases p k <;> rfl]
  cases hd : p k <;> simp
theorem slotsOf_len (p : Nat → Bool) (k : Nat) : (slotsOf p k).length ≤ k := by unfold slotsOf; rw [List.length_map]; exact Nat.le_trans (List.length_filter_le _ _) (by simp)
theorem slotsOf_mem (p : Nat → Bool) (k : Nat) (x : Int) : x ∈ slotsOf p k ↔ ∃ i : Nat, i < k ∧ p i = true ∧ x = (i : Int) := by
  unfold slotsOf
  simp only [List.mem_map, List.mem_filter, List.mem_range]
  exact ⟨fun ⟨i, h, e⟩ => ⟨i, h.1, h.2, e.symm⟩, fun ⟨i, h1, h2, e⟩ => ⟨i, ⟨h1, h2⟩, e.symm⟩⟩
theorem slotsOf_sorted (p : Nat → Bool) (k : Nat) : (slotsOf p k).Pairwise (· < ·) := by
  unfold slotsOf
  rw [List.pairwise_map]
  exact (List.Pairwise.filter p (List.pairwise_lt_range (n := k))).imp (fun h => by omega)

def unk (h : Head) (i : Nat) : Bool := (h.Blocks.getD i []).length == 0
def dty (h : Head) (i : Nat) : Bool := h.Dirty.getD i false
def restS (h : Head) : List Int := slotsOf (unk h) h.Dirty.length
def oldS (h : Head) : List Int := slotsOf (dty h) h.Dirty.length ++ [(h.Dirty.length : Int)]
/-! members and slots -/
theorem divide_eq {a b : Int} (ha : 0 ≤ a) (ha2 : a ≤ 1000000) (hb : 0 < b) : turn_divide a b = some (a / b, a % b) := by
  unfold turn_divide quoI remI
  rw [if_neg (by omega), if_neg (by omega), Int.tdiv_eq_ediv_of_nonneg ha, Int.tmod_eq_emod_of_nonneg ha]
  have h1 : 0 ≤ a / b := Int.ediv_nonneg ha (by omega)
  have h2 : a / b ≤ a := Int.ediv_le_self b ha
  rw [wI_id (by omega) (by omega)]
  rfl
def parS (c : Config) (stripe : Int) : Int := c.Members - 1 - (stripe / c.Chunk) % c.Members
def memS (c : Config) (stripe k : Int) : Int := (parS c stripe + 1 + k) % c.Members
def sloS (c : Config) (stripe m : Int) : Int := (m + c.Members - parS c stripe - 1) % c.Members
theorem parS_in {c : Config} (hm : MayC c) (stripe : Int) : 0 ≤ parS c stripe ∧ parS c stripe < c.Members := by
  have := hm.1
  unfold parS
  have h1 := Int.emod_nonneg (stripe / c.Chunk) (show c.Members ≠ 0 by omega)
  have h2 := Int.emod_lt_of_pos (stripe / c.Chunk) (show 0 < c.Members by omega)
  omega
theorem mem_slo {c : Config} (hm : MayC c) (stripe k : Int) (h0 : 0 ≤ k) (h1 : k < c.Members) : sloS c stripe (memS c stripe k) = k := by
  have hM := hm.1
  have hp := parS_in hm stripe
  unfold sloS memS
  generalize parS c stripe = p at *
  generalize c.Members = M at *
  by_cases h : p + 1 + k < M
  · rw [Int.emod_eq_of_lt (show 0 ≤ p + 1 + k by omega) h, show p + 1 + k + M - p - 1 = k + M by omega, Int.add_emod_right, Int.emod_eq_of_lt h0 h1]
  · have e : (p + 1 + k) % M = p + 1 + k - M := by
      rw [show p + 1 + k = (p + 1 + k - M) + M by omega, Int.add_emod_right, Int.emod_eq_of_lt (by omega) (by omega)]
      omega
    rw [e, show p + 1 + k - M + M - p - 1 = k by omega, Int.emod_eq_of_lt h0 h1]
theorem at_eq {c : Config} (hm : MayC c) {stripe k : Int} (s0 : 0 ≤ stripe) (s1 : stripe < c.Chunk * c.Rows) (h0 : 0 ≤ k) (h1 : k < c.Members) : turn_at c stripe k c.Members = some (Row.mk c (stripe / c.Chunk), 0) := by
  unfold turn_at
  have hs := wI_str hm
  have hc := hm.2.1
  rw [stripes_eq, (mayC_iff c).2 hm]
  simp only [cond_true, Option.bind_some, bne_self_eq_false, cond_false]
  rw [decide_eq_false (show ¬ stripe < 0 by omega), decide_eq_false (show ¬ stripe ≥ c.Chunk * c.Rows by omega), decide_eq_false (show ¬ k < 0 by omega), decide_eq_false (show ¬ k ≥ c.Members by omega)]
  simp only [cond_false]
  unfold turn_at_J1
  rw [divide_eq s0 (by omega) (by omega)]
  rfl
theorem row_small {c : Config} (hm : MayC c) {stripe : Int} (s0 : 0 ≤ stripe) (s1 : stripe < c.Chunk * c.Rows) : 0 ≤ stripe / c.Chunk ∧ stripe / c.Chunk ≤ 64 := by
  have hs := wI_str hm
  have hc := hm.2.1
  have h1 : 0 ≤ stripe / c.Chunk := Int.ediv_nonneg s0 (by omega)
  have h2 : stripe / c.Chunk ≤ stripe := Int.ediv_le_self c.Chunk s0
  omega
theorem parity_eq {c : Config} (hm : MayC c) {stripe : Int} (s0 : 0 ≤ stripe) (s1 : stripe < c.Chunk * c.Rows) : turn_row_parity (Row.mk c (stripe / c.Chunk)) = some (parS c stripe) := by
  have hM := hm.1
  have hr := row_small hm s0 s1
  have hp := parS_in hm stripe
  unfold turn_row_parity
  simp only
  rw [divide_eq hr.1 (by omega) (by omega)]
  simp only [Option.bind_some]
  rw [wI_id (x := c.Members - 1) (by omega) (by omega)]
  unfold parS at hp ⊢
  rw [wI_id (by omega) (by omega)]
theorem member_eq {c : Config} (hm : MayC c) {stripe k : Int} (s0 : 0 ≤ stripe) (s1 : stripe < c.Chunk * c.Rows) (h0 : 0 ≤ k) (h1 : k < c.Members) : turn_Member c stripe k = some (memS c stripe k, 0) := by
  have hM := hm.1
  have hp := parS_in hm stripe
  unfold turn_Member turn_row_member
  rw [at_eq hm s0 s1 h0 h1]
  simp only [Option.bind_some, bne_self_eq_false, cond_false]
  rw [parity_eq hm s0 s1]
  simp only [Option.bind_some]
  rw [wI_id (x := parS c stripe + 1) (by omega) (by omega), wI_id (by omega) (by omega), divide_eq (by omega) (by omega) (by omega)]
  rfl
def lostS (c : Config) (h : Head) (missing : Int) : Int := bif missing == -1 then -1 else sloS c h.Stripe missing
def planIn (c : Config) (missing : Int) : Bool := decide (-1 ≤ missing) && decide (missing < c.Members)
theorem rest_old {c : Config} {h : Head} (o : OfH c h) {x : Int} (h1 : x ∈ restS h) : x ∉ oldS h := by
  intro h2
  obtain ⟨i, a1, a2, rfl⟩ := (slotsOf_mem _ _ _).1 h1
  unfold oldS at h2
  rcases List.mem_append.1 h2 with h2 | h2
  · obtain ⟨j, b1, b2, b3⟩ := (slotsOf_mem _ _ _).1 h2
    obtain rfl : i = j := by omega
    have := o.di i b2
    unfold unk at a2
    simp at a2 this
    exact this a2
  · simp at h2; omega
end Go.Proofs.Ytcnmlbgcnkfnhaa
