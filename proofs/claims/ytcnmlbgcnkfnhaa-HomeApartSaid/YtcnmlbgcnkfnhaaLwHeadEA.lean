/- Plain law: what is told of a head, and what it is logged as (on LwHeadS). -/
import Derived.Test.YtcnmlbgcnkfnhaaLwHeadSA
namespace Go.Proofs.Ytcnmlbgcnkfnhaa
open Go GL

def tellS (c : Config) (h : Head) (slot : Int) : List UInt8 × Bool × Int :=
  bif mayH c h then (bif slotIn c slot then (h.Blocks.getD slot.toNat [], decide (0 < (h.Blocks.getD slot.toNat []).length), 0) else ([], false, 2)) else ([], false, 8)
/-! what a stripe is logged as -/
def dslots (h : Head) (k : Nat) : List Int := ((List.range k).filter fun i => h.Dirty.getD i false).map fun i : Nat => (i : Int)
def dblocks (h : Head) (k : Nat) : List (List UInt8) := ((List.range k).filter fun i => h.Dirty.getD i false).map fun i => h.Blocks.getD i []
theorem dslots_succ (h : Head) (k : Nat) : dslots h (k + 1) = bif h.Dirty.getD k false then dslots h k ++ [(k : Int)] else dslots h k := by
  unfold dslots
  rw [List.range_succ, List.filter_append, List.map_append]
  rw [show List.filter (fun i => h.Dirty.getD i false) [k] = bif h.Dirty.getD k false then [k] else [] by simp only [List.filter]; cases h.Dirty.getD k false <;> rfl]
  cases hd : h.Dirty.getD k false <;> simp
theorem dblocks_succ (h : Head) (k : Nat) : dblocks h (k + 1) = bif h.Dirty.getD k false then dblocks h k ++ [h.Blocks.getD k []] else dblocks h k := by
  unfold dblocks
  rw [List.range_succ, List.filter_append, List.map_append]
  rw [show List.filter (fun i => h.Dirty.getD i false) [k] = bif h.Dirty.getD k false then [k] else [] by simp only [List.filter]; cases h.Dirty.getD k false <;> rfl]
  cases hd : h.Dirty.getD k false <;> simp
theorem dslots_len (h : Head) (k : Nat) : (dslots h k).length ≤ k := by unfold dslots; rw [List.length_map]; exact Nat.le_trans (List.length_filter_le _ _) (by simp)
theorem dblocks_len (h : Head) (k : Nat) : (dblocks h k).length ≤ k := by unfold dblocks; rw [List.length_map]; exact Nat.le_trans (List.length_filter_le _ _) (by simp)
def lastB (h : Head) : List UInt8 := h.Blocks.getD (h.Blocks.length - 1) []
def dealD : Deal := Deal.mk 0 [] [] []
def dealS (c : Config) (h : Head) : Deal × Int :=
  bif mayH c h then (bif decide (h.Phase.toNat = 0) then (dealD, 6) else (Deal.mk h.Stripe (dslots h h.Dirty.length) (dblocks h h.Dirty.length) (lastB h), 0)) else (dealD, 8)
theorem hdeal_eq (c : Config) (h : Head) : head_Deal c h = some (dealS c h) := by
  unfold head_Deal dealS
  rw [hcheck_eq]
  cases hm : mayH c h with
  | false => rfl
  | true =>
  have o := mayH_of hm
  have hmm := o.m.1
  have hnb := o.nb
  have hnd := o.nd
  simp only [cond_true, Option.bind_some, ph0, bne_self_eq_false, cond_false]
  cases hp : decide (h.Phase.toNat = 0) with
  | true => rfl
  | false =>
  have hw : wI (c.Members - 1) = ((h.Blocks.length - 1 : Nat) : Int) := by rw [wI_id (by omega) (by omega)]; omega
  rw [hw, idx_nat, getD_some (show h.Blocks.length - 1 < h.Blocks.length by omega) []]
  simp only [cond_false, Option.bind_some, slices_Clone_byte_byte]
  have hlb := o.blk (h.Blocks.length - 1)
  rw [app_some _ _ (by simp only [List.length_nil]; omega)]
  simp only [List.nil_append, Option.bind_some]
  have := loop_run (step := fun s : Int × (List Int) × (List (List UInt8)) => head_Deal_L1 h s.1 s.2.1 s.2.2) (fun k => ((k : Int), dslots h k, dblocks h k)) h.Dirty.length (dslots h h.Dirty.length, dblocks h h.Dirty.length) (fuel_lt (by omega)) (fun k hk => by
    unfold head_Deal_L1 head_Deal_J2
    have h1 := dslots_len h k
    have h2 := dblocks_len h k
    have h3 := o.blk k
    simp only
    rw [decide_eq_true (show (k : Int) < (h.Dirty.length : Int) by omega), idx_nat, idx_nat, getD_some hk false, getD_some (show k < h.Blocks.length by omega) [], wI_succ (by omega), dslots_succ, dblocks_succ]
    simp only [cond_true, Option.bind_some, slices_Clone_byte_byte]
    cases h.Dirty.getD k false with
    | false => rfl
    | true =>
      rw [app_some _ _ (by simp; omega), app_some _ _ (by simp only [List.length_nil]; omega)]
      simp only [Option.bind_some, cond_true, List.nil_append]
      rw [app_some _ _ (by simp; omega)]
      rfl) (by
    unfold head_Deal_L1
    simp only
    rw [decide_eq_false (by omega)]; rfl)
  replace this : loopM (fun s : Int × (List Int) × (List (List UInt8)) => head_Deal_L1 h s.1 s.2.1 s.2.2) FUEL ((0 : Int), ([] : List Int), ([] : List (List UInt8))) = _ := this
  rw [this]
  rfl
theorem lastN_pos {c : Config} {h : Head} (o : OfH c h) (hp : h.Phase.toNat ≠ 0) : (lastB h).length = 128 := by
  have hk := o.ok
  have hb := o.blk (h.Blocks.length - 1)
  unfold phOk at hk
  simp only [Bool.not_eq_true', Bool.or_eq_false_iff, decide_eq_false hp] at hk
  have h1 := hk.1.1.1
  have h2 : 0 < lastN h := by
    apply Classical.byContradiction
    intro hn
    rw [decide_eq_false hn] at h1
    cases h1
  unfold lastN at h2
  unfold lastB
  omega
end Go.Proofs.Ytcnmlbgcnkfnhaa
