/- Plain law: what is told of a head, and what it is logged as (on LwHeadS). -/
import Derived.Test.YtjefieckineneaaLwHeadSHK
namespace Go.Proofs.Ytjefieckineneaa
open Go GL

def tellS (c : Config) (h : Head) (slot : Int) : List UInt8 × Bool × Int :=
  bif mayH c h then (bif slotIn c slot then (h.Blocks.getD slot.toNat [], decide (0 < (h.Blocks.getD slot.toNat []).length), 0) else ([], false, 2)) else ([], false, 8)
theorem htell_eq (c : Config) (h : Head) (slot : Int) : head_Tell c h slot = some (tellS c h slot) := by
  unfold head_Tell tellS
  rw [hcheck_eq]
  cases hm : mayH c h with
  | false => rfl
  | true =>
  have o := mayH_of hm
  have := o.m.1
  simp only [cond_true, Option.bind_some, slot_expr o.m]
  cases hs : slotIn c slot with
  | false => rfl
  | true =>
  obtain ⟨s1, s2⟩ := (slotIn_iff c slot).1 hs
  obtain ⟨k, rfl⟩ := Int.eq_ofNat_of_zero_le s1
  have hk : k < h.Blocks.length := by have := o.nb; omega
  have hx := o.bl _ (List.getElem_mem hk)
  simp only [bne_self_eq_false, Bool.not_true, cond_false, cond_true, idx_nat, List.getElem?_eq_getElem hk, Option.bind_some, slices_Clone_byte_byte]
  rw [app_some _ _ (by simp; omega)]
  simp only [List.nil_append, Option.bind_some, Int.toNat_natCast, List.getD_eq_getElem?_getD, List.getElem?_eq_getElem hk, Option.getD_some]
  rw [show decide ((h.Blocks[k].length : Int) > 0) = decide (0 < h.Blocks[k].length) from decide_eq_decide.2 (by omega)]
/-! what a stripe is logged as -/
def dslots (h : Head) (k : Nat) : List Int := ((List.range k).filter fun i => h.Dirty.getD i false).map fun i : Nat => (i : Int)
def dblocks (h : Head) (k : Nat) : List (List UInt8) := ((List.range k).filter fun i => h.Dirty.getD i false).map fun i => h.Blocks.getD i []
theorem dslots_succ (h : Head) (k : Nat) : dslots h (k + 1) = bif h.Dirty.getD k false then dslots h k ++ [(k : Int)] else dslots h k := by
  unfold dslots
  rw [List.range_succ, List.filter_append, List.map_append]
  rw [show List.filter (fun i => h.Dirty.getD i false) [k] = bif h.Dirty.getD k false then [k] else [] by simp only [List.filter]; cases h.Dirty.getD k false <;> rfl]
  cases hd : h.Dirty.getD k false <;> simp
theorem dblocks_succ (h : Head) (k : Nat) : dblocks h (k + 1) = bif h.Dirty.getD k false then dblocks h k ++ [h.Blocks.getD k []] else dblocks h k := by
  unfold dblocks
  rw [List.range_succ, List.filter_append, List.map_append]
  rw [show List.filter (fun i => h.Dirty.getD i false) [k] = bif h.Dirty.getD k false then [k] else [] by simp only [List.filter]; cases h.Dirty.getD k false <;> rfl]
  cases hd : h.Dirty.getD k false <;> simp
theorem dslots_len (h : Head) (k : Nat) : (dslots h k).length ≤ k := by unfold dslots; rw [List.length_map]; exact Nat.le_trans (List.length_filter_le _ _) (by simp)
theorem dblocks_len (h : Head) (k : Nat) : (dblocks h k).length ≤ k := by unfold dblocks; rw [List.length_map]; exact Nat.le_trans (List.length_filter_le _ _) (by simp)
def lastB (h : Head) : List UInt8 := h.Blocks.getD (h.Blocks.length - 1) []
theorem lastN_pos {c : Config} {h : Head} (o : OfH c h) (hp : h.Phase.toNat ≠ 0) : (lastB h).length = 128 := by
  have hk := o.ok
  have hb := o.blk (h.Blocks.length - 1)
  unfold phOk at hk
  simp only [Bool.not_eq_true', Bool.or_eq_false_iff, decide_eq_false hp] at hk
  have h1 := hk.1.1.1
  have h2 : 0 < lastN h := by
    apply Classical.byContradiction
    intro hn
    rw [decide_eq_false hn] at h1
    cases h1
  unfold lastN at h2
  unfold lastB
  omega
end Go.Proofs.Ytjefieckineneaa
