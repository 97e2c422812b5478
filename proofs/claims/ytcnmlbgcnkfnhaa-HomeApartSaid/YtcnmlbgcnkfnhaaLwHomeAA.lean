/- Plain law: HomeApart. -/
import Derived.Test.YtcnmlbgcnkfnhaaLwHeadEA
import Derived.Test.YtcnmlbgcnkfnhaaLwPlanAA
namespace Go.Proofs.Ytcnmlbgcnkfnhaa
open Go GL

def slotsR (h : Head) : List Int := slotsOf (dty h) h.Dirty.length ++ [(h.Dirty.length : Int)]
def goes (c : Config) (h : Head) (missing : Int) (s : Int) : Bool := !(memS c h.Stripe s == missing)
def actOf (c : Config) (h : Head) (s : Int) : Act37 := Act37.mk (memS c h.Stripe s) 1 (h.Stripe + 1) (h.Blocks.getD s.toNat [])
def actsS (c : Config) (h : Head) (missing : Int) (l : List Int) : List Act37 := (l.filter (goes c h missing)).map (actOf c h)
theorem actsS_snoc (c : Config) (h : Head) (missing : Int) (l : List Int) (s : Int) : actsS c h missing (l ++ [s]) = bif memS c h.Stripe s == missing then actsS c h missing l else actsS c h missing l ++ [actOf c h s] := by
  unfold actsS
  rw [List.filter_append, List.map_append]
  rw [show List.filter (goes c h missing) [s] = bif goes c h missing s then [s] else [] by simp only [List.filter]; cases goes c h missing s <;> rfl]
  unfold goes
  cases (memS c h.Stripe s == missing) <;> simp
theorem actsS_len (c : Config) (h : Head) (missing : Int) (l : List Int) : (actsS c h missing l).length ≤ l.length := by
  unfold actsS; rw [List.length_map]; exact List.length_filter_le _ _
theorem slotsR_at {h : Head} {s : Int} (hs : s ∈ slotsR h) : ∃ n : Nat, s = (n : Int) ∧ n ≤ h.Dirty.length ∧ (n < h.Dirty.length → h.Dirty.getD n false = true) := by
  unfold slotsR at hs
  rcases List.mem_append.1 hs with hs | hs
  · obtain ⟨i, h1, h2, rfl⟩ := (slotsOf_mem _ _ _).1 hs
    exact ⟨i, rfl, by omega, fun _ => h2⟩
  · simp at hs
    exact ⟨h.Dirty.length, hs, Nat.le_refl _, fun h => by omega⟩
theorem slotsR_sorted (h : Head) : (slotsR h).Pairwise (· < ·) := by
  unfold slotsR
  rw [List.pairwise_append]
  refine ⟨slotsOf_sorted _ _, by simp, fun a ha b hb => ?_⟩
  obtain ⟨i, h1, _, rfl⟩ := (slotsOf_mem _ _ _).1 ha
  simp at hb
  omega
theorem dblocks_get (h : Head) (k i : Nat) : (dblocks h k)[i]? = ((dslots h k)[i]?).map fun s => h.Blocks.getD s.toNat [] := by
  unfold dblocks dslots
  simp only [List.getElem?_map, Option.map_map]
  congr 1
theorem blk128 {c : Config} {h : Head} (o : OfH c h) (hp : h.Phase.toNat ≠ 0) {s : Int} (hs : s ∈ slotsR h) : (h.Blocks.getD s.toNat []).length = 128 := by
  obtain ⟨n, rfl, h1, h2⟩ := slotsR_at hs
  have hnb := o.nb
  have hnd := o.nd
  by_cases hn : n < h.Dirty.length
  · have := o.di n (h2 hn)
    have := o.blk n
    simp only [Int.toNat_natCast]; omega
  · have hl := lastN_pos o hp
    unfold lastB at hl
    rw [show h.Blocks.length - 1 = n by omega] at hl
    simpa using hl
theorem acts_eq {c : Config} {h : Head} (hm : mayH c h = true) (missing : Int) (hp : h.Phase.toNat ≠ 0) :
    home_acts c missing (dealS c h).1 = some (actsS c h missing (slotsR h), 0) := by
  have o := mayH_of hm
  have hm1 := o.m.1
  have hnb := o.nb
  have hnd := o.nd
  have hs64 := wI_str o.m
  have hs1 := o.s1
  have hs2 := o.s2
  have hd : (dealS c h).1 = Deal.mk h.Stripe (dslots h h.Dirty.length) (dblocks h h.Dirty.length) (lastB h) := by
    unfold dealS; rw [hm, decide_eq_false hp]; rfl
  rw [hd]
  unfold home_acts
  have hsl := dslots_len h h.Dirty.length
  have hsub : ∀ s ∈ dslots h h.Dirty.length, s ∈ slotsR h := fun s hs => List.mem_append_left _ hs
  have := loop_run (step := fun s : Int × (List Act37) => home_acts_L2 c missing (Deal.mk h.Stripe (dslots h h.Dirty.length) (dblocks h h.Dirty.length) (lastB h)) s.1 s.2) (fun k => ((k : Int), actsS c h missing ((dslots h h.Dirty.length).take k))) (dslots h h.Dirty.length).length (actsS c h missing (dslots h h.Dirty.length)) (fuel_lt (by omega)) (fun k hk => by
    obtain ⟨s, hs⟩ : ∃ s, (dslots h h.Dirty.length)[k]? = some s := ⟨_, List.getElem?_eq_getElem hk⟩
    have hmem := hsub s (List.mem_of_getElem? hs)
    obtain ⟨n, rfl, h1, h2⟩ := slotsR_at hmem
    have hb := blk128 o hp hmem
    have hal := actsS_len c h missing ((dslots h h.Dirty.length).take k)
    unfold home_acts_L2 home_acts_J4 home_acts_J3
    simp only
    rw [decide_eq_true (show (k : Int) < ((dslots h h.Dirty.length).length : Int) by omega), idx_nat, idx_nat, dblocks_get, hs, wI_succ (by omega), take_succ_get _ _ _ hs, actsS_snoc]
    simp only [cond_true, Option.bind_some, Option.map_some]
    rw [member_eq o.m o.s1 o.s2 (by omega) (by omega)]
    simp only [Option.bind_some, slices_Clone_byte_byte]
    cases (memS c h.Stripe (n : Int) == missing) with
    | true => rfl
    | false =>
      rw [app_some _ _ (by simp only [List.length_nil]; omega)]
      simp only [cond_false, Option.bind_some, List.nil_append]
      rw [show (((h.Blocks.getD (n : Int).toNat []).length : Int) == 0) = false by rw [hb]; rfl]
      simp only [cond_false]
      rw [app_some _ _ (by simp at hal ⊢; omega), wI_id (x := h.Stripe + 1) (by omega) (by omega)]
      rfl) (by
    unfold home_acts_L2
    simp only
    rw [decide_eq_false (by omega), List.take_length]; rfl)
  replace this : loopM (fun s : Int × (List Act37) => home_acts_L2 c missing (Deal.mk h.Stripe (dslots h h.Dirty.length) (dblocks h h.Dirty.length) (lastB h)) s.1 s.2) FUEL ((0 : Int), ([] : List Act37)) = _ := this
  rw [this]
  simp only [Option.bind_some]
  have hlm : (h.Dirty.length : Int) ∈ slotsR h := by unfold slotsR; simp
  have hb := blk128 o hp hlm
  have hlb : h.Blocks.getD h.Dirty.length [] = lastB h := by unfold lastB; rw [show h.Blocks.length - 1 = h.Dirty.length by omega]
  simp only [Int.toNat_natCast] at hb
  have hal := actsS_len c h missing (dslots h h.Dirty.length)
  rw [wI_id (x := c.Members - 1) (by omega) (by omega), ← hnd, member_eq o.m o.s1 o.s2 (by omega) (by omega)]
  simp only [Option.bind_some, slices_Clone_byte_byte]
  unfold slotsR
  rw [actsS_snoc]
  have e : slotsOf (dty h) h.Dirty.length = dslots h h.Dirty.length := rfl
  rw [e]
  unfold home_acts_J6 home_acts_J5 home_acts_J1
  cases (memS c h.Stripe (h.Dirty.length : Int) == missing) with
  | true => rfl
  | false =>
    rw [← hlb, app_some _ _ (by simp only [List.length_nil]; omega)]
    simp only [cond_false, Option.bind_some, List.nil_append]
    rw [show (((h.Blocks.getD h.Dirty.length []).length : Int) == 0) = false by rw [hb]; rfl]
    simp only [cond_false]
    rw [app_some _ _ (by simp; omega), wI_id (x := h.Stripe + 1) (by omega) (by omega)]
    rfl
end Go.Proofs.Ytcnmlbgcnkfnhaa
