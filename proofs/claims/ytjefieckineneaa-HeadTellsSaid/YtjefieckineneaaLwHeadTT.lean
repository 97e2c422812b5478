/- Plain law: HeadTells. -/
import Derived.Test.YtjefieckineneaaLwHeadBT
namespace Go.Proofs.Ytjefieckineneaa
open Go GL

theorem tellS_len (c : Config) (h : Head) (slot : Int) (hs : SmallH h) : (tellS c h slot).1.length ≤ 10000 := by
  unfold tellS
  cases hm : mayH c h with
  | false => simp
  | true =>
    cases slotIn c slot with
    | false => simp
    | true =>
      have := (mayH_of hm).blk slot.toNat
      simp only [cond_true]
      omega
theorem dealS_len (c : Config) (h : Head) (hs : SmallH h) : (dealS c h).1.Slots.length ≤ 60 ∧ (dealS c h).1.Blocks.length ≤ 60 ∧ (dealS c h).1.Parity.length ≤ 10000 ∧ ∀ x ∈ (dealS c h).1.Blocks, x.length ≤ 10000 := by
  unfold dealS
  cases hm : mayH c h with
  | false => simp [dealD]
  | true =>
    have o := mayH_of hm
    cases decide (h.Phase.toNat = 0) with
    | true => simp [dealD]
    | false =>
      have h1 := dslots_len h h.Dirty.length
      have h2 := dblocks_len h h.Dirty.length
      have h3 := o.blk (h.Blocks.length - 1)
      have h4 := hs.nd
      simp only [cond_true, cond_false]
      refine ⟨by omega, by omega, by unfold lastB; omega, fun x hx => ?_⟩
      unfold dblocks at hx
      obtain ⟨i, _, rfl⟩ := List.mem_map.1 hx
      have := o.blk i
      omega
theorem tells_true (c : Config) (h : Head) (slot : Int) : law16_HeadTells c h slot = some true := by
  unfold law16_HeadTells
  obtain ⟨b, hb, hsm⟩ := hgreat_eq h
  rw [hb]
  cases b with
  | true => rfl
  | false =>
  have hs := hsm rfl
  have hnb := hs.nb
  have hnd := hs.nd
  simp only [Option.bind_some, cond_false]
  rw [htwin_eq hs]
  simp only [Option.bind_some]
  rw [htell_eq, rtell_eq, hdeal_eq, rdeal_eq]
  obtain ⟨l1, l2, l3, l4⟩ := dealS_len c h hs
  have l0 := tellS_len c h slot hs
  simp only [Option.bind_some]
  generalize tellS c h slot = T at *
  generalize dealS c h = D at *
  rw [samedeal_self D.1 (by omega) (by omega)]
  have e1 : loopM (fun s : Int => law16_HeadTells_L1 T s) FUEL (0 : Int) = some () := loop_count T.1.length (by omega) (fun k hk => by
    unfold law16_HeadTells_L1
    rw [decide_eq_true (show (k : Int) < (T.1.length : Int) by omega), idx_nat, List.getElem?_eq_getElem hk, wI_succ (by omega)]; rfl) (by
    unfold law16_HeadTells_L1
    rw [decide_eq_false (by omega)]; rfl)
  have e2 : loopM (fun s : Int => law16_HeadTells_L2 D s) FUEL (0 : Int) = some () := loop_count D.1.Parity.length (by omega) (fun k hk => by
    unfold law16_HeadTells_L2
    rw [decide_eq_true (show (k : Int) < (D.1.Parity.length : Int) by omega), idx_nat, List.getElem?_eq_getElem hk, wI_succ (by omega)]; rfl) (by
    unfold law16_HeadTells_L2
    rw [decide_eq_false (by omega)]; rfl)
  have e3 : loopM (fun s : Int => law16_HeadTells_L3 D s) FUEL (0 : Int) = some () := loop_count D.1.Blocks.length (by omega) (fun k hk => by
    unfold law16_HeadTells_L3
    rw [decide_eq_true (show (k : Int) < (D.1.Blocks.length : Int) by omega)]
    have hx := l4 _ (List.getElem_mem hk)
    have e4 : loopM (fun s : Int => law16_HeadTells_L4 D (k : Int) s) FUEL (0 : Int) = some () := loop_count D.1.Blocks[k].length (by omega) (fun j hj => by
      unfold law16_HeadTells_L4
      rw [idx_nat, List.getElem?_eq_getElem hk]
      simp only [Option.bind_some]
      rw [decide_eq_true (show (j : Int) < (D.1.Blocks[k].length : Int) by omega), idx_nat, List.getElem?_eq_getElem hj, wI_succ (by omega)]; rfl) (by
      unfold law16_HeadTells_L4
      rw [idx_nat, List.getElem?_eq_getElem hk]
      simp only [Option.bind_some]
      rw [decide_eq_false (by omega)]; rfl)
    rw [e4, wI_succ (by omega)]; rfl) (by
    unfold law16_HeadTells_L3
    rw [decide_eq_false (by omega)]; rfl)
  rw [e1, e2, e3]
  simp only [beq_self_eq_true, Bool.and_self, gO, cond_true, Option.bind_some]
  rw [rsame_self h (by omega) (by omega)]
  rfl
end Go.Proofs.Ytjefieckineneaa
