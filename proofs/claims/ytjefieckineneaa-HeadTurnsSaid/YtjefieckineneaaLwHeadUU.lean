/- Plain law: HeadTurns. -/
import Derived.Test.YtjefieckineneaaLwHeadCU
namespace Go.Proofs.Ytjefieckineneaa
open Go GL

structure Sm (h : Head) : Prop where
  nb : h.Blocks.length < 4294967296
  nd : h.Dirty.length < 4294967296
  len : ∀ x ∈ h.Blocks, x.length < 4294967296
theorem SmallH.sm {h : Head} (s : SmallH h) : Sm h := ⟨by have := s.nb; omega, by have := s.nd; omega, fun x hx => by have := s.len x hx; omega⟩
theorem badH_sm : Sm badH := ⟨by simp [badH], by simp [badH], by simp [badH]⟩
theorem takeS_sm (c : Config) (h : Head) (slot : Int) (data : List UInt8) (s : SmallH h) : Sm (takeS c h slot data).1 := by
  unfold takeS
  cases mayH c h with
  | false => exact badH_sm
  | true =>
  cases slotIn c slot with
  | false => exact badH_sm
  | true =>
  cases hd : blkOk data with
  | false => exact badH_sm
  | true =>
  cases decide (h.Phase.toNat ≤ 1) with
  | false => exact badH_sm
  | true =>
    have h1 := s.nb
    have h2 := s.nd
    simp only [Bool.and_self, cond_true]
    refine ⟨by simp; omega, by simp; omega, fun x hx => ?_⟩
    rcases List.mem_or_eq_of_mem_set hx with hx | rfl
    · rcases List.mem_or_eq_of_mem_set hx with hx | rfl
      · have := s.len x hx; omega
      · simp
    · rw [fullB_len hd]; omega
theorem knowS_sm (c : Config) (h : Head) (slot : Int) (data : List UInt8) (s : SmallH h) : Sm (knowS c h slot data).1 := by
  unfold knowS
  cases mayH c h with
  | false => exact badH_sm
  | true =>
  cases slotIn c slot with
  | false => exact badH_sm
  | true =>
  cases hd : blkOk data with
  | false => exact badH_sm
  | true =>
  cases ((h.Blocks.getD slot.toNat []).length == 0) with
  | false => exact s.sm
  | true =>
    have h1 := s.nb
    have h2 := s.nd
    simp only [Bool.and_self, cond_true]
    refine ⟨by simp; omega, by simp only; omega, fun x hx => ?_⟩
    rcases List.mem_or_eq_of_mem_set hx with hx | rfl
    · have := s.len x hx; omega
    · rw [fullB_len hd]; omega
theorem newS_sm (c : Config) (stripe : Int) : Sm (newS c stripe).1 := by
  unfold newS
  cases hc : mayC c with
  | false => exact badH_sm
  | true =>
  have := ((mayC_iff c).1 hc).1
  cases newIn c stripe with
  | false => exact badH_sm
  | true =>
    simp only [cond_true]
    refine ⟨by simp; omega, by simp; omega, fun x hx => ?_⟩
    have := List.eq_of_mem_replicate hx
    subst this
    simp
theorem self_sm {h : Head} (s : Sm h) : ref16_Same h h = some true := rsame_self h s.nb s.nd
theorem turns_true (c : Config) (h o : Head) (slot : Int) (data : List UInt8) : law16_HeadTurns c h o slot data = some true := by
  unfold law16_HeadTurns
  obtain ⟨b, hb, hsm⟩ := hgreat_eq h
  obtain ⟨b', hb', hsm'⟩ := hgreat_eq o
  rw [hb, hb']
  cases b with
  | true => rfl
  | false =>
  cases b' with
  | true => rfl
  | false =>
  cases hdl : decide ((data.length : Int) > 1000) with
  | true => simp [gO]
  | false =>
  have hs := hsm rfl
  have hso := hsm' rfl
  simp only [gO, Bool.not_false, cond_true, Option.bind_some, Bool.or_self, cond_false]
  rw [htwin_eq hs]
  simp only [Option.bind_some]
  rw [htake_eq, rtake_eq c h slot data hs, hknow_eq, rknow_eq c h slot data hs, hnew_eq, rnew_eq, htwin2_eq hs, hcheck_eq, rcheck_eq]
  have k1 := takeS_sm c h slot data hs
  have k2 := knowS_sm c h slot data hs
  have k3 := newS_sm c slot
  simp only [Option.bind_some]
  generalize takeS c h slot data = A at *
  generalize knowS c h slot data = B at *
  generalize newS c slot = C at *
  rw [self_sm k1]
  simp only [Option.bind_some, beq_self_eq_true, Bool.and_self, cond_true]
  rw [self_sm k2]
  simp only [Option.bind_some, cond_true, Bool.and_self]
  rw [self_sm k3]
  simp only [Option.bind_some]
  rw [self_sm hs.sm, hsame_eq h o hs.sm.nb hs.sm.nd, rsame_eq h o hs.sm.nb hs.sm.nd, hsame_eq h h hs.sm.nb hs.sm.nd]
  simp only [Option.bind_some, beq_self_eq_true, Bool.and_self, cond_true, decide_true]
  have e1 : loopM (fun s : Int => law16_HeadTurns_L10 A s) FUEL (0 : Int) = some () := spoil2 A.1.Blocks k1.nb k1.len
  have e2 : loopM (fun s : Int => law16_HeadTurns_L12 A s) FUEL (0 : Int) = some () := spoil1 A.1.Dirty k1.nd
  rw [e1, e2]
  simp only [Option.bind_some]
  unfold law16_HeadTurns_J1
  have e3 : loopM (fun s : Int => law16_HeadTurns_L7 B s) FUEL (0 : Int) = some () := spoil2 B.1.Blocks k2.nb k2.len
  have e4 : loopM (fun s : Int => law16_HeadTurns_L9 B s) FUEL (0 : Int) = some () := spoil1 B.1.Dirty k2.nd
  rw [e3, e4]
  simp only [Option.bind_some]
  unfold law16_HeadTurns_J2
  have e5 : loopM (fun s : Int => law16_HeadTurns_L4 h s) FUEL (0 : Int) = some () := spoil2 h.Blocks hs.sm.nb hs.sm.len
  have e6 : loopM (fun s : Int => law16_HeadTurns_L6 h s) FUEL (0 : Int) = some () := spoil1 h.Dirty hs.sm.nd
  rw [e5, e6]
  simp only [Option.bind_some]
  unfold law16_HeadTurns_J3
  simp only [beq_self_eq_true, Bool.and_self, gO, cond_true]
  rw [self_sm hs.sm]
  rfl
end Go.Proofs.Ytjefieckineneaa
