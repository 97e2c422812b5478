/- Plain law: HeadMoves. -/
import Derived.Test.YtjefieckineneaaLwHeadDM
namespace Go.Proofs.Ytjefieckineneaa
open Go GL

structure Sm (h : Head) : Prop where
  nb : h.Blocks.length < 4294967296
  nd : h.Dirty.length < 4294967296
  len : ∀ x ∈ h.Blocks, x.length < 4294967296
theorem SmallH.sm {h : Head} (s : SmallH h) : Sm h := ⟨by have := s.nb; omega, by have := s.nd; omega, fun x hx => by have := s.len x hx; omega⟩
theorem badH_sm : Sm badH := ⟨by simp [badH], by simp [badH], by simp [badH]⟩
theorem self_sm {h : Head} (s : Sm h) : ref16_Same h h = some true := rsame_self h s.nb s.nd
theorem moveS_sm (c : Config) (h : Head) (ok : Bool) (x : Head) (s : Sm x) : Sm (moveS c h ok x).1 := by
  unfold moveS
  cases mayH c h with
  | false => exact badH_sm
  | true => cases ok with
    | false => exact badH_sm
    | true => exact s
theorem set_sm {h : Head} (s : Sm h) (k : Nat) (x : List UInt8) (hx : x.length < 4294967296) (d : List Bool) (hd : d.length < 4294967296) (a : Int) (p : UInt8) (e : Bool) (q : UInt32) : Sm (Head.mk a (h.Blocks.set k x) d p e q) :=
  ⟨by simp only [List.length_set]; exact s.nb, hd, fun y hy => by
    rcases List.mem_or_eq_of_mem_set hy with hy | rfl
    · exact s.len y hy
    · exact hx⟩
theorem makeS_sm (c : Config) (h : Head) (par : List UInt8) (s : Sm h) : Sm (makeS c h par).1 := by
  unfold makeS
  cases mayH c h with
  | false => exact badH_sm
  | true => cases hd : blkOk par with
    | false => exact badH_sm
    | true => cases ((h.Phase == 0) && anyD h) with
      | false => exact badH_sm
      | true => exact set_sm s _ _ (by rw [fullB_len hd]; omega) _ s.nd _ _ _ _
theorem moves_true (c : Config) (h : Head) (seq : UInt32) (par : List UInt8) : law16_HeadMoves c h seq par = some true := by
  unfold law16_HeadMoves
  obtain ⟨b, hb, hsm⟩ := hgreat_eq h
  rw [hb]
  cases b with
  | true => rfl
  | false =>
  cases hdl : decide ((par.length : Int) > 1000) with
  | true => simp
  | false =>
  have hs := hsm rfl
  simp only [Option.bind_some, Bool.or_self, cond_false]
  rw [htwin_eq hs]
  simp only [Option.bind_some]
  rw [hmake_eq, rmake_eq c h par hs, hlog_eq, rlog_eq c h seq hs, hsure_eq, rsure_eq c h hs, hlay_eq, rlay_eq c h hs, hhome_eq, rhome_eq c h hs]
  have k1 := makeS_sm c h par hs.sm
  have k2 : Sm (logS c h seq).1 := moveS_sm c h _ _ ⟨hs.sm.nb, hs.sm.nd, hs.sm.len⟩
  have k3 : Sm (sureS c h).1 := moveS_sm c h _ _ ⟨hs.sm.nb, hs.sm.nd, hs.sm.len⟩
  have k4 : Sm (layS c h).1 := moveS_sm c h _ _ ⟨hs.sm.nb, hs.sm.nd, hs.sm.len⟩
  have k5 : Sm (homeS c h).1 := moveS_sm c h _ _ (set_sm hs.sm _ _ (by simp) _ (by have := hs.nd; simp; omega) _ _ _ _)
  simp only [Option.bind_some]
  generalize makeS c h par = A at *
  generalize logS c h seq = B at *
  generalize sureS c h = C at *
  generalize layS c h = D at *
  generalize homeS c h = E at *
  rw [self_sm k1]
  simp only [Option.bind_some, beq_self_eq_true, Bool.and_self, gO, cond_true]
  rw [self_sm k2]
  simp only [Option.bind_some, cond_true, Bool.and_self]
  rw [self_sm k3]
  simp only [Option.bind_some]
  rw [self_sm k4]
  simp only [Option.bind_some, cond_true, Bool.and_self]
  rw [self_sm k5]
  simp only [Option.bind_some]
  have e1 : loopM (fun s : Int => law16_HeadMoves_L18 A s) FUEL (0 : Int) = some () := spoil2 A.1.Blocks k1.nb k1.len
  have e2 : loopM (fun s : Int => law16_HeadMoves_L20 A s) FUEL (0 : Int) = some () := spoil1 A.1.Dirty k1.nd
  rw [e1, e2]
  simp only [Option.bind_some]
  unfold law16_HeadMoves_J1
  have e3 : loopM (fun s : Int => law16_HeadMoves_L15 B s) FUEL (0 : Int) = some () := spoil2 B.1.Blocks k2.nb k2.len
  have e4 : loopM (fun s : Int => law16_HeadMoves_L17 B s) FUEL (0 : Int) = some () := spoil1 B.1.Dirty k2.nd
  rw [e3, e4]
  simp only [Option.bind_some]
  unfold law16_HeadMoves_J2
  have e5 : loopM (fun s : Int => law16_HeadMoves_L12 C s) FUEL (0 : Int) = some () := spoil2 C.1.Blocks k3.nb k3.len
  have e6 : loopM (fun s : Int => law16_HeadMoves_L14 C s) FUEL (0 : Int) = some () := spoil1 C.1.Dirty k3.nd
  rw [e5, e6]
  simp only [Option.bind_some]
  unfold law16_HeadMoves_J3
  have e7 : loopM (fun s : Int => law16_HeadMoves_L9 D s) FUEL (0 : Int) = some () := spoil2 D.1.Blocks k4.nb k4.len
  have e8 : loopM (fun s : Int => law16_HeadMoves_L11 D s) FUEL (0 : Int) = some () := spoil1 D.1.Dirty k4.nd
  rw [e7, e8]
  simp only [Option.bind_some]
  unfold law16_HeadMoves_J4
  have e9 : loopM (fun s : Int => law16_HeadMoves_L6 E s) FUEL (0 : Int) = some () := spoil2 E.1.Blocks k5.nb k5.len
  have e10 : loopM (fun s : Int => law16_HeadMoves_L8 E s) FUEL (0 : Int) = some () := spoil1 E.1.Dirty k5.nd
  rw [e9, e10]
  simp only [Option.bind_some]
  unfold law16_HeadMoves_J5
  simp only [beq_self_eq_true, Bool.and_self, gO, cond_true]
  rw [self_sm hs.sm]
  rfl
end Go.Proofs.Ytjefieckineneaa
