/- Plain law: even stripes are fetched as they stand. -/
import Derived.Test.YtfilegnndamngaaLwFetchBL
namespace Go.Proofs.Ytfilegnndamngaa
open Go GL

theorem fetchlost_true (c : Config) (ds : List Disk) (lost stripe slot : Int) : law20_FetchLost c ds lost stripe slot = some true := by
  unfold law20_FetchLost
  obtain ⟨g, hg, hs⟩ := agreat_eq ds
  rw [alive20_true, hg]
  simp only [Option.bind_some, fcheck_eq, pfetch_eq]
  cases g with
  | true => rfl
  | false =>
  cases hok : okA c ds with
  | false => rfl
  | true =>
  have h := (okA_iff c ds).1 hok
  obtain ⟨m1, m2, m3⟩ := h.m
  have hlen := h.len
  have hsn := h.s
  simp only [gO, Bool.not_false, cond_true, Option.bind_some, bne_self_eq_false, Bool.or_self, Bool.not_true, cond_false]
  cases hx : (fetchF c ds (-1) stripe slot).2 != 0 with
  | true => simp
  | false =>
  by_cases hl : 0 ≤ lost ∧ lost < c.Members
  case neg =>
    have : ((false || decide (lost < 0)) || decide (lost ≥ c.Members)) = true := by simp; omega
    rw [this]; rfl
  have : ((false || decide (lost < 0)) || decide (lost ≥ c.Members)) = false := by simp; omega
  rw [this]
  have hfe : ∀ missing, fetchF c ds missing stripe slot = fetchF c ds missing stripe slot := fun _ => rfl
  have ha : askT c stripe slot = true := by
    cases ha : askT c stripe slot with
    | true => rfl
    | false =>
      unfold fetchF at hx
      rw [hok, ha] at hx
      simp at hx
  have ha' := ha
  unfold askT at ha'
  simp only [Bool.and_eq_true, decide_eq_true_eq] at ha'
  obtain ⟨a1, a2, a3, a4⟩ := ha'
  have hmi := memF_in h.mc stripe slot
  have hml : (memF c stripe slot).toNat < mN c := by omega
  obtain ⟨s, rfl⟩ : ∃ s : Nat, stripe = (s : Int) := ⟨stripe.toNat, by omega⟩
  obtain ⟨j, rfl⟩ : ∃ j : Nat, lost = (j : Int) := ⟨lost.toNat, by omega⟩
  have hs' : s < sN c := by omega
  have hj : j < mN c := by omega
  have hjd : j < ds.length := by omega
  obtain ⟨b, hb, hbe⟩ := even20 h hs'
  rw [hb]
  simp only [Bool.not_false, cond_true, Option.bind_some, Bool.false_or]
  cases hbb : b with
  | false => rfl
  | true =>
  obtain ⟨hnd, hz⟩ := hbe hbb
  simp only [Bool.not_true, cond_false]
  rw [dead20_eq h hjd]
  simp only [Option.bind_some, pfetch_eq]
  have hd' := okAF_set h hjd (deadD_may (h.may j hjd)) (by simp [deadD])
  have hdl : (ds.set j (deadD (dAt ds j))).length = ds.length := by simp
  have hsame : ∀ i, i < mN c → i ≠ j → dAt (ds.set j (deadD (dAt ds j))) i = dAt ds i := fun i _ he => by rw [dAtF_set ds j _ hjd, if_neg he]
  have hdj : (dAt (ds.set j (deadD (dAt ds j))) j).Dead = true := by rw [dAtF_set ds j _ hjd, if_pos rfl]; rfl
  have hdi : ∀ i, i < mN c → (dAt (ds.set j (deadD (dAt ds j))) i).Dead = decide (i = j) := fun i hi => by
    by_cases he : i = j
    · subst he; rw [hdj, decide_eq_true rfl]
    · rw [hsame i hi he, hnd i hi, decide_eq_false he]
  rw [fetch_in h ha (show (-1 : Int) ≤ -1 by omega) (by omega), fetch_in h ha (show (-1 : Int) ≤ (j : Int) by omega) (by omega), fetch_in hd' ha (show (-1 : Int) ≤ -1 by omega) (by omega), fetch_in hd' ha (show (-1 : Int) ≤ (j : Int) by omega) (by omega)]
  simp only [Int.toNat_natCast]
  have r0 : offF c ds (-1) s (memF c (s : Int) slot).toNat = (seenD (dAt ds (memF c (s : Int) slot).toNat) (s + 1), 0) := by
    unfold offF
    have : lostF ds (-1) (memF c (s : Int) slot).toNat = false := by
      unfold lostF
      rw [hnd _ hml]
      simp; omega
    rw [this]; rfl
  have r1 := off_lone h h hs' hml (lost := j) (j : Int) hz (fun _ _ _ => rfl) (fun i hi => by
    unfold lostF
    rw [hnd i hi, Bool.or_false, Bool.eq_iff_iff]
    simp; omega)
  have r2 := off_lone h hd' hs' hml (lost := j) (-1 : Int) hz hsame (fun i hi => by
    unfold lostF
    rw [hdi i hi, show ((i : Int) == -1) = false by simp, Bool.false_or])
  have r3 := off_lone h hd' hs' hml (lost := j) (j : Int) hz hsame (fun i hi => by
    unfold lostF
    rw [hdi i hi, Bool.eq_iff_iff]
    simp; omega)
  rw [r0, r1, r2, r3]
  simp

end Go.Proofs.Ytfilegnndamngaa
