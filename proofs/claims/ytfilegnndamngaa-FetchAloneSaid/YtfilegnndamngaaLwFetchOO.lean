/- Plain law: lone losses. -/
import Derived.Test.YtfilegnndamngaaLwFetchBO
namespace Go.Proofs.Ytfilegnndamngaa
open Go GL

theorem fetchalone_true (c : Config) (ds : List Disk) (missing stripe slot : Int) : law20_FetchAlone c ds missing stripe slot = some true := by
  unfold law20_FetchAlone
  obtain ⟨g, hg, hs⟩ := agreat_eq ds
  rw [alive20_true, hg, memberG]
  simp only [Option.bind_some, fcheck_eq, pfetch_eq]
  cases g with
  | true => rfl
  | false =>
  cases hok : okA c ds with
  | false => rfl
  | true =>
  have h := (okA_iff c ds).1 hok
  obtain ⟨m1, m2, m3⟩ := h.m
  have hlen := h.len
  have hsn := h.s
  rw [(mayC_iff c).2 h.mc]
  simp only [gO, Bool.not_false, cond_true, Option.bind_some, bne_self_eq_false, Bool.or_self, Bool.not_true, Bool.false_or, Bool.or_false]
  cases ha : askT c stripe slot with
  | false => rfl
  | true =>
  simp only [cond_true, bne_self_eq_false, Bool.false_or]
  by_cases hl : -1 ≤ missing ∧ missing < c.Members
  case neg =>
    have : (decide (missing < -1) || decide (missing ≥ c.Members)) = true := by simp; omega
    rw [this]; rfl
  have : (decide (missing < -1) || decide (missing ≥ c.Members)) = false := by simp; omega
  rw [this, fetch_in h ha hl.1 hl.2]
  simp only [cond_false]
  have ha' := ha
  unfold askT at ha'
  simp only [Bool.and_eq_true, decide_eq_true_eq] at ha'
  obtain ⟨a1, a2, a3, a4⟩ := ha'
  have hmi := memF_in h.mc stripe slot
  obtain ⟨m, hm⟩ : ∃ m : Nat, memF c stripe slot = (m : Int) := ⟨(memF c stripe slot).toNat, by omega⟩
  obtain ⟨s, rfl⟩ : ∃ s : Nat, stripe = (s : Int) := ⟨stripe.toNat, by omega⟩
  rw [hm] at hmi
  rw [hm]
  simp only [Int.toNat_natCast]
  have hs' : s < sN c := by omega
  have hml : m < mN c := by omega
  rw [idx_nat, dAt_get (by omega)]
  simp only [Option.bind_some]
  rw [show wI ((s : Int) + 1) = ((s + 1 : Nat) : Int) from wI_succ (by omega)]
  have hcount : loopM (fun q : Int × Int => law20_FetchAlone_L1 c ds missing ((m : Int), 0) q.1 q.2) FUEL ((0 : Int), (0 : Int)) = some ((((withoutF c m).filter fun i => lostF ds missing i).length : Nat) : Int) := by
    have hL := loop_run (step := fun q : Int × Int => law20_FetchAlone_L1 c ds missing ((m : Int), 0) q.1 q.2) (fun k => (((((List.range k).filter fun i => i != m).filter fun i => lostF ds missing i).length : Int), (k : Int))) (mN c) ((((withoutF c m).filter fun i => lostF ds missing i).length : Nat) : Int) (fuel_ltD (by omega)) (fun k hk => by
      unfold law20_FetchAlone_L1 law20_FetchAlone_J2
      simp only
      have hfl : (((List.range k).filter fun i => i != m).filter fun i => lostF ds missing i).length ≤ k := by
        have h1 := List.length_filter_le (fun i => i != m) (List.range k)
        have h2 := List.length_filter_le (fun i => lostF ds missing i) ((List.range k).filter fun i => i != m)
        simp at h1
        omega
      rw [decide_eq_true (by omega), idx_nat, dAt_get (by omega), wI_succ (k := k) (by omega), wI_succ (k := (((List.range k).filter fun i => i != m).filter fun i => lostF ds missing i).length) (by omega), List.range_succ, List.filter_append, List.filter_append]
      by_cases hkm : k = m
      · subst hkm; simp [gO]
      · rw [show ((k : Int) != (m : Int)) = true by simp; omega]
        simp only [gO, cond_true, Option.bind_some, Bool.true_and]
        rw [show ((dAt ds k).Dead || ((k : Int) == missing)) = lostF ds missing k from Bool.or_comm _ _]
        cases hlo : lostF ds missing k <;> simp [hkm, hlo]) (by
      unfold law20_FetchAlone_L1
      simp only
      rw [decide_eq_false (by omega)]; rfl)
    exact hL
  have hal : alsoF c ds missing m = decide (0 < ((withoutF c m).filter fun i => lostF ds missing i).length) := by
    unfold alsoF
    rw [Bool.eq_iff_iff, List.any_eq_true, decide_eq_true_iff, List.length_pos_iff_exists_mem]
    simp only [List.mem_filter]
  have hfin : ∀ X : List UInt8 × Int, lostF ds missing m = true → Option.bind (loopM (fun q : Int × Int => law20_FetchAlone_L1 c ds missing ((m : Int), 0) q.1 q.2) FUEL ((0 : Int), (0 : Int))) (fun b13 => some ((((offF c ds missing s m).2 == (230 : Int)) == (decide (b13 > (0 : Int)))) && (((offF c ds missing s m).2 == (0 : Int)) == (b13 == (0 : Int))))) = some true := fun _ hlo => by
    rw [hcount]
    simp only [Option.bind_some]
    unfold offF
    rw [hlo, hal]
    simp only [cond_true]
    generalize ((withoutF c m).filter fun i => lostF ds missing i).length = n
    by_cases hp : 0 < n
    · rw [decide_eq_true hp, decide_eq_true (by omega), show ((n : Int) == 0) = false by simp; omega]; rfl
    · rw [decide_eq_false hp, decide_eq_false (by omega), show ((n : Int) == 0) = true by simp; omega]; rfl
  cases hd : (dAt ds m).Dead with
  | true =>
    rw [read_dead (h.may m (by omega)) hd (h.mem hml hs')]
    exact hfin ([], 0) (by unfold lostF; rw [hd]; simp)
  | false =>
    rw [read_of (h.may m (by omega)) hd (h.mem hml hs')]
    simp only [Option.bind_some, beq_self_eq_true, Bool.true_and]
    by_cases he : (m : Int) = missing
    · rw [show ((m : Int) != missing) = false by simpa using he]
      exact hfin ([], 0) (by unfold lostF; simp [he])
    · rw [show ((m : Int) != missing) = true by simpa using he]
      have hlo : lostF ds missing m = false := by unfold lostF; rw [hd]; simpa using he
      simp only [cond_true]
      unfold offF
      rw [hlo]
      simp
end Go.Proofs.Ytfilegnndamngaa
