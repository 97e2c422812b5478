/- Plain law: ActsRuns. -/
import Derived.Test.YtgkhjpfnmbdchaaLwActsCR
namespace Go.Proofs.Ytgkhjpfnmbdchaa
open Go GL

theorem along_eq (l : List Act64) : ∃ g, ref05_Long l = some g ∧ (g = false → l.length ≤ 1100 ∧ ∀ a ∈ l, a.Data.length ≤ 60000) := by
  unfold ref05_Long
  obtain ⟨b, hb, hq⟩ := loop_inv (step := fun s : Int × Int => ref05_Long_L1 l s.1 s.2) (min l.length 1200)
    (fun k s => s.2 = (k : Int) ∧ 0 ≤ s.1 ∧ s.1 ≤ 100008 * (k : Int) ∧ (s.1 ≤ 60000 → ∀ j (hj : j < l.length), j < k → l[j].Data.length ≤ 60000))
    (fun b => b ≤ 60000 → l.length ≤ 1200 → ∀ a ∈ l, a.Data.length ≤ 60000) (fun k s hk hI => by
    obtain ⟨s1, s2⟩ := s
    obtain ⟨e1, e2, e3, e4⟩ := hI
    simp only at e1 e2 e3 e4
    subst e1
    show (∃ s', ref05_Long_L1 l s1 (k : Int) = some (.next s') ∧ _) ∨ ∃ b, ref05_Long_L1 l s1 (k : Int) = some (.brk b) ∧ _
    unfold ref05_Long_L1
    by_cases hlt : k < l.length ∧ k < 1200
    · rw [show (decide ((k : Int) < (l.length : Int)) && decide ((k : Int) < (1200 : Int))) = true by simp; omega, idx_nat, List.getElem?_eq_getElem hlt.1]
      simp only [cond_true, Option.bind_some]
      have hmin : 0 ≤ min ((l[k].Data.length : Nat) : Int) 100000 ∧ min ((l[k].Data.length : Nat) : Int) 100000 ≤ 100000 ∧ (((l[k].Data.length : Nat) : Int) ≤ 60000 ∨ min ((l[k].Data.length : Nat) : Int) 100000 > 60000) := by omega
      generalize min ((l[k].Data.length : Nat) : Int) 100000 = m at hmin
      rw [wI_id (x := 8 + m) (by omega) (by omega), wI_id (x := s1 + (8 + m)) (by omega) (by omega), wI_succ (by omega)]
      refine .inl ⟨_, rfl, by omega, rfl, by simp only; omega, by simp only; omega, fun h j hj hjk => ?_⟩
      simp only at h
      by_cases he : j = k
      · subst he; omega
      · exact e4 (by omega) j hj (by omega)
    · rw [show (decide ((k : Int) < (l.length : Int)) && decide ((k : Int) < (1200 : Int))) = false by simp; omega]
      refine .inr ⟨_, rfl, fun h h2 a ha => ?_⟩
      obtain ⟨j, hj, rfl⟩ := List.getElem_of_mem ha
      exact e4 h j hj (by omega)) FUEL 0 (0, 0) (Nat.zero_le _) (by unfold FUEL; omega) ⟨rfl, by simp, by simp, fun _ j _ hj => by omega⟩
  rw [hb]
  refine ⟨_, rfl, fun h => ?_⟩
  simp only [Bool.or_eq_false_iff, decide_eq_false_iff_not] at h
  exact ⟨by omega, hq (by omega) (by omega)⟩
theorem atwinA_eq {l : List Act64} (hl : l.length ≤ 100000) (h : ∀ a ∈ l, a.Data.length ≤ 1000000) : ref05_TwinActs l = some l := by
  unfold ref05_TwinActs
  have := loop_run (step := fun s : (List Act64) × Int => ref05_TwinActs_L1 l s.1 s.2) (fun k => (l.take k, (k : Int))) l.length l (fuel_ltD (by omega)) (fun k hk => by
    have hb := h _ (List.getElem_mem hk)
    unfold ref05_TwinActs_L1
    simp only
    rw [decide_eq_true (by omega), idx_nat, List.getElem?_eq_getElem hk]
    simp only [cond_true, Option.bind_some]
    rw [app_some _ _ (by simp; omega), wI_succ (by omega)]
    simp only [Option.bind_some, List.nil_append]
    rw [app_some _ _ (by simp; omega), take_succ_get _ _ _ (List.getElem?_eq_getElem hk)]; rfl) (by
    unfold ref05_TwinActs_L1
    simp only
    rw [decide_eq_false (by omega), List.take_length]; rfl)
  have h0 : (([] : List Act64), (0 : Int)) = (fun k : Nat => (l.take k, (k : Int))) 0 := by simp
  rw [h0, this]; rfl
theorem zip_any_id {α : Type} [DecidableEq α] (l m : List α) (h : l.length = m.length) : ((l.zip m).any (fun x => !decide (x.1 = x.2))) = !decide (l = m) := by
  have := zip_any_ne (fun x : α => x) l m h
  simpa using this
theorem sameA1_eq (x y : Act64) : acts_Same_1 x y = some (decide (x = y)) := by
  unfold acts_Same_1 bytes_Equal
  obtain ⟨a, b, c, d⟩ := x
  obtain ⟨a', b', c', d'⟩ := y
  simp only [beqL]
  by_cases h1 : a = a'
  case neg => rw [show (a == a') = false by simpa using h1]; simp [gO, h1]
  by_cases h2 : b = b'
  case neg => rw [show (b == b') = false by simpa using h2]; simp [gO, h2]
  by_cases h3 : c = c'
  case neg => rw [show (c == c') = false by simpa using h3]; simp [gO, h3]
  subst h1; subst h2; subst h3
  simp [gO, beqL]
theorem psameA_eq {a b : List Act64} (hl : a.length ≤ 100000) : acts_Same a b = some (decide (a = b)) := by
  unfold acts_Same slices_EqualFunc_api_Act_api_Act_api_Act_api_Act
  by_cases h1 : a.length = b.length
  case neg =>
    rw [show (((a.length : Nat) : Int) != ((b.length : Nat) : Int)) = true by simp; omega]
    rw [decide_eq_false (fun e => h1 (congrArg List.length e))]; rfl
  rw [show (((a.length : Nat) : Int) != ((b.length : Nat) : Int)) = false by simp; omega]
  simp only [cond_false]
  rw [loop_any2 a b (fun x y => !decide (x = y)) (step := fun s : Int => slices_EqualFunc_api_Act_api_Act_api_Act_api_Act_L1 a b (fun y => acts_Same_1 y.1 y.2) s) (Sum.inr ()) (Sum.inl ()) (by omega) h1 (fun k hk hk' => by
    unfold slices_EqualFunc_api_Act_api_Act_api_Act_api_Act_L1
    rw [decide_eq_true (show (k : Int) < (a.length : Int) by omega), idx_nat, idx_nat, List.getElem?_eq_getElem hk, List.getElem?_eq_getElem hk', wI_succ (by omega)]
    simp only [cond_true, Option.bind_some, sameA1_eq]
    cases decide (a[k] = b[k]) <;> rfl) (by
    unfold slices_EqualFunc_api_Act_api_Act_api_Act_api_Act_L1
    rw [decide_eq_false (by omega)]; rfl), zip_any_id _ _ h1]
  simp only [Option.bind_some]
  cases decide (a = b) <;> rfl
theorem rsameA_eq {a b : List Act64} (hl : a.length ≤ 100000) : ref05_Same a b = some (decide (a = b)) := by
  unfold ref05_Same
  by_cases h1 : a.length = b.length
  case neg =>
    rw [show (((a.length : Nat) : Int) != ((b.length : Nat) : Int)) = true by simp; omega]
    rw [decide_eq_false (fun e => h1 (congrArg List.length e))]; rfl
  rw [show (((a.length : Nat) : Int) != ((b.length : Nat) : Int)) = false by simp; omega]
  simp only [cond_false]
  rw [loop_any2 a b (fun x y => !decide (x = y)) (step := fun s : Int => ref05_Same_L1 a b s) (Sum.inr ()) (Sum.inl ()) (by omega) h1 (fun k hk hk' => by
    unfold ref05_Same_L1
    rw [decide_eq_true (show (k : Int) < (a.length : Int) by omega), idx_nat, idx_nat, List.getElem?_eq_getElem hk, List.getElem?_eq_getElem hk', wI_succ (by omega)]
    simp only [cond_true, Option.bind_some]
    generalize a[k] = x
    generalize b[k] = y
    obtain ⟨p, q, r, d⟩ := x
    obtain ⟨p', q', r', d'⟩ := y
    by_cases h1 : p = p'
    case neg => rw [show (p != p') = true by simpa using h1]; simp [gO, h1]
    by_cases h2 : q = q'
    case neg => have hq : (q != q') = true := by simpa using h2
                subst h1; simp [gO, hq, h2]
    by_cases h3 : r = r'
    case neg => have hq : (r != r') = true := by simpa using h3
                subst h1; subst h2; simp [gO, hq, h3]
    subst h1; subst h2; subst h3
    by_cases h4 : d = d'
    · subst h4; simp [gO]
    · have hq : (d == d') = false := by simpa using h4
      simp [gO, h4, hq]) (by
    unfold ref05_Same_L1
    rw [decide_eq_false (by omega)]; rfl), zip_any_id _ _ h1]
  simp only [Option.bind_some]
  cases decide (a = b) <;> rfl

theorem loop_id {B : Type} {step : Int → Option (Ctl Int B)} (n : Nat) (b : B) (hn : n < 4294967296) (h1 : ∀ k, k < n → step (k : Int) = some (.next ((k + 1 : Nat) : Int))) (h2 : step (n : Int) = some (.brk b)) : loopM step FUEL (0 : Int) = some b := by
  have := loop_run (step := step) (fun k => (k : Int)) n b (fuel_ltD hn) h1 h2
  simpa using this
theorem spoil05_eq (x : List Disk × Int) (hl : x.1.length ≤ 100000) (h : ∀ d ∈ x.1, SmallD d) : loopM (fun s : Int => law05_ActsRuns_L2 x s) FUEL (0 : Int) = some () := by
  refine loop_id x.1.length () (by omega) (fun k hk => ?_) ?_
  · have hs := h _ (List.getElem_mem hk)
    have hnb := hs.nb; have hnw := hs.nw
    unfold law05_ActsRuns_L2
    rw [decide_eq_true (by omega)]
    simp only [cond_true]
    rw [loop_id x.1[k].Blocks.length () (by omega) (fun i hi => by
      have hb := hs.lb _ (List.getElem_mem hi)
      unfold law05_ActsRuns_L3
      rw [idx_nat, List.getElem?_eq_getElem hk]
      simp only [Option.bind_some]
      rw [decide_eq_true (by omega)]
      simp only [cond_true]
      rw [loop_id x.1[k].Blocks[i].length () (by omega) (fun j hj => by
        unfold law05_ActsRuns_L4
        rw [idx_nat, List.getElem?_eq_getElem hk]
        simp only [Option.bind_some]
        rw [idx_nat, List.getElem?_eq_getElem hi]
        simp only [Option.bind_some]
        rw [decide_eq_true (by omega), idx_nat, List.getElem?_eq_getElem hj, wI_succ (by omega)]; rfl) (by
        unfold law05_ActsRuns_L4
        rw [idx_nat, List.getElem?_eq_getElem hk]
        simp only [Option.bind_some]
        rw [idx_nat, List.getElem?_eq_getElem hi]
        simp only [Option.bind_some]
        rw [decide_eq_false (by omega)]; rfl), wI_succ (by omega)]; rfl) (by
      unfold law05_ActsRuns_L3
      rw [idx_nat, List.getElem?_eq_getElem hk]
      simp only [Option.bind_some]
      rw [decide_eq_false (by omega)]; rfl)]
    simp only [Option.bind_some]
    rw [loop_id x.1[k].Wait.length () (by omega) (fun i hi => by
      have hb := hs.lw _ (List.getElem_mem hi)
      unfold law05_ActsRuns_L5
      rw [idx_nat, List.getElem?_eq_getElem hk]
      simp only [Option.bind_some]
      rw [decide_eq_true (by omega)]
      simp only [cond_true]
      rw [loop_id x.1[k].Wait[i].Data.length () (by omega) (fun j hj => by
        unfold law05_ActsRuns_L6
        rw [idx_nat, List.getElem?_eq_getElem hk]
        simp only [Option.bind_some]
        rw [idx_nat, List.getElem?_eq_getElem hi]
        simp only [Option.bind_some]
        rw [decide_eq_true (by omega), idx_nat, List.getElem?_eq_getElem hj, wI_succ (by omega)]; rfl) (by
        unfold law05_ActsRuns_L6
        rw [idx_nat, List.getElem?_eq_getElem hk]
        simp only [Option.bind_some]
        rw [idx_nat, List.getElem?_eq_getElem hi]
        simp only [Option.bind_some]
        rw [decide_eq_false (by omega)]; rfl), wI_succ (by omega)]; rfl) (by
      unfold law05_ActsRuns_L5
      rw [idx_nat, List.getElem?_eq_getElem hk]
      simp only [Option.bind_some]
      rw [decide_eq_false (by omega)]; rfl), wI_succ (by omega)]; rfl
  · unfold law05_ActsRuns_L2
    rw [decide_eq_false (by omega)]; rfl

theorem actsruns_true (ds : List Disk) (l o : List Act64) (n : Int) : law05_ActsRuns ds l o n = some true := by
  unfold law05_ActsRuns
  obtain ⟨g1, e1, h1⟩ := agreat_eq ds
  obtain ⟨g2, e2, h2⟩ := along_eq l
  obtain ⟨g3, e3, h3⟩ := along_eq o
  rw [e1, e2, e3]
  simp only [Option.bind_some]
  cases g1 with
  | true => simp [gO]
  | false =>
  cases g2 with
  | true => simp [gO]
  | false =>
  cases g3 with
  | true => simp [gO]
  | false =>
  obtain ⟨d1, d2⟩ := h1 rfl
  obtain ⟨l1, l2⟩ := h2 rfl
  simp only [gO, Bool.not_false, Bool.or_false, cond_true, cond_false, Option.bind_some]
  rw [atwin_eq (by omega) d2, atwinA_eq (by omega) (fun a ha => by have := l2 a ha; omega)]
  simp only [Option.bind_some]
  obtain ⟨p1, p2⟩ := prun_eq ds l n
  obtain ⟨r1, r2⟩ := rrun_eq (ds := ds) (by omega) l n
  obtain ⟨s1, s2⟩ := run_same ds l n
  obtain ⟨q1, q2⟩ := runD_small p2
  obtain ⟨q3, q4⟩ := runD_small r2
  rw [p1, r1]
  simp only [Option.bind_some]
  rw [asame_eq (by omega) q2 q4, decide_eq_true s1]
  simp only [Option.bind_some, Bool.true_and]
  rw [s2, beq_self_eq_true, pcheckA_eq, rcheckA_eq l (by omega), psameA_eq (by omega), rsameA_eq (by omega), psameA_eq (by omega), spoil05_eq _ (by omega) q2]
  simp only [cond_true, Option.bind_some, beq_self_eq_true, Bool.true_and, decide_true]
  unfold law05_ActsRuns_J1
  rw [s2, asame_eq (by omega) d2 d2, rsameA_eq (by omega)]
  simp [gO]
end Go.Proofs.Ytgkhjpfnmbdchaa
