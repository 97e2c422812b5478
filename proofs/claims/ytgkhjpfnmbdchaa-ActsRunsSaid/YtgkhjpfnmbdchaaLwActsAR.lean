/- Plain law: lists of devices: sizes, copies, comparing. -/
import Derived.Test.YtgkhjpfnmbdchaaLwDiskCR
namespace Go.Proofs.Ytgkhjpfnmbdchaa
open Go GL

theorem sum_loop2 {α : Type} (l : List α) (len : α → Nat) (hl : l.length ≤ 100000) (hlen : ∀ x ∈ l, len x ≤ 1000000) {step : Int × Int → Option (Ctl (Int × Int) Int)} (n0 : Int) (h0 : 0 ≤ n0) (h0' : n0 ≤ 1000000000000)
    (h1 : ∀ k (hk : k < l.length) (n : Int), step (n, (k : Int)) = some (.next (wI (n + wI (8 + ((len l[k] : Nat) : Int))), wI ((k : Int) + 1))))
    (h2 : ∀ (n : Int), step (n, (l.length : Int)) = some (.brk n)) :
    ∃ b, loopM step FUEL (n0, (0 : Int)) = some b ∧ n0 ≤ b ∧ b ≤ n0 + 2000000 * (l.length : Int) := by
  refine loop_inv (step := step) l.length
    (fun k s => s.2 = (k : Int) ∧ n0 ≤ s.1 ∧ s.1 ≤ n0 + 2000000 * (k : Int)) _ (fun k s hk hI => ?_) FUEL 0 (n0, 0) (Nat.zero_le _) (by unfold FUEL; omega) ⟨rfl, by simp, by simp⟩
  obtain ⟨s1, s2⟩ := s
  obtain ⟨e1, e2, e3⟩ := hI
  simp only at e1 e2 e3
  subst e1
  by_cases hlt : k < l.length
  · have hb := hlen _ (List.getElem_mem hlt)
    refine .inl ⟨_, h1 k hlt s1, hlt, ?_⟩
    rw [wI_id (x := 8 + ((len l[k] : Nat) : Int)) (by omega) (by omega), wI_id (by omega) (by omega), wI_succ (by omega)]
    exact ⟨rfl, by simp only; omega, by simp only; omega⟩
  · obtain rfl : k = l.length := by omega
    exact .inr ⟨s1, h2 s1, e2, e3⟩

theorem agreat_eq (ds : List Disk) : ∃ g, ref05_Great ds = some g ∧ (g = false → ds.length ≤ 30 ∧ ∀ d ∈ ds, SmallD d) := by
  unfold ref05_Great
  obtain ⟨b, hb, hq⟩ := loop_inv (step := fun s : Int × Int => ref05_Great_L1 ds s.1 s.2) (min ds.length 30)
    (fun k s => s.2 = (k : Int) ∧ 0 ≤ s.1 ∧ s.1 ≤ 60000 ∧ ∀ j (hj : j < ds.length), j < k → SmallD ds[j])
    (fun b => b = Sum.inr () ∨ (b = Sum.inl () ∧ (ds.length ≤ 30 → ∀ d ∈ ds, SmallD d))) (fun k s hk hI => by
    obtain ⟨s1, s2⟩ := s
    obtain ⟨e1, e2, e3, e4⟩ := hI
    simp only at e1 e2 e3 e4
    subst e1
    show (∃ s', ref05_Great_L1 ds s1 (k : Int) = some (.next s') ∧ _) ∨ ∃ b, ref05_Great_L1 ds s1 (k : Int) = some (.brk b) ∧ _
    unfold ref05_Great_L1
    by_cases hlt : k < ds.length ∧ k < 30
    · rw [show (decide ((k : Int) < (ds.length : Int)) && decide ((k : Int) < (30 : Int))) = true by simp; omega, idx_nat, List.getElem?_eq_getElem hlt.1]
      simp only [cond_true, Option.bind_some]
      obtain ⟨g, hg, hs⟩ := dgreat_eq ds[k]
      rw [hg]
      simp only [Option.bind_some]
      cases g with
      | true => exact .inr ⟨_, rfl, .inl rfl⟩
      | false =>
        obtain ⟨hs, _, _⟩ := hs rfl
        simp only [cond_false]
        obtain ⟨b1, hb1, q1, q2⟩ := sum_loop2 ds[k].Blocks List.length hs.nb hs.lb (step := fun s : Int × Int => ref05_Great_L2 ds (k : Int) s.1 s.2) s1 e2 (by omega) (fun j hj n => by
          show ref05_Great_L2 ds (k : Int) n (j : Int) = _
          unfold ref05_Great_L2
          rw [idx_nat, List.getElem?_eq_getElem hlt.1]
          simp only [Option.bind_some]
          rw [decide_eq_true (by omega), idx_nat, List.getElem?_eq_getElem hj]; rfl) (fun n => by
          show ref05_Great_L2 ds (k : Int) n _ = _
          unfold ref05_Great_L2
          rw [idx_nat, List.getElem?_eq_getElem hlt.1]
          simp only [Option.bind_some]
          rw [decide_eq_false (by omega)]; rfl)
        rw [hb1]
        simp only [Option.bind_some]
        have hnb := hs.nb
        have hnw := hs.nw
        obtain ⟨b2, hb2, q3, q4⟩ := sum_loop2 ds[k].Wait (fun w => w.Data.length) hs.nw hs.lw (step := fun s : Int × Int => ref05_Great_L3 ds (k : Int) s.1 s.2) b1 (by omega) (by omega) (fun j hj n => by
          show ref05_Great_L3 ds (k : Int) n (j : Int) = _
          unfold ref05_Great_L3
          rw [idx_nat, List.getElem?_eq_getElem hlt.1]
          simp only [Option.bind_some]
          rw [decide_eq_true (by omega), idx_nat, List.getElem?_eq_getElem hj]; rfl) (fun n => by
          show ref05_Great_L3 ds (k : Int) n _ = _
          unfold ref05_Great_L3
          rw [idx_nat, List.getElem?_eq_getElem hlt.1]
          simp only [Option.bind_some]
          rw [decide_eq_false (by omega)]; rfl)
        rw [hb2]
        simp only [Option.bind_some]
        by_cases hbig : b2 > 60000
        · rw [decide_eq_true hbig]; exact .inr ⟨_, rfl, .inl rfl⟩
        · rw [decide_eq_false hbig, wI_succ (by omega)]
          refine .inl ⟨_, rfl, by omega, rfl, by simp only; omega, by simp only; omega, fun j hj hjk => ?_⟩
          by_cases he : j = k
          · subst he; exact hs
          · exact e4 j hj (by omega)
    · rw [show (decide ((k : Int) < (ds.length : Int)) && decide ((k : Int) < (30 : Int))) = false by simp; omega]
      refine .inr ⟨_, rfl, .inr ⟨rfl, fun hle d hd => ?_⟩⟩
      obtain ⟨j, hj, rfl⟩ := List.getElem_of_mem hd
      exact e4 j hj (by omega)) FUEL 0 (0, 0) (Nat.zero_le _) (by unfold FUEL; omega) ⟨rfl, by simp, by simp, fun j _ hj => by omega⟩
  rw [hb]
  rcases hq with rfl | ⟨rfl, h⟩
  · exact ⟨_, rfl, fun h => by cases h⟩
  · refine ⟨_, rfl, fun hg => ?_⟩
    have := of_decide_eq_false hg
    exact ⟨by omega, h (by omega)⟩

theorem atwin_eq {ds : List Disk} (hl : ds.length ≤ 100000) (h : ∀ d ∈ ds, SmallD d) : ref05_Twin ds = some ds := by
  unfold ref05_Twin
  have := loop_run (step := fun s : (List Disk) × Int => ref05_Twin_L1 ds s.1 s.2) (fun k => (ds.take k, (k : Int))) ds.length ds (fuel_ltD (by omega)) (fun k hk => by
    unfold ref05_Twin_L1
    simp only
    rw [decide_eq_true (by omega), idx_nat, List.getElem?_eq_getElem hk]
    simp only [cond_true, Option.bind_some]
    rw [rtwin_eq (h _ (List.getElem_mem hk)), wI_succ (by omega)]
    simp only [Option.bind_some]
    rw [app_some _ _ (by simp; omega), take_succ_get _ _ _ (List.getElem?_eq_getElem hk)]; rfl) (by
    unfold ref05_Twin_L1
    simp only
    rw [decide_eq_false (by omega), List.take_length]; rfl)
  have h0 : (([] : List Disk), (0 : Int)) = (fun k : Nat => (ds.take k, (k : Int))) 0 := by simp
  rw [h0, this]; rfl
theorem asame_eq {a b : List Disk} (hl : a.length ≤ 100000) (ha : ∀ d ∈ a, SmallD d) (hb : ∀ d ∈ b, SmallD d) : ref05_SameDisks a b = some (decide (a.map viewD = b.map viewD)) := by
  unfold ref05_SameDisks
  by_cases h1 : a.length = b.length
  case neg =>
    rw [show (((a.length : Nat) : Int) != ((b.length : Nat) : Int)) = true by simp; omega]
    rw [decide_eq_false (fun e => h1 (by have := congrArg List.length e; simpa using this))]; rfl
  rw [show (((a.length : Nat) : Int) != ((b.length : Nat) : Int)) = false by simp; omega]
  simp only [cond_false]
  rw [loop_any2 a b (fun x y => !decide (viewD x = viewD y)) (step := fun s : Int => ref05_SameDisks_L1 a b s) (Sum.inr ()) (Sum.inl ()) (by omega) h1 (fun k hk hk' => by
    unfold ref05_SameDisks_L1
    rw [decide_eq_true (show (k : Int) < (a.length : Int) by omega), idx_nat, idx_nat, List.getElem?_eq_getElem hk, List.getElem?_eq_getElem hk', wI_succ (by omega)]
    simp only [cond_true, Option.bind_some]
    rw [rsame_eq (ha _ (List.getElem_mem hk)) (hb _ (List.getElem_mem hk'))]
    simp only [Option.bind_some]
    cases decide (viewD a[k] = viewD b[k]) <;> rfl) (by
    unfold ref05_SameDisks_L1
    rw [decide_eq_false (by omega)]; rfl), zip_any_ne viewD _ _ h1]
  simp only [Option.bind_some]
  cases decide (a.map viewD = b.map viewD) <;> rfl
end Go.Proofs.Ytgkhjpfnmbdchaa
