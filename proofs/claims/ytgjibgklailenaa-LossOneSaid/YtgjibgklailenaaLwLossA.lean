/- Plain law: losses. -/
import Derived.Test.YtgjibgklailenaaLwShape
namespace Go.Proofs.Ytgjibgklailenaa
open Go GL

def okL (c : Config) (l : Loss) : Bool :=
  decide ((l.Events.toNat : Int) ≤ 2147483648 ∧ -1 ≤ l.Lost ∧ l.Lost < c.Members ∧ 0 ≤ l.Done ∧ l.Done ≤ l.Pos ∧ l.Pos ≤ c.Chunk * c.Rows ∧ ¬ (l.Spare = true ∧ l.Lost = -1) ∧ (l.Spare = true ∨ l.Pos ≤ 0))
def chk (c : Config) (l : Loss) : Int := bif mayC c && okL c l then 0 else 8
theorem chk_1 (c : Config) (l : Loss) : loss_Check c l = some (chk c l) := by
  unfold loss_Check chk
  rw [stripes_eq]
  cases hc : mayC c with
  | false => simp
  | true =>
    simp only [cond_true, Option.bind_some, Bool.true_and, show ((0 : Int) != 0) = false from rfl, Bool.false_or, show ((2147483648 : UInt32).toNat : Int) = 2147483648 from rfl]
    cases ho : okL c l with
    | true =>
      simp only [okL, decide_eq_true_eq] at ho
      obtain ⟨h1, h2, h3, h4, h5, h6, h7, h8⟩ := ho
      have e1 : (((((decide ((l.Events.toNat : Int) > 2147483648) || decide (l.Lost < -1)) || decide (l.Lost ≥ c.Members)) || decide (l.Done < 0)) || decide (l.Done > l.Pos)) || decide (l.Pos > c.Chunk * c.Rows)) = false := by simp; omega
      have e2 : ((l.Spare && (l.Lost == -1)) || (!l.Spare && decide (l.Pos > 0))) = false := by
        cases hs : l.Spare <;> simp [hs] at h7 h8 ⊢ <;> omega
      rw [e1, e2]; rfl
    | false =>
      simp only [okL, decide_eq_false_iff_not] at ho
      cases e1 : (((((decide ((l.Events.toNat : Int) > 2147483648) || decide (l.Lost < -1)) || decide (l.Lost ≥ c.Members)) || decide (l.Done < 0)) || decide (l.Done > l.Pos)) || decide (l.Pos > c.Chunk * c.Rows)) with
      | true => rfl
      | false =>
        have e2 : ((l.Spare && (l.Lost == -1)) || (!l.Spare && decide (l.Pos > 0))) = true := by
          simp at e1
          cases hs : l.Spare <;> simp [hs] at ho ⊢ <;> omega
        rw [e2]; rfl
theorem chk_2 (c : Config) (l : Loss) : ref23_Check c l = some (chk c l) := by
  unfold ref23_Check chk
  rw [may_eq]
  cases hc : mayC c with
  | false => simp [gO]
  | true =>
    simp only [gO, Bool.not_true, Bool.not_false, cond_true, Option.bind_some, Bool.true_and, Bool.false_or]
    have hS := (wI_str ((mayC_iff c).1 hc)).2.1
    have hm : ref23_May c l = some (okL c l) := by
      unfold ref23_May
      rw [rstripes_eq ((mayC_iff c).1 hc)]
      simp only [show ((2147483648 : UInt32).toNat : Int) = 2147483648 from rfl, gO]
      cases e1 : ((((decide ((l.Events.toNat : Int) > 2147483648)) || (decide (l.Lost < (-1 : Int)))) || (decide (l.Lost ≥ c.Members))) || (l.Spare && (decide (l.Lost < (0 : Int))))) with
      | true =>
        have : okL c l = false := by
          simp only [okL, decide_eq_false_iff_not]
          cases hs : l.Spare <;> simp [hs] at e1 ⊢ <;> omega
        rw [this]; rfl
      | false =>
        cases hs : l.Spare with
        | false =>
          simp only [cond_false, Bool.not_false, cond_true]
          congr 1
          simp [hs] at e1
          simp only [okL, hs]
          rw [Bool.eq_iff_iff]; simp; omega
        | true =>
          simp only [cond_false, Bool.not_true]
          simp [hs] at e1
          cases e2 : (decide (l.Done ≥ 0) && decide (l.Done ≤ l.Pos)) with
          | false =>
            simp at e2
            simp only [cond_false, Option.bind_some, Bool.false_and]
            congr 1
            simp only [okL, hs]; symm
            simp; omega
          | true =>
            simp at e2
            simp only [cond_true, Option.bind_some, Bool.true_and]
            congr 1
            simp only [okL, hs]
            rw [Bool.eq_iff_iff]; simp; omega
    rw [hm]
    cases okL c l <;> rfl

theorem chk_cases (c : Config) (l : Loss) : chk c l = 8 ∨ (chk c l = 0 ∧ MayC c ∧ okL c l = true) := by
  unfold chk
  cases h1 : mayC c with
  | false => exact .inl rfl
  | true => cases h2 : okL c l with
    | false => exact .inl rfl
    | true => exact .inr ⟨rfl, (mayC_iff c).1 h1, rfl⟩

theorem stripes_may {c : Config} (h : MayC c) : shape_Stripes c = some (c.Chunk * c.Rows, 0) := by rw [stripes_eq, (mayC_iff c).2 h]; rfl

theorem missing_eq (c : Config) (l : Loss) (s : Int) : ∃ r, loss_Missing c l s = some r ∧ ref23_Missing c l s = some r := by
  unfold loss_Missing ref23_Missing loss_Missing_J1 ref23_For
  rw [chk_1, chk_2]
  rcases chk_cases c l with h | ⟨h, hc, _⟩
  · rw [h]; exact ⟨_, rfl, rfl⟩
  · rw [h, stripes_may hc, rstripes_eq hc]
    simp only [Option.bind_some, show ((0 : Int) != 0) = false from rfl, cond_false, gO]
    by_cases h1 : s < 0
    · exact ⟨(0, 2), by simp [h1], by simp [h1]⟩
    · by_cases h2 : c.Chunk * c.Rows ≤ s
      · exact ⟨(0, 2), by simp [h1, h2], by simp [h1, h2]⟩
      · cases h3 : (l.Spare && decide (s < l.Pos)) with
        | true => exact ⟨(-1, 0), by simp [h1, h2, h3], by simp [h1, h2, h3]⟩
        | false => exact ⟨(l.Lost, 0), by simp [h1, h2, h3], by simp [h1, h2, h3]⟩
theorem die_eq (c : Config) (l : Loss) (d : Int) (b : Bool) : ∃ r, loss_Die c l d b = some r ∧ ref23_Die c l d b = some r := by
  unfold loss_Die ref23_Die loss_Die_J3 loss_Die_J2 loss_Die_J1 ref23_Die_J1 ref23_Dead
  rw [chk_1, chk_2]
  rcases chk_cases c l with h | ⟨h, hc, ho⟩
  · rw [h]; exact ⟨_, rfl, rfl⟩
  · rw [h]
    simp only [okL, decide_eq_true_eq] at ho
    obtain ⟨_, ho2, ho3, _⟩ := ho
    have e0 : ((0 : Int) != 0) = false := rfl
    have e1 : ((0 : Int) == 0) = true := rfl
    simp only [Option.bind_some, e0, e1, cond_false, Bool.true_and]
    cases h1 : (decide (d < 0) || decide (d > c.Members)) with
    | true => exact ⟨_, rfl, rfl⟩
    | false =>
      simp only [cond_false, e0]
      cases h2 : (d == c.Members) with
      | true =>
        cases b with
        | false => exact ⟨_, rfl, by simp⟩
        | true => exact ⟨_, rfl, by simp⟩
      | false =>
        simp only [cond_false, Bool.false_and]
        have e2 : (l.Lost != -1) = decide (l.Lost ≥ 0) := by rw [Bool.eq_iff_iff]; simp; omega
        rw [e2]
        cases h3 : (decide (l.Lost ≥ 0) && (l.Lost != d)) with
        | true => exact ⟨_, rfl, rfl⟩
        | false => exact ⟨_, rfl, rfl⟩
theorem spare_eq (c : Config) (l : Loss) : ∃ r, loss_Spare c l = some r ∧ ref23_Spare c l = some r := by
  unfold loss_Spare ref23_Spare loss_Spare_J1 ref23_Spare_J1 ref23_Spare_J2
  rw [chk_1, chk_2]
  rcases chk_cases c l with h | ⟨h, hc, ho⟩
  · rw [h]; exact ⟨_, rfl, rfl⟩
  · rw [h]
    simp only [okL, decide_eq_true_eq] at ho
    obtain ⟨_, ho2, ho3, _⟩ := ho
    have e0 : ((0 : Int) != 0) = false := rfl
    have e1 : ((0 : Int) == 0) = true := rfl
    simp only [Option.bind_some, e0, e1, cond_false, Bool.true_and]
    cases h1 : l.Broken with
    | true => exact ⟨_, rfl, rfl⟩
    | false =>
      have e2 : (l.Lost == -1) = decide (l.Lost < 0) := by rw [Bool.eq_iff_iff]; simp; omega
      rw [e2]
      cases h2 : decide (l.Lost < 0) with
      | true => exact ⟨_, rfl, rfl⟩
      | false => cases h3 : l.Spare with
        | true => exact ⟨_, rfl, rfl⟩
        | false => exact ⟨_, rfl, rfl⟩
theorem go_eq (c : Config) (l : Loss) : ∃ r, loss_Go c l = some r ∧ ref23_Go c l = some r := by
  unfold loss_Go ref23_Go ref23_Go_J1
  rw [chk_1, chk_2]
  rcases chk_cases c l with h | ⟨h, hc, ho⟩
  · rw [h]; exact ⟨_, rfl, by simp [gO]⟩
  · rw [h, stripes_may hc, rstripes_eq hc]
    simp only [okL, decide_eq_true_eq] at ho
    obtain ⟨_, _, _, _, _, ho6, _⟩ := ho
    have e0 : ((0 : Int) != 0) = false := rfl
    have e1 : ((0 : Int) == 0) = true := rfl
    simp only [Option.bind_some, e0, e1, cond_false, Bool.true_and, gO, Bool.not_not]
    cases h1 : l.Spare with
    | false => exact ⟨_, rfl, rfl⟩
    | true =>
      have e2 : (l.Pos == c.Chunk * c.Rows) = decide (l.Pos ≥ c.Chunk * c.Rows) := by rw [Bool.eq_iff_iff]; simp; omega
      simp only [cond_true, Option.bind_some, e2, Bool.not_true, Bool.false_or]
      cases h2 : decide (l.Pos ≥ c.Chunk * c.Rows) with
      | true => exact ⟨_, rfl, rfl⟩
      | false => exact ⟨_, rfl, rfl⟩
theorem mark_eq (c : Config) (l : Loss) : ∃ r, loss_Mark c l = some r ∧ ref23_Mark c l = some r := by
  unfold loss_Mark ref23_Mark ref23_Mark_J1 ref23_Marked loss_Mark_J2 loss_Mark_J1 ref23_Marked_J1
  rw [chk_1, chk_2]
  rcases chk_cases c l with h | ⟨h, hc, ho⟩
  · rw [h]; exact ⟨_, rfl, rfl⟩
  · rw [h, stripes_may hc, rstripes_eq hc]
    simp only [okL, decide_eq_true_eq] at ho
    obtain ⟨_, _, _, _, ho5, _⟩ := ho
    have e0 : ((0 : Int) != 0) = false := rfl
    have e1 : ((0 : Int) == 0) = true := rfl
    have e2 : (l.Done == l.Pos) = decide (l.Done ≥ l.Pos) := by rw [Bool.eq_iff_iff]; simp; omega
    simp only [Option.bind_some, e0, e1, cond_false, Bool.true_and, e2]
    cases h1 : (!l.Spare || decide (l.Done ≥ l.Pos)) with
    | true => exact ⟨_, rfl, rfl⟩
    | false =>
      simp only [cond_false, Option.bind_some, e0]
      cases h2 : (l.Pos == c.Chunk * c.Rows) with
      | true => exact ⟨_, rfl, rfl⟩
      | false => exact ⟨_, rfl, rfl⟩

theorem turns_true (c : Config) (l : Loss) (s d : Int) (b : Bool) : law23_LossTurns c l s d b = some true := by
  unfold law23_LossTurns
  obtain ⟨r1, h1, h2⟩ := missing_eq c l s
  obtain ⟨r2, h3, h4⟩ := die_eq c l d b
  obtain ⟨r3, h5, h6⟩ := spare_eq c l
  obtain ⟨r4, h7, h8⟩ := go_eq c l
  obtain ⟨r5, h9, h10⟩ := mark_eq c l
  rw [h1, h2, h3, h4, h5, h6, h7, h8, h9, h10, chk_1, chk_2]
  simp [gO]
end Go.Proofs.Ytgjibgklailenaa
