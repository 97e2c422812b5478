/- Plain law: eyes: what holds of folds. -/
import Derived.Test.YtfilegnndamngaaLwEyeBO
import Derived.Test.YtfilegnndamngaaLwActsAO
namespace Go.Proofs.Ytfilegnndamngaa
open Go GL

theorem zeroB_iff (b : List UInt8) (h : b.length = 128) : zeroB b = true ↔ ∀ i, i < 128 → b[i]? = some 0 := by
  unfold zeroB
  simp only [Bool.not_eq_true', List.any_eq_false, bne_iff_ne, ne_eq, Decidable.not_not]
  constructor
  · intro hz i hi
    rw [List.getElem?_eq_getElem (by omega)]
    exact congrArg some (hz _ (List.getElem_mem _))
  · intro hz x hx
    obtain ⟨i, hi, rfl⟩ := List.getElem_of_mem hx
    have := hz i (by omega)
    rw [List.getElem?_eq_getElem hi] at this
    exact Option.some.inj this
theorem xor_zero_iff (a b c : UInt8) : a ^^^ (b ^^^ c) = 0 ↔ a ^^^ c = b := by
  constructor
  · intro h
    have h2 : (a ^^^ (b ^^^ c)) ^^^ b = b := by rw [h]; simp
    rw [show (a ^^^ (b ^^^ c)) ^^^ b = a ^^^ c by
      rw [UInt8.xor_comm b c, ← UInt8.xor_assoc, UInt8.xor_assoc, UInt8.xor_self]; simp] at h2
    exact h2
  · intro h
    rw [← h, UInt8.xor_assoc a c c]
    simp
theorem gx_split (i : Nat) (l : List (List UInt8)) (m : Nat) (hm : m < l.length) : gx i l = gx i (l.take m) ^^^ (at0 l[m] i ^^^ gx i (l.drop (m + 1))) := by
  have hsplit : l = l.take m ++ (l[m] :: l.drop (m + 1)) := by rw [List.getElem_cons_drop, List.take_append_drop]
  have h1 : gx i l = gx i (l.take m ++ (l[m] :: l.drop (m + 1))) := by rw [← hsplit]
  rw [h1, gx_app]; rfl
/-- A fold is nothing just where one of its blocks is the fold of the others. -/
theorem zero_iff_others (l : List (List UInt8)) (hl : ∀ b ∈ l, blockB b = true) (m : Nat) (hm : m < l.length) (h128 : l[m].length = 128) :
    zeroB (foldS l) = decide (foldS (l.take m ++ l.drop (m + 1)) = l[m]) := by
  have ho : ∀ b ∈ l.take m ++ l.drop (m + 1), blockB b = true := fun b hb => by
    rcases List.mem_append.1 hb with h | h
    · exact hl b (List.mem_of_mem_take h)
    · exact hl b (List.mem_of_mem_drop h)
  rw [Bool.eq_iff_iff, zeroB_iff _ (foldS_len l hl), decide_eq_true_iff]
  have key : ∀ i, i < 128 → ((foldS l)[i]? = some 0 ↔ (foldS (l.take m ++ l.drop (m + 1)))[i]? = l[m][i]?) := fun i hi => by
    rw [foldS_get l hl hi, foldS_get _ ho hi, gx_split i l m hm, gx_app]
    rw [List.getElem?_eq_getElem (show i < l[m].length by omega)]
    have ha : at0 l[m] i = l[m][i] := by unfold at0; rw [List.getElem?_eq_getElem (by omega)]; rfl
    rw [ha]
    constructor
    · intro h
      exact congrArg some ((xor_zero_iff _ _ _).1 (Option.some.inj h))
    · intro h
      exact congrArg some ((xor_zero_iff _ _ _).2 (Option.some.inj h))
  constructor
  · intro h
    exact ext128 (foldS_len _ ho) h128 (fun i hi => (key i hi).1 (h i hi))
  · intro h i hi
    exact (key i hi).2 (by rw [h])

theorem evenR_err {c : Config} {ds : List Disk} {s : Int} (h : ((evenR c ds s).2 != 0) = true) : (evenR c ds s).1 = false := by
  unfold evenR at h ⊢
  cases ho : okA c ds with
  | false => rfl
  | true =>
    rw [ho] at h
    cases hc : (decide (s < 0) || decide (s ≥ (sN c : Int))) with
    | true => rfl
    | false => rw [hc] at h; simp at h
theorem evenR_ok {c : Config} {ds : List Disk} {s : Int} (h : (evenR c ds s).2 = 0) : OkA c ds ∧ ∃ k : Nat, s = (k : Int) ∧ k < sN c ∧ evenR c ds s = (evenA c ds k, 0) := by
  unfold evenR at h ⊢
  cases ho : okA c ds with
  | false => rw [ho] at h; simp at h
  | true =>
    rw [ho] at h
    cases hc : (decide (s < 0) || decide (s ≥ (sN c : Int))) with
    | true => rw [hc] at h; simp at h
    | false =>
      have hc' := hc
      simp only [Bool.or_eq_false_iff, decide_eq_false_iff_not] at hc'
      exact ⟨(okA_iff c ds).1 ho, s.toNat, by omega, by omega, rfl⟩
theorem bool_eq_dec (a b : Bool) (h : a = b) : (a == b) = true := by rw [h]; simp

theorem filt_get (p : Nat → Bool) (n k : Nat) (hk : k < n) (hp : p k = true) : ((List.range n).filter p)[((List.range k).filter p).length]? = some k := by
  have h1 : List.range n = List.range k ++ (k :: (List.range n).drop (k + 1)) := by
    have : (List.range n)[k]'(by simpa using hk) = k := by simp
    have h2 := (List.take_append_drop k (List.range n)).symm
    rw [List.drop_eq_getElem_cons (by simpa using hk), this, List.take_range] at h2
    rw [show min k n = k by omega] at h2
    exact h2
  rw [h1, List.filter_append, List.filter_cons, if_pos hp, List.getElem?_append_right (Nat.le_refl _)]
  simp
end Go.Proofs.Ytfilegnndamngaa
