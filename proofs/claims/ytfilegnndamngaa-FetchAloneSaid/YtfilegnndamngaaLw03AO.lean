/- Plain law of the folding functions, part 1. -/
import Derived.Test.YtfilegnndamngaaGfo2
import Derived.Test.YtfilegnndamngaaCore14
namespace Go.Proofs.Ytfilegnndamngaa
open Go GL

def xorL (a b : List UInt8) : List UInt8 := List.zipWith (· ^^^ ·) a b
def padL (b : List UInt8) : List UInt8 := if b.length = 0 then List.replicate 128 0 else b
def foldS (l : List (List UInt8)) : List UInt8 := l.foldl (fun acc b => xorL acc (padL b)) (List.replicate 128 0)
def blockB (b : List UInt8) : Bool := b.length == 0 || b.length == 128

theorem xorL_get {a b : List UInt8} {k : Nat} {x y : UInt8} (h1 : a[k]? = some x) (h2 : b[k]? = some y) : (xorL a b)[k]? = some (x ^^^ y) := by
  unfold xorL; rw [List.getElem?_zipWith, h1, h2]
theorem xorL_len (a b : List UInt8) : (xorL a b).length = min a.length b.length := by unfold xorL; simp
theorem padL_len {b : List UInt8} (h : blockB b = true) : (padL b).length = 128 := by
  unfold padL blockB at *
  split
  · simp
  · rcases Bool.or_eq_true _ _ |>.mp h with h | h
    · simp at h; simp_all
    · simpa using h

theorem xorL_zero {a : List UInt8} (h : a.length = 128) : xorL a (List.replicate 128 0) = a := by
  apply List.ext_getElem?
  intro i
  unfold xorL
  rw [List.getElem?_zipWith]
  by_cases hi : i < 128
  · rw [List.getElem?_eq_getElem (by omega), List.getElem?_replicate, if_pos hi]; simp
  · rw [List.getElem?_eq_none (by omega), List.getElem?_replicate, if_neg hi]

/-- The inner loop. -/
theorem fold_inner (x a : List UInt8) (hx : x.length = 128) (ha : a.length = 128) :
    loopM (fun s : Int × (List UInt8) => fold_Fold_L3 x s.1 s.2) FUEL ((0 : Int), a) = some (xorL a x) := by
  have hr : (xorL a x).length = 128 := by rw [xorL_len]; omega
  refine loop_map (xorL a x) a 128 _ (by decide) (fun k hk => ?_) ?_
  · obtain ⟨u, hu⟩ : ∃ u, x[k]? = some u := ⟨_, List.getElem?_eq_getElem (by omega)⟩
    obtain ⟨v, hv⟩ : ∃ v, a[k]? = some v := ⟨_, List.getElem?_eq_getElem (by omega)⟩
    unfold fold_Fold_L3
    simp only [hx, idx_nat, hu, bnd_nat hk, mix_get _ _ _ (hr.trans ha.symm), hv, Option.bind_some, wI_succ (show k < 9223372036854775807 by omega)]
    rw [mix_set _ _ _ (hr.trans ha.symm) _ (xorL_get hv hu)]
    rw [decide_eq_true (by omega)]
    rfl
  · unfold fold_Fold_L3
    simp only [hx]
    rw [mix_end _ _ 128 hr ha]
    rfl

def foldF (l : List (List UInt8)) (k : Nat) : List UInt8 := foldS (l.take k)
theorem foldS_len : ∀ (l : List (List UInt8)), (∀ b ∈ l, blockB b = true) → (foldS l).length = 128 := by
  intro l
  unfold foldS
  have : ∀ (l : List (List UInt8)) (a : List UInt8), a.length = 128 → (∀ b ∈ l, blockB b = true) → (l.foldl (fun acc b => xorL acc (padL b)) a).length = 128 := by
    intro l
    induction l with
    | nil => intro a h _; exact h
    | cons b l ih =>
      intro a h hl
      refine ih _ ?_ (fun x hx => hl x (by simp [hx]))
      rw [xorL_len, padL_len (hl b (by simp))]; omega
  exact this l _ (by simp)
theorem foldS_snoc (l : List (List UInt8)) (b : List UInt8) : foldS (l ++ [b]) = xorL (foldS l) (padL b) := by
  unfold foldS; rw [List.foldl_append]; rfl

def FoldSpec (l : List (List UInt8)) : List UInt8 × Int :=
  if 16 < l.length then ([], 4) else if l.all blockB then (foldS l, 0) else ([], 3)

theorem fold_eq (l : List (List UInt8)) : fold_Fold l = some (FoldSpec l) := by
  unfold fold_Fold FoldSpec
  by_cases h16 : 16 < l.length
  · rw [if_pos h16, decide_eq_true (by omega)]; rfl
  · rw [if_neg h16, decide_eq_false (by omega)]
    simp only [cond_false]
    have := loop_inv (step := fun s : Int × (List UInt8) => fold_Fold_L1 l s.1 s.2) l.length
      (fun k s => s = ((k : Int), foldS (l.take k)) ∧ ∀ b ∈ l.take k, blockB b = true)
      (fun r => (l.all blockB = true ∧ r = (0, foldS l)) ∨ l.all blockB = false ∧ r.1 = 3) (fun k s hk hs => by
        obtain ⟨rfl, hb⟩ := hs
        unfold fold_Fold_L1
        by_cases h : k < l.length
        · obtain ⟨x, hx⟩ : ∃ x, l[k]? = some x := ⟨_, List.getElem?_eq_getElem h⟩
          simp only [decide_eq_true (show (k : Int) < (l.length : Int) by omega), cond_true, idx_nat, hx, Option.bind_some]
          have hall : blockB x = true → ∀ b ∈ l.take (k + 1), blockB b = true := by
            intro h1 b hb'
            rw [take_succ_get _ _ _ hx] at hb'
            simp at hb'
            rcases hb' with hb' | rfl
            · exact hb b hb'
            · exact h1
          by_cases h0 : x.length = 0
          · have hbx : blockB x = true := by simp [blockB, h0]
            have : ((x.length : Int) == 0) = true := beq_iff_eq.2 (by omega)
            rw [this]
            refine .inl ⟨_, rfl, h, ?_, hall hbx⟩
            simp only [wI_succ (show k < 9223372036854775807 by omega)]
            rw [take_succ_get _ _ _ hx, foldS_snoc]
            rw [show padL x = List.replicate 128 0 from if_pos h0, xorL_zero (foldS_len _ hb)]
          · have : ((x.length : Int) == 0) = false := beq_eq_false_iff_ne.2 (by omega)
            rw [this]
            by_cases h1 : x.length = 128
            · have hbx : blockB x = true := by simp [blockB, h1]
              have : ((x.length : Int) == 128) = true := beq_iff_eq.2 (by omega)
              rw [this]
              simp only [cond_true, cond_false]
              rw [fold_inner x _ h1 (foldS_len _ hb)]
              refine .inl ⟨_, rfl, h, ?_, hall hbx⟩
              simp only [wI_succ (show k < 9223372036854775807 by omega)]
              rw [take_succ_get _ _ _ hx, foldS_snoc]
              rw [show padL x = x from if_neg h0]
            · have : ((x.length : Int) == 128) = false := beq_eq_false_iff_ne.2 (by omega)
              rw [this]
              refine .inr ⟨_, rfl, .inr ⟨?_, rfl⟩⟩
              rw [List.all_eq_false]
              exact ⟨x, List.mem_of_getElem? hx, by simp [blockB, h0, h1]⟩
        · obtain rfl : k = l.length := by omega
          rw [decide_eq_false (by omega)]
          rw [List.take_length] at *
          exact .inr ⟨_, rfl, .inl ⟨List.all_eq_true.2 hb, rfl⟩⟩) FUEL 0 ((0 : Int), List.replicate 128 (0 : UInt8)) (Nat.zero_le _) (by unfold FUEL; omega) ⟨by simp [foldS], by simp⟩
    obtain ⟨r, hr, hq⟩ := this
    rw [hr]
    rcases hq with ⟨h1, rfl⟩ | ⟨h1, h2⟩
    · rw [h1]; rfl
    · simp [h1, h2]
end Go.Proofs.Ytfilegnndamngaa
