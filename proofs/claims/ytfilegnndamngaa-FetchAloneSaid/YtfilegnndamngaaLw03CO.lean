/- Plain law of the folding functions, part 3: the laws. -/
import Derived.Test.YtfilegnndamngaaLw03BO
namespace Go.Proofs.Ytfilegnndamngaa
open Go GL

def at0 (b : List UInt8) (i : Nat) : UInt8 := (b[i]?).getD 0
def gx (i : Nat) (l : List (List UInt8)) : UInt8 := l.foldr (fun b acc => at0 b i ^^^ acc) 0

theorem gx_app (i : Nat) (l m : List (List UInt8)) : gx i (l ++ m) = gx i l ^^^ gx i m := by
  induction l with
  | nil => simp [gx]
  | cons b l ih => show at0 b i ^^^ gx i (l ++ m) = at0 b i ^^^ gx i l ^^^ gx i m; rw [ih, UInt8.xor_assoc]
theorem gx_one (i : Nat) (b : List UInt8) : gx i [b] = at0 b i := by simp [gx]

theorem pad_get {b : List UInt8} (h : blockB b = true) {i : Nat} (hi : i < 128) : (padL b)[i]? = some (at0 b i) := by
  unfold padL at0
  rcases blockB_len h with h | h
  · rw [if_pos h, List.getElem?_replicate, if_pos hi, List.getElem?_eq_none (by omega)]; rfl
  · rw [if_neg (by omega), List.getElem?_eq_getElem (by omega)]; rfl

theorem foldS_get (l : List (List UInt8)) (h : ∀ b ∈ l, blockB b = true) {i : Nat} (hi : i < 128) : (foldS l)[i]? = some (gx i l) := by
  unfold foldS
  have : ∀ (l : List (List UInt8)) (a : List UInt8) (x : UInt8), a[i]? = some x → (∀ b ∈ l, blockB b = true) → (l.foldl (fun acc b => xorL acc (padL b)) a)[i]? = some (x ^^^ gx i l) := by
    intro l
    induction l with
    | nil => intro a x h _; rw [List.foldl_nil, h]; simp [gx]
    | cons b l ih =>
      intro a x h hl
      rw [List.foldl_cons, ih _ (x ^^^ at0 b i) (xorL_get h (pad_get (hl b (by simp)) hi)) (fun c hc => hl c (by simp [hc]))]
      rw [UInt8.xor_assoc]; rfl
  rw [this l _ 0 (by rw [List.getElem?_replicate, if_pos hi]) h]
  simp

theorem ext128 {a b : List UInt8} (ha : a.length = 128) (hb : b.length = 128) (h : ∀ i, i < 128 → a[i]? = b[i]?) : a = b := by
  apply List.ext_getElem?
  intro i
  by_cases hi : i < 128
  · exact h i hi
  · rw [List.getElem?_eq_none (by omega), List.getElem?_eq_none (by omega)]
theorem foldS_ext {l m : List (List UInt8)} (hl : ∀ b ∈ l, blockB b = true) (hm : ∀ b ∈ m, blockB b = true) (h : ∀ i, i < 128 → gx i l = gx i m) : foldS l = foldS m :=
  ext128 (foldS_len l hl) (foldS_len m hm) fun i hi => by rw [foldS_get l hl hi, foldS_get m hm hi, h i hi]
theorem at_foldS {l : List (List UInt8)} (hl : ∀ b ∈ l, blockB b = true) {i : Nat} (hi : i < 128) : at0 (foldS l) i = gx i l := by
  unfold at0; rw [foldS_get l hl hi]; rfl
theorem foldS_block {l : List (List UInt8)} (hl : ∀ b ∈ l, blockB b = true) : blockB (foldS l) = true := by simp [blockB, foldS_len l hl]

theorem spec_cases (l : List (List UInt8)) : (FoldSpec l = ([], 4) ∧ 16 < l.length) ∨ (FoldSpec l = (foldS l, 0) ∧ l.length ≤ 16 ∧ ∀ b ∈ l, blockB b = true) ∨ (FoldSpec l = ([], 3) ∧ l.length ≤ 16 ∧ ∃ b ∈ l, blockB b = false) := by
  unfold FoldSpec
  split
  · exact .inl ⟨rfl, by assumption⟩
  · split
    · rename_i h; exact .inr (.inl ⟨rfl, by omega, List.all_eq_true.1 h⟩)
    · rename_i h
      refine .inr (.inr ⟨rfl, by omega, ?_⟩)
      rw [Bool.not_eq_true, List.all_eq_false] at h
      obtain ⟨x, h1, h2⟩ := h
      exact ⟨x, h1, by simpa using h2⟩

def othersL {α : Type} (l : List α) (i k : Nat) : List α := (l.take k).take i ++ (l.take k).drop (i + 1)
theorem others_zero {α : Type} (l : List α) (i : Nat) : othersL l i 0 = [] := by simp [othersL]
theorem others_ne {α : Type} {l : List α} {i k : Nat} {x : α} (hx : l[k]? = some x) (h : k ≠ i) : othersL l i (k + 1) = othersL l i k ++ [x] := by
  have hk := (List.getElem?_eq_some_iff.1 hx).1
  unfold othersL
  rw [take_succ_get _ _ _ hx]
  by_cases h2 : k < i
  · have hA : (l.take k).length = k := by simp; omega
    generalize l.take k = A at hA
    rw [List.take_of_length_le (l := A ++ [x]) (by simp; omega), List.drop_of_length_le (l := A ++ [x]) (by simp; omega), List.take_of_length_le (l := A) (by omega), List.drop_of_length_le (l := A) (by omega)]
    simp
  · rw [List.take_append_of_le_length (by simp; omega), List.drop_append_of_le_length (by simp; omega), List.append_assoc]
theorem others_eq {α : Type} {l : List α} {k : Nat} {x : α} (hx : l[k]? = some x) : othersL l k (k + 1) = othersL l k k := by
  have hk := (List.getElem?_eq_some_iff.1 hx).1
  unfold othersL
  rw [take_succ_get _ _ _ hx, List.take_append_of_le_length (by simp; omega), List.drop_of_length_le (by simp; omega), List.drop_of_length_le (by simp; omega)]

theorem xor_mid (a b c : UInt8) : (a ^^^ c) ^^^ (a ^^^ (b ^^^ c)) = b := by
  have h1 : (a ^^^ c) ^^^ (a ^^^ (b ^^^ c)) = (a ^^^ a) ^^^ (c ^^^ c) ^^^ b := by
    simp only [UInt8.xor_assoc]
    congr 1
    rw [← UInt8.xor_assoc c a, UInt8.xor_comm c a, UInt8.xor_assoc]
    congr 1
    rw [UInt8.xor_comm b c]
  rw [h1]; simp

end Go.Proofs.Ytfilegnndamngaa
