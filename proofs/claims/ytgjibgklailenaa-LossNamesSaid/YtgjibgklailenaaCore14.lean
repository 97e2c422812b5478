/- Own library, part 14: plain laws of loops over lists. -/
import Derived.Test.YtgjibgklailenaaCore13
namespace GL
open Go

theorem wI_id {x : Int} (h1 : -9223372036854775808 ≤ x) (h2 : x ≤ 9223372036854775807) : wI x = x := by
  have h : wI x = (if x % 18446744073709551616 ≥ 9223372036854775808 then x % 18446744073709551616 - 18446744073709551616 else x % 18446744073709551616) := by
    unfold wI IntKind.wrap
    simp [IntKind.bits, IntKind.signed]
  rw [h]
  split <;> omega

theorem wI_succ {k : Nat} (h : k < 9223372036854775807) : wI ((k : Int) + 1) = ((k + 1 : Nat) : Int) := by
  rw [wI_id (by omega) (by omega)]; rfl

theorem idx_nat {α : Type} (l : List α) (k : Nat) : idx l (k : Int) = l[k]? := by simp [idx]
theorem bnd_nat {n k : Nat} (h : k < n) : bnd n (k : Int) = some k := by unfold bnd; rw [if_pos (by omega)]; simp

theorem loop_inv {S B : Type} {step : S → Option (Ctl S B)} (n : Nat) (I : Nat → S → Prop) (Q : B → Prop)
    (h : ∀ k s, k ≤ n → I k s → (∃ s', step s = some (.next s') ∧ k < n ∧ I (k + 1) s') ∨ ∃ b, step s = some (.brk b) ∧ Q b) :
    ∀ F k s, k ≤ n → n < F + k → I k s → ∃ b, loopM step F s = some b ∧ Q b
  | 0, k, s, hk, hF, _ => absurd hk (by omega)
  | F + 1, k, s, hk, hF, hi => by
    rw [loopM_succ]
    rcases h k s hk hi with ⟨s', h1, h2, h3⟩ | ⟨b, h1, h2⟩
    · rw [h1]; exact loop_inv n I Q h F (k + 1) s' (by omega) (by omega) h3
    · rw [h1]; exact ⟨b, rfl, h2⟩

theorem loop_run {S B : Type} {step : S → Option (Ctl S B)} (f : Nat → S) (n : Nat) (b : B) (hn : n < FUEL) (h1 : ∀ k, k < n → step (f k) = some (.next (f (k + 1)))) (h2 : step (f n) = some (.brk b)) :
    loopM step FUEL (f 0) = some b := by
  obtain ⟨b', hb, rfl⟩ := loop_inv (step := step) n (fun k s => s = f k) (fun x => x = b) (fun k s hk hs => by
    subst hs
    by_cases h : k < n
    · exact .inl ⟨_, h1 k h, h, rfl⟩
    · obtain rfl : k = n := by omega
      exact .inr ⟨_, h2, rfl⟩) FUEL 0 (f 0) (Nat.zero_le _) (by omega) rfl
  exact hb

/-- A loop over places below `n`, that may leave early: it gives `d` at the end, or what the first place gives that leaves. -/
theorem loop_search {S B : Type} {step : S → Option (Ctl S B)} (f : Nat → S) (n : Nat) (Q : B → Prop) (hn : n < FUEL)
    (h1 : ∀ k, k < n → step (f k) = some (.next (f (k + 1))) ∨ ∃ b, step (f k) = some (.brk b) ∧ Q b) (h2 : ∃ b, step (f n) = some (.brk b) ∧ Q b) :
    ∃ b, loopM step FUEL (f 0) = some b ∧ Q b :=
  loop_inv (step := step) n (fun k s => s = f k) Q (fun k s hk hs => by
    subst hs
    by_cases h : k < n
    · rcases h1 k h with h' | h'
      · exact .inl ⟨_, h', h, rfl⟩
      · exact .inr h'
    · obtain rfl : k = n := by omega
      exact .inr h2) FUEL 0 (f 0) (Nat.zero_le _) (by omega) rfl

/-- A loop that asks whether some place below `n` does. -/
theorem loop_any {S B : Type} {step : S → Option (Ctl S B)} (f : Nat → S) (n : Nat) (p : Nat → Bool) (yes no : B) (hn : n < FUEL)
    (h1 : ∀ k, k < n → step (f k) = some (bif p k then .brk yes else .next (f (k + 1)))) (h2 : step (f n) = some (.brk no)) :
    loopM step FUEL (f 0) = some (bif (List.range n).any p then yes else no) := by
  have key : ∀ m k, k + m = n → ∀ F, m < F → loopM step F (f k) = some (bif (List.range' k m).any p then yes else no) := by
    intro m
    induction m with
    | zero =>
      intro k hk F hF
      obtain ⟨F, rfl⟩ : ∃ F', F = F' + 1 := ⟨F - 1, by omega⟩
      obtain rfl : k = n := by omega
      rw [loopM_succ, h2]; rfl
    | succ m ih =>
      intro k hk F hF
      obtain ⟨F, rfl⟩ : ∃ F', F = F' + 1 := ⟨F - 1, by omega⟩
      rw [loopM_succ, h1 k (by omega)]
      rw [List.range'_succ, List.any_cons]
      cases hp : p k with
      | true => rfl
      | false => exact ih (k + 1) (by omega) F (by omega)
  rw [List.range_eq_range']
  exact key n 0 (by omega) FUEL hn

theorem any_range {α : Type} (l : List α) (p : α → Bool) (q : Nat → Bool) (h : ∀ k (hk : k < l.length), q k = p l[k]) : (List.range l.length).any q = l.any p := by
  rw [Bool.eq_iff_iff, List.any_eq_true, List.any_eq_true]
  constructor
  · rintro ⟨k, hk, hq⟩
    have hk := List.mem_range.1 hk
    exact ⟨l[k], List.getElem_mem _, by rw [← h k hk]; exact hq⟩
  · rintro ⟨x, hx, hp⟩
    obtain ⟨k, hk, rfl⟩ := List.getElem_of_mem hx
    exact ⟨k, List.mem_range.2 hk, by rw [h k hk]; exact hp⟩

/-! ### in place -/
theorem mix_get {α : Type} (r a : List α) (k : Nat) (hl : r.length = a.length) : (r.take k ++ a.drop k)[k]? = a[k]? := by
  by_cases h : k < r.length
  · rw [List.getElem?_append_right (by simp; omega)]
    simp [Nat.min_eq_left (Nat.le_of_lt h)]
  · rw [List.getElem?_eq_none (by simp; omega), List.getElem?_eq_none (by omega)]
theorem mix_set {α : Type} (r a : List α) (k : Nat) (hl : r.length = a.length) (x : α) (h : r[k]? = some x) : (r.take k ++ a.drop k).set k x = r.take (k + 1) ++ a.drop (k + 1) := by
  have hk := (List.getElem?_eq_some_iff.1 h).1
  have hx := (List.getElem?_eq_some_iff.1 h).2
  apply List.ext_getElem?
  intro i
  rw [List.getElem?_set]
  split
  · rename_i hi
    subst hi
    rw [if_pos (by simp; omega)]
    rw [List.getElem?_append_left (by simp; omega)]
    simp [h]
  · rename_i hi
    by_cases h2 : i < k
    · rw [List.getElem?_append_left (by simp; omega), List.getElem?_append_left (by simp; omega)]
      rw [List.getElem?_take_of_lt h2, List.getElem?_take_of_lt (by omega)]
    · rw [List.getElem?_append_right (by simp; omega), List.getElem?_append_right (by simp; omega)]
      simp only [List.length_take, List.getElem?_drop]
      congr 1
      omega
theorem mix_zero {α : Type} (r a : List α) : r.take 0 ++ a.drop 0 = a := by simp
theorem mix_end {α : Type} (r a : List α) (n : Nat) (h1 : r.length = n) (h2 : a.length = n) : r.take n ++ a.drop n = r := by
  rw [List.take_of_length_le (by omega), List.drop_of_length_le (by omega)]; simp
theorem mix_len {α : Type} (r a : List α) (k : Nat) (h : r.length = a.length) : (r.take k ++ a.drop k).length = a.length := by simp; omega

/-- A loop that rewrites a list place by place. -/
theorem loop_map {α B : Type} {step : Int × List α → Option (Ctl (Int × List α) B)} (r a : List α) (n : Nat) (b : B) (hn : n < FUEL)
    (h1 : ∀ k, k < n → step ((k : Int), r.take k ++ a.drop k) = some (.next (((k + 1 : Nat) : Int), r.take (k + 1) ++ a.drop (k + 1)))) (h2 : step ((n : Int), r.take n ++ a.drop n) = some (.brk b)) :
    loopM step FUEL ((0 : Int), a) = some b := by
  have := loop_run (step := step) (fun k => ((k : Int), r.take k ++ a.drop k)) n b hn h1 h2
  simpa using this

theorem take_succ_get {α : Type} (l : List α) (k : Nat) (x : α) (h : l[k]? = some x) : l.take (k + 1) = l.take k ++ [x] := by
  rw [List.take_add_one, h]; rfl

theorem app_some {α : Type} (l m : List α) (h : l.length + m.length < 4294967296) : app l m = some (l ++ m) := if_pos h
theorem makeL_some {α : Type} (z : α) (n : Nat) (h : n < 4294967296) : makeL z (n : Int) = some (List.replicate n z) := by
  unfold makeL; rw [if_pos (by omega)]; simp
theorem str_eq (a b : List UInt8) : ((Str.mk a).s == (Str.mk b).s) = decide (a = b) := by
  rw [Bool.eq_iff_iff]; simp
end GL
