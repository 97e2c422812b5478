/- Plain law of the folding functions, part 3: the laws. -/
import Derived.Test.YteadgdpeiokplaaLw03B
namespace Go.Proofs.Yteadgdpeiokplaa
open Go GL

def at0 (b : List UInt8) (i : Nat) : UInt8 := (b[i]?).getD 0
def gx (i : Nat) (l : List (List UInt8)) : UInt8 := l.foldr (fun b acc => at0 b i ^^^ acc) 0

theorem gx_app (i : Nat) (l m : List (List UInt8)) : gx i (l ++ m) = gx i l ^^^ gx i m := by
  induction l with
  | nil => simp [gx]
  | cons b l ih => show at0 b i ^^^ gx i (l ++ m) = at0 b i ^^^ gx i l ^^^ gx i m; rw [ih, UInt8.xor_assoc]
theorem gx_one (i : Nat) (b : List UInt8) : gx i [b] = at0 b i := by simp [gx]

theorem pad_get {b : List UInt8} (h : blockB b = true) {i : Nat} (hi : i < 128) : (padL b)[i]? = some (at0 b i) := by
  unfold padL at0
  rcases blockB_len h with h | h
  · rw [if_pos h, List.getElem?_replicate, if_pos hi, List.getElem?_eq_none (by omega)]; rfl
  · rw [if_neg (by omega), List.getElem?_eq_getElem (by omega)]; rfl

theorem foldS_get (l : List (List UInt8)) (h : ∀ b ∈ l, blockB b = true) {i : Nat} (hi : i < 128) : (foldS l)[i]? = some (gx i l) := by
  unfold foldS
  have : ∀ (l : List (List UInt8)) (a : List UInt8) (x : UInt8), a[i]? = some x → (∀ b ∈ l, blockB b = true) → (l.foldl (fun acc b => xorL acc (padL b)) a)[i]? = some (x ^^^ gx i l) := by
    intro l
    induction l with
    | nil => intro a x h _; rw [List.foldl_nil, h]; simp [gx]
    | cons b l ih =>
      intro a x h hl
      rw [List.foldl_cons, ih _ (x ^^^ at0 b i) (xorL_get h (pad_get (hl b (by simp)) hi)) (fun c hc => hl c (by simp [hc]))]
      rw [UInt8.xor_assoc]; rfl
  rw [this l _ 0 (by rw [List.getElem?_replicate, if_pos hi]) h]
  simp

theorem ext128 {a b : List UInt8} (ha : a.length = 128) (hb : b.length = 128) (h : ∀ i, i < 128 → a[i]? = b[i]?) : a = b := by
  apply List.ext_getElem?
  intro i
  by_cases hi : i < 128
  · exact h i hi
  · rw [List.getElem?_eq_none (by omega), List.getElem?_eq_none (by omega)]
theorem foldS_ext {l m : List (List UInt8)} (hl : ∀ b ∈ l, blockB b = true) (hm : ∀ b ∈ m, blockB b = true) (h : ∀ i, i < 128 → gx i l = gx i m) : foldS l = foldS m :=
  ext128 (foldS_len l hl) (foldS_len m hm) fun i hi => by rw [foldS_get l hl hi, foldS_get m hm hi, h i hi]
theorem at_foldS {l : List (List UInt8)} (hl : ∀ b ∈ l, blockB b = true) {i : Nat} (hi : i < 128) : at0 (foldS l) i = gx i l := by
  unfold at0; rw [foldS_get l hl hi]; rfl
theorem foldS_block {l : List (List UInt8)} (hl : ∀ b ∈ l, blockB b = true) : blockB (foldS l) = true := by simp [blockB, foldS_len l hl]

theorem spec_cases (l : List (List UInt8)) : (FoldSpec l = ([], 4) ∧ 16 < l.length) ∨ (FoldSpec l = (foldS l, 0) ∧ l.length ≤ 16 ∧ ∀ b ∈ l, blockB b = true) ∨ (FoldSpec l = ([], 3) ∧ l.length ≤ 16 ∧ ∃ b ∈ l, blockB b = false) := by
  unfold FoldSpec
  split
  · exact .inl ⟨rfl, by assumption⟩
  · split
    · rename_i h; exact .inr (.inl ⟨rfl, by omega, List.all_eq_true.1 h⟩)
    · rename_i h
      refine .inr (.inr ⟨rfl, by omega, ?_⟩)
      rw [Bool.not_eq_true, List.all_eq_false] at h
      obtain ⟨x, h1, h2⟩ := h
      exact ⟨x, h1, by simpa using h2⟩

theorem at_eq (b : List UInt8) (k : Nat) : law03_at b (k : Int) = some (at0 b k) := by
  unfold law03_at at0
  by_cases h : b.length ≤ k
  · rw [decide_eq_true (by omega), List.getElem?_eq_none h]; rfl
  · rw [decide_eq_false (by omega), idx_nat, List.getElem?_eq_getElem (by omega)]; rfl

def othersL {α : Type} (l : List α) (i k : Nat) : List α := (l.take k).take i ++ (l.take k).drop (i + 1)
theorem others_zero {α : Type} (l : List α) (i : Nat) : othersL l i 0 = [] := by simp [othersL]
theorem others_ne {α : Type} {l : List α} {i k : Nat} {x : α} (hx : l[k]? = some x) (h : k ≠ i) : othersL l i (k + 1) = othersL l i k ++ [x] := by
  have hk := (List.getElem?_eq_some_iff.1 hx).1
  unfold othersL
  rw [take_succ_get _ _ _ hx]
  by_cases h2 : k < i
  · have hA : (l.take k).length = k := by simp; omega
    generalize l.take k = A at hA
    rw [List.take_of_length_le (l := A ++ [x]) (by simp; omega), List.drop_of_length_le (l := A ++ [x]) (by simp; omega), List.take_of_length_le (l := A) (by omega), List.drop_of_length_le (l := A) (by omega)]
    simp
  · rw [List.take_append_of_le_length (by simp; omega), List.drop_append_of_le_length (by simp; omega), List.append_assoc]
theorem others_eq {α : Type} {l : List α} {k : Nat} {x : α} (hx : l[k]? = some x) : othersL l k (k + 1) = othersL l k k := by
  have hk := (List.getElem?_eq_some_iff.1 hx).1
  unfold othersL
  rw [take_succ_get _ _ _ hx, List.take_append_of_le_length (by simp; omega), List.drop_of_length_le (by simp; omega), List.drop_of_length_le (by simp; omega)]

theorem back_others (l : List (List UInt8)) (i : Nat) (hl : l.length ≤ 300) (hi : i < l.length) :
    loopM (fun s : Int × (List (List UInt8)) => law03_FoldBack_L1 l (i : Int) s.1 s.2) FUEL ((0 : Int), ([] : List (List UInt8))) = some (l.take i ++ l.drop (i + 1)) := by
  have := loop_run (step := fun s : Int × (List (List UInt8)) => law03_FoldBack_L1 l (i : Int) s.1 s.2) (fun k => ((k : Int), othersL l i k)) l.length (l.take i ++ l.drop (i + 1)) (FUEL_gt (by omega)) (fun k hk => by
    obtain ⟨x, hx⟩ : ∃ x, l[k]? = some x := ⟨_, List.getElem?_eq_getElem hk⟩
    unfold law03_FoldBack_L1 law03_FoldBack_J2
    simp only [decide_eq_true (show (k : Int) < (l.length : Int) by omega), cond_true, idx_nat, hx, Option.bind_some, wI_succ (show k < 9223372036854775807 by omega)]
    by_cases h : k = i
    · subst h
      rw [show ((k : Int) != (k : Int)) = false by simp, others_eq hx]; rfl
    · rw [show ((k : Int) != (i : Int)) = true by simp; omega, others_ne hx h]
      rw [app_some _ _ (by unfold othersL; simp; omega)]; rfl) (by
    unfold law03_FoldBack_L1
    rw [decide_eq_false (by omega)]
    unfold othersL
    rw [List.take_length]; rfl)
  rw [others_zero] at this
  exact this

theorem xor_mid (a b c : UInt8) : (a ^^^ c) ^^^ (a ^^^ (b ^^^ c)) = b := by
  have h1 : (a ^^^ c) ^^^ (a ^^^ (b ^^^ c)) = (a ^^^ a) ^^^ (c ^^^ c) ^^^ b := by
    simp only [UInt8.xor_assoc]
    congr 1
    rw [← UInt8.xor_assoc c a, UInt8.xor_comm c a, UInt8.xor_assoc]
    congr 1
    rw [UInt8.xor_comm b c]
  rw [h1]; simp

theorem back_true (l : List (List UInt8)) (n : Int) (hl : l.length ≤ 9223372036854775807) : law03_FoldBack l n = some true := by
  unfold law03_FoldBack
  rw [alive_true, great_eq l hl]
  simp only [Option.bind_some]
  cases hg : GreatS l with
  | true => rfl
  | false =>
  obtain ⟨h1, h2⟩ := great_false hg
  by_cases hn : n < 0
  · rw [decide_eq_true hn]; rfl
  rw [decide_eq_false hn]
  by_cases hn2 : n ≥ (l.length : Int)
  · rw [decide_eq_true hn2]; rfl
  rw [decide_eq_false hn2, fold_eq]
  obtain ⟨i, rfl⟩ : ∃ i : Nat, n = (i : Int) := ⟨n.toNat, by omega⟩
  have hi : i < l.length := by omega
  simp only [Bool.or_false, cond_false, Option.bind_some]
  rcases spec_cases l with ⟨e, h16⟩ | ⟨e, h16, hb⟩ | ⟨e, h16, hb⟩
  · rw [e]; rfl
  · rw [e]
    simp only [bne_self_eq_false, cond_false]
    rw [back_others l i h1 hi]
    simp only [Option.bind_some]
    rw [app_some _ _ (by simp; omega)]
    simp only [Option.bind_some]
    rw [fold_eq]
    simp only [Option.bind_some]
    have hob : ∀ b ∈ l.take i ++ l.drop (i + 1) ++ [foldS l], blockB b = true := by
      intro b hb'
      simp only [List.mem_append, List.mem_singleton] at hb'
      rcases hb' with (h | h) | rfl
      · exact hb b (List.mem_of_mem_take h)
      · exact hb b (List.mem_of_mem_drop h)
      · exact foldS_block hb
    rcases spec_cases (l.take i ++ l.drop (i + 1) ++ [foldS l]) with ⟨e2, h16'⟩ | ⟨e2, _, hb2⟩ | ⟨_, _, b, hb1, hb2⟩
    · simp at h16'; omega
    · rw [e2]
      have hlen := foldS_len _ hb2
      simp only [bne_self_eq_false, Bool.false_or]
      rw [show (((foldS (l.take i ++ l.drop (i + 1) ++ [foldS l])).length : Int) != 128) = false by rw [hlen]; rfl]
      simp only [cond_false]
      obtain ⟨x, hx⟩ : ∃ x, l[i]? = some x := ⟨_, List.getElem?_eq_getElem hi⟩
      have := loop_run (step := fun s : Int => law03_FoldBack_L3 l (i : Int) (foldS (l.take i ++ l.drop (i + 1) ++ [foldS l]), 0) s) (fun k => (k : Int)) 128 (Sum.inl ()) (FUEL_gt (by omega)) (fun k hk => by
        unfold law03_FoldBack_L3
        simp only [decide_eq_true (show (k : Int) < 128 by omega), cond_true, idx_nat, hx, Option.bind_some, wI_succ (show k < 9223372036854775807 by omega), at_eq]
        rw [foldS_get _ hb2 hk, gx_app, gx_one, at_foldS hb hk, gx_app]
        have hs : l = l.take i ++ (x :: l.drop (i + 1)) := by
          have := List.take_append_drop i l
          rw [List.drop_eq_getElem_cons hi] at this
          rw [← (List.getElem?_eq_some_iff.1 hx).2]
          exact this.symm
        have hgl : gx k l = gx k (l.take i) ^^^ (at0 x k ^^^ gx k (l.drop (i + 1))) := by
          conv => lhs; rw [hs]
          rw [gx_app]; rfl
        rw [hgl, xor_mid]
        simp only [Option.bind_some, bne_self_eq_false, cond_false]) (by
        unfold law03_FoldBack_L3
        rw [decide_eq_false (by omega)]; rfl)
      erw [this]; rfl
    · rw [hob b hb1] at hb2; cases hb2
  · rw [e]; rfl

theorem parts_true (a b : List (List UInt8)) (ha : a.length ≤ 9223372036854775807) (hb : b.length ≤ 9223372036854775807) : law03_FoldParts a b = some true := by
  unfold law03_FoldParts
  rw [alive_true, great_eq a ha]
  simp only [Option.bind_some]
  cases hg : GreatS a with
  | true => rfl
  | false =>
  rw [great_eq b hb]
  simp only [Bool.not_false, gO, cond_true, Option.bind_some]
  cases hg2 : GreatS b with
  | true => rfl
  | false =>
  obtain ⟨h1, h2⟩ := great_false hg
  obtain ⟨h3, h4⟩ := great_false hg2
  simp only [Bool.or_false, cond_false, fold_eq, Option.bind_some]
  rw [app_some _ _ (by simp; omega)]
  simp only [Option.bind_some, List.nil_append]
  rw [app_some _ _ (by omega)]
  simp only [Option.bind_some, fold_eq]
  rw [wI_id (by omega) (by omega)]
  rcases spec_cases (a ++ b) with ⟨e, h16⟩ | ⟨e, h16, hab⟩ | ⟨e, h16, hab⟩
  · rw [e]
    simp only [List.length_append] at h16
    rw [decide_eq_true (by omega)]
    rw [show (((FoldSpec a).2 != 0 || (FoldSpec b).2 != 0) || ((4 : Int) != 0)) = true by simp]
    rfl
  · have hA : ∀ x ∈ a, blockB x = true := fun x hx => hab x (by simp [hx])
    have hB : ∀ x ∈ b, blockB x = true := fun x hx => hab x (by simp [hx])
    simp only [List.length_append] at h16
    have ea : FoldSpec a = (foldS a, 0) := by unfold FoldSpec; rw [if_neg (by omega), if_pos (List.all_eq_true.2 hA)]
    have eb : FoldSpec b = (foldS b, 0) := by unfold FoldSpec; rw [if_neg (by omega), if_pos (List.all_eq_true.2 hB)]
    have hfb : ∀ x ∈ [foldS a, foldS b], blockB x = true := by
      intro x hx
      simp at hx
      rcases hx with rfl | rfl
      · exact foldS_block hA
      · exact foldS_block hB
    have ef : FoldSpec [foldS a, foldS b] = (foldS [foldS a, foldS b], 0) := by unfold FoldSpec; rw [if_neg (by simp), if_pos (List.all_eq_true.2 hfb)]
    rw [e, ea, eb, ef]
    have : foldS [foldS a, foldS b] = foldS (a ++ b) := foldS_ext hfb hab fun i hi => by
      rw [gx_app, show [foldS a, foldS b] = [foldS a] ++ [foldS b] from rfl, gx_app, gx_one, gx_one, at_foldS hA hi, at_foldS hB hi]
    rw [this]
    simp
  · rw [e]
    rw [show (((FoldSpec a).2 != 0 || (FoldSpec b).2 != 0) || ((3 : Int) != 0)) = true by simp]
    simp

theorem twice_true (a : List (List UInt8)) (b : List UInt8) (ha : a.length ≤ 9223372036854775807) : law03_FoldTwice a b = some true := by
  unfold law03_FoldTwice
  rw [alive_true, great_eq a ha]
  simp only [Option.bind_some]
  cases hg : GreatS a with
  | true => rfl
  | false =>
  by_cases hbl : (b.length : Int) > 1000
  · rw [decide_eq_true hbl]; rfl
  rw [decide_eq_false hbl]
  obtain ⟨h1, h2⟩ := great_false hg
  simp only [Bool.or_false, cond_false, fold_eq, Option.bind_some]
  rw [app_some _ _ (by simp; omega)]
  simp only [Option.bind_some, List.nil_append]
  rw [app_some _ _ (by simp; omega), app_some _ _ (by simp; omega)]
  simp only [Option.bind_some, fold_eq]
  rcases spec_cases a with ⟨e, h16⟩ | ⟨e, h16, hA⟩ | ⟨e, h16, x, hx1, hx2⟩
  · have e6 : FoldSpec (a ++ [b, b]) = ([], 4) := by unfold FoldSpec; rw [if_pos (by simp; omega)]
    have e9 : FoldSpec (a ++ [[]]) = ([], 4) := by unfold FoldSpec; rw [if_pos (by simp; omega)]
    rw [e, e6, e9]; rfl
  · rw [e]
    simp only [bne_self_eq_false, cond_false]
    have h9 : (decide ((a.length : Int) < 16) && (((FoldSpec (a ++ [[]])).2 != 0) || !((Str.mk (FoldSpec (a ++ [[]])).1).s == (Str.mk (foldS a)).s))) = false := by
      by_cases hl : a.length < 16
      · have hb9 : ∀ x ∈ a ++ [[]], blockB x = true := by
          intro x hx
          simp at hx
          rcases hx with hx | rfl
          · exact hA x hx
          · rfl
        have e9 : FoldSpec (a ++ [[]]) = (foldS (a ++ [[]]), 0) := by unfold FoldSpec; rw [if_neg (by simp; omega), if_pos (List.all_eq_true.2 hb9)]
        rw [e9, foldS_ext hb9 hA (fun i hi => by rw [gx_app, gx_one]; simp [at0])]
        simp
      · rw [decide_eq_false (by omega)]; rfl
    rw [h9]
    simp only [cond_false]
    rcases spec_cases (a ++ [b, b]) with ⟨e6, h6⟩ | ⟨e6, h6, hB⟩ | ⟨e6, h6, x, hx1, hx2⟩
    · rw [e6]
      simp at h6
      rw [decide_eq_true (show (a.length : Int) > 14 by omega)]; rfl
    · rw [e6]
      rw [foldS_ext hB hA (fun i hi => by
        rw [gx_app, show [b, b] = [b] ++ [b] from rfl, gx_app, gx_one]; simp)]
      simp
    · rw [e6]
      simp at h6
      have hxb : x = b := by
        simp at hx1
        rcases hx1 with hx1 | rfl
        · rw [hA x hx1] at hx2; cases hx2
        · rfl
      subst hxb
      rw [decide_eq_true (show (a.length : Int) ≤ 14 by omega)]
      have hx0 : ((x.length : Int) != 0) = true := by
        simp only [bne_iff_ne, ne_eq]; intro h; have : x.length = 0 := by omega
        simp [blockB, this] at hx2
      have hx128 : ((x.length : Int) != 128) = true := by
        simp only [bne_iff_ne, ne_eq]; intro h; have : x.length = 128 := by omega
        simp [blockB, this] at hx2
      rw [hx0, hx128]
      cases decide ((a.length : Int) > 14) <;> rfl
  · have e6 : (FoldSpec (a ++ [b, b])).2 ≠ 0 := by
      rcases spec_cases (a ++ [b, b]) with ⟨e6, h6⟩ | ⟨e6, h6, hB⟩ | ⟨e6, _⟩
      · rw [e6]; simp
      · rw [hB x (by simp [hx1])] at hx2; cases hx2
      · rw [e6]; simp
    have e9 : (FoldSpec (a ++ [[]])).2 ≠ 0 := by
      rcases spec_cases (a ++ [[]]) with ⟨e6, h6⟩ | ⟨e6, h6, hB⟩ | ⟨e6, _⟩
      · rw [e6]; simp
      · rw [hB x (by simp [hx1])] at hx2; cases hx2
      · rw [e6]; simp
    rw [e]
    simp [e6, e9]
end Go.Proofs.Yteadgdpeiokplaa
