/- Plain laws, in one text. -/
import Derived.Test.YteadgdpeiokplaaGft31
import Derived.Test.YteadgdpeiokplaaCore14
namespace Go.Proofs.Yteadgdpeiokplaa
open Go GL
/- Plain law of the folding functions, part 1. -/

theorem alive_true : law03_alive = some true := by kernel_rfl

def xorL (a b : List UInt8) : List UInt8 := List.zipWith (· ^^^ ·) a b
def padL (b : List UInt8) : List UInt8 := if b.length = 0 then List.replicate 128 0 else b
def foldS (l : List (List UInt8)) : List UInt8 := l.foldl (fun acc b => xorL acc (padL b)) (List.replicate 128 0)
def blockB (b : List UInt8) : Bool := b.length == 0 || b.length == 128

theorem xorL_get {a b : List UInt8} {k : Nat} {x y : UInt8} (h1 : a[k]? = some x) (h2 : b[k]? = some y) : (xorL a b)[k]? = some (x ^^^ y) := by
  unfold xorL; rw [List.getElem?_zipWith, h1, h2]
theorem xorL_len (a b : List UInt8) : (xorL a b).length = min a.length b.length := by unfold xorL; simp
theorem padL_len {b : List UInt8} (h : blockB b = true) : (padL b).length = 128 := by
  unfold padL blockB at *
  split
  · simp
  · rcases Bool.or_eq_true _ _ |>.mp h with h | h
    · simp at h; simp_all
    · simpa using h

theorem xorL_zero {a : List UInt8} (h : a.length = 128) : xorL a (List.replicate 128 0) = a := by
  apply List.ext_getElem?
  intro i
  unfold xorL
  rw [List.getElem?_zipWith]
  by_cases hi : i < 128
  · rw [List.getElem?_eq_getElem (by omega), List.getElem?_replicate, if_pos hi]; simp
  · rw [List.getElem?_eq_none (by omega), List.getElem?_replicate, if_neg hi]

/-- The inner loop. -/
theorem fold_inner (x a : List UInt8) (hx : x.length = 128) (ha : a.length = 128) :
    loopM (fun s : Int × (List UInt8) => fold_Fold_L3 x s.1 s.2) FUEL ((0 : Int), a) = some (xorL a x) := by
  have hr : (xorL a x).length = 128 := by rw [xorL_len]; omega
  refine loop_map (xorL a x) a 128 _ (by decide) (fun k hk => ?_) ?_
  · obtain ⟨u, hu⟩ : ∃ u, x[k]? = some u := ⟨_, List.getElem?_eq_getElem (by omega)⟩
    obtain ⟨v, hv⟩ : ∃ v, a[k]? = some v := ⟨_, List.getElem?_eq_getElem (by omega)⟩
    unfold fold_Fold_L3
    simp only [hx, idx_nat, hu, bnd_nat hk, mix_get _ _ _ (hr.trans ha.symm), hv, Option.bind_some, wI_succ (show k < 9223372036854775807 by omega)]
    rw [mix_set _ _ _ (hr.trans ha.symm) _ (xorL_get hv hu)]
    rw [decide_eq_true (by omega)]
    rfl
  · unfold fold_Fold_L3
    simp only [hx]
    rw [mix_end _ _ 128 hr ha]
    rfl

def foldF (l : List (List UInt8)) (k : Nat) : List UInt8 := foldS (l.take k)
theorem foldS_len : ∀ (l : List (List UInt8)), (∀ b ∈ l, blockB b = true) → (foldS l).length = 128 := by
  intro l
  unfold foldS
  have : ∀ (l : List (List UInt8)) (a : List UInt8), a.length = 128 → (∀ b ∈ l, blockB b = true) → (l.foldl (fun acc b => xorL acc (padL b)) a).length = 128 := by
    intro l
    induction l with
    | nil => intro a h _; exact h
    | cons b l ih =>
      intro a h hl
      refine ih _ ?_ (fun x hx => hl x (by simp [hx]))
      rw [xorL_len, padL_len (hl b (by simp))]; omega
  exact this l _ (by simp)
theorem foldS_snoc (l : List (List UInt8)) (b : List UInt8) : foldS (l ++ [b]) = xorL (foldS l) (padL b) := by
  unfold foldS; rw [List.foldl_append]; rfl

def FoldSpec (l : List (List UInt8)) : List UInt8 × Int :=
  if 16 < l.length then ([], 4) else if l.all blockB then (foldS l, 0) else ([], 3)

theorem fold_eq (l : List (List UInt8)) : fold_Fold l = some (FoldSpec l) := by
  unfold fold_Fold FoldSpec
  by_cases h16 : 16 < l.length
  · rw [if_pos h16, decide_eq_true (by omega)]; rfl
  · rw [if_neg h16, decide_eq_false (by omega)]
    simp only [cond_false]
    have := loop_inv (step := fun s : Int × (List UInt8) => fold_Fold_L1 l s.1 s.2) l.length
      (fun k s => s = ((k : Int), foldS (l.take k)) ∧ ∀ b ∈ l.take k, blockB b = true)
      (fun r => (l.all blockB = true ∧ r = (0, foldS l)) ∨ l.all blockB = false ∧ r.1 = 3) (fun k s hk hs => by
        obtain ⟨rfl, hb⟩ := hs
        unfold fold_Fold_L1
        by_cases h : k < l.length
        · obtain ⟨x, hx⟩ : ∃ x, l[k]? = some x := ⟨_, List.getElem?_eq_getElem h⟩
          simp only [decide_eq_true (show (k : Int) < (l.length : Int) by omega), cond_true, idx_nat, hx, Option.bind_some]
          have hall : blockB x = true → ∀ b ∈ l.take (k + 1), blockB b = true := by
            intro h1 b hb'
            rw [take_succ_get _ _ _ hx] at hb'
            simp at hb'
            rcases hb' with hb' | rfl
            · exact hb b hb'
            · exact h1
          by_cases h0 : x.length = 0
          · have hbx : blockB x = true := by simp [blockB, h0]
            have : ((x.length : Int) == 0) = true := beq_iff_eq.2 (by omega)
            rw [this]
            refine .inl ⟨_, rfl, h, ?_, hall hbx⟩
            simp only [wI_succ (show k < 9223372036854775807 by omega)]
            rw [take_succ_get _ _ _ hx, foldS_snoc]
            rw [show padL x = List.replicate 128 0 from if_pos h0, xorL_zero (foldS_len _ hb)]
          · have : ((x.length : Int) == 0) = false := beq_eq_false_iff_ne.2 (by omega)
            rw [this]
            by_cases h1 : x.length = 128
            · have hbx : blockB x = true := by simp [blockB, h1]
              have : ((x.length : Int) == 128) = true := beq_iff_eq.2 (by omega)
              rw [this]
              simp only [cond_true, cond_false]
              rw [fold_inner x _ h1 (foldS_len _ hb)]
              refine .inl ⟨_, rfl, h, ?_, hall hbx⟩
              simp only [wI_succ (show k < 9223372036854775807 by omega)]
              rw [take_succ_get _ _ _ hx, foldS_snoc]
              rw [show padL x = x from if_neg h0]
            · have : ((x.length : Int) == 128) = false := beq_eq_false_iff_ne.2 (by omega)
              rw [this]
              refine .inr ⟨_, rfl, .inr ⟨?_, rfl⟩⟩
              rw [List.all_eq_false]
              exact ⟨x, List.mem_of_getElem? hx, by simp [blockB, h0, h1]⟩
        · obtain rfl : k = l.length := by omega
          rw [decide_eq_false (by omega)]
          rw [List.take_length] at *
          exact .inr ⟨_, rfl, .inl ⟨List.all_eq_true.2 hb, rfl⟩⟩) FUEL 0 ((0 : Int), List.replicate 128 (0 : UInt8)) (Nat.zero_le _) (by unfold FUEL; omega) ⟨by simp [foldS], by simp⟩
    obtain ⟨r, hr, hq⟩ := this
    rw [hr]
    rcases hq with ⟨h1, rfl⟩ | ⟨h1, h2⟩
    · rw [h1]; rfl
    · simp [h1, h2]
/- Plain law of the folding functions, part 2: the references and the laws. -/

theorem FUEL_gt {n : Nat} (h : n ≤ 9223372036854775807) : n < FUEL := by unfold FUEL; omega

def GreatS (l : List (List UInt8)) : Bool := decide (300 < l.length) || l.any fun b => decide (1000 < b.length)

theorem great_eq (l : List (List UInt8)) (hl : l.length ≤ 9223372036854775807) : ref03_Great l = some (GreatS l) := by
  unfold ref03_Great GreatS
  by_cases h : 300 < l.length
  · rw [decide_eq_true (show (l.length : Int) > 300 by omega), decide_eq_true h]; rfl
  · rw [decide_eq_false (show ¬(l.length : Int) > 300 by omega), decide_eq_false h]
    have := loop_any (step := fun s : Int => ref03_Great_L1 l s) (fun k => (k : Int)) l.length (fun k => (l[k]?.map (fun b => decide (1000 < b.length))).getD false) (Sum.inr ()) (Sum.inl ()) (FUEL_gt hl) (fun k hk => by
      obtain ⟨x, hx⟩ : ∃ x, l[k]? = some x := ⟨_, List.getElem?_eq_getElem hk⟩
      unfold ref03_Great_L1
      simp only [decide_eq_true (show (k : Int) < (l.length : Int) by omega), cond_true, idx_nat, hx, Option.bind_some, wI_succ (show k < 9223372036854775807 by omega), Option.map_some, Option.getD_some]
      rw [show decide ((x.length : Int) > 1000) = decide (1000 < x.length) from decide_eq_decide.2 (by omega)]
      cases decide (1000 < x.length) <;> rfl) (by
      unfold ref03_Great_L1
      rw [decide_eq_false (by omega)]; rfl)
    simp only [cond_false, Bool.false_or]
    erw [this]
    rw [any_range l (fun b => decide (1000 < b.length)) _ (fun k hk => by simp [List.getElem?_eq_getElem hk])]
    cases l.any fun b => decide (1000 < b.length) <;> rfl

theorem great_false {l : List (List UInt8)} (h : GreatS l = false) : l.length ≤ 300 ∧ ∀ b ∈ l, b.length ≤ 1000 := by
  unfold GreatS at h
  simp at h
  exact ⟨h.1, fun b hb => by have := h.2 b hb; omega⟩

theorem blockB_len {b : List UInt8} (h : blockB b = true) : b.length = 0 ∨ b.length = 128 := by
  unfold blockB at h
  simpa using h

/- Plain law of the folding functions, part 3: the laws. -/

def at0 (b : List UInt8) (i : Nat) : UInt8 := (b[i]?).getD 0
def gx (i : Nat) (l : List (List UInt8)) : UInt8 := l.foldr (fun b acc => at0 b i ^^^ acc) 0

theorem gx_app (i : Nat) (l m : List (List UInt8)) : gx i (l ++ m) = gx i l ^^^ gx i m := by
  induction l with
  | nil => simp [gx]
  | cons b l ih => show at0 b i ^^^ gx i (l ++ m) = at0 b i ^^^ gx i l ^^^ gx i m; rw [ih, UInt8.xor_assoc]
theorem gx_one (i : Nat) (b : List UInt8) : gx i [b] = at0 b i := by simp [gx]

theorem pad_get {b : List UInt8} (h : blockB b = true) {i : Nat} (hi : i < 128) : (padL b)[i]? = some (at0 b i) := by
  unfold padL at0
  rcases blockB_len h with h | h
  · rw [if_pos h, List.getElem?_replicate, if_pos hi, List.getElem?_eq_none (by omega)]; rfl
  · rw [if_neg (by omega), List.getElem?_eq_getElem (by omega)]; rfl

theorem foldS_get (l : List (List UInt8)) (h : ∀ b ∈ l, blockB b = true) {i : Nat} (hi : i < 128) : (foldS l)[i]? = some (gx i l) := by
  unfold foldS
  have : ∀ (l : List (List UInt8)) (a : List UInt8) (x : UInt8), a[i]? = some x → (∀ b ∈ l, blockB b = true) → (l.foldl (fun acc b => xorL acc (padL b)) a)[i]? = some (x ^^^ gx i l) := by
    intro l
    induction l with
    | nil => intro a x h _; rw [List.foldl_nil, h]; simp [gx]
    | cons b l ih =>
      intro a x h hl
      rw [List.foldl_cons, ih _ (x ^^^ at0 b i) (xorL_get h (pad_get (hl b (by simp)) hi)) (fun c hc => hl c (by simp [hc]))]
      rw [UInt8.xor_assoc]; rfl
  rw [this l _ 0 (by rw [List.getElem?_replicate, if_pos hi]) h]
  simp

theorem ext128 {a b : List UInt8} (ha : a.length = 128) (hb : b.length = 128) (h : ∀ i, i < 128 → a[i]? = b[i]?) : a = b := by
  apply List.ext_getElem?
  intro i
  by_cases hi : i < 128
  · exact h i hi
  · rw [List.getElem?_eq_none (by omega), List.getElem?_eq_none (by omega)]
theorem foldS_ext {l m : List (List UInt8)} (hl : ∀ b ∈ l, blockB b = true) (hm : ∀ b ∈ m, blockB b = true) (h : ∀ i, i < 128 → gx i l = gx i m) : foldS l = foldS m :=
  ext128 (foldS_len l hl) (foldS_len m hm) fun i hi => by rw [foldS_get l hl hi, foldS_get m hm hi, h i hi]
theorem at_foldS {l : List (List UInt8)} (hl : ∀ b ∈ l, blockB b = true) {i : Nat} (hi : i < 128) : at0 (foldS l) i = gx i l := by
  unfold at0; rw [foldS_get l hl hi]; rfl
theorem foldS_block {l : List (List UInt8)} (hl : ∀ b ∈ l, blockB b = true) : blockB (foldS l) = true := by simp [blockB, foldS_len l hl]

theorem spec_cases (l : List (List UInt8)) : (FoldSpec l = ([], 4) ∧ 16 < l.length) ∨ (FoldSpec l = (foldS l, 0) ∧ l.length ≤ 16 ∧ ∀ b ∈ l, blockB b = true) ∨ (FoldSpec l = ([], 3) ∧ l.length ≤ 16 ∧ ∃ b ∈ l, blockB b = false) := by
  unfold FoldSpec
  split
  · exact .inl ⟨rfl, by assumption⟩
  · split
    · rename_i h; exact .inr (.inl ⟨rfl, by omega, List.all_eq_true.1 h⟩)
    · rename_i h
      refine .inr (.inr ⟨rfl, by omega, ?_⟩)
      rw [Bool.not_eq_true, List.all_eq_false] at h
      obtain ⟨x, h1, h2⟩ := h
      exact ⟨x, h1, by simpa using h2⟩

def othersL {α : Type} (l : List α) (i k : Nat) : List α := (l.take k).take i ++ (l.take k).drop (i + 1)
theorem others_zero {α : Type} (l : List α) (i : Nat) : othersL l i 0 = [] := by simp [othersL]
theorem others_ne {α : Type} {l : List α} {i k : Nat} {x : α} (hx : l[k]? = some x) (h : k ≠ i) : othersL l i (k + 1) = othersL l i k ++ [x] := by
  have hk := (List.getElem?_eq_some_iff.1 hx).1
  unfold othersL
  rw [take_succ_get _ _ _ hx]
  by_cases h2 : k < i
  · have hA : (l.take k).length = k := by simp; omega
    generalize l.take k = A at hA
    rw [List.take_of_length_le (l := A ++ [x]) (by simp; omega), List.drop_of_length_le (l := A ++ [x]) (by simp; omega), List.take_of_length_le (l := A) (by omega), List.drop_of_length_le (l := A) (by omega)]
    simp
  · rw [List.take_append_of_le_length (by simp; omega), List.drop_append_of_le_length (by simp; omega), List.append_assoc]
theorem others_eq {α : Type} {l : List α} {k : Nat} {x : α} (hx : l[k]? = some x) : othersL l k (k + 1) = othersL l k k := by
  have hk := (List.getElem?_eq_some_iff.1 hx).1
  unfold othersL
  rw [take_succ_get _ _ _ hx, List.take_append_of_le_length (by simp; omega), List.drop_of_length_le (by simp; omega), List.drop_of_length_le (by simp; omega)]

theorem xor_mid (a b c : UInt8) : (a ^^^ c) ^^^ (a ^^^ (b ^^^ c)) = b := by
  have h1 : (a ^^^ c) ^^^ (a ^^^ (b ^^^ c)) = (a ^^^ a) ^^^ (c ^^^ c) ^^^ b := by
    simp only [UInt8.xor_assoc]
    congr 1
    rw [← UInt8.xor_assoc c a, UInt8.xor_comm c a, UInt8.xor_assoc]
    congr 1
    rw [UInt8.xor_comm b c]
  rw [h1]; simp

/- Plain law: one byte turned turns that byte of the fold. -/

theorem set_parts {α : Type} {l : List α} {p : Nat} (hp : p < l.length) (x : α) : l.set p x = l.take p ++ ([x] ++ l.drop (p + 1)) := by
  rw [List.set_eq_take_append_cons_drop, if_pos hp]; rfl
theorem own_parts {α : Type} {l : List α} {p : Nat} (hp : p < l.length) : l = l.take p ++ ([l[p]] ++ l.drop (p + 1)) := by
  rw [List.singleton_append, List.getElem_cons_drop, List.take_append_drop]
theorem gx_set {l : List (List UInt8)} {p : Nat} (hp : p < l.length) (x : List UInt8) (k : Nat) {d : UInt8} (h : at0 x k = at0 l[p] k ^^^ d) : gx k (l.set p x) = gx k l ^^^ d := by
  have e : gx k l = gx k (l.take p ++ ([l[p]] ++ l.drop (p + 1))) := congrArg (gx k) (own_parts hp)
  rw [e, set_parts hp, gx_app, gx_app, gx_app, gx_app, gx_one, gx_one, h]
  simp only [UInt8.xor_assoc]
  congr 2
  rw [UInt8.xor_comm d]
theorem at_set (b : List UInt8) {i : Nat} (hi : i < b.length) (v : UInt8) (k : Nat) : at0 (b.set i v) k = if i = k then v else at0 b k := by
  unfold at0
  rw [List.getElem?_set]
  split
  · rename_i h; subst h; first | rfl | (rw [if_pos hi]; rfl)
  · rfl
theorem turns_true (l : List (List UInt8)) (place : Int) (n : UInt8) (by' : UInt8) (hl : l.length ≤ 9223372036854775807) : law03_FoldTurns l place n by' = some true := by
  unfold law03_FoldTurns
  rw [alive_true]
  simp only [Option.bind_some]
  have hn : n.toNat < 256 := n.toNat_lt
  have hrem : remI (wI (n.toNat : Int)) (128 : Int) = some ((n.toNat % 128 : Nat) : Int) := by
    rw [wI_id (by omega) (by omega)]
    unfold remI
    rw [if_neg (by omega), Int.tmod_eq_emod_of_nonneg (by omega)]
    rfl
  rw [hrem]
  simp only [Option.bind_some]
  generalize hi' : n.toNat % 128 = i
  have hi : i < 128 := by omega
  rw [great_eq l hl]
  simp only [Option.bind_some]
  cases hg : GreatS l with
  | true => rfl
  | false =>
  obtain ⟨h300, h1000⟩ := great_false hg
  by_cases hp0 : place < 0
  · rw [decide_eq_true hp0]; rfl
  rw [decide_eq_false hp0]
  by_cases hp1 : place ≥ (l.length : Int)
  · rw [decide_eq_true hp1]; rfl
  rw [decide_eq_false hp1]
  obtain ⟨p, rfl⟩ : ∃ p : Nat, place = (p : Int) := ⟨place.toNat, by omega⟩
  have hp : p < l.length := by omega
  simp only [Bool.or_self, Bool.not_false, gO, cond_true, Bool.false_or]
  rw [idx_nat, List.getElem?_eq_getElem hp]
  simp only [Option.bind_some]
  by_cases h128 : l[p].length = 128
  case neg =>
    rw [show (((l[p].length : Nat) : Int) != 128) = true by simp; omega]; rfl
  rw [show (((l[p].length : Nat) : Int) != 128) = false by simp; omega]
  simp only [cond_false]
  rw [app_some _ _ (by simp; omega)]
  simp only [Option.bind_some, List.nil_append]
  rw [app_some _ _ (by simp; omega)]
  simp only [Option.bind_some, List.nil_append]
  rw [bnd_nat hp, bnd_nat (by omega)]
  simp only [Option.bind_some]
  rw [List.getElem?_eq_getElem (show i < l[p].length by omega)]
  simp only [Option.bind_some, fold_eq]
  generalize hv : l[p][i] ^^^ by' = v
  have hblk : blockB (l[p].set i v) = true := by simp [blockB, h128]
  have hat : ∀ k, k < 128 → gx k (l.set p (l[p].set i v)) = gx k l ^^^ (if i = k then by' else 0) := fun k hk => gx_set hp _ k (by
    rw [at_set l[p] (by omega)]
    by_cases h : i = k
    · subst h
      rw [if_pos rfl, if_pos rfl, ← hv]
      congr 1
      unfold at0
      rw [List.getElem?_eq_getElem (by omega)]; rfl
    · rw [if_neg h, if_neg h]; simp)
  have hbl : blockB l[p] = true := by simp [blockB, h128]
  rcases spec_cases l with ⟨e, h16⟩ | ⟨e, h16, ho⟩ | ⟨e, h16, b, hb, hbf⟩
  · have e2 : FoldSpec (l.set p (l[p].set i v)) = ([], 4) := by
      unfold FoldSpec
      rw [if_pos (by rw [List.length_set]; exact h16)]
    rw [e, e2]; rfl
  · have ho2 : ∀ b ∈ l.set p (l[p].set i v), blockB b = true := fun b hb => by
      rcases List.mem_or_eq_of_mem_set hb with hb | rfl
      · exact ho b hb
      · exact hblk
    have e2 : FoldSpec (l.set p (l[p].set i v)) = (foldS (l.set p (l[p].set i v)), 0) := by
      unfold FoldSpec
      rw [if_neg (by rw [List.length_set]; omega), if_pos (List.all_eq_true.2 ho2)]
    rw [e, e2]
    have f1 := foldS_len l ho
    have f2 := foldS_len _ ho2
    simp only [bne_self_eq_false, cond_false, f1, f2, Bool.false_or]
    rw [show (((128 : Nat) : Int) != 128) = false from rfl]
    simp only [Bool.or_self, cond_false]
    have hg1 : ∀ k, k < 128 → (foldS l)[k]? = some (gx k l) := fun k hk => foldS_get l ho hk
    have hg2 : ∀ k, k < 128 → (foldS (l.set p (l[p].set i v)))[k]? = some (gx k l ^^^ (if i = k then by' else 0)) := fun k hk => by rw [foldS_get _ ho2 hk, hat k hk]
    have hL := loop_run (step := fun s : Int => law03_FoldTurns_L1 (i : Int) (foldS l, 0) (foldS (l.set p (l[p].set i v)), 0) s) (fun k => (k : Int)) 128 (Sum.inl ()) (FUEL_gt (by omega)) (fun k hk => by
      unfold law03_FoldTurns_L1
      rw [decide_eq_true (show (k : Int) < 128 by omega), wI_succ (by omega)]
      simp only [cond_true]
      by_cases h : k = i
      · subst h
        rw [show ((k : Int) != (k : Int)) = false by simp]
        rfl
      · rw [show ((k : Int) != (i : Int)) = true by simp; omega]
        simp only [gO, cond_true]
        rw [idx_nat, idx_nat, hg1 k hk, hg2 k hk]
        simp only [Option.bind_some]
        rw [if_neg (fun h' => h h'.symm)]
        simp) (by
      unfold law03_FoldTurns_L1
      rfl)
    have hL' : loopM (fun s : Int => law03_FoldTurns_L1 (i : Int) (foldS l, 0) (foldS (l.set p (l[p].set i v)), 0) s) FUEL (0 : Int) = some (Sum.inl ()) := hL
    rw [hL']
    simp only [Option.bind_some, Sum.elim_inl]
    rw [idx_nat, idx_nat, hg1 i hi, hg2 i hi]
    simp
  · have e2 : FoldSpec (l.set p (l[p].set i v)) = ([], 3) := by
      unfold FoldSpec
      rw [if_neg (by rw [List.length_set]; omega), if_neg (fun hall => by
        have hall := List.all_eq_true.1 hall
        obtain ⟨j, hj, rfl⟩ := List.mem_iff_getElem.1 hb
        by_cases hjp : j = p
        · subst hjp; rw [hbl] at hbf; cases hbf
        · have := hall ((l.set p (l[p].set i v))[j]'(by rw [List.length_set]; exact hj)) (List.getElem_mem _)
          rw [List.getElem_set_ne (fun h => hjp h.symm)] at this
          rw [hbf] at this; cases this)]
    rw [e, e2]; rfl
end Go.Proofs.Yteadgdpeiokplaa
