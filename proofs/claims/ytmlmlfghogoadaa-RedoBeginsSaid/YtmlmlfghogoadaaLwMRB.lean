/- Plain laws, in one text. -/
import Derived.Test.YtmlmlfghogoadaaGrb2
import Derived.Test.YtmlmlfghogoadaaCoreMB
set_option linter.unusedVariables false
set_option linter.unusedSimpArgs false
set_option linter.unnecessarySimpa false
namespace Go.Proofs.Ytmlmlfghogoadaa
open Go GL
/- Plain law: configs. -/

theorem fuel_lt {n : Nat} (h : n < 4294967296) : n < FUEL := by unfold FUEL; omega

/-- A loop over a list, that leaves where an element has p. -/
theorem loop_any_list {α B : Type} (l : List α) (p : α → Bool) {step : Int → Option (Ctl Int B)} (yes no : B) (hl : l.length < 4294967296)
    (h1 : ∀ k (hk : k < l.length), step (k : Int) = some (bif p l[k] then .brk yes else .next ((k + 1 : Nat) : Int))) (h2 : step (l.length : Int) = some (.brk no)) :
    loopM step FUEL (0 : Int) = some (bif l.any p then yes else no) := by
  have := loop_any (step := step) (fun k => (k : Int)) l.length (fun k => (l[k]?.map p).getD false) yes no (fuel_lt hl) (fun k hk => by
    rw [h1 k hk]; simp [hk]) h2
  rw [any_range l p _ (fun k hk => by simp [hk])] at this
  simpa using this

def outB (r : Arr3_Int) : Bool := decide (r.e0 < r.e1) || decide (r.e0 > r.e2)
theorem bounds_eq (l : List Arr3_Int) (hl : l.length < 4294967296) : shape_bounds l = some (!(l.any outB)) := by
  unfold shape_bounds
  rw [loop_any_list l outB (Sum.inr ()) (Sum.inl ()) hl]
  · cases h : l.any outB <;> simp
  · intro k hk
    unfold shape_bounds_L1
    rw [show decide ((k : Int) < (l.length : Int)) = true by simp; omega, idx_nat, List.getElem?_eq_getElem hk, wI_succ (by omega)]
    simp only [cond_true, Option.bind_some, outB]
    cases (decide (l[k].e0 < l[k].e1) || decide (l[k].e0 > l[k].e2)) <;> rfl
  · unfold shape_bounds_L1
    simp

/-- Configs that may be. -/
def MayC (c : Config) : Prop := (3 ≤ c.Members ∧ c.Members ≤ 16) ∧ (1 ≤ c.Chunk ∧ c.Chunk ≤ 8) ∧ (1 ≤ c.Rows ∧ c.Rows ≤ 8) ∧ (2 ≤ c.Heads ∧ c.Heads ≤ 8) ∧ (c.Members + 1) * (c.Heads + 1) ≤ c.Log ∧ c.Log ≤ 255
def mayC (c : Config) : Bool := ((decide (3 ≤ c.Members) && decide (c.Members ≤ 16)) && (decide (1 ≤ c.Chunk) && decide (c.Chunk ≤ 8))) && ((decide (1 ≤ c.Rows) && decide (c.Rows ≤ 8)) && ((decide (2 ≤ c.Heads) && decide (c.Heads ≤ 8)) && (decide ((c.Members + 1) * (c.Heads + 1) ≤ c.Log) && decide (c.Log ≤ 255))))
theorem mayC_iff (c : Config) : mayC c = true ↔ MayC c := by simp [mayC, MayC, and_assoc]
theorem mayC_f {c : Config} (h : ¬ MayC c) : mayC c = false := by rw [← mayC_iff] at h; simpa using h

theorem wI_need {c : Config} (h1 : 3 ≤ c.Members ∧ c.Members ≤ 16) (h2 : 2 ≤ c.Heads ∧ c.Heads ≤ 8) : wI ((wI (c.Members + 1)) * (wI (c.Heads + 1))) = (c.Members + 1) * (c.Heads + 1) := by
  rw [wI_id (x := c.Members + 1) (by omega) (by omega), wI_id (x := c.Heads + 1) (by omega) (by omega)]
  have h3 : (c.Members + 1) * (c.Heads + 1) ≤ 17 * 9 := Int.mul_le_mul (by omega) (by omega) (by omega) (by omega)
  have h4 : 0 ≤ (c.Members + 1) * (c.Heads + 1) := Int.mul_nonneg (by omega) (by omega)
  exact wI_id (by omega) (by omega)
theorem check_eq (c : Config) : shape_Check c = some (bif mayC c then 0 else 8) := by
  unfold shape_Check
  rw [bounds_eq _ (by simp)]
  simp only [Option.bind_some, List.any_cons, List.any_nil, Bool.or_false, outB]
  by_cases h : (3 ≤ c.Members ∧ c.Members ≤ 16) ∧ (1 ≤ c.Chunk ∧ c.Chunk ≤ 8) ∧ (1 ≤ c.Rows ∧ c.Rows ≤ 8) ∧ (2 ≤ c.Heads ∧ c.Heads ≤ 8)
  · obtain ⟨h1, h2, h3, h4⟩ := h
    have hb : (decide (c.Members < 3) || decide (c.Members > 16) || ((decide (c.Chunk < 1) || decide (c.Chunk > 8)) || ((decide (c.Rows < 1) || decide (c.Rows > 8)) || (decide (c.Heads < 2) || decide (c.Heads > 8))))) = false := by simp; omega
    rw [hb]
    simp only [gO, Bool.not_false, Bool.not_true, Bool.false_or, cond_true]
    rw [bounds_eq _ (by simp)]
    simp only [Option.bind_some, List.any_cons, List.any_nil, Bool.or_false, outB, wI_need h1 h4]
    by_cases h5 : (c.Members + 1) * (c.Heads + 1) ≤ c.Log ∧ c.Log ≤ 255
    · rw [(mayC_iff c).2 ⟨h1, h2, h3, h4, h5⟩]
      have : (decide (c.Log < (c.Members + 1) * (c.Heads + 1)) || decide (c.Log > 255)) = false := by simp; omega
      rw [this]; rfl
    · rw [mayC_f (fun h => h5 h.2.2.2.2)]
      have : (decide (c.Log < (c.Members + 1) * (c.Heads + 1)) || decide (c.Log > 255)) = true := by simp; omega
      rw [this]; rfl
  · have hb : (decide (c.Members < 3) || decide (c.Members > 16) || ((decide (c.Chunk < 1) || decide (c.Chunk > 8)) || ((decide (c.Rows < 1) || decide (c.Rows > 8)) || (decide (c.Heads < 2) || decide (c.Heads > 8))))) = true := by simp; omega
    rw [hb, mayC_f (fun hm => h ⟨hm.1, hm.2.1, hm.2.2.1, hm.2.2.2.1⟩)]
    rfl
theorem wI_str {c : Config} (h : MayC c) : wI (c.Chunk * c.Rows) = c.Chunk * c.Rows ∧ 1 ≤ c.Chunk * c.Rows ∧ c.Chunk * c.Rows ≤ 64 := by
  obtain ⟨_, h2, h3, _⟩ := h
  have h4 : c.Chunk * c.Rows ≤ 8 * 8 := Int.mul_le_mul (by omega) (by omega) (by omega) (by omega)
  have h5 : 1 * 1 ≤ c.Chunk * c.Rows := Int.mul_le_mul (by omega) (by omega) (by omega) (by omega)
  exact ⟨wI_id (by omega) (by omega), by omega, by omega⟩
theorem stripes_eq (c : Config) : shape_Stripes c = some (bif mayC c then (c.Chunk * c.Rows, 0) else (0, 8)) := by
  unfold shape_Stripes shape_told
  rw [check_eq]
  cases h : mayC c with
  | true => simp [(wI_str ((mayC_iff c).1 h)).1]
  | false => simp
/- Plain law: devices: which may be, copies, blocks. -/

theorem fuel_ltD {n : Nat} (h : n < 4294967296) : n < FUEL := by unfold FUEL; omega
theorem loop_anyD {α B : Type} (l : List α) (p : α → Bool) {step : Int → Option (Ctl Int B)} (yes no : B) (hl : l.length < 4294967296)
    (h1 : ∀ k (hk : k < l.length), step (k : Int) = some (bif p l[k] then .brk yes else .next ((k + 1 : Nat) : Int))) (h2 : step (l.length : Int) = some (.brk no)) :
    loopM step FUEL (0 : Int) = some (bif l.any p then yes else no) := by
  have := loop_any (step := step) (fun k => (k : Int)) l.length (fun k => (l[k]?.map p).getD false) yes no (fuel_ltD hl) (fun k hk => by
    rw [h1 k hk]; simp [hk]) h2
  rw [any_range l p _ (fun k hk => by simp [hk])] at this
  simpa using this
/-- The same for two lists of one length. -/
theorem loop_any2 {α β B : Type} (l : List α) (m : List β) (p : α → β → Bool) {step : Int → Option (Ctl Int B)} (yes no : B) (hl : l.length < 4294967296) (hm : l.length = m.length)
    (h1 : ∀ k (hk : k < l.length) (hk' : k < m.length), step (k : Int) = some (bif p l[k] m[k] then .brk yes else .next ((k + 1 : Nat) : Int))) (h2 : step (l.length : Int) = some (.brk no)) :
    loopM step FUEL (0 : Int) = some (bif (l.zip m).any (fun x => p x.1 x.2) then yes else no) := by
  have hz : (l.zip m).length = l.length := by simp; omega
  have := loop_anyD (l.zip m) (fun x => p x.1 x.2) (step := step) yes no (by omega) (fun k hk => by
    rw [h1 k (by omega) (by omega)]; simp) (by rw [hz]; exact h2)
  exact this
theorem zip_any_ne {α γ : Type} [DecidableEq γ] (f : α → γ) : ∀ (l m : List α), l.length = m.length → ((l.zip m).any (fun x => !decide (f x.1 = f x.2))) = !decide (l.map f = m.map f)
  | [], [], _ => by simp
  | [], _ :: _, h => by simp at h
  | _ :: _, [], h => by simp at h
  | a :: l, b :: m, h => by
    simp only [List.zip_cons_cons, List.any_cons, List.map_cons, zip_any_ne f l m (by simpa using h)]
    rw [Bool.eq_iff_iff]
    simp only [Bool.or_eq_true, Bool.not_eq_true', decide_eq_false_iff_not, List.cons.injEq]
    by_cases h1 : f a = f b <;> by_cases h2 : l.map f = m.map f <;> simp [h1, h2]

def fullB (b : List UInt8) : List UInt8 := if b.length = 0 then List.replicate 128 0 else b
def szB (b : List UInt8) : Bool := b.length == 0 || b.length == 128
theorem fullB_len {b : List UInt8} (h : szB b = true) : (fullB b).length = 128 := by
  unfold szB at h; unfold fullB
  simp at h
  split
  · simp
  · rcases h with h | h
    · subst h; simp at *
    · exact h
theorem fullB_ne (b : List UInt8) : (fullB b).length ≠ 0 := by
  unfold fullB
  split
  · rw [List.length_replicate]; omega
  · assumption
theorem fullB_full (b : List UInt8) : fullB (fullB b) = fullB b := by
  rw [show fullB (fullB b) = if (fullB b).length = 0 then List.replicate 128 0 else fullB b from rfl, if_neg (fullB_ne b)]
theorem szB_full {b : List UInt8} (h : szB b = true) : szB (fullB b) = true := by
  have := fullB_len h
  unfold szB; rw [this]; rfl

theorem sum_loop {α : Type} (l : List α) (len : α → Nat) (m : Nat) (hm : m ≤ 2000) {step : Int × Int → Option (Ctl (Int × Int) Int)} (n0 : Int) (h0 : 0 ≤ n0) (h0' : n0 ≤ 1000000000)
    (h1 : ∀ k (hk : k < l.length) (n : Int), k < m → step (n, (k : Int)) = some (.next (wI (n + wI (8 + min ((len l[k] : Nat) : Int) 100000)), wI ((k : Int) + 1))))
    (h2 : ∀ (n : Int) (k : Nat), ¬(k < l.length ∧ k < m) → step (n, (k : Int)) = some (.brk n)) :
    ∃ b, loopM step FUEL (n0, (0 : Int)) = some b ∧ n0 ≤ b ∧ b ≤ n0 + 200000 * m ∧ ∀ j (hj : j < l.length), j < m → min ((len l[j] : Nat) : Int) 100000 ≤ b := by
  refine loop_inv (step := step) (min l.length m)
    (fun k s => s.2 = (k : Int) ∧ n0 ≤ s.1 ∧ s.1 ≤ n0 + 200000 * (k : Int) ∧ ∀ j (hj : j < l.length), j < k → min ((len l[j] : Nat) : Int) 100000 ≤ s.1) _ (fun k s hk hI => ?_) FUEL 0 (n0, 0) (Nat.zero_le _) (by unfold FUEL; omega) ⟨rfl, by simp, by simp, fun j _ hj => by omega⟩
  obtain ⟨s1, s2⟩ := s
  obtain ⟨e1, e2, e3, e4⟩ := hI
  simp only at e1 e2 e3 e4
  subst e1
  by_cases hlt : k < l.length ∧ k < m
  · refine .inl ⟨_, h1 k hlt.1 s1 hlt.2, by omega, ?_⟩
    rw [wI_id (x := 8 + min ((len l[k] : Nat) : Int) 100000) (by omega) (by omega), wI_id (by omega) (by omega), wI_succ (by omega)]
    refine ⟨rfl, by simp only; omega, by simp only; omega, fun j hj hjk => ?_⟩
    simp only
    by_cases hjk' : j = k
    · subst hjk'; omega
    · have := e4 j hj (by omega); omega
  · exact .inr ⟨s1, h2 s1 k hlt, e2, by omega, fun j hj hjm => e4 j hj (by omega)⟩

/-! ### which devices may be -/
/-- A loop that looks for the first element with p. -/
theorem loop_first {α B : Type} (l : List α) (p : α → Bool) {step : Int → Option (Ctl Int B)} (yes : Nat → B) (no : B) (hl : l.length < 4294967296)
    (h1 : ∀ k (hk : k < l.length), step (k : Int) = some (bif p l[k] then .brk (yes k) else .next ((k + 1 : Nat) : Int))) (h2 : step (l.length : Int) = some (.brk no)) :
    ∃ b, loopM step FUEL (0 : Int) = some b ∧ ((∃ k, b = yes k ∧ ∃ hk : k < l.length, p l[k] = true ∧ ∀ j (hj : j < l.length), j < k → p l[j] = false) ∨ (b = no ∧ ∀ x ∈ l, p x = false)) := by
  refine loop_inv (step := step) l.length (fun k s => s = (k : Int) ∧ ∀ j (hj : j < l.length), j < k → p l[j] = false) _ (fun k s hk hI => ?_) FUEL 0 0 (Nat.zero_le _) (by have := fuel_ltD hl; omega) ⟨rfl, fun j _ hj => by omega⟩
  obtain ⟨rfl, hI⟩ := hI
  by_cases hlt : k < l.length
  · rw [h1 k hlt]
    cases hp : p l[k] with
    | true => exact .inr ⟨_, rfl, .inl ⟨k, rfl, hlt, hp, hI⟩⟩
    | false =>
      refine .inl ⟨_, rfl, hlt, rfl, fun j hj hjk => ?_⟩
      by_cases he : j = k
      · subst he; exact hp
      · exact hI j hj (by omega)
  · obtain rfl : k = l.length := by omega
    refine .inr ⟨_, h2, .inr ⟨rfl, fun x hx => ?_⟩⟩
    obtain ⟨j, hj, rfl⟩ := List.getElem_of_mem hx
    exact hI j hj hj
theorem contB_eq (l : List (List UInt8)) (f : List UInt8 → Option Bool) (p : List UInt8 → Bool) (hl : l.length < 4294967296) (hf : ∀ x ∈ l, f x = some (p x)) : slices_ContainsFunc_byte_byte l f = some (l.any p) := by
  unfold slices_ContainsFunc_byte_byte slices_IndexFunc_byte_byte
  obtain ⟨b, hb, hq⟩ := loop_first l p (step := fun s : Int => slices_IndexFunc_byte_byte_L1 l f s) (fun k => Sum.inr (k : Int)) (Sum.inl ()) hl (fun k hk => by
      unfold slices_IndexFunc_byte_byte_L1
      rw [decide_eq_true (show (k : Int) < (l.length : Int) by omega), idx_nat, List.getElem?_eq_getElem hk, wI_succ (by omega)]
      simp only [cond_true, Option.bind_some, hf l[k] (List.getElem_mem _)]
      cases p l[k] <;> rfl) (by
      unfold slices_IndexFunc_byte_byte_L1
      rw [decide_eq_false (show ¬(l.length : Int) < (l.length : Int) by omega)]; rfl)
  rw [hb]
  rcases hq with ⟨k, rfl, hk, hp, _⟩ | ⟨rfl, hn⟩
  · rw [List.any_eq_true.2 ⟨l[k], List.getElem_mem _, hp⟩]; simp
  · rw [List.any_eq_false.2 (fun x hx => by rw [hn x hx]; simp)]; rfl
theorem any_orD {α : Type} (l : List α) (p q : α → Bool) : (l.any fun x => p x || q x) = (l.any p || l.any q) := by
  induction l with
  | nil => rfl
  | cons a l ih => simp only [List.any_cons, ih]; cases p a <;> cases q a <;> cases l.any p <;> rfl

/- Plain law: devices: comparing, reading, writing. -/

theorem beqL (a b : List UInt8) : (a == b) = decide (a = b) := by rw [Bool.eq_iff_iff]; simp

/-! ### reading -/
/- Plain law: devices: writes, flushes, deaths. -/

theorem szB_len {b : List UInt8} (h : szB b = true) : b.length < 4294967296 := by unfold szB at h; simp at h; rcases h with h | h <;> simp_all

/-! ### flushes -/
theorem makeL_len {α β : Type} (z : α) (l : List β) (h : l.length ≤ 256) : makeL z ((l.length : Nat) : Int) = some (List.replicate l.length z) := by
  have h2 : l.length < 4294967296 := by omega
  exact makeL_some z l.length h2
theorem makeL_ok {α : Type} (z : α) (n : Int) (h : (decide (n < 1) || decide (n > 256)) = false) : makeL z n = some (List.replicate n.toNat z) := by
  simp only [Bool.or_eq_false_iff, decide_eq_false_iff_not] at h
  unfold makeL
  have h1 : 0 ≤ n := by omega
  have h2 : n < 4294967296 := by omega
  simp only [h1, h2, and_self, if_true]
/- Plain law: devices: the laws that ask no reference. -/

theorem beqS (a b : List UInt8) : ((Str.mk a).s == (Str.mk b).s) = decide (a = b) := str_eq a b

/- Plain law of the folding functions, part 1. -/

def xorL (a b : List UInt8) : List UInt8 := List.zipWith (· ^^^ ·) a b
def padL (b : List UInt8) : List UInt8 := if b.length = 0 then List.replicate 128 0 else b
def foldS (l : List (List UInt8)) : List UInt8 := l.foldl (fun acc b => xorL acc (padL b)) (List.replicate 128 0)
def blockB (b : List UInt8) : Bool := b.length == 0 || b.length == 128

theorem xorL_get {a b : List UInt8} {k : Nat} {x y : UInt8} (h1 : a[k]? = some x) (h2 : b[k]? = some y) : (xorL a b)[k]? = some (x ^^^ y) := by
  unfold xorL; rw [List.getElem?_zipWith, h1, h2]
theorem xorL_len (a b : List UInt8) : (xorL a b).length = min a.length b.length := by unfold xorL; simp
theorem padL_len {b : List UInt8} (h : blockB b = true) : (padL b).length = 128 := by
  unfold padL blockB at *
  split
  · simp
  · rcases Bool.or_eq_true _ _ |>.mp h with h | h
    · simp at h; simp_all
    · simpa using h

theorem xorL_zero {a : List UInt8} (h : a.length = 128) : xorL a (List.replicate 128 0) = a := by
  apply List.ext_getElem?
  intro i
  unfold xorL
  rw [List.getElem?_zipWith]
  by_cases hi : i < 128
  · rw [List.getElem?_eq_getElem (by omega), List.getElem?_replicate, if_pos hi]; simp
  · rw [List.getElem?_eq_none (by omega), List.getElem?_replicate, if_neg hi]

def foldF (l : List (List UInt8)) (k : Nat) : List UInt8 := foldS (l.take k)
theorem foldS_len : ∀ (l : List (List UInt8)), (∀ b ∈ l, blockB b = true) → (foldS l).length = 128 := by
  intro l
  unfold foldS
  have : ∀ (l : List (List UInt8)) (a : List UInt8), a.length = 128 → (∀ b ∈ l, blockB b = true) → (l.foldl (fun acc b => xorL acc (padL b)) a).length = 128 := by
    intro l
    induction l with
    | nil => intro a h _; exact h
    | cons b l ih =>
      intro a h hl
      refine ih _ ?_ (fun x hx => hl x (by simp [hx]))
      rw [xorL_len, padL_len (hl b (by simp))]; omega
  exact this l _ (by simp)
theorem foldS_snoc (l : List (List UInt8)) (b : List UInt8) : foldS (l ++ [b]) = xorL (foldS l) (padL b) := by
  unfold foldS; rw [List.foldl_append]; rfl

def FoldSpec (l : List (List UInt8)) : List UInt8 × Int :=
  if 16 < l.length then ([], 4) else if l.all blockB then (foldS l, 0) else ([], 3)

/- Plain law of the folding functions, part 2: the references and the laws. -/

theorem FUEL_gt {n : Nat} (h : n ≤ 9223372036854775807) : n < FUEL := by unfold FUEL; omega

def GreatS (l : List (List UInt8)) : Bool := decide (300 < l.length) || l.any fun b => decide (1000 < b.length)

theorem great_false {l : List (List UInt8)} (h : GreatS l = false) : l.length ≤ 300 ∧ ∀ b ∈ l, b.length ≤ 1000 := by
  unfold GreatS at h
  simp at h
  exact ⟨h.1, fun b hb => by have := h.2 b hb; omega⟩

theorem blockB_len {b : List UInt8} (h : blockB b = true) : b.length = 0 ∨ b.length = 128 := by
  unfold blockB at h
  simpa using h

theorem whole_eq {b : List UInt8} (h : blockB b = true) : ref02_Whole b = some (padL b) := by
  have hb := blockB_len h
  unfold ref02_Whole
  rw [show (128 : Int) = ((128 : Nat) : Int) from rfl, makeL_some _ _ (by omega)]
  simp only [Option.bind_some]
  have hp := padL_len h
  have := loop_map (step := fun s : Int × (List UInt8) => ref02_Whole_L1 b s.1 s.2) (padL b) (List.replicate 128 0) b.length (padL b) (FUEL_gt (by omega)) (fun k hk => by
    obtain ⟨x, hx⟩ : ∃ x, b[k]? = some x := ⟨_, List.getElem?_eq_getElem hk⟩
    have hpx : (padL b)[k]? = some x := by unfold padL; rw [if_neg (by omega)]; exact hx
    unfold ref02_Whole_L1
    simp only [decide_eq_true (show (k : Int) < (b.length : Int) by omega), cond_true, idx_nat, hx, Option.bind_some, wI_succ (show k < 9223372036854775807 by omega)]
    rw [mix_len _ _ _ (by simp [hp]), bnd_nat (by simp; omega)]
    simp only [Option.bind_some]
    rw [mix_set _ _ _ (by simp [hp]) _ hpx]) (by
    unfold ref02_Whole_L1
    rw [decide_eq_false (by omega)]
    simp only [cond_false]
    congr 2
    rcases hb with hb | hb
    · rw [hb]; simp [padL, hb]
    · rw [hb]; exact mix_end _ _ 128 hp (by simp))
  rw [this]; rfl

/- Plain law of the folding functions, part 3: the laws. -/

def at0 (b : List UInt8) (i : Nat) : UInt8 := (b[i]?).getD 0
def gx (i : Nat) (l : List (List UInt8)) : UInt8 := l.foldr (fun b acc => at0 b i ^^^ acc) 0

theorem gx_app (i : Nat) (l m : List (List UInt8)) : gx i (l ++ m) = gx i l ^^^ gx i m := by
  induction l with
  | nil => simp [gx]
  | cons b l ih => show at0 b i ^^^ gx i (l ++ m) = at0 b i ^^^ gx i l ^^^ gx i m; rw [ih, UInt8.xor_assoc]
theorem gx_one (i : Nat) (b : List UInt8) : gx i [b] = at0 b i := by simp [gx]

theorem pad_get {b : List UInt8} (h : blockB b = true) {i : Nat} (hi : i < 128) : (padL b)[i]? = some (at0 b i) := by
  unfold padL at0
  rcases blockB_len h with h | h
  · rw [if_pos h, List.getElem?_replicate, if_pos hi, List.getElem?_eq_none (by omega)]; rfl
  · rw [if_neg (by omega), List.getElem?_eq_getElem (by omega)]; rfl

theorem foldS_get (l : List (List UInt8)) (h : ∀ b ∈ l, blockB b = true) {i : Nat} (hi : i < 128) : (foldS l)[i]? = some (gx i l) := by
  unfold foldS
  have : ∀ (l : List (List UInt8)) (a : List UInt8) (x : UInt8), a[i]? = some x → (∀ b ∈ l, blockB b = true) → (l.foldl (fun acc b => xorL acc (padL b)) a)[i]? = some (x ^^^ gx i l) := by
    intro l
    induction l with
    | nil => intro a x h _; rw [List.foldl_nil, h]; simp [gx]
    | cons b l ih =>
      intro a x h hl
      rw [List.foldl_cons, ih _ (x ^^^ at0 b i) (xorL_get h (pad_get (hl b (by simp)) hi)) (fun c hc => hl c (by simp [hc]))]
      rw [UInt8.xor_assoc]; rfl
  rw [this l _ 0 (by rw [List.getElem?_replicate, if_pos hi]) h]
  simp

theorem ext128 {a b : List UInt8} (ha : a.length = 128) (hb : b.length = 128) (h : ∀ i, i < 128 → a[i]? = b[i]?) : a = b := by
  apply List.ext_getElem?
  intro i
  by_cases hi : i < 128
  · exact h i hi
  · rw [List.getElem?_eq_none (by omega), List.getElem?_eq_none (by omega)]
theorem foldS_ext {l m : List (List UInt8)} (hl : ∀ b ∈ l, blockB b = true) (hm : ∀ b ∈ m, blockB b = true) (h : ∀ i, i < 128 → gx i l = gx i m) : foldS l = foldS m :=
  ext128 (foldS_len l hl) (foldS_len m hm) fun i hi => by rw [foldS_get l hl hi, foldS_get m hm hi, h i hi]
theorem at_foldS {l : List (List UInt8)} (hl : ∀ b ∈ l, blockB b = true) {i : Nat} (hi : i < 128) : at0 (foldS l) i = gx i l := by
  unfold at0; rw [foldS_get l hl hi]; rfl
theorem foldS_block {l : List (List UInt8)} (hl : ∀ b ∈ l, blockB b = true) : blockB (foldS l) = true := by simp [blockB, foldS_len l hl]

theorem spec_cases (l : List (List UInt8)) : (FoldSpec l = ([], 4) ∧ 16 < l.length) ∨ (FoldSpec l = (foldS l, 0) ∧ l.length ≤ 16 ∧ ∀ b ∈ l, blockB b = true) ∨ (FoldSpec l = ([], 3) ∧ l.length ≤ 16 ∧ ∃ b ∈ l, blockB b = false) := by
  unfold FoldSpec
  split
  · exact .inl ⟨rfl, by assumption⟩
  · split
    · rename_i h; exact .inr (.inl ⟨rfl, by omega, List.all_eq_true.1 h⟩)
    · rename_i h
      refine .inr (.inr ⟨rfl, by omega, ?_⟩)
      rw [Bool.not_eq_true, List.all_eq_false] at h
      obtain ⟨x, h1, h2⟩ := h
      exact ⟨x, h1, by simpa using h2⟩

def othersL {α : Type} (l : List α) (i k : Nat) : List α := (l.take k).take i ++ (l.take k).drop (i + 1)
theorem others_zero {α : Type} (l : List α) (i : Nat) : othersL l i 0 = [] := by simp [othersL]
theorem others_ne {α : Type} {l : List α} {i k : Nat} {x : α} (hx : l[k]? = some x) (h : k ≠ i) : othersL l i (k + 1) = othersL l i k ++ [x] := by
  have hk := (List.getElem?_eq_some_iff.1 hx).1
  unfold othersL
  rw [take_succ_get _ _ _ hx]
  by_cases h2 : k < i
  · have hA : (l.take k).length = k := by simp; omega
    generalize l.take k = A at hA
    rw [List.take_of_length_le (l := A ++ [x]) (by simp; omega), List.drop_of_length_le (l := A ++ [x]) (by simp; omega), List.take_of_length_le (l := A) (by omega), List.drop_of_length_le (l := A) (by omega)]
    simp
  · rw [List.take_append_of_le_length (by simp; omega), List.drop_append_of_le_length (by simp; omega), List.append_assoc]
theorem others_eq {α : Type} {l : List α} {k : Nat} {x : α} (hx : l[k]? = some x) : othersL l k (k + 1) = othersL l k k := by
  have hk := (List.getElem?_eq_some_iff.1 hx).1
  unfold othersL
  rw [take_succ_get _ _ _ hx, List.take_append_of_le_length (by simp; omega), List.drop_of_length_le (by simp; omega), List.drop_of_length_le (by simp; omega)]

theorem xor_mid (a b c : UInt8) : (a ^^^ c) ^^^ (a ^^^ (b ^^^ c)) = b := by
  have h1 : (a ^^^ c) ^^^ (a ^^^ (b ^^^ c)) = (a ^^^ a) ^^^ (c ^^^ c) ^^^ b := by
    simp only [UInt8.xor_assoc]
    congr 1
    rw [← UInt8.xor_assoc c a, UInt8.xor_comm c a, UInt8.xor_assoc]
    congr 1
    rw [UInt8.xor_comm b c]
  rw [h1]; simp

/- Plain law: arrays of devices: which may be; which stripes are even. -/

def mN (c : Config) : Nat := c.Members.toNat
def sN (c : Config) : Nat := (c.Chunk * c.Rows).toNat
def wantI (c : Config) (i : Nat) : Int := if i = mN c then c.Log + 1 else c.Chunk * c.Rows + 1
/-! ### even stripes -/
def zeroB (b : List UInt8) : Bool := !(b.any fun x => x != 0)
theorem wI_one {s : Nat} (h : s < 1000) : wI (1 + (s : Int)) = ((s + 1 : Nat) : Int) := by rw [wI_id (by omega) (by omega)]; omega

/- Plain law: even stripes, by the program and by the reference. -/

/- Plain law: lists of devices: sizes, copies, comparing. -/

theorem sum_loop2 {α : Type} (l : List α) (len : α → Nat) (hl : l.length ≤ 100000) (hlen : ∀ x ∈ l, len x ≤ 1000000) {step : Int × Int → Option (Ctl (Int × Int) Int)} (n0 : Int) (h0 : 0 ≤ n0) (h0' : n0 ≤ 1000000000000)
    (h1 : ∀ k (hk : k < l.length) (n : Int), step (n, (k : Int)) = some (.next (wI (n + wI (8 + ((len l[k] : Nat) : Int))), wI ((k : Int) + 1))))
    (h2 : ∀ (n : Int), step (n, (l.length : Int)) = some (.brk n)) :
    ∃ b, loopM step FUEL (n0, (0 : Int)) = some b ∧ n0 ≤ b ∧ b ≤ n0 + 2000000 * (l.length : Int) := by
  refine loop_inv (step := step) l.length
    (fun k s => s.2 = (k : Int) ∧ n0 ≤ s.1 ∧ s.1 ≤ n0 + 2000000 * (k : Int)) _ (fun k s hk hI => ?_) FUEL 0 (n0, 0) (Nat.zero_le _) (by unfold FUEL; omega) ⟨rfl, by simp, by simp⟩
  obtain ⟨s1, s2⟩ := s
  obtain ⟨e1, e2, e3⟩ := hI
  simp only at e1 e2 e3
  subst e1
  by_cases hlt : k < l.length
  · have hb := hlen _ (List.getElem_mem hlt)
    refine .inl ⟨_, h1 k hlt s1, hlt, ?_⟩
    rw [wI_id (x := 8 + ((len l[k] : Nat) : Int)) (by omega) (by omega), wI_id (by omega) (by omega), wI_succ (by omega)]
    exact ⟨rfl, by simp only; omega, by simp only; omega⟩
  · obtain rfl : k = l.length := by omega
    exact .inr ⟨s1, h2 s1, e2, e3⟩

/- Plain law: eyes: what holds of folds. -/

theorem zeroB_iff (b : List UInt8) (h : b.length = 128) : zeroB b = true ↔ ∀ i, i < 128 → b[i]? = some 0 := by
  unfold zeroB
  simp only [Bool.not_eq_true', List.any_eq_false, bne_iff_ne, ne_eq, Decidable.not_not]
  constructor
  · intro hz i hi
    rw [List.getElem?_eq_getElem (by omega)]
    exact congrArg some (hz _ (List.getElem_mem _))
  · intro hz x hx
    obtain ⟨i, hi, rfl⟩ := List.getElem_of_mem hx
    have := hz i (by omega)
    rw [List.getElem?_eq_getElem hi] at this
    exact Option.some.inj this
theorem xor_zero_iff (a b c : UInt8) : a ^^^ (b ^^^ c) = 0 ↔ a ^^^ c = b := by
  constructor
  · intro h
    have h2 : (a ^^^ (b ^^^ c)) ^^^ b = b := by rw [h]; simp
    rw [show (a ^^^ (b ^^^ c)) ^^^ b = a ^^^ c by
      rw [UInt8.xor_comm b c, ← UInt8.xor_assoc, UInt8.xor_assoc, UInt8.xor_self]; simp] at h2
    exact h2
  · intro h
    rw [← h, UInt8.xor_assoc a c c]
    simp
theorem gx_split (i : Nat) (l : List (List UInt8)) (m : Nat) (hm : m < l.length) : gx i l = gx i (l.take m) ^^^ (at0 l[m] i ^^^ gx i (l.drop (m + 1))) := by
  have hsplit : l = l.take m ++ (l[m] :: l.drop (m + 1)) := by rw [List.getElem_cons_drop, List.take_append_drop]
  have h1 : gx i l = gx i (l.take m ++ (l[m] :: l.drop (m + 1))) := by rw [← hsplit]
  rw [h1, gx_app]; rfl
/-- A fold is nothing just where one of its blocks is the fold of the others. -/
theorem zero_iff_others (l : List (List UInt8)) (hl : ∀ b ∈ l, blockB b = true) (m : Nat) (hm : m < l.length) (h128 : l[m].length = 128) :
    zeroB (foldS l) = decide (foldS (l.take m ++ l.drop (m + 1)) = l[m]) := by
  have ho : ∀ b ∈ l.take m ++ l.drop (m + 1), blockB b = true := fun b hb => by
    rcases List.mem_append.1 hb with h | h
    · exact hl b (List.mem_of_mem_take h)
    · exact hl b (List.mem_of_mem_drop h)
  rw [Bool.eq_iff_iff, zeroB_iff _ (foldS_len l hl), decide_eq_true_iff]
  have key : ∀ i, i < 128 → ((foldS l)[i]? = some 0 ↔ (foldS (l.take m ++ l.drop (m + 1)))[i]? = l[m][i]?) := fun i hi => by
    rw [foldS_get l hl hi, foldS_get _ ho hi, gx_split i l m hm, gx_app]
    rw [List.getElem?_eq_getElem (show i < l[m].length by omega)]
    have ha : at0 l[m] i = l[m][i] := by unfold at0; rw [List.getElem?_eq_getElem (by omega)]; rfl
    rw [ha]
    constructor
    · intro h
      exact congrArg some ((xor_zero_iff _ _ _).1 (Option.some.inj h))
    · intro h
      exact congrArg some ((xor_zero_iff _ _ _).2 (Option.some.inj h))
  constructor
  · intro h
    exact ext128 (foldS_len _ ho) h128 (fun i hi => (key i hi).1 (h i hi))
  · intro h i hi
    exact (key i hi).2 (by rw [h])

theorem bool_eq_dec (a b : Bool) (h : a = b) : (a == b) = true := by rw [h]; simp

theorem filt_get (p : Nat → Bool) (n k : Nat) (hk : k < n) (hp : p k = true) : ((List.range n).filter p)[((List.range k).filter p).length]? = some k := by
  have h1 : List.range n = List.range k ++ (k :: (List.range n).drop (k + 1)) := by
    have : (List.range n)[k]'(by simpa using hk) = k := by simp
    have h2 := (List.take_append_drop k (List.range n)).symm
    rw [List.drop_eq_getElem_cons (by simpa using hk), this, List.take_range] at h2
    rw [show min k n = k by omega] at h2
    exact h2
  rw [h1, List.filter_append, List.filter_cons, if_pos hp, List.getElem?_append_right (Nat.le_refl _)]
  simp
/- Plain law: blocks off devices, by the program. -/

/-! ### checks -/
/-! ### members of slots -/
theorem divideF {a b : Int} (ha : 0 ≤ a) (ha2 : a ≤ 1000000) (hb : 0 < b) : turn_divide a b = some (a / b, a % b) := by
  unfold turn_divide quoI remI
  rw [if_neg (by omega), if_neg (by omega), Int.tdiv_eq_ediv_of_nonneg ha, Int.tmod_eq_emod_of_nonneg ha]
  have h1 : 0 ≤ a / b := Int.ediv_nonneg ha (by omega)
  have h2 : a / b ≤ a := Int.ediv_le_self b ha
  rw [wI_id (by omega) (by omega)]
  rfl
def parF (c : Config) (stripe : Int) : Int := c.Members - 1 - (stripe / c.Chunk) % c.Members
def memF (c : Config) (stripe k : Int) : Int := (parF c stripe + 1 + k) % c.Members
theorem parF_in {c : Config} (hm : MayC c) (stripe : Int) : 0 ≤ parF c stripe ∧ parF c stripe < c.Members := by
  have := hm.1
  unfold parF
  have h1 := Int.emod_nonneg (stripe / c.Chunk) (show c.Members ≠ 0 by omega)
  have h2 := Int.emod_lt_of_pos (stripe / c.Chunk) (show 0 < c.Members by omega)
  omega
theorem memF_in {c : Config} (hm : MayC c) (stripe k : Int) : 0 ≤ memF c stripe k ∧ memF c stripe k < c.Members := by
  have := hm.1
  unfold memF
  exact ⟨Int.emod_nonneg _ (by omega), Int.emod_lt_of_pos _ (by omega)⟩
def askT (c : Config) (stripe k : Int) : Bool := decide (0 ≤ stripe) && (decide (stripe < c.Chunk * c.Rows) && (decide (0 ≤ k) && decide (k < c.Members)))
theorem stripesF (c : Config) : shape_Stripes c = some (bif mayC c then (c.Chunk * c.Rows, 0) else (0, 8)) := by
  unfold shape_Stripes shape_told
  rw [check_eq]
  cases h : mayC c with
  | false => rfl
  | true =>
    obtain ⟨h1, h2, h3⟩ := wI_str ((mayC_iff c).1 h)
    simp only [Option.bind_some, cond_true, bne_self_eq_false, cond_false, h1]
theorem memberF {c : Config} (hm : MayC c) (stripe k : Int) : turn_Member c stripe k = some (bif askT c stripe k then (memF c stripe k, 0) else (0, 2)) := by
  have hM := hm.1
  have hp := parF_in hm stripe
  have hs := wI_str hm
  have hc := hm.2.1
  unfold turn_Member turn_row_member turn_at askT
  rw [stripesF, (mayC_iff c).2 hm]
  simp only [cond_true, Option.bind_some, bne_self_eq_false, cond_false]
  by_cases s0 : 0 ≤ stripe
  case neg => rw [decide_eq_true (show stripe < 0 by omega), decide_eq_false s0]; rfl
  rw [decide_eq_false (show ¬ stripe < 0 by omega), decide_eq_true s0]
  by_cases s1 : stripe < c.Chunk * c.Rows
  case neg => rw [decide_eq_true (show stripe ≥ c.Chunk * c.Rows by omega), decide_eq_false s1]; rfl
  rw [decide_eq_false (show ¬ stripe ≥ c.Chunk * c.Rows by omega), decide_eq_true s1]
  by_cases h0 : 0 ≤ k
  case neg => rw [decide_eq_true (show k < 0 by omega), decide_eq_false h0]; rfl
  rw [decide_eq_false (show ¬ k < 0 by omega), decide_eq_true h0]
  by_cases h1 : k < c.Members
  case neg => rw [decide_eq_true (show k ≥ c.Members by omega), decide_eq_false h1]; rfl
  rw [decide_eq_false (show ¬ k ≥ c.Members by omega), decide_eq_true h1]
  have h1' : 0 ≤ stripe / c.Chunk := Int.ediv_nonneg s0 (by omega)
  have h2' : stripe / c.Chunk ≤ stripe := Int.ediv_le_self c.Chunk s0
  simp only [cond_false]
  unfold turn_at_J1 turn_row_parity
  rw [divideF s0 (by omega) (by omega)]
  simp only [cond_false, Option.bind_some, bne_self_eq_false]
  rw [divideF h1' (by omega) (by omega)]
  simp only [Option.bind_some]
  rw [wI_id (x := c.Members - 1) (by omega) (by omega)]
  unfold parF at hp
  rw [wI_id (x := c.Members - 1 - _) (by omega) (by omega), wI_id (x := c.Members - 1 - _ + 1) (by omega) (by omega), wI_id (by omega) (by omega), divideF (by omega) (by omega) (by omega)]
  rfl

/-! ### what is read -/
/-! ### fetching -/
def withoutF (c : Config) (m : Nat) : List Nat := (List.range (mN c)).filter fun i => i != m
theorem without_len (c : Config) (m : Nat) : (withoutF c m).length ≤ mN c := by
  have := List.length_filter_le (fun i => i != m) (List.range (mN c))
  simpa [withoutF] using this
/- Plain law: what is fetched of even stripes, and of lone losses. -/

theorem memberG (c : Config) (stripe k : Int) : turn_Member c stripe k = some (bif mayC c then (bif askT c stripe k then (memF c stripe k, 0) else (0, 2)) else (0, 8)) := by
  cases hc : mayC c with
  | true => rw [memberF ((mayC_iff c).1 hc)]; rfl
  | false =>
    unfold turn_Member turn_at
    rw [stripesF, hc]
    rfl
/-! ### even stripes, as they are read -/
theorem without_take (c : Config) (f : Nat → List UInt8) (m : Nat) (hm : m < mN c) : (withoutF c m).map f = ((List.range (mN c)).map f).take m ++ ((List.range (mN c)).map f).drop (m + 1) := by
  rw [← List.map_take, ← List.map_drop, ← List.map_append]
  congr 1
  unfold withoutF
  have h1 : List.range (mN c) = (List.range (mN c)).take m ++ (m :: (List.range (mN c)).drop (m + 1)) := by
    have : (List.range (mN c))[m]'(by simpa using hm) = m := by simp
    have h2 := (List.take_append_drop m (List.range (mN c))).symm
    rw [List.drop_eq_getElem_cons (by simpa using hm), this] at h2
    exact h2
  have ht : ((List.range (mN c)).take m).filter (fun i => i != m) = (List.range (mN c)).take m := List.filter_eq_self.2 (fun i hi => by
    rw [List.take_range] at hi
    have := List.mem_range.1 hi
    simp; omega)
  have hd : ((List.range (mN c)).drop (m + 1)).filter (fun i => i != m) = (List.range (mN c)).drop (m + 1) := List.filter_eq_self.2 (fun i hi => by
    obtain ⟨j, hj, rfl⟩ := List.getElem_of_mem hi
    simp; omega)
  conv => lhs; rw [h1]
  rw [List.filter_append, List.filter_cons, ht, hd]
  simp
/- Plain law: acts on devices: which may be done, and what they do. -/

def outA (a : Act45) (n : Nat) : Bool := decide (a.Disk < 0) || decide (a.Disk ≥ (n : Int))
def mayAct (a : Act45) (ns : List Nat) : Bool :=
  !outA a ns.length && (bif a.Kind == 3 then (a.At == 0) && decide (a.Data.length = 0) else (a.Kind == 1 || a.Kind == 2) && (decide (0 ≤ a.At) && (decide (a.At < ((ns.getD a.Disk.toNat 0 : Nat) : Int)) && szB a.Data)))
def OkAct (a : Act45) (nb : Nat) : Prop := (a.Kind = 3 ∧ a.At = 0 ∧ a.Data = []) ∨ ((a.Kind = 1 ∨ a.Kind = 2) ∧ szB a.Data = true ∧ ∃ k : Nat, a.At = (k : Int) ∧ k < nb)
theorem outA_ok {a : Act45} {n : Nat} (h : outA a n = false) : ∃ i : Nat, a.Disk = (i : Int) ∧ i < n := by
  unfold outA at h
  simp only [Bool.or_eq_false_iff, decide_eq_false_iff_not] at h
  exact ⟨a.Disk.toNat, by omega, by omega⟩
theorem mayAct_ok {a : Act45} {ns : List Nat} (h : mayAct a ns = true) : ∃ (i : Nat) (hi : i < ns.length), a.Disk = (i : Int) ∧ OkAct a ns[i] := by
  unfold mayAct at h
  simp only [Bool.and_eq_true, Bool.not_eq_true'] at h
  obtain ⟨h1, h2⟩ := h
  obtain ⟨i, e, hi⟩ := outA_ok h1
  refine ⟨i, hi, e, ?_⟩
  rw [e, Int.toNat_natCast, List.getD_eq_getElem?_getD, List.getElem?_eq_getElem hi] at h2
  by_cases hk : a.Kind = 3
  · rw [show (a.Kind == 3) = true by simpa using hk] at h2
    simp only [cond_true, Bool.and_eq_true, decide_eq_true_eq] at h2
    exact .inl ⟨hk, by simpa using h2.1, List.eq_nil_of_length_eq_zero h2.2⟩
  · rw [show (a.Kind == 3) = false by simpa using hk] at h2
    simp only [cond_false, Bool.and_eq_true, decide_eq_true_eq, Bool.or_eq_true, beq_iff_eq, Option.getD_some] at h2
    exact .inr ⟨h2.1, h2.2.2.2, a.At.toNat, by omega, by omega⟩

/-! ### what acts do -/
/- Plain law: acts.Run and the document's answer. -/

theorem slc_take {α : Type} (l : List α) {n : Int} (h : (decide (n < 0) || decide (n > (l.length : Int))) = false) : slc l 0 n = some (l.take n.toNat) := by
  simp only [Bool.or_eq_false_iff, decide_eq_false_iff_not] at h
  unfold slc
  rw [if_pos (by omega)]
  simp
/-! ### what is seen of devices -/
/- Plain law: deals written make a stripe even again. -/

/-! ### where slots lie -/
def memN (c : Config) (s k : Nat) : Nat := if (parF c (s : Int) + 1).toNat + k < mN c then (parF c (s : Int) + 1).toNat + k else (parF c (s : Int) + 1).toNat + k - mN c
theorem parN {c : Config} (h : MayC c) (s : Nat) : 1 ≤ (parF c (s : Int) + 1).toNat ∧ (parF c (s : Int) + 1).toNat ≤ mN c ∧ parF c (s : Int) + 1 = (((parF c (s : Int) + 1).toNat : Nat) : Int) ∧ c.Members = (mN c : Int) := by
  have := parF_in h (s : Int)
  have := h.1
  unfold mN
  omega
theorem memN_eq {c : Config} (h : MayC c) (s : Nat) {k : Nat} (hk : k < mN c) : memF c (s : Int) (k : Int) = (memN c s k : Int) := by
  obtain ⟨h1, h2, h3, h4⟩ := parN h s
  unfold memF memN
  rw [h3, h4]
  generalize (parF c (s : Int) + 1).toNat = q at h1 h2
  simp only [Int.toNat_natCast]
  split
  · rw [Int.emod_eq_of_lt (by omega) (by omega)]; omega
  · rw [show (q : Int) + (k : Int) = ((q + k - mN c : Nat) : Int) + (mN c : Int) by omega, Int.add_emod_right, Int.emod_eq_of_lt (by omega) (by omega)]
theorem memN_lt {c : Config} (h : MayC c) (s : Nat) {k : Nat} (hk : k < mN c) : memN c s k < mN c := by
  obtain ⟨h1, h2, h3, h4⟩ := parN h s
  unfold memN
  split <;> omega
theorem memN_inj {c : Config} (h : MayC c) (s : Nat) {j k : Nat} (hj : j < mN c) (hk : k < mN c) (he : memN c s j = memN c s k) : j = k := by
  obtain ⟨h1, h2, h3, h4⟩ := parN h s
  unfold memN at he
  split at he <;> split at he <;> omega
/-- The blocks by slots fold to what the blocks by members do. -/
theorem col_rot (c : Config) (h : MayC c) (s : Nat) (f : Nat → List UInt8) (i : Nat) : gx i ((List.range (mN c)).map fun k => f (memN c s k)) = gx i ((List.range (mN c)).map f) := by
  obtain ⟨h1, h2, h3, h4⟩ := parN h s
  have hr : ((List.range (mN c)).map fun k => f (memN c s k)) = ((List.range (mN c)).map f).drop (parF c (s : Int) + 1).toNat ++ ((List.range (mN c)).map f).take (parF c (s : Int) + 1).toNat := by
    unfold memN
    generalize (parF c (s : Int) + 1).toNat = q at h1 h2
    refine List.ext_getElem (by simp; omega) fun k g1 g2 => ?_
    simp only [List.length_map, List.length_range] at g1
    rw [List.getElem_map, List.getElem_range]
    by_cases hk : q + k < mN c
    · rw [if_pos hk, List.getElem_append_left (by simp; omega)]
      simp
    · rw [if_neg hk, List.getElem_append_right (by simp; omega)]
      simp only [List.length_drop, List.length_map, List.length_range, List.getElem_take, List.getElem_map, List.getElem_range]
      congr 1
      omega
  rw [hr, gx_app, UInt8.xor_comm, ← gx_app, List.take_append_drop]

/-! ### deals that may be -/
structure OkDeal (c : Config) (d : Deal) : Prop where
  s : ∃ s : Nat, d.Stripe = (s : Int) ∧ s < sN c
  sl : ∀ x ∈ d.Slots, ∃ k : Nat, x = (k : Int) ∧ k < mN c - 1
  bl : d.Blocks.length = d.Slots.length
  n : d.Slots.length ≤ 16
  bs : ∀ b ∈ d.Blocks, szB b = true
theorem slots_eq {c : Config} (h : MayC c) (l : List Int) (hl : l.length ≤ 1000) : ∃ b, deal_slots c l = some b ∧ (b = true → l.length ≤ 16 ∧ ∀ x ∈ l, ∃ k : Nat, x = (k : Int) ∧ k < mN c - 1) := by
  have hm := h.1
  have hM : c.Members = (mN c : Int) := by unfold mN; omega
  unfold deal_slots
  obtain ⟨b, hb, hq⟩ := loop_inv (step := fun q : Int × Int => deal_slots_L1 c l q.1 q.2) l.length
    (fun k q => q.2 = (k : Int) ∧ (k : Int) - 1 ≤ q.1 ∧ (q.1 = -1 ∨ q.1 ≤ c.Members - 2) ∧ ∀ j (hj : j < l.length), j < k → ∃ k : Nat, l[j] = (k : Int) ∧ k < mN c - 1)
    (fun b => b = Sum.inr () ∨ (b = Sum.inl () ∧ l.length ≤ 16 ∧ ∀ j (hj : j < l.length), ∃ k : Nat, l[j] = (k : Int) ∧ k < mN c - 1)) (fun k q hk hI => by
    obtain ⟨q1, q2⟩ := q
    obtain ⟨e1, e2, e3, e4⟩ := hI
    simp only at e1 e2 e3 e4
    subst e1
    show (∃ s', deal_slots_L1 c l q1 (k : Int) = some (.next s') ∧ _) ∨ ∃ b, deal_slots_L1 c l q1 (k : Int) = some (.brk b) ∧ _
    unfold deal_slots_L1
    by_cases hlt : k < l.length
    · rw [decide_eq_true (by omega), idx_nat, List.getElem?_eq_getElem hlt, wI_id (x := c.Members - 2) (by omega) (by omega)]
      simp only [cond_true, Option.bind_some]
      by_cases hx : l[k] ≤ q1 ∨ l[k] > c.Members - 2
      · rw [show (decide (l[k] ≤ q1) || decide (l[k] > c.Members - 2)) = true by simpa using hx]
        exact .inr ⟨_, rfl, .inl rfl⟩
      · rw [show (decide (l[k] ≤ q1) || decide (l[k] > c.Members - 2)) = false by simp; omega, wI_succ (by omega)]
        refine .inl ⟨_, rfl, hlt, rfl, by simp only; omega, by simp only; omega, fun j hj hjk => ?_⟩
        by_cases he : j = k
        · subst he; exact ⟨l[j].toNat, by omega, by omega⟩
        · exact e4 j hj (by omega)
    · obtain rfl : k = l.length := by omega
      rw [decide_eq_false (by omega)]
      exact .inr ⟨_, rfl, .inr ⟨rfl, by omega, fun j hj => e4 j hj hj⟩⟩) FUEL 0 (-1, 0) (Nat.zero_le _) (by unfold FUEL; omega) ⟨rfl, by simp, .inl rfl, fun _ _ hj => by omega⟩
  rw [hb]
  rcases hq with rfl | ⟨rfl, hq1, hq⟩
  · exact ⟨_, rfl, fun e => by cases e⟩
  · refine ⟨_, rfl, fun _ => ⟨hq1, fun x hx => ?_⟩⟩
    obtain ⟨j, hj, rfl⟩ := List.getElem_of_mem hx
    exact hq j hj
theorem dgreat13_eq (d : Deal) : ∃ g, ref13_Great d = some g ∧ (g = false → d.Slots.length ≤ 100 ∧ d.Blocks.length ≤ 100) := by
  unfold ref13_Great
  by_cases h1 : (d.Slots.length : Int) > 100
  · rw [decide_eq_true h1]; exact ⟨_, rfl, fun e => by cases e⟩
  by_cases h2 : (d.Blocks.length : Int) > 100
  · rw [decide_eq_true h2, decide_eq_false h1]; exact ⟨_, rfl, fun e => by cases e⟩
  rw [decide_eq_false h1, decide_eq_false h2]
  cases decide (((d.Parity.length : Nat) : Int) > 1000) with
  | true => exact ⟨_, rfl, fun e => by cases e⟩
  | false =>
    simp only [Bool.or_self, cond_false]
    rw [loop_anyD d.Blocks (fun x => decide (((x.length : Nat) : Int) > 1000)) (step := fun s : Int => ref13_Great_L1 d s) (Sum.inr ()) (Sum.inl ()) (by omega) (fun k hk => by
      unfold ref13_Great_L1
      rw [decide_eq_true (by omega), idx_nat, List.getElem?_eq_getElem hk, wI_succ (by omega)]
      simp only [cond_true, Option.bind_some]
      cases decide (((d.Blocks[k].length : Nat) : Int) > 1000) <;> rfl) (by
      unfold ref13_Great_L1
      rw [decide_eq_false (by omega)]; rfl)]
    simp only [Option.bind_some]
    cases d.Blocks.any (fun x => decide (((x.length : Nat) : Int) > 1000)) with
    | true => exact ⟨_, rfl, fun e => by cases e⟩
    | false => exact ⟨_, rfl, fun _ => by omega⟩
theorem sz_ne (b : List UInt8) : ((((b.length : Nat) : Int) != 0) && (((b.length : Nat) : Int) != 128)) = !szB b := by
  unfold szB
  rw [Bool.eq_iff_iff]
  simp only [Bool.and_eq_true, bne_iff_ne, ne_eq, Bool.not_eq_true', Bool.or_eq_false_iff, beq_eq_false_iff_ne]
  omega
theorem odd13_eq (l : List (List UInt8)) (hl : l.length ≤ 1000) : slices_ContainsFunc_byte_byte l (fun y => deal_Check_1 y) = some (l.any fun b => !szB b) := by
  refine contB_eq l _ _ (by omega) (fun x _ => ?_)
  unfold deal_Check_1
  exact congrArg some (sz_ne x)
theorem dealcheck_eq {c : Config} (hc : MayC c) (d : Deal) (h1 : d.Slots.length ≤ 100) (h2 : d.Blocks.length ≤ 100) :
    ∃ e, deal_Check c d = some e ∧ (e = 0 → OkDeal c d ∧ ∀ p : List UInt8, p.length = 128 → deal_Check c ⟨d.Stripe, d.Slots, d.Blocks, p⟩ = some 0) := by
  have hs := wI_str hc
  obtain ⟨b, hb, hb2⟩ := slots_eq hc d.Slots (by omega)
  have key : ∀ p : List UInt8, deal_Check c ⟨d.Stripe, d.Slots, d.Blocks, p⟩ = some (bif (((((d.Blocks.any fun b => !szB b) || decide (d.Stripe < 0)) || decide (d.Stripe ≥ c.Chunk * c.Rows)) || !b) || (((d.Blocks.length : Nat) : Int) != ((d.Slots.length : Nat) : Int))) || !szB p then 8 else 0) := fun p => by
    unfold deal_Check
    rw [stripesF, (mayC_iff c).2 hc]
    simp only [cond_true, Option.bind_some, bne_self_eq_false, cond_false]
    rw [odd13_eq _ (by omega)]
    simp only [Option.bind_some]
    rw [sz_ne p]
    rw [hb]
    cases ((d.Blocks.any fun b => !szB b) || decide (d.Stripe < 0)) || decide (d.Stripe ≥ c.Chunk * c.Rows) with
    | true => rfl
    | false =>
      simp only [gO, Bool.not_false, cond_true, Option.bind_some, Bool.false_or]
      cases ((!b || (((d.Blocks.length : Nat) : Int) != ((d.Slots.length : Nat) : Int))) || !szB p) <;> rfl
  refine ⟨_, key d.Parity, fun e => ?_⟩
  have hz : ((((((d.Blocks.any fun b => !szB b) || decide (d.Stripe < 0)) || decide (d.Stripe ≥ c.Chunk * c.Rows)) || !b) || (((d.Blocks.length : Nat) : Int) != ((d.Slots.length : Nat) : Int))) || !szB d.Parity) = false := by
    cases hz : ((((((d.Blocks.any fun b => !szB b) || decide (d.Stripe < 0)) || decide (d.Stripe ≥ c.Chunk * c.Rows)) || !b) || (((d.Blocks.length : Nat) : Int) != ((d.Slots.length : Nat) : Int))) || !szB d.Parity) with
    | true => rw [hz] at e; cases e
    | false => rfl
  simp only [Bool.or_eq_false_iff, decide_eq_false_iff_not] at hz
  obtain ⟨⟨⟨⟨⟨z1, z2⟩, z3⟩, z4⟩, z5⟩, _⟩ := hz
  have hbt : b = true := by simpa using z4
  obtain ⟨g1, g2⟩ := hb2 hbt
  have hsn : c.Chunk * c.Rows = (sN c : Int) := by unfold sN; omega
  refine ⟨⟨⟨d.Stripe.toNat, by omega, by omega⟩, g2, by simp at z5; omega, g1, fun x hx => by
    have := List.any_eq_false.1 z1 x hx
    simpa using this⟩, fun p hp => ?_⟩
  rw [key p, z1, hbt, z5, decide_eq_false z2, decide_eq_false z3, show szB p = true by unfold szB; simp [hp]]; rfl

/-! ### what a stripe's blocks are then -/
def pairsH (d : Deal) : List (Int × List UInt8) := d.Slots.zip (d.Blocks.map fullB)
def updH (now : List (List UInt8)) (p : Int × List UInt8) : List (List UInt8) := now.set p.1.toNat p.2
theorem updH_len : ∀ (l : List (Int × List UInt8)) (now : List (List UInt8)), (l.foldl updH now).length = now.length
  | [], _ => rfl
  | p :: l, now => by rw [List.foldl_cons, updH_len l]; simp [updH]
/-! ### the acts -/
def actH (c : Config) (s : Int) (p : Int × List UInt8) : Act45 := ⟨memF c s p.1, 1, s + 1, p.2⟩
/-! ### blocks written -/
/- Plain law: HomeEven. -/

theorem updH_mem : ∀ (l : List (Int × List UInt8)) (now : List (List UInt8)), (∀ p ∈ l, p.2.length = 128) → (∀ b ∈ now, b.length = 128) → ∀ b ∈ l.foldl updH now, b.length = 128
  | [], _, _, h => h
  | p :: l, now, hl, h => updH_mem l _ (fun q hq => hl q (by simp [hq])) (fun b hb => by
    rcases List.mem_or_eq_of_mem_set hb with hb | rfl
    · exact h b hb
    · exact hl p (by simp))
theorem pairs_ok {c : Config} {d : Deal} (ok : OkDeal c d) : ∀ p ∈ pairsH d, (∃ k : Nat, p.1 = (k : Int) ∧ k < mN c - 1) ∧ p.2.length = 128 := fun p hp => by
  unfold pairsH at hp
  have h1 := List.of_mem_zip (show (p.1, p.2) ∈ d.Slots.zip (d.Blocks.map fullB) from hp)
  refine ⟨ok.sl _ h1.1, ?_⟩
  obtain ⟨b, hb, he⟩ := List.mem_map.1 h1.2
  rw [← he]
  exact fullB_len (ok.bs b hb)
theorem foldl_nat : ∀ (l : List (Int × List UInt8)) (now : List (List UInt8)), (l.map fun p => (p.1.toNat, p.2)).foldl (fun n p => n.set p.1 p.2) now = l.foldl updH now
  | [], _ => rfl
  | p :: l, now => by rw [List.map_cons, List.foldl_cons, List.foldl_cons]; exact foldl_nat l _
theorem foldl_snoc_set : ∀ (l : List (Int × List UInt8)) (now : List (List UInt8)) (x : List UInt8), (∀ p ∈ l, p.1.toNat < now.length) → l.foldl updH (now ++ [x]) = l.foldl updH now ++ [x]
  | [], _, _, _ => rfl
  | p :: l, now, x, h => by
    rw [List.foldl_cons, List.foldl_cons]
    have : updH (now ++ [x]) p = updH now p ++ [x] := by
      unfold updH
      rw [List.set_append_left _ _ (h p (by simp))]
    rw [this]
    exact foldl_snoc_set l _ x (fun q hq => by unfold updH; rw [List.length_set]; exact h q (by simp [hq]))

theorem mayAct_w {m s : Nat} {data : List UInt8} {ns : List Nat} {nb : Nat} (hm : ns[m]? = some nb) (hs : s + 1 < nb) (hd : data.length = 128) : mayAct ⟨(m : Int), 1, (s : Int) + 1, data⟩ ns = true := by
  have hl : m < ns.length := (List.getElem?_eq_some_iff.1 hm).1
  have hg : ns.getD m 0 = nb := by rw [List.getD_eq_getElem?_getD, hm]; rfl
  unfold mayAct outA szB
  simp only [Int.toNat_natCast, hg, hd]
  have h1 : ¬ (m : Int) < 0 := by omega
  have h2 : ¬ (m : Int) ≥ (ns.length : Int) := by omega
  have h3 : 0 ≤ (s : Int) + 1 := by omega
  have h4 : (s : Int) + 1 < (nb : Int) := by omega
  simp only [decide_eq_false h1, decide_eq_false h2, decide_eq_true h3, decide_eq_true h4]
  rfl

/- Plain law: power that fails. -/

/-! ### crashes -/
/- Plain law: ActsKept. -/

/- Plain law: a deal's acts, whoever is missing; members behind them. -/

def sloN (c : Config) (s m : Nat) : Nat := if (parF c (s : Int) + 1).toNat ≤ m then m - (parF c (s : Int) + 1).toNat else m + mN c - (parF c (s : Int) + 1).toNat
theorem sloN_lt {c : Config} (h : MayC c) (s : Nat) {m : Nat} (hm : m < mN c) : sloN c s m < mN c := by
  obtain ⟨h1, h2, h3, h4⟩ := parN h s
  unfold sloN
  split <;> omega
theorem mem_sloN {c : Config} (h : MayC c) (s : Nat) {m : Nat} (hm : m < mN c) : memN c s (sloN c s m) = m := by
  obtain ⟨h1, h2, h3, h4⟩ := parN h s
  unfold sloN memN
  split <;> split <;> omega
/-! ### the acts, whoever is missing -/
def goesH (c : Config) (s missing : Int) (p : Int × List UInt8) : Bool := !(memF c s p.1 == missing)
theorem hactsM_eq {c : Config} (hmc : MayC c) {d : Deal} (ok : OkDeal c d) (hp : d.Parity.length = 128) (missing : Int) :
    home_acts c missing d = some (((pairsH d ++ [(c.Members - 1, d.Parity)]).filter (goesH c d.Stripe missing)).map (actH c d.Stripe), 0) := by
  obtain ⟨s, hs, hsn⟩ := ok.s
  have hM := hmc.1
  have hMm : c.Members = (mN c : Int) := by unfold mN; omega
  have hw := wI_str hmc
  have hsN : c.Chunk * c.Rows = (sN c : Int) := by unfold sN; omega
  have hbl := ok.bl
  have hnn := ok.n
  have hlen : (pairsH d).length = d.Slots.length := by simp [pairsH]; omega
  have hask : ∀ k : Nat, k < mN c → askT c (s : Int) (k : Int) = true := fun k hk => by
    unfold askT
    simp only [Bool.and_eq_true, decide_eq_true_eq]
    omega
  unfold home_acts
  have := loop_run (step := fun q : Int × (List Act45) => home_acts_L2 c missing d q.1 q.2) (fun k => ((k : Int), (((pairsH d).take k).filter (goesH c d.Stripe missing)).map (actH c d.Stripe))) d.Slots.length (((pairsH d).filter (goesH c d.Stripe missing)).map (actH c d.Stripe)) (fuel_ltD (by omega)) (fun k hk => by
    obtain ⟨j, hj, hjm⟩ := ok.sl _ (List.getElem_mem hk)
    have hb : k < d.Blocks.length := by omega
    have hbs := szB_len (ok.bs _ (List.getElem_mem hb))
    have hpk : (pairsH d)[k]? = some ((j : Int), fullB d.Blocks[k]) := by
      rw [List.getElem?_eq_getElem (by omega)]
      simp [pairsH, hj]
    have hfl : (((pairsH d).take k).filter (goesH c d.Stripe missing)).length ≤ k := by
      have := List.length_filter_le (goesH c d.Stripe missing) ((pairsH d).take k)
      simp at this; omega
    unfold home_acts_L2 home_acts_J4 home_acts_J3 slices_Clone_byte_byte
    simp only
    rw [decide_eq_true (by omega), idx_nat, List.getElem?_eq_getElem hk, idx_nat, List.getElem?_eq_getElem hb, hj]
    simp only [cond_true, Option.bind_some]
    rw [memberF hmc, hs, hask j (by omega)]
    simp only [cond_true, Option.bind_some]
    rw [app_some _ _ (by simp; omega), wI_succ (by omega), wI_id (x := (s : Int) + 1) (by omega) (by omega), take_succ_get _ _ _ hpk, List.filter_append, List.map_append]
    rw [show [((j : Int), fullB d.Blocks[k])].filter (goesH c (s : Int) missing) = bif memF c (s : Int) (j : Int) == missing then [] else [((j : Int), fullB d.Blocks[k])] by
      unfold goesH
      cases hg : (memF c (s : Int) (j : Int) == missing) <;> simp [List.filter, hg]]
    cases (memF c (s : Int) (j : Int) == missing) with
    | true => simp
    | false =>
      simp only [cond_false, Option.bind_some, List.nil_append]
      unfold actH fullB
      by_cases h0 : d.Blocks[k].length = 0
      · rw [show (((d.Blocks[k].length : Nat) : Int) == 0) = true by simp [h0], if_pos h0, show makeL (0 : UInt8) 128 = some (List.replicate 128 0) from makeL_some 0 128 (by omega)]
        simp only [cond_true, Option.bind_some]
        rw [hs] at hfl
        rw [app_some _ _ (by simp; omega)]; rfl
      · rw [show (((d.Blocks[k].length : Nat) : Int) == 0) = false by simpa using h0, if_neg h0]
        simp only [cond_false]
        rw [hs] at hfl
        rw [app_some _ _ (by simp; omega)]; rfl) (by
    unfold home_acts_L2
    simp only
    rw [decide_eq_false (by omega), List.take_of_length_le (by omega)]; rfl)
  have h0 : ((0 : Int), ([] : List Act45)) = (fun k : Nat => ((k : Int), (((pairsH d).take k).filter (goesH c d.Stripe missing)).map (actH c d.Stripe))) 0 := by simp
  rw [h0, this]
  have hM1 : wI (c.Members - 1) = ((mN c - 1 : Nat) : Int) := by rw [wI_id (by omega) (by omega)]; omega
  have hM' : c.Members - 1 = ((mN c - 1 : Nat) : Int) := by omega
  have hfl : ((pairsH d).filter (goesH c d.Stripe missing)).length ≤ 16 := by
    have := List.length_filter_le (goesH c d.Stripe missing) (pairsH d)
    omega
  simp only [Option.bind_some]
  rw [hM1, memberF hmc, hs, hask _ (by omega)]
  simp only [cond_true, Option.bind_some]
  unfold home_acts_J6 home_acts_J5 home_acts_J1 slices_Clone_byte_byte
  rw [app_some _ _ (by simp; omega), List.filter_append, List.map_append, hM', ← hs]
  rw [show [(((mN c - 1 : Nat) : Int), d.Parity)].filter (goesH c d.Stripe missing) = bif memF c d.Stripe ((mN c - 1 : Nat) : Int) == missing then [] else [(((mN c - 1 : Nat) : Int), d.Parity)] by
    unfold goesH
    cases hg : (memF c d.Stripe ((mN c - 1 : Nat) : Int) == missing) <;> simp [List.filter, hg]]
  cases (memF c d.Stripe ((mN c - 1 : Nat) : Int) == missing) with
  | true => simp
  | false =>
    simp only [cond_false, Option.bind_some, List.nil_append]
    rw [show (((d.Parity.length : Nat) : Int) == 0) = false from beq_eq_false_iff_ne.2 (by omega)]
    simp only [cond_false]
    rw [app_some _ _ (by simp; omega), wI_id (x := d.Stripe + 1) (by omega) (by omega)]; rfl

/-! ### writes at a place -/
def act2 (s : Nat) (p : Nat × List UInt8) : Act45 := ⟨(p.1 : Int), 1, (s : Int) + 1, p.2⟩
/- Plain law: HomeAgain. -/

theorem dealcheck_par {c : Config} (hc : MayC c) (d : Deal) (h1 : d.Slots.length ≤ 100) (h2 : d.Blocks.length ≤ 100) (h : deal_Check c d = some 0) : szB d.Parity = true := by
  obtain ⟨b, hb, hb2⟩ := slots_eq hc d.Slots (by omega)
  have hs := wI_str hc
  unfold deal_Check at h
  rw [stripesF, (mayC_iff c).2 hc] at h
  simp only [cond_true, Option.bind_some, bne_self_eq_false, cond_false] at h
  rw [odd13_eq _ (by omega)] at h
  simp only [Option.bind_some] at h
  rw [sz_ne d.Parity, hb] at h
  cases hz : szB d.Parity with
  | true => rfl
  | false =>
    rw [hz] at h
    cases hq : ((d.Blocks.any fun b => !szB b) || decide (d.Stripe < 0)) || decide (d.Stripe ≥ c.Chunk * c.Rows) with
    | true => rw [hq] at h; simp [gO] at h
    | false => rw [hq] at h; simp [gO] at h

/-! ### what a member holds -/
def pickW (slot : Int) (w : List UInt8) (p : Int × List UInt8) : List UInt8 := bif p.1 == slot then p.2 else w
theorem pick_last (slot : Int) : ∀ (l : List (Int × List UInt8)) (w : List UInt8), l.foldl (pickW slot) w = ((l.filter fun p => p.1 == slot).getLast?).elim w (·.2)
  | [], _ => rfl
  | p :: l, w => by
    rw [List.foldl_cons, pick_last slot l, List.filter_cons]
    unfold pickW
    cases hp : (p.1 == slot) with
    | false => simp
    | true =>
      simp only [cond_true, if_true]
      cases hf : l.filter fun p => p.1 == slot with
      | nil => rfl
      | cons q l' => rw [List.getLast?_cons_cons, List.getLast?_eq_some_getLast (show q :: l' ≠ [] by simp)]; rfl
theorem pick_full (slot : Int) : ∀ (a : List Int) (b : List (List UInt8)) (w : List UInt8), fullB ((a.zip b).foldl (pickW slot) w) = (a.zip (b.map fullB)).foldl (pickW slot) (fullB w)
  | [], _, _ => rfl
  | _ :: _, [], _ => rfl
  | x :: a, y :: b, w => by
    simp only [List.zip_cons_cons, List.map_cons, List.foldl_cons]
    rw [pick_full slot a b]
    unfold pickW
    cases (x == slot) <;> rfl
/-- What the stripe's place holds on a member, of all that is written there. -/
def writesH (c : Config) (s : Nat) (missing : Int) (d : Deal) : List (Nat × List UInt8) := ((pairsH d ++ [(c.Members - 1, d.Parity)]).filter (goesH c (s : Int) missing)).map fun p => (memN c s p.1.toNat, p.2)
/- Plain law: losses. -/

def okL (c : Config) (l : Loss) : Bool :=
  decide ((l.Events.toNat : Int) ≤ 2147483648 ∧ -1 ≤ l.Lost ∧ l.Lost < c.Members ∧ 0 ≤ l.Done ∧ l.Done ≤ l.Pos ∧ l.Pos ≤ c.Chunk * c.Rows ∧ ¬ (l.Spare = true ∧ l.Lost = -1) ∧ (l.Spare = true ∨ l.Pos ≤ 0))
def chk (c : Config) (l : Loss) : Int := bif mayC c && okL c l then 0 else 8
theorem chk_1 (c : Config) (l : Loss) : loss_Check c l = some (chk c l) := by
  unfold loss_Check chk
  rw [stripes_eq]
  cases hc : mayC c with
  | false => simp
  | true =>
    simp only [cond_true, Option.bind_some, Bool.true_and, show ((0 : Int) != 0) = false from rfl, Bool.false_or, show ((2147483648 : UInt32).toNat : Int) = 2147483648 from rfl]
    cases ho : okL c l with
    | true =>
      simp only [okL, decide_eq_true_eq] at ho
      obtain ⟨h1, h2, h3, h4, h5, h6, h7, h8⟩ := ho
      have e1 : (((((decide ((l.Events.toNat : Int) > 2147483648) || decide (l.Lost < -1)) || decide (l.Lost ≥ c.Members)) || decide (l.Done < 0)) || decide (l.Done > l.Pos)) || decide (l.Pos > c.Chunk * c.Rows)) = false := by simp; omega
      have e2 : ((l.Spare && (l.Lost == -1)) || (!l.Spare && decide (l.Pos > 0))) = false := by
        cases hs : l.Spare <;> simp [hs] at h7 h8 ⊢ <;> omega
      rw [e1, e2]; rfl
    | false =>
      simp only [okL, decide_eq_false_iff_not] at ho
      cases e1 : (((((decide ((l.Events.toNat : Int) > 2147483648) || decide (l.Lost < -1)) || decide (l.Lost ≥ c.Members)) || decide (l.Done < 0)) || decide (l.Done > l.Pos)) || decide (l.Pos > c.Chunk * c.Rows)) with
      | true => rfl
      | false =>
        have e2 : ((l.Spare && (l.Lost == -1)) || (!l.Spare && decide (l.Pos > 0))) = true := by
          simp at e1
          cases hs : l.Spare <;> simp [hs] at ho ⊢ <;> omega
        rw [e2]; rfl
theorem chk_cases (c : Config) (l : Loss) : chk c l = 8 ∨ (chk c l = 0 ∧ MayC c ∧ okL c l = true) := by
  unfold chk
  cases h1 : mayC c with
  | false => exact .inl rfl
  | true => cases h2 : okL c l with
    | false => exact .inl rfl
    | true => exact .inr ⟨rfl, (mayC_iff c).1 h1, rfl⟩

theorem stripes_may {c : Config} (h : MayC c) : shape_Stripes c = some (c.Chunk * c.Rows, 0) := by rw [stripes_eq, (mayC_iff c).2 h]; rfl

/- Plain law: what redo.Acts answers. -/

/-! ### lists of numbers -/
theorem indexI_eq (l : List Int) (f : Int → Option Bool) (p : Int → Bool) (hl : l.length < 4294967296) (hf : ∀ x ∈ l, f x = some (p x)) :
    ∃ i, slices_IndexFunc_int_int l f = some i ∧ ((∃ k : Nat, i = (k : Int) ∧ ∃ hk : k < l.length, p l[k] = true ∧ ∀ j (hj : j < l.length), j < k → p l[j] = false) ∨ (i = -1 ∧ ∀ x ∈ l, p x = false)) := by
  unfold slices_IndexFunc_int_int
  obtain ⟨b, hb, hq⟩ := loop_first l p (step := fun s : Int => slices_IndexFunc_int_int_L1 l f s) (fun k => Sum.inr (k : Int)) (Sum.inl ()) hl (fun k hk => by
      unfold slices_IndexFunc_int_int_L1
      rw [decide_eq_true (show (k : Int) < (l.length : Int) by omega), idx_nat, List.getElem?_eq_getElem hk, wI_succ (by omega)]
      simp only [cond_true, Option.bind_some, hf l[k] (List.getElem_mem _)]
      cases p l[k] <;> rfl) (by
      unfold slices_IndexFunc_int_int_L1
      rw [decide_eq_false (show ¬(l.length : Int) < (l.length : Int) by omega)]; rfl)
  rw [hb]
  rcases hq with ⟨k, rfl, hk, hp, hm⟩ | ⟨rfl, hn⟩
  · exact ⟨_, rfl, .inl ⟨k, rfl, hk, hp, hm⟩⟩
  · exact ⟨_, rfl, .inr ⟨rfl, hn⟩⟩
def keepI (st : Int) (x : Int) : Bool := !(x == st)
theorem delI_loop (f : Found) (l : List Int) (i0 : Nat) (hi : i0 < l.length) (hl : l.length ≤ 100000) (h0 : ∀ j (hj : j < l.length), j < i0 → (l[j] == f.Deal.Stripe) = false) (h1 : (l[i0] == f.Deal.Stripe) = true) :
    ∃ s : List Int, loopM (fun s : (List Int) × Int × Int => redo_Acts_L8 f s.1 s.2.1 s.2.2) FUEL (l, ((i0 : Nat) : Int), (((i0 + 1 : Nat)) : Int)) = some (s, (((l.filter (keepI f.Deal.Stripe)).length : Nat) : Int)) ∧
      s.length = l.length ∧ s.take (l.filter (keepI f.Deal.Stripe)).length = l.filter (keepI f.Deal.Stripe) := by
  generalize hst : f.Deal.Stripe = st at h0 h1
  have hf0 : (l.take (i0 + 1)).filter (keepI st) = l.take i0 := by
    rw [take_succ_get _ _ _ (List.getElem?_eq_getElem hi), List.filter_append]
    have ha : (l.take i0).filter (keepI st) = l.take i0 := by
      rw [List.filter_eq_self]
      intro w hw
      obtain ⟨j, hj, rfl⟩ := List.getElem_of_mem hw
      rw [List.getElem_take]
      unfold keepI
      rw [h0 j (by simp at hj; omega) (by simp at hj; omega)]; rfl
    rw [ha]
    simp [keepI, h1]
  obtain ⟨b, hb, hq⟩ := loop_inv (step := fun s : (List Int) × Int × Int => redo_Acts_L8 f s.1 s.2.1 s.2.2) l.length
    (fun k s => s.1.length = l.length ∧ s.2.1 = ((((l.take k).filter (keepI st)).length : Nat) : Int) ∧ s.2.2 = (k : Int) ∧ i0 + 1 ≤ k ∧ ((l.take k).filter (keepI st)).length < k ∧ s.1.take ((l.take k).filter (keepI st)).length = (l.take k).filter (keepI st) ∧ s.1.drop k = l.drop k)
    (fun b => b.2 = (((l.filter (keepI st)).length : Nat) : Int) ∧ b.1.length = l.length ∧ b.1.take (l.filter (keepI st)).length = l.filter (keepI st))
    (fun k s hk hI => by
      obtain ⟨s1, s2, s3⟩ := s
      obtain ⟨e1, e2, e3, e4, e5, e6, e7⟩ := hI
      simp only at e1 e2 e3 e4 e5 e6 e7
      subst e2; subst e3
      show (∃ s', redo_Acts_L8 f s1 _ (k : Int) = some (.next s') ∧ _) ∨ ∃ b, redo_Acts_L8 f s1 _ (k : Int) = some (.brk b) ∧ _
      unfold redo_Acts_L8 redo_Acts_J10 redo_Acts_J9
      rw [hst]
      by_cases hlt : k < l.length
      · have hget : s1[k]? = some l[k] := by
          have := congrArg (fun x => x[0]?) e7
          simpa [hlt] using this
        rw [decide_eq_true (by omega), idx_nat, hget]
        simp only [cond_true, Option.bind_some]
        rw [wI_succ (show k < 9223372036854775807 by omega)]
        have htk : l.take (k + 1) = l.take k ++ [l[k]] := take_succ_get _ _ _ (List.getElem?_eq_getElem hlt)
        refine .inl ?_
        cases hat : (l[k] == st) with
        | true =>
          have hkp : (l.take (k + 1)).filter (keepI st) = (l.take k).filter (keepI st) := by rw [htk, List.filter_append]; simp [keepI, hat]
          refine ⟨_, rfl, hlt, e1, ?_, rfl, by omega, ?_, ?_, ?_⟩
          · rw [hkp]
          · rw [hkp]; omega
          · rw [hkp]; exact e6
          · simp only
            rw [← List.drop_drop, ← List.drop_drop, e7]
        | false =>
          have hkp : (l.take (k + 1)).filter (keepI st) = (l.take k).filter (keepI st) ++ [l[k]] := by rw [htk, List.filter_append]; simp [keepI, hat]
          have hcl : ((l.take k).filter (keepI st)).length < s1.length := by omega
          rw [bnd_nat hcl, wI_succ (show ((l.take k).filter (keepI st)).length < 9223372036854775807 by omega)]
          refine ⟨_, rfl, hlt, by simpa using e1, ?_, rfl, by omega, ?_, ?_, ?_⟩
          · rw [hkp, List.length_append]; rfl
          · rw [hkp, List.length_append]; simp; omega
          · rw [hkp, List.length_append]
            simp only [List.length_singleton]
            rw [take_succ_get _ _ l[k] (by rw [List.getElem?_set]; simp [hcl]), List.take_set_of_le (Nat.le_refl _), e6]
          · simp only
            rw [List.drop_set_of_lt (by omega), ← List.drop_drop, ← List.drop_drop, e7]
      · obtain rfl : k = l.length := by omega
        rw [decide_eq_false (by omega)]
        rw [List.take_length] at e6 ⊢
        exact .inr ⟨_, rfl, rfl, e1, e6⟩)
    FUEL (i0 + 1) (l, (i0 : Int), ((i0 + 1 : Nat) : Int)) (by omega) (by have := fuel_ltD (show l.length < 4294967296 by omega); omega)
    ⟨rfl, by rw [hf0]; simp; omega, rfl, Nat.le_refl _, by rw [hf0]; simp; omega, by rw [hf0]; simp, rfl⟩
  exact ⟨b.1, by rw [hb, ← hq.1], hq.2.1, hq.2.2⟩

/-! ### the place of a number -/
theorem half_eq {i j : Nat} (h : i + j < 9223372036854775807) : wI ((shrQ (scQ.of (wI ((i : Int) + (j : Int)))) 1).toNat : Int) = (((i + j) / 2 : Nat) : Int) := by
  rw [wI_id (x := (i : Int) + (j : Int)) (by omega) (by omega)]
  have e1 : (scQ.of ((i : Int) + (j : Int))).toNat = i + j := by
    unfold scQ.of
    rw [show (((i : Int) + (j : Int)) % 18446744073709551616).toNat = i + j by omega]
    exact UInt64.toNat_ofNat_of_lt' (show i + j < UInt64.size by show _ < 18446744073709551616; omega)
  have e2 : (shrQ (scQ.of ((i : Int) + (j : Int))) 1).toNat = (i + j) / 2 := by
    unfold shrQ
    rw [e1]
    show (UInt64.ofNat ((i + j) / 2)).toNat = _
    exact UInt64.toNat_ofNat_of_lt' (show (i + j) / 2 < UInt64.size by show _ < 18446744073709551616; omega)
  rw [e2, wI_id (by omega) (by omega)]
theorem less_eq (a b : Int) : cmp_Less_int a b = some (decide (a < b)) := by
  unfold cmp_Less_int cmp_isNaN_int
  simp [gO]
theorem bs_eq (l : List Int) (x : Int) (hl : l.length ≤ 1000000) : ∃ (i : Nat) (b : Bool), slices_BinarySearch_int_int l x = some ((i : Int), b) ∧ i ≤ l.length ∧ (b = true → i < l.length) := by
  unfold slices_BinarySearch_int_int
  obtain ⟨b, hb, i, rfl, hi⟩ := loop_inv (step := fun s : Int × Int => slices_BinarySearch_int_int_L1 l x s.1 s.2) l.length
    (fun k s => ∃ i j : Nat, s = ((i : Int), (j : Int)) ∧ i ≤ j ∧ j + k ≤ l.length + i ∧ j ≤ l.length) (fun b => ∃ i : Nat, b = (i : Int) ∧ i ≤ l.length) (fun k s hk hI => by
      obtain ⟨i, j, rfl, h1, h2, h3⟩ := hI
      show (∃ s', slices_BinarySearch_int_int_L1 l x (i : Int) (j : Int) = some (.next s') ∧ _) ∨ ∃ b, slices_BinarySearch_int_int_L1 l x (i : Int) (j : Int) = some (.brk b) ∧ _
      unfold slices_BinarySearch_int_int_L1
      rw [half_eq (by omega)]
      by_cases hlt : i < j
      · have hm : (i + j) / 2 < l.length := by omega
        rw [decide_eq_true (by omega), idx_nat, List.getElem?_eq_getElem hm, cond_true, Option.bind_some, less_eq, Option.bind_some, wI_succ (by omega)]
        refine .inl ?_
        cases decide (l[(i + j) / 2] < x) with
        | true => exact ⟨_, rfl, by omega, (i + j) / 2 + 1, j, rfl, by omega, by omega, h3⟩
        | false => exact ⟨_, rfl, by omega, i, (i + j) / 2, rfl, by omega, by omega, by omega⟩
      · rw [decide_eq_false (by omega), cond_false]
        exact .inr ⟨_, rfl, i, rfl, by omega⟩)
    FUEL 0 ((0 : Int), (l.length : Int)) (Nat.zero_le _) (by unfold FUEL; omega) ⟨0, l.length, rfl, by omega, by omega, Nat.le_refl _⟩
  rw [hb, Option.bind_some]
  by_cases hlt : i < l.length
  · rw [decide_eq_true (show (i : Int) < (l.length : Int) by omega), idx_nat, List.getElem?_eq_getElem hlt]
    simp only [gO, cond_true, Option.bind_some, Bool.true_and, slices_isNaN_int]
    cases hx : (l[i] == x) with
    | true => exact ⟨i, true, by simp, hi, fun _ => hlt⟩
    | false => exact ⟨i, false, by simp, hi, fun h => by cases h⟩
  · rw [decide_eq_false (show ¬(i : Int) < (l.length : Int) by omega)]
    exact ⟨i, false, by simp [gO], hi, fun h => by cases h⟩
theorem insAt_some {α : Type} (l : List α) (i : Nat) (y : α) (h : i ≤ l.length) (hl : l.length + 1 < 4294967296) : ∃ r, insAt l (i : Int) y = some r ∧ r.length = l.length + 1 := by
  unfold insAt
  rw [if_pos (by omega)]
  exact ⟨_, rfl, by simp; omega⟩
theorem bclone_eq {b : List UInt8} (h : b.length < 4294967296) : bytes_Clone b = some b := by
  unfold bytes_Clone
  rw [app_some _ _ (by simpa using h), Option.bind_some, List.nil_append]

/-! ### one deal taken -/
theorem slots_loop (f : Found) (hb : f.Deal.Blocks.length = f.Deal.Slots.length) (hs : f.Deal.Slots.length ≤ 16) (hsz : ∀ b ∈ f.Deal.Blocks, szB b = true) (n : Nat) (hn : n ≤ 100000) (l1 : List Int) (l2 : List (List UInt8)) (h1 : l1.length = l2.length) (h2 : l1.length ≤ n) :
    ∃ r : List Int × List (List UInt8), loopM (fun s : Int × (List Int) × (List (List UInt8)) => redo_Acts_L12 f s.1 s.2.1 s.2.2) FUEL ((0 : Int), l1, l2) = some r ∧ r.1.length = r.2.length ∧ r.1.length ≤ n + 16 := by
  obtain ⟨b, hb', hq⟩ := loop_inv (step := fun s : Int × (List Int) × (List (List UInt8)) => redo_Acts_L12 f s.1 s.2.1 s.2.2) f.Deal.Slots.length
    (fun k s => s.1 = (k : Int) ∧ s.2.1.length = s.2.2.length ∧ s.2.1.length ≤ n + k) (fun b => b.1.length = b.2.length ∧ b.1.length ≤ n + 16) (fun k s hk hI => by
      obtain ⟨s0, s1, s2⟩ := s
      obtain ⟨e1, e2, e3⟩ := hI
      simp only at e1 e2 e3
      subst e1
      show (∃ s', redo_Acts_L12 f (k : Int) s1 s2 = some (.next s') ∧ _) ∨ ∃ b, redo_Acts_L12 f (k : Int) s1 s2 = some (.brk b) ∧ _
      unfold redo_Acts_L12 redo_Acts_J13
      by_cases hlt : k < f.Deal.Slots.length
      · have hbk : k < f.Deal.Blocks.length := by omega
        have hc := szB_len (hsz _ (List.getElem_mem hbk))
        obtain ⟨i, is, hbs, hi, his⟩ := bs_eq s1 f.Deal.Slots[k] (by omega)
        rw [decide_eq_true (by omega), idx_nat, List.getElem?_eq_getElem hlt, cond_true, Option.bind_some, hbs, Option.bind_some, wI_succ (by omega)]
        refine .inl ?_
        cases is with
        | true =>
          have hil := his rfl
          refine ⟨_, by
            rw [show (!((i : Int), true).2) = false from rfl, cond_false, idx_nat, List.getElem?_eq_getElem hbk, Option.bind_some, bclone_eq hc, Option.bind_some, bnd_nat (by omega), Option.bind_some], hlt, rfl, by simp only [List.length_set]; exact e2, by simp only; omega⟩
        | false =>
          obtain ⟨r1, hr1, hl1⟩ := insAt_some s1 i f.Deal.Slots[k] hi (by omega)
          obtain ⟨r2, hr2, hl2⟩ := insAt_some s2 i ([] : List UInt8) (by omega) (by omega)
          refine ⟨_, by
            rw [show (!((i : Int), false).2) = true from rfl, cond_true, hr1, Option.bind_some, hr2, Option.bind_some, idx_nat, List.getElem?_eq_getElem hbk, Option.bind_some, bclone_eq hc, Option.bind_some, bnd_nat (by omega), Option.bind_some], hlt, rfl, by simp only [List.length_set]; omega, by simp only; omega⟩
      · obtain rfl : k = f.Deal.Slots.length := by omega
        rw [decide_eq_false (by omega), cond_false]
        exact .inr ⟨_, rfl, e2, by show s1.length ≤ n + 16; omega⟩)
    FUEL 0 ((0 : Int), l1, l2) (Nat.zero_le _) (by unfold FUEL; omega) ⟨rfl, h1, by simp only; omega⟩
  exact ⟨b, hb', hq⟩
/-- What a list of rests comes to behind some deals. -/
structure InvL (n : Nat) (L : List DRow) : Prop where
  len : L.length ≤ n
  nd : (L.map (·.1)).Nodup
  el : ∀ d ∈ L, d.2.1.length = d.2.2.length ∧ d.2.1.length ≤ 16 * n
theorem InvL.mono {n m : Nat} {L : List DRow} (h : InvL n L) (hm : n ≤ m) : InvL m L := ⟨by have := h.len; omega, h.nd, fun d hd => ⟨(h.el d hd).1, by have := (h.el d hd).2; omega⟩⟩
theorem InvL.del {n : Nat} {L : List DRow} (h : InvL n L) (s : Int) : InvL n (delK L s) := by
  have hs : (delK L s).Sublist L := List.filter_sublist
  exact ⟨Nat.le_trans hs.length_le h.len, delK_nodup h.nd, fun d hd => h.el d (hs.subset hd)⟩
theorem getK_mem {L : List DRow} {s : Int} (h : hasK L s = true) : getK L s ∈ L := by
  unfold hasK at h
  unfold getK
  obtain ⟨x, hx, hp⟩ := List.any_eq_true.1 h
  cases hf : L.find? (fun d => d.1 == s) with
  | none => have := List.find?_eq_none.1 hf x hx; exact absurd hp this
  | some y => exact List.mem_of_find?_eq_some hf
theorem InvL.set {n : Nat} {L : List DRow} (h : InvL n L) (s : Int) {l1 : List Int} {l2 : List (List UInt8)} (h1 : l1.length = l2.length) (h2 : l1.length ≤ 16 * n) : InvL n (putK L s (s, l1, l2)) := by
  refine ⟨?_, ?_, fun d hd => ?_⟩
  · unfold putK; rw [List.length_map]; exact h.len
  · rw [putK_keys (dn := (s, l1, l2)) rfl]; exact h.nd
  · unfold putK at hd
    obtain ⟨x, hx, rfl⟩ := List.mem_map.1 hd
    cases (x.1 == s) with
    | true => exact ⟨h1, h2⟩
    | false => exact h.el x hx
theorem InvL.new {n : Nat} {L : List DRow} (h : InvL n L) {s : Int} (hs : hasK L s = false) : InvL (n + 1) (L ++ [(s, [], [])]) := by
  refine ⟨by simp; exact h.len, ?_, fun d hd => ?_⟩
  · rw [List.map_append, List.nodup_append]
    refine ⟨h.nd, by simp, fun a ha b hb => ?_⟩
    have hb : b = s := by simpa using hb
    subst hb
    exact fun e => hasK_notin hs (by rw [← e]; exact ha)
  · rcases List.mem_append.1 hd with hd | hd
    · exact ⟨(h.el d hd).1, by have := (h.el d hd).2; omega⟩
    · rw [List.mem_singleton.1 hd]; exact ⟨rfl, Nat.zero_le _⟩
theorem delK_map (L : List DRow) (s : Int) : (delK L s).map (·.1) = (L.map (·.1)).filter (keepI s) := by
  unfold delK
  rw [List.filter_map]; rfl
theorem del_order (f : Found) (L : List DRow) (h : hasK L f.Deal.Stripe = true) (hl : L.length ≤ 100000) {X : Type} (J : List Int → Option X) :
    Option.bind (slices_IndexFunc_int_int (L.map (·.1)) (fun y => redo_rests_take_1 y f.Deal)) (fun x32 => (bif (x32 == (-1 : Int)) then J (L.map (·.1)) else Option.bind (loopM (fun s : (List Int) × Int × Int => redo_Acts_L8 f s.1 s.2.1 s.2.2) FUEL (L.map (·.1), x32, (wI (x32 + (1 : Int))))) (fun b41 => Option.bind (slc b41.1 b41.2 (b41.1).length) (fun _ => Option.bind (slc ((b41.1).take (Int.toNat b41.2) ++ List.replicate ((b41.1).length - (Int.toNat b41.2)) (0 : Int)) 0 b41.2) (fun x43 => J x43))))) = J ((delK L f.Deal.Stripe).map (·.1)) := by
  have hll : (L.map (·.1)).length = L.length := List.length_map _
  obtain ⟨i, hi, hq⟩ := indexI_eq (L.map (·.1)) (fun y => redo_rests_take_1 y f.Deal) (fun y => y == f.Deal.Stripe) (by omega) (fun x _ => rfl)
  rw [hi, Option.bind_some]
  rcases hq with ⟨i0, rfl, hi0, h1, h0⟩ | ⟨rfl, hn⟩
  · rw [show (((i0 : Nat) : Int) == -1) = false from beq_eq_false_iff_ne.2 (by omega), cond_false, wI_succ (by omega)]
    obtain ⟨s, hs1, hs2, hs3⟩ := delI_loop f (L.map (·.1)) i0 hi0 (by omega) h0 h1
    rw [hs1, Option.bind_some, delK_map]
    have hfl : ((L.map (·.1)).filter (keepI f.Deal.Stripe)).length ≤ (L.map (·.1)).length := List.length_filter_le _ _
    unfold slc
    rw [if_pos (by simp only; omega), Option.bind_some]
    simp only [Int.toNat_natCast]
    rw [if_pos (by simp only [List.length_append, List.length_take, List.length_replicate]; omega), Option.bind_some]
    congr 1
    rw [List.take_append_of_le_length (by rw [List.length_take]; omega), List.take_take, Nat.min_self, hs3]; simp
  · exfalso
    unfold hasK at h
    obtain ⟨x, hx, hp⟩ := List.any_eq_true.1 h
    have := hn x.1 (List.mem_map.2 ⟨x, hx, rfl⟩)
    rw [hp] at this; cases this

/-! ### acts of deals -/
def parB (f : Found) : Bool := decide (0 < f.Deal.Parity.length)
def missR (l : Loss) (s : Int) : Int := bif l.Spare && decide (s < l.Pos) then -1 else l.Lost
def hActs (c : Config) (l : Loss) (d : Deal) : List Act45 := ((pairsH d ++ [(c.Members - 1, d.Parity)]).filter (goesH c d.Stripe (missR l d.Stripe))).map (actH c d.Stripe)
def actsR (c : Config) (l : Loss) (fs : List Found) : List Act45 := (fs.filter parB).flatMap fun f => hActs c l f.Deal
theorem actsR_snoc (c : Config) (l : Loss) (fs : List Found) (f : Found) : actsR c l (fs ++ [f]) = bif parB f then actsR c l fs ++ hActs c l f.Deal else actsR c l fs := by
  unfold actsR
  rw [List.filter_append, List.flatMap_append]
  cases h : parB f <;> simp [List.filter, h]
theorem actsR_app (c : Config) (l : Loss) (a b : List Found) : actsR c l (a ++ b) = actsR c l a ++ actsR c l b := by
  unfold actsR
  rw [List.filter_append, List.flatMap_append]
theorem missP {c : Config} {l : Loss} (hc : MayC c) (ho : okL c l = true) {s : Int} (h0 : 0 ≤ s) (h1 : s < c.Chunk * c.Rows) : loss_Missing c l s = some (missR l s, 0) := by
  unfold loss_Missing loss_Missing_J1 missR
  have : chk c l = 0 := by unfold chk; rw [(mayC_iff c).2 hc, ho]; rfl
  rw [chk_1, this, stripes_may hc]
  simp only [Option.bind_some, show ((0 : Int) != 0) = false from rfl, cond_false]
  rw [decide_eq_false (show ¬ s < 0 by omega), decide_eq_false (show ¬ s ≥ c.Chunk * c.Rows by omega)]
  cases (l.Spare && decide (s < l.Pos)) <;> rfl
theorem missR_in {c : Config} {l : Loss} (hc : MayC c) (ho : okL c l = true) (s : Int) : -1 ≤ missR l s ∧ missR l s < c.Members := by
  simp only [okL, decide_eq_true_eq] at ho
  obtain ⟨_, h2, h3, _⟩ := ho
  have := hc.1
  unfold missR
  cases (l.Spare && decide (s < l.Pos)) with
  | true => exact ⟨Int.le_refl (-1), by show (-1 : Int) < c.Members; omega⟩
  | false => exact ⟨h2, h3⟩
theorem hActs_len (c : Config) (l : Loss) (d : Deal) (h : d.Slots.length ≤ 16) : (hActs c l d).length ≤ 17 := by
  unfold hActs
  rw [List.length_map]
  have := List.length_filter_le (goesH c d.Stripe (missR l d.Stripe)) (pairsH d ++ [(c.Members - 1, d.Parity)])
  have h2 : (pairsH d).length ≤ d.Slots.length := by unfold pairsH; simp; omega
  rw [List.length_append, List.length_singleton] at this
  omega
/-- A deal that may be, as deal.Check tells. -/
def GoodF (c : Config) (f : Found) : Prop := deal_Check c f.Deal = some 0 ∧ OkDeal c f.Deal ∧ szB f.Deal.Parity = true
theorem again_eq {c : Config} {l : Loss} (hc : MayC c) (ho : okL c l = true) {f : Found} (h : GoodF c f) (hp : parB f = true) : home_Again c (missR l f.Deal.Stripe) f.Deal = some (hActs c l f.Deal, 0) := by
  obtain ⟨h1, h2, h3⟩ := h
  obtain ⟨m1, m2⟩ := missR_in hc ho f.Deal.Stripe
  have hpl : f.Deal.Parity.length = 128 := by
    unfold parB at hp
    unfold szB at h3
    simp at hp h3
    rcases h3 with h3 | h3
    · rw [h3] at hp; exact absurd hp (by simp)
    · exact h3
  unfold home_Again home_member
  rw [h1, Option.bind_some, show ((0 : Int) != 0) = false from rfl, cond_false, decide_eq_true (show missR l f.Deal.Stripe ≥ -1 by omega), decide_eq_true m2]
  rw [Option.bind_some, show (!(true && true)) = false from rfl, cond_false, show (((f.Deal.Parity.length : Nat) : Int) == 0) = false from beq_eq_false_iff_ne.2 (by omega), cond_false, hactsM_eq hc h2 hpl, Option.bind_some]
  rfl
theorem actsR_len (c : Config) (l : Loss) : ∀ fs : List Found, (∀ f ∈ fs, f.Deal.Slots.length ≤ 16) → (actsR c l fs).length ≤ 17 * fs.length
  | [], _ => Nat.le_refl _
  | f :: fs, h => by
    have h1 := actsR_len c l fs (fun g hg => h g (List.mem_cons_of_mem _ hg))
    have h2 := hActs_len c l f.Deal (h f (List.mem_cons_self ..))
    have : actsR c l (f :: fs) = actsR c l [f] ++ actsR c l fs := actsR_app c l [f] fs
    rw [this, List.length_append, List.length_cons]
    have h3 : (actsR c l [f]).length ≤ 17 := by
      have := actsR_snoc c l [] f
      rw [List.nil_append] at this
      rw [this]
      cases parB f with
      | true => simpa [actsR] using h2
      | false => simp [actsR]
    omega

theorem take_step {c : Config} {l : Loss} (hc : MayC c) (ho : okL c l = true) {fs : List Found} (hl : fs.length ≤ 300) (hg : ∀ f ∈ fs, GoodF c f) (k : Nat) (hk : k < fs.length) (L : List DRow) (hL : InvL k L) :
    ∃ L', InvL (k + 1) L' ∧ (parB fs[k] = true → L = [] → L' = []) ∧
      redo_Acts_L3 c l fs (k : Int) (actsR c l (fs.take k)) (L.map (·.1)) L = some (.next (((k + 1 : Nat) : Int), actsR c l (fs.take (k + 1)), L'.map (·.1), L')) := by
  have hgk := hg fs[k] (List.getElem_mem hk)
  have hok := hgk.2.1
  obtain ⟨s, hs, hsn⟩ := hok.s
  have hsN : c.Chunk * c.Rows = (sN c : Int) := by unfold sN; have := wI_str hc; omega
  have hal : (actsR c l (fs.take k)).length ≤ 17 * k := by
    have := actsR_len c l (fs.take k) (fun f hf => (hg f (List.mem_of_mem_take hf)).2.1.n)
    rw [List.length_take] at this; omega
  have htk : actsR c l (fs.take (k + 1)) = bif parB fs[k] then actsR c l (fs.take k) ++ hActs c l fs[k].Deal else actsR c l (fs.take k) := by
    rw [take_succ_get fs k fs[k] (List.getElem?_eq_getElem hk), actsR_snoc]
  -- what comes behind a deal is taken
  have J5 : ∀ (ord : List Int) (L' : List DRow), redo_Acts_J5 c l (k : Int) (actsR c l (fs.take k)) fs[k] ord L' = some (.next (((k + 1 : Nat) : Int), actsR c l (fs.take (k + 1)), ord, L')) := fun ord L' => by
    unfold redo_Acts_J5 redo_Acts_J4
    rw [htk, wI_succ (by omega)]
    cases hp : parB fs[k] with
    | false =>
      have : fs[k].Deal.Parity.length = 0 := by unfold parB at hp; simpa using hp
      rw [show (((fs[k].Deal.Parity.length : Nat) : Int) == 0) = true by rw [this]; rfl]
      rfl
    | true =>
      have : 0 < fs[k].Deal.Parity.length := by unfold parB at hp; simpa using hp
      rw [show (((fs[k].Deal.Parity.length : Nat) : Int) == 0) = false from beq_eq_false_iff_ne.2 (by omega), cond_false]
      rw [missP hc ho (by omega) (by omega), Option.bind_some, show ((0 : Int) != 0) = false from rfl, cond_false]
      have h17 := hActs_len c l fs[k].Deal hok.n
      rw [again_eq hc ho hgk hp, Option.bind_some, app_some _ _ (by simp only; omega), Option.bind_some]
      rfl
  unfold redo_Acts_L3
  rw [decide_eq_true (show (k : Int) < (fs.length : Int) by omega), cond_true, idx_nat, List.getElem?_eq_getElem hk, Option.bind_some]
  have hpd : decide (((fs[k].Deal.Parity.length : Nat) : Int) > 0) = parB fs[k] := by unfold parB; exact decide_eq_decide.2 (by omega)
  rw [hpd]
  have hlen := hL.len
  cases hp : parB fs[k] with
  | true =>
    rw [cond_true]
    cases hh : hasK L fs[k].Deal.Stripe with
    | true =>
      rw [cond_true]
      refine ⟨delK L fs[k].Deal.Stripe, (hL.del _).mono (Nat.le_succ _), fun _ h => by rw [h]; rfl, ?_⟩
      have := del_order fs[k] L hh (by omega) (fun o => redo_Acts_J7 c l (k : Int) (actsR c l (fs.take k)) L fs[k] o)
      refine this.trans ?_
      unfold redo_Acts_J7 redo_Acts_J6
      exact J5 _ _
    | false =>
      rw [cond_false]
      refine ⟨L, hL.mono (Nat.le_succ _), fun _ h => h, ?_⟩
      unfold redo_Acts_J6
      exact J5 _ _
  | false =>
    rw [cond_false]
    have J11 : ∀ (l1 : List Int) (l2 : List (List UInt8)) (ord : List Int) (L0 : List DRow), l1.length = l2.length → l1.length ≤ 16 * k → ord = L0.map (·.1) → InvL (k + 1) L0 →
        ∃ L', InvL (k + 1) L' ∧ redo_Acts_J11 c l (k : Int) (actsR c l (fs.take k)) fs[k] l1 l2 ord L0 = some (.next (((k + 1 : Nat) : Int), actsR c l (fs.take (k + 1)), L'.map (·.1), L')) := fun l1 l2 ord L0 e1 e2 e3 e4 => by
      subst e3
      obtain ⟨r, hr, hr1, hr2⟩ := slots_loop fs[k] hok.bl hok.n hok.bs (16 * k) (by omega) l1 l2 e1 e2
      refine ⟨putK L0 fs[k].Deal.Stripe (fs[k].Deal.Stripe, r.1, r.2), e4.set _ hr1 (by omega), ?_⟩
      unfold redo_Acts_J11
      rw [hr, Option.bind_some, putK_keys (dn := (fs[k].Deal.Stripe, r.1, r.2)) rfl]
      exact J5 _ _
    cases hh : hasK L fs[k].Deal.Stripe with
    | false =>
      rw [show (!false) = true from rfl, cond_true, app_some _ _ (by simp; omega), Option.bind_some]
      unfold newK
      rw [if_neg (by rw [hh]; simp), Option.bind_some]
      obtain ⟨L', h1, h2⟩ := J11 [] [] (L.map (·.1) ++ [fs[k].Deal.Stripe]) (L ++ [(fs[k].Deal.Stripe, [], [])]) rfl (Nat.zero_le _) (by simp) (hL.new hh)
      exact ⟨L', h1, fun h => (by cases h), h2⟩
    | true =>
      rw [show (!true) = false from rfl, cond_false]
      have hm := hL.el _ (getK_mem hh)
      obtain ⟨L', h1, h2⟩ := J11 _ _ (L.map (·.1)) L hm.1 hm.2 rfl (hL.mono (Nat.le_succ _))
      exact ⟨L', h1, fun h => (by cases h), h2⟩
theorem rest_loop (L : List DRow) (hl : L.length ≤ 1000) : ∃ r : List Deal, loopM (fun s : (List Deal) × Int => redo_Acts_L2 (L.map (·.1)) L s.1 s.2) FUEL (([] : List Deal), (0 : Int)) = some r ∧ r.length = L.length := by
  have hll : (L.map (·.1)).length = L.length := List.length_map _
  obtain ⟨b, hb, hq⟩ := loop_inv (step := fun s : (List Deal) × Int => redo_Acts_L2 (L.map (·.1)) L s.1 s.2) L.length
    (fun k s => s.2 = (k : Int) ∧ s.1.length = k) (fun b => b.length = L.length) (fun k s hk hI => by
      obtain ⟨s1, s2⟩ := s
      obtain ⟨e1, e2⟩ := hI
      simp only at e1 e2
      subst e1
      show (∃ s', redo_Acts_L2 (L.map (·.1)) L s1 (k : Int) = some (.next s') ∧ _) ∨ ∃ b, redo_Acts_L2 (L.map (·.1)) L s1 (k : Int) = some (.brk b) ∧ _
      unfold redo_Acts_L2
      by_cases hlt : k < L.length
      · have hh : hasK L L[k].1 = true := by
          unfold hasK
          exact List.any_eq_true.2 ⟨L[k], List.getElem_mem hlt, by simp⟩
        rw [decide_eq_true (by omega), cond_true, idx_nat, List.getElem?_map, List.getElem?_eq_getElem hlt, Option.map_some, Option.bind_some]
        unfold gotK
        rw [if_pos hh, Option.bind_some, app_some _ _ (by simp; omega), Option.bind_some, wI_succ (by omega)]
        exact .inl ⟨_, rfl, hlt, rfl, by simp; exact e2⟩
      · obtain rfl : k = L.length := by omega
        rw [decide_eq_false (by omega), cond_false]
        exact .inr ⟨_, rfl, e2⟩)
    FUEL 0 (([] : List Deal), (0 : Int)) (Nat.zero_le _) (by unfold FUEL; omega) ⟨rfl, rfl⟩
  exact ⟨b, hb, hq⟩
/-- Deals that are not great. -/
def SmallF (fs : List Found) : Prop := fs.length ≤ 300 ∧ ∀ f ∈ fs, f.Deal.Slots.length ≤ 100 ∧ f.Deal.Blocks.length ≤ 100
theorem rall_eq {c : Config} (hc : MayC c) {fs : List Found} (h : SmallF fs) : ∃ e, redo_all_api_Found fs (fun y => redo_Acts_1 y c) = some e ∧ (e = 0 → ∀ f ∈ fs, GoodF c f) ∧ ((∀ f ∈ fs, deal_Check c f.Deal = some 0) → e = 0) := by
  unfold redo_all_api_Found
  obtain ⟨b, hb, hq⟩ := loop_inv (step := fun s : Int => redo_all_api_Found_L1 fs (fun y => redo_Acts_1 y c) s) fs.length
    (fun k s => s = (k : Int) ∧ ∀ j (hj : j < fs.length), j < k → GoodF c fs[j]) (fun b => (b = Sum.inl () ∧ ∀ f ∈ fs, GoodF c f) ∨ ∃ e, b = Sum.inr e ∧ e ≠ 0 ∧ ¬ (∀ f ∈ fs, deal_Check c f.Deal = some 0)) (fun k s hk hI => by
      obtain ⟨rfl, hI⟩ := hI
      unfold redo_all_api_Found_L1 redo_Acts_1
      by_cases hlt : k < fs.length
      · obtain ⟨h1, h2⟩ := h.2 fs[k] (List.getElem_mem hlt)
        obtain ⟨e, he, hg⟩ := dealcheck_eq hc fs[k].Deal h1 h2
        have hlN := h.1
        rw [decide_eq_true (by omega), cond_true, idx_nat, List.getElem?_eq_getElem hlt, Option.bind_some]
        simp only [he, Option.bind_some]
        rw [wI_succ (by omega)]
        by_cases he0 : e = 0
        · subst he0
          refine .inl ⟨_, rfl, hlt, rfl, fun j hj hjk => ?_⟩
          by_cases hje : j = k
          · subst hje
            exact ⟨he, (hg rfl).1, dealcheck_par hc _ h1 h2 he⟩
          · exact hI j hj (by omega)
        · rw [show (e != 0) = true by simpa using he0, cond_true]
          refine .inr ⟨_, rfl, .inr ⟨e, rfl, he0, fun hall => ?_⟩⟩
          have := hall fs[k] (List.getElem_mem hlt)
          rw [he] at this
          exact he0 (Option.some.inj this)
      · obtain rfl : k = fs.length := by omega
        rw [decide_eq_false (by omega), cond_false]
        refine .inr ⟨_, rfl, .inl ⟨rfl, fun f hf => ?_⟩⟩
        obtain ⟨j, hj, rfl⟩ := List.getElem_of_mem hf
        exact hI j hj hj)
    FUEL 0 (0 : Int) (Nat.zero_le _) (by have := h.1; unfold FUEL; omega) ⟨rfl, fun j _ hj => by omega⟩
  rw [hb, Option.bind_some]
  rcases hq with ⟨rfl, hq⟩ | ⟨e, rfl, he, hn⟩
  · exact ⟨0, rfl, fun _ => hq, fun _ => rfl⟩
  · exact ⟨e, rfl, fun h0 => absurd h0 he, fun hall => absurd hall hn⟩
/-- May acts be made? -/
def OkR (c : Config) (l : Loss) (fs : List Found) : Prop := MayC c ∧ okL c l = true ∧ fs.length ≤ 255 ∧ ∀ f ∈ fs, deal_Check c f.Deal = some 0
theorem redo_eq (c : Config) (l : Loss) {fs : List Found} (h : SmallF fs) :
    ∃ r, redo_Acts c l fs = some r ∧ ((r.2.2 = 0 ∧ OkR c l fs ∧ (∀ f ∈ fs, GoodF c f) ∧ r.1 = actsR c l fs ∧ ((∀ f ∈ fs, parB f = true) → r.2.1 = [])) ∨ (r.2.2 ≠ 0 ∧ ¬ OkR c l fs ∧ r.1 = [] ∧ r.2.1 = [])) := by
  unfold redo_Acts
  rw [chk_1, Option.bind_some]
  rcases chk_cases c l with hck | ⟨hck, hc, ho⟩
  · rw [hck]
    refine ⟨_, rfl, .inr ⟨by decide, fun hR => ?_, rfl, rfl⟩⟩
    unfold chk at hck
    rw [(mayC_iff c).2 hR.1, hR.2.1] at hck; cases hck
  · rw [hck, show ((0 : Int) != 0) = false from rfl, cond_false]
    by_cases h255 : fs.length ≤ 255
    case neg =>
      rw [decide_eq_true (show (fs.length : Int) > 255 by omega), cond_true]
      exact ⟨_, rfl, .inr ⟨by decide, fun hR => h255 hR.2.2.1, rfl, rfl⟩⟩
    rw [decide_eq_false (show ¬ (fs.length : Int) > 255 by omega), cond_false]
    obtain ⟨e, he, hg1, hg2⟩ := rall_eq hc h
    rw [he, Option.bind_some]
    by_cases he0 : e = 0
    case neg =>
      rw [show (e != 0) = true by simpa using he0, cond_true]
      exact ⟨_, rfl, .inr ⟨he0, fun hR => he0 (hg2 hR.2.2.2), rfl, rfl⟩⟩
    subst he0
    have hg := hg1 rfl
    rw [show ((0 : Int) != 0) = false from rfl, cond_false]
    obtain ⟨b, hb, L, rfl, hL, hLp⟩ := loop_inv (step := fun s : Int × (List Act45) × (List Int) × (List DRow) => redo_Acts_L3 c l fs s.1 s.2.1 s.2.2.1 s.2.2.2) fs.length
      (fun k s => ∃ L, s = ((k : Int), actsR c l (fs.take k), L.map (·.1), L) ∧ InvL k L ∧ ((∀ f ∈ fs, parB f = true) → L = [])) (fun b => ∃ L, b = Sum.inl (actsR c l fs, L.map (·.1), L) ∧ InvL 300 L ∧ ((∀ f ∈ fs, parB f = true) → L = [])) (fun k s hk hI => by
        obtain ⟨L, rfl, hL, hLp⟩ := hI
        show (∃ s', redo_Acts_L3 c l fs (k : Int) (actsR c l (fs.take k)) (L.map (·.1)) L = some (.next s') ∧ _) ∨ ∃ b, redo_Acts_L3 c l fs (k : Int) (actsR c l (fs.take k)) (L.map (·.1)) L = some (.brk b) ∧ _
        by_cases hlt : k < fs.length
        · obtain ⟨L', h1, h2, h3⟩ := take_step hc ho h.1 hg k hlt L hL
          rw [h3]
          exact .inl ⟨_, rfl, hlt, L', rfl, h1, fun hp => h2 (hp _ (List.getElem_mem hlt)) (hLp hp)⟩
        · obtain rfl : k = fs.length := by omega
          unfold redo_Acts_L3
          rw [decide_eq_false (by omega), cond_false, List.take_length]
          exact .inr ⟨_, rfl, L, rfl, hL.mono h.1, hLp⟩)
      FUEL 0 ((0 : Int), ([] : List Act45), ([] : List Int), ([] : List DRow)) (Nat.zero_le _) (by unfold FUEL; omega) ⟨[], rfl, ⟨Nat.zero_le _, List.nodup_nil, fun _ h => by cases h⟩, fun _ => rfl⟩
    rw [hb, Option.bind_some, Sum.elim_inl]
    unfold redo_Acts_J1
    rw [show ((0 : Int) != 0) = false from rfl, cond_false]
    obtain ⟨r, hr, hrl⟩ := rest_loop L (by have := hL.len; omega)
    rw [hr, Option.bind_some]
    refine ⟨_, rfl, .inl ⟨rfl, ⟨hc, ho, h255, fun f hf => (hg f hf).1⟩, hg, rfl, fun hp => ?_⟩⟩
    rw [hLp hp] at hrl
    exact List.eq_nil_of_length_eq_zero hrl
/- Plain law: RedoBegins. -/

theorem alive27 : law27_alive = some true := by kernel_rfl
theorem great27_eq (fs : List Found) : ∃ g, ref27_Great fs = some g ∧ (g = false → SmallF fs ∧ (fs.length ≤ 30 ∨ 256 ≤ fs.length)) := by
  unfold ref27_Great
  obtain ⟨b, hb, hq⟩ := loop_inv (step := fun s : Int => ref27_Great_L1 fs s) 300
    (fun k s => s = (k : Int) ∧ k ≤ fs.length ∧ ∀ j (hj : j < fs.length), j < k → (fs[j]).Deal.Slots.length ≤ 100 ∧ (fs[j]).Deal.Blocks.length ≤ 100) (fun b => b = Sum.inr () ∨ (b = Sum.inl () ∧ ∀ j (hj : j < fs.length), j < 300 → (fs[j]).Deal.Slots.length ≤ 100 ∧ (fs[j]).Deal.Blocks.length ≤ 100)) (fun k s hk hI => by
      obtain ⟨rfl, hkl, hI⟩ := hI
      unfold ref27_Great_L1
      by_cases hlt : k < fs.length ∧ k < 300
      · obtain ⟨g, hg, hg2⟩ := dgreat13_eq fs[k].Deal
        rw [decide_eq_true (show (k : Int) < (fs.length : Int) by omega), decide_eq_true (show (k : Int) < 300 by omega), Bool.and_self, cond_true, idx_nat, List.getElem?_eq_getElem hlt.1, Option.bind_some, hg, Option.bind_some, wI_succ (by omega)]
        cases g with
        | true => exact .inr ⟨_, rfl, .inl rfl⟩
        | false =>
          refine .inl ⟨_, rfl, hlt.2, rfl, hlt.1, fun j hj hjk => ?_⟩
          by_cases he : j = k
          · subst he; exact hg2 rfl
          · exact hI j hj (by omega)
      · have : (decide ((k : Int) < (fs.length : Int)) && decide ((k : Int) < 300)) = false := by
          rw [Bool.and_eq_false_iff, decide_eq_false_iff_not, decide_eq_false_iff_not]; omega
        rw [this, cond_false]
        exact .inr ⟨_, rfl, .inr ⟨rfl, fun j hj h3 => hI j hj (by omega)⟩⟩)
    FUEL 0 (0 : Int) (Nat.zero_le _) (by unfold FUEL; omega) ⟨rfl, Nat.zero_le _, fun j _ hj => by omega⟩
  rw [hb, Option.bind_some]
  rcases hq with rfl | ⟨rfl, hq⟩
  · exact ⟨true, rfl, fun h => by cases h⟩
  · refine ⟨_, rfl, fun h => ?_⟩
    rw [Bool.or_eq_false_iff, Bool.and_eq_false_iff, decide_eq_false_iff_not, decide_eq_false_iff_not, decide_eq_false_iff_not] at h
    refine ⟨⟨by omega, fun f hf => ?_⟩, by omega⟩
    obtain ⟨j, hj, rfl⟩ := List.getElem_of_mem hf
    exact hq j hj (by omega)
theorem same14_refl (a : List Act45) (hl : a.length ≤ 1000000) : ref14_SameActs a a = some true := by
  unfold ref14_SameActs
  rw [show (((a.length : Nat) : Int) != ((a.length : Nat) : Int)) = false by simp, cond_false]
  have h := loop_run (step := fun s : Int => ref14_SameActs_L1 a a s) (fun k => (k : Int)) a.length (Sum.inl ()) (by unfold FUEL; omega) (fun k hk => by
    show ref14_SameActs_L1 _ _ _ = _
    unfold ref14_SameActs_L1
    rw [decide_eq_true (show (k : Int) < (a.length : Int) by omega), idx_nat, List.getElem?_eq_getElem hk, wI_succ (by omega)]
    simp [gO]) (by
    show ref14_SameActs_L1 _ _ _ = _
    unfold ref14_SameActs_L1
    rw [decide_eq_false (by omega)]; rfl)
  have h : loopM (fun s : Int => ref14_SameActs_L1 a a s) FUEL (0 : Int) = some (Sum.inl ()) := h
  rw [h]; rfl
theorem SmallF.take {fs : List Found} (h : SmallF fs) (n : Nat) : SmallF (fs.take n) := ⟨by have := h.1; rw [List.length_take]; omega, fun f hf => h.2 f (List.mem_of_mem_take hf)⟩
theorem SmallF.filter {fs : List Found} (h : SmallF fs) (p : Found → Bool) : SmallF (fs.filter p) := ⟨Nat.le_trans (List.length_filter_le _ _) h.1, fun f hf => h.2 f (List.mem_filter.1 hf).1⟩
theorem OkR.take {c : Config} {l : Loss} {fs : List Found} (h : OkR c l fs) (n : Nat) : OkR c l (fs.take n) := ⟨h.1, h.2.1, by have := h.2.2.1; rw [List.length_take]; omega, fun f hf => h.2.2.2 f (List.mem_of_mem_take hf)⟩
theorem OkR.filter {c : Config} {l : Loss} {fs : List Found} (h : OkR c l fs) (p : Found → Bool) : OkR c l (fs.filter p) := ⟨h.1, h.2.1, Nat.le_trans (List.length_filter_le _ _) h.2.2.1, fun f hf => h.2.2.2 f (List.mem_filter.1 hf).1⟩
theorem redo_ok {c : Config} {l : Loss} {fs : List Found} (h : SmallF fs) (hR : OkR c l fs) : ∃ r, redo_Acts c l fs = some r ∧ r.2.2 = 0 ∧ r.1 = actsR c l fs ∧ (∀ f ∈ fs, GoodF c f) ∧ ((∀ f ∈ fs, parB f = true) → r.2.1 = []) := by
  obtain ⟨r, h1, h2⟩ := redo_eq c l h
  rcases h2 with ⟨a1, _, a2, a3, a4⟩ | ⟨_, a2, _⟩
  · exact ⟨r, h1, a1, a3, a2, a4⟩
  · exact absurd hR a2
theorem even_loop (fs : List Found) (hl : fs.length ≤ 1000) : loopM (fun s : (List Found) × Int => law27_RedoBegins_L1 fs s.1 s.2) FUEL (([] : List Found), (0 : Int)) = some (fs.filter parB) := by
  have h := loop_run (step := fun s : (List Found) × Int => law27_RedoBegins_L1 fs s.1 s.2) (fun k => ((fs.take k).filter parB, (k : Int))) fs.length (fs.filter parB) (by unfold FUEL; omega) (fun k hk => by
    show law27_RedoBegins_L1 _ _ _ = _
    unfold law27_RedoBegins_L1 law27_RedoBegins_J2
    have hf : ((fs.take k).filter parB).length ≤ 1000 := by have := List.length_filter_le parB (fs.take k); rw [List.length_take] at this; omega
    rw [decide_eq_true (show (k : Int) < (fs.length : Int) by omega), cond_true, idx_nat, List.getElem?_eq_getElem hk, Option.bind_some, wI_succ (by omega), Option.bind_some, app_some _ _ (by simp only [List.length_singleton]; omega), Option.bind_some]
    rw [show decide (((fs[k].Deal.Parity.length : Nat) : Int) > 0) = parB fs[k] by unfold parB; exact decide_eq_decide.2 (by omega)]
    rw [take_succ_get fs k fs[k] (List.getElem?_eq_getElem hk), List.filter_append]
    cases hp : parB fs[k] <;> simp [List.filter, hp]) (by
    show law27_RedoBegins_L1 _ _ _ = _
    unfold law27_RedoBegins_L1
    rw [decide_eq_false (by omega), List.take_length]; rfl)
  exact h
theorem begins_true (c : Config) (l : Loss) (fs : List Found) (n : Int) : law27_RedoBegins c l fs n = some true := by
  unfold law27_RedoBegins
  obtain ⟨g, hg, hg2⟩ := great27_eq fs
  rw [alive27, hg, Option.bind_some, Option.bind_some]
  cases hgo : (((g || decide (n < 0)) || decide (n > (fs.length : Int))) || !true) with
  | true => rfl
  | false =>
    rw [cond_false]
    rw [Bool.or_eq_false_iff, Bool.or_eq_false_iff, Bool.or_eq_false_iff, decide_eq_false_iff_not, decide_eq_false_iff_not] at hgo
    obtain ⟨⟨⟨rfl, hn0⟩, hn1⟩, _⟩ := hgo
    obtain ⟨hS, _⟩ := hg2 rfl
    obtain ⟨m, rfl⟩ := Int.eq_ofNat_of_zero_le (show 0 ≤ n by omega)
    have hslc : slc fs 0 (m : Int) = some (fs.take m) := by unfold slc; rw [if_pos (by omega)]; simp
    obtain ⟨r, hr, hcase⟩ := redo_eq c l hS
    obtain ⟨r2, hr2, hcase2⟩ := redo_eq c l (hS.take m)
    rw [hr, Option.bind_some, hslc, Option.bind_some, hr2, Option.bind_some]
    rcases hcase with ⟨a1, aR, aG, a2, a3⟩ | ⟨a1, _, a2, a3⟩
    · rw [a1, show ((0 : Int) != 0) = false from rfl, cond_false]
      rcases hcase2 with ⟨b1, _, _, b2, _⟩ | ⟨_, b2, _⟩
      case inr => exact absurd (aR.take m) b2
      have hap : r.1 = r2.1 ++ actsR c l (fs.drop m) := by rw [a2, b2, ← actsR_app, List.take_append_drop]
      have hle : r2.1.length ≤ r.1.length := by rw [hap, List.length_append]; omega
      have hlen : r.1.length ≤ 17 * fs.length := by rw [a2]; exact actsR_len c l fs (fun f hf => (aG f hf).2.1.n)
      have h300 := hS.1
      rw [b1, decide_eq_false (show ¬ ((r2.1.length : Nat) : Int) > ((r.1.length : Nat) : Int) by omega)]
      have hsl2 : slc r.1 0 ((r2.1.length : Nat) : Int) = some r2.1 := by
        unfold slc
        rw [if_pos (by omega), hap]
        simp
      rw [show gO (!((((0 : Int) != 0)) || false)) (slc r.1 0 ((r2.1.length : Nat) : Int)) = some r2.1 from hsl2, Option.bind_some]
      rw [show gO (!((((0 : Int) != 0)) || false)) (ref14_SameActs r2.1 r2.1) = some true from same14_refl r2.1 (by omega), Option.bind_some]
      rw [show ((((0 : Int) != 0) || false) || !true) = false from rfl, cond_false]
      rw [even_loop fs (by omega), Option.bind_some]
      obtain ⟨r3, hr3, c1, c2, _, c4⟩ := redo_ok (hS.filter parB) (aR.filter parB)
      have c5 : r3.1 = r.1 := by
        rw [c2, a2]
        unfold actsR
        rw [List.filter_filter]
        simp
      have c6 := c4 (fun f hf => (List.mem_filter.1 hf).2)
      rw [hr3, Option.bind_some, c1, c5, c6]
      rw [show ((true && ((0 : Int) == 0)) && (((([] : List Deal).length : Nat) : Int) == 0)) = true from rfl]
      rw [show gO true (ref14_SameActs r.1 r.1) = some true from same14_refl r.1 (by omega), Option.bind_some]
      rfl
    · rw [show (r.2.2 != 0) = true by simpa using a1, cond_true, a2]
      rfl
end Go.Proofs.Ytmlmlfghogoadaa
