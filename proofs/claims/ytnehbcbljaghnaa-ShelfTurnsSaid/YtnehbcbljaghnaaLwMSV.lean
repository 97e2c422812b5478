/- Plain laws, in one text. -/
import Derived.Test.YtnehbcbljaghnaaGsv2
namespace Go.Proofs.Ytnehbcbljaghnaa
open Go GL
/- Plain law: configs. -/

theorem fuel_lt {n : Nat} (h : n < 4294967296) : n < FUEL := by unfold FUEL; omega

/-- A loop over a list, that leaves where an element has p. -/
theorem loop_any_list {α B : Type} (l : List α) (p : α → Bool) {step : Int → Option (Ctl Int B)} (yes no : B) (hl : l.length < 4294967296)
    (h1 : ∀ k (hk : k < l.length), step (k : Int) = some (bif p l[k] then .brk yes else .next ((k + 1 : Nat) : Int))) (h2 : step (l.length : Int) = some (.brk no)) :
    loopM step FUEL (0 : Int) = some (bif l.any p then yes else no) := by
  have := loop_any (step := step) (fun k => (k : Int)) l.length (fun k => (l[k]?.map p).getD false) yes no (fuel_lt hl) (fun k hk => by
    rw [h1 k hk]; simp [hk]) h2
  rw [any_range l p _ (fun k hk => by simp [hk])] at this
  simpa using this

def outB (r : Arr3_Int) : Bool := decide (r.e0 < r.e1) || decide (r.e0 > r.e2)
theorem bounds_eq (l : List Arr3_Int) (hl : l.length < 4294967296) : shape_bounds l = some (!(l.any outB)) := by
  unfold shape_bounds
  rw [loop_any_list l outB (Sum.inr ()) (Sum.inl ()) hl]
  · cases h : l.any outB <;> simp
  · intro k hk
    unfold shape_bounds_L1
    rw [show decide ((k : Int) < (l.length : Int)) = true by simp; omega, idx_nat, List.getElem?_eq_getElem hk, wI_succ (by omega)]
    simp only [cond_true, Option.bind_some, outB]
    cases (decide (l[k].e0 < l[k].e1) || decide (l[k].e0 > l[k].e2)) <;> rfl
  · unfold shape_bounds_L1
    simp

/-- Configs that may be. -/
def MayC (c : Config) : Prop := (3 ≤ c.Members ∧ c.Members ≤ 16) ∧ (1 ≤ c.Chunk ∧ c.Chunk ≤ 8) ∧ (1 ≤ c.Rows ∧ c.Rows ≤ 8) ∧ (2 ≤ c.Heads ∧ c.Heads ≤ 8) ∧ (c.Members + 1) * (c.Heads + 1) ≤ c.Log ∧ c.Log ≤ 255
def mayC (c : Config) : Bool := ((decide (3 ≤ c.Members) && decide (c.Members ≤ 16)) && (decide (1 ≤ c.Chunk) && decide (c.Chunk ≤ 8))) && ((decide (1 ≤ c.Rows) && decide (c.Rows ≤ 8)) && ((decide (2 ≤ c.Heads) && decide (c.Heads ≤ 8)) && (decide ((c.Members + 1) * (c.Heads + 1) ≤ c.Log) && decide (c.Log ≤ 255))))
theorem mayC_iff (c : Config) : mayC c = true ↔ MayC c := by simp [mayC, MayC, and_assoc]
theorem mayC_f {c : Config} (h : ¬ MayC c) : mayC c = false := by rw [← mayC_iff] at h; simpa using h

theorem wI_need {c : Config} (h1 : 3 ≤ c.Members ∧ c.Members ≤ 16) (h2 : 2 ≤ c.Heads ∧ c.Heads ≤ 8) : wI ((wI (c.Members + 1)) * (wI (c.Heads + 1))) = (c.Members + 1) * (c.Heads + 1) := by
  rw [wI_id (x := c.Members + 1) (by omega) (by omega), wI_id (x := c.Heads + 1) (by omega) (by omega)]
  have h3 : (c.Members + 1) * (c.Heads + 1) ≤ 17 * 9 := Int.mul_le_mul (by omega) (by omega) (by omega) (by omega)
  have h4 : 0 ≤ (c.Members + 1) * (c.Heads + 1) := Int.mul_nonneg (by omega) (by omega)
  exact wI_id (by omega) (by omega)
theorem check_eq (c : Config) : shape_Check c = some (bif mayC c then 0 else 8) := by
  unfold shape_Check
  rw [bounds_eq _ (by simp)]
  simp only [Option.bind_some, List.any_cons, List.any_nil, Bool.or_false, outB]
  by_cases h : (3 ≤ c.Members ∧ c.Members ≤ 16) ∧ (1 ≤ c.Chunk ∧ c.Chunk ≤ 8) ∧ (1 ≤ c.Rows ∧ c.Rows ≤ 8) ∧ (2 ≤ c.Heads ∧ c.Heads ≤ 8)
  · obtain ⟨h1, h2, h3, h4⟩ := h
    have hb : (decide (c.Members < 3) || decide (c.Members > 16) || ((decide (c.Chunk < 1) || decide (c.Chunk > 8)) || ((decide (c.Rows < 1) || decide (c.Rows > 8)) || (decide (c.Heads < 2) || decide (c.Heads > 8))))) = false := by simp; omega
    rw [hb]
    simp only [gO, Bool.not_false, Bool.not_true, Bool.false_or, cond_true]
    rw [bounds_eq _ (by simp)]
    simp only [Option.bind_some, List.any_cons, List.any_nil, Bool.or_false, outB, wI_need h1 h4]
    by_cases h5 : (c.Members + 1) * (c.Heads + 1) ≤ c.Log ∧ c.Log ≤ 255
    · rw [(mayC_iff c).2 ⟨h1, h2, h3, h4, h5⟩]
      have : (decide (c.Log < (c.Members + 1) * (c.Heads + 1)) || decide (c.Log > 255)) = false := by simp; omega
      rw [this]; rfl
    · rw [mayC_f (fun h => h5 h.2.2.2.2)]
      have : (decide (c.Log < (c.Members + 1) * (c.Heads + 1)) || decide (c.Log > 255)) = true := by simp; omega
      rw [this]; rfl
  · have hb : (decide (c.Members < 3) || decide (c.Members > 16) || ((decide (c.Chunk < 1) || decide (c.Chunk > 8)) || ((decide (c.Rows < 1) || decide (c.Rows > 8)) || (decide (c.Heads < 2) || decide (c.Heads > 8))))) = true := by simp; omega
    rw [hb, mayC_f (fun hm => h ⟨hm.1, hm.2.1, hm.2.2.1, hm.2.2.2.1⟩)]
    rfl
theorem may_eq (c : Config) : ref06_May c = some (mayC c) := by
  unfold ref06_May ref06_in ref06_Need
  simp only [Option.bind_some, gO]
  by_cases h1 : 3 ≤ c.Members ∧ c.Members ≤ 16
  case neg =>
    have hb : (decide (c.Members ≥ 3) && decide (c.Members ≤ 16)) = false := by simp; omega
    rw [mayC_f (fun h => h1 h.1)]; simp [hb]
  by_cases h2 : 1 ≤ c.Chunk ∧ c.Chunk ≤ 8
  case neg =>
    have hb : (decide (c.Members ≥ 3) && decide (c.Members ≤ 16)) = true := by simp; omega
    have hb2 : (decide (c.Chunk ≥ 1) && decide (c.Chunk ≤ 8)) = false := by simp; omega
    rw [mayC_f (fun h => h2 h.2.1)]; simp [hb, hb2]
  by_cases h3 : 1 ≤ c.Rows ∧ c.Rows ≤ 8
  case neg =>
    have hb : (decide (c.Members ≥ 3) && decide (c.Members ≤ 16)) = true := by simp; omega
    have hb2 : (decide (c.Chunk ≥ 1) && decide (c.Chunk ≤ 8)) = true := by simp; omega
    have hb3 : (decide (c.Rows ≥ 1) && decide (c.Rows ≤ 8)) = false := by simp; omega
    rw [mayC_f (fun h => h3 h.2.2.1)]; simp [hb, hb2, hb3]
  by_cases h4 : 2 ≤ c.Heads ∧ c.Heads ≤ 8
  case neg =>
    have hb : (decide (c.Members ≥ 3) && decide (c.Members ≤ 16)) = true := by simp; omega
    have hb2 : (decide (c.Chunk ≥ 1) && decide (c.Chunk ≤ 8)) = true := by simp; omega
    have hb3 : (decide (c.Rows ≥ 1) && decide (c.Rows ≤ 8)) = true := by simp; omega
    have hb4 : (decide (c.Heads ≥ 2) && decide (c.Heads ≤ 8)) = false := by simp; omega
    rw [mayC_f (fun h => h4 h.2.2.2.1)]; simp [hb, hb2, hb3, hb4]
  have hb : (decide (c.Members ≥ 3) && decide (c.Members ≤ 16)) = true := by simp; omega
  have hb2 : (decide (c.Chunk ≥ 1) && decide (c.Chunk ≤ 8)) = true := by simp; omega
  have hb3 : (decide (c.Rows ≥ 1) && decide (c.Rows ≤ 8)) = true := by simp; omega
  have hb4 : (decide (c.Heads ≥ 2) && decide (c.Heads ≤ 8)) = true := by simp; omega
  simp only [hb, hb2, hb3, hb4, Bool.not_true, Bool.not_false, Bool.false_or, Bool.or_false, cond_true, cond_false, Option.bind_some, wI_need h1 h4]
  simp [mayC, h1, h2, h3, h4]

theorem wI_str {c : Config} (h : MayC c) : wI (c.Chunk * c.Rows) = c.Chunk * c.Rows ∧ 1 ≤ c.Chunk * c.Rows ∧ c.Chunk * c.Rows ≤ 64 := by
  obtain ⟨_, h2, h3, _⟩ := h
  have h4 : c.Chunk * c.Rows ≤ 8 * 8 := Int.mul_le_mul (by omega) (by omega) (by omega) (by omega)
  have h5 : 1 * 1 ≤ c.Chunk * c.Rows := Int.mul_le_mul (by omega) (by omega) (by omega) (by omega)
  exact ⟨wI_id (by omega) (by omega), by omega, by omega⟩
theorem stripes_eq (c : Config) : shape_Stripes c = some (bif mayC c then (c.Chunk * c.Rows, 0) else (0, 8)) := by
  unfold shape_Stripes shape_told
  rw [check_eq]
  cases h : mayC c with
  | true => simp [(wI_str ((mayC_iff c).1 h)).1]
  | false => simp
theorem rstripes_eq {c : Config} (h : MayC c) : ref06_Stripes c = some (c.Chunk * c.Rows) := by
  unfold ref06_Stripes; rw [(wI_str h).1]
/- Plain law: heads' sizes, copies, and which heads may be. -/

structure SmallH (h : Head) : Prop where
  nb : h.Blocks.length ≤ 60
  nd : h.Dirty.length ≤ 60
  len : ∀ x ∈ h.Blocks, x.length ≤ 10000

theorem hgreat_eq (h : Head) : ∃ b, ref16_Great h = some b ∧ (b = false → SmallH h) := by
  unfold ref16_Great
  obtain ⟨b5, hb, hq⟩ := loop_inv (step := fun s : Int × Int => ref16_Great_L1 h s.1 s.2) (min h.Blocks.length 100)
    (fun k s => s.2 = (k : Int) ∧ 0 ≤ s.1 ∧ s.1 ≤ 200000 * (k : Int) ∧ ∀ j (hj : j < h.Blocks.length), j < k → min ((h.Blocks[j].length : Nat) : Int) 100000 ≤ s.1)
    (fun b => ∀ j (hj : j < h.Blocks.length), j < 100 → min ((h.Blocks[j].length : Nat) : Int) 100000 ≤ b)
    (fun k s hk hI => by
      obtain ⟨s1, s2⟩ := s
      obtain ⟨h1, h2, h3, h4⟩ := hI
      simp only at h1 h2 h3 h4
      subst h1
      show (∃ s', ref16_Great_L1 h s1 (k : Int) = some (.next s') ∧ _) ∨ ∃ b, ref16_Great_L1 h s1 (k : Int) = some (.brk b) ∧ _
      unfold ref16_Great_L1
      by_cases hlt : k < h.Blocks.length ∧ k < 100
      · refine .inl ?_
        rw [show (decide ((k : Int) < (h.Blocks.length : Int)) && decide ((k : Int) < (100 : Int))) = true by simp; omega]
        simp only [cond_true, idx_nat, List.getElem?_eq_getElem hlt.1, Option.bind_some, wI_succ (show k < 9223372036854775807 by omega)]
        rw [wI_id (x := (8 : Int) + min ((h.Blocks[k].length : Nat) : Int) 100000) (by omega) (by omega), wI_id (by omega) (by omega)]
        refine ⟨_, rfl, by omega, rfl, by simp only; omega, by simp only; omega, fun j hj hjk => ?_⟩
        simp only
        by_cases hjk' : j = k
        · subst hjk'; omega
        · have := h4 j hj (by omega); omega
      · refine .inr ?_
        rw [show (decide ((k : Int) < (h.Blocks.length : Int)) && decide ((k : Int) < (100 : Int))) = false by simp; omega]
        exact ⟨_, rfl, fun j hj hj' => h4 j hj (by omega)⟩)
    FUEL 0 (0, 0) (Nat.zero_le _) (by unfold FUEL; omega) ⟨rfl, by simp, by simp, fun j _ hj => by omega⟩
  rw [hb]
  refine ⟨_, rfl, fun hf => ?_⟩
  simp only [Bool.or_eq_false_iff, decide_eq_false_iff_not, Int.not_lt] at hf
  refine ⟨by omega, by omega, fun x hx => ?_⟩
  obtain ⟨j, hj, rfl⟩ := List.getElem_of_mem hx
  have := hq j hj (by omega)
  omega

theorem htwin_eq {h : Head} (hs : SmallH h) : ref16_Twin h = some h := by
  unfold ref16_Twin
  have := loop_run (step := fun s : Int × (List (List UInt8)) => ref16_Twin_L1 h s.1 s.2) (fun k => ((k : Int), h.Blocks.take k)) h.Blocks.length h.Blocks (fuel_lt (by have := hs.nb; omega)) (fun k hk => by
    obtain ⟨x, hx⟩ : ∃ x, h.Blocks[k]? = some x := ⟨_, List.getElem?_eq_getElem hk⟩
    have hxl := hs.len x (List.mem_of_getElem? hx)
    have := hs.nb
    unfold ref16_Twin_L1
    simp only [decide_eq_true (show (k : Int) < (h.Blocks.length : Int) by omega), cond_true, idx_nat, hx, Option.bind_some, wI_succ (show k < 9223372036854775807 by omega)]
    rw [app_some _ _ (by simp; omega)]
    simp only [Option.bind_some, List.nil_append]
    rw [app_some _ _ (by simp; omega), take_succ_get _ _ _ hx]
    rfl) (by
    unfold ref16_Twin_L1
    rw [decide_eq_false (by omega), List.take_length]; rfl)
  have h0 : ((0 : Int), ([] : List (List UInt8))) = (fun k : Nat => ((k : Int), h.Blocks.take k)) 0 := by simp
  rw [h0, this]
  have := hs.nd
  simp only [Option.bind_some]
  rw [app_some _ _ (by simp; omega)]
  rfl

def blkOk (x : List UInt8) : Bool := (x.length == 0) || (x.length == 128)
def dirtyBad (h : Head) (k : Nat) : Bool := (h.Dirty.getD k false) && ((h.Blocks.getD k []).length == 0)
def lastN (h : Head) : Nat := (h.Blocks.getD (h.Blocks.length - 1) []).length
def anyD (h : Head) : Bool := h.Dirty.any id
def phOk (h : Head) : Bool := !(((decide (h.Phase.toNat = 0) == decide (0 < lastN h)) || (!decide (h.Phase.toNat = 0) && !anyD h)) || ((decide (h.Phase.toNat = 0) || decide (h.Phase.toNat = 1)) && !decide (h.Seq.toNat = 0)) || (h.Deals && (!anyD h || !(decide (h.Phase.toNat = 0) || decide (h.Phase.toNat = 1)))))
def sizeOk (c : Config) (h : Head) : Bool := decide (0 ≤ h.Stripe) && (decide (h.Stripe < c.Chunk * c.Rows) && (decide ((h.Blocks.length : Int) = c.Members) && (decide ((h.Dirty.length : Int) = c.Members - 1) && decide (h.Phase.toNat ≤ 4))))
def blksOk (h : Head) : Bool := h.Blocks.all blkOk && (List.range h.Dirty.length).all fun k => !dirtyBad h k
def mayH (c : Config) (h : Head) : Bool := mayC c && (sizeOk c h && (blksOk h && phOk h))

theorem sizeOk_iff (c : Config) (h : Head) : sizeOk c h = true ↔ 0 ≤ h.Stripe ∧ h.Stripe < c.Chunk * c.Rows ∧ (h.Blocks.length : Int) = c.Members ∧ (h.Dirty.length : Int) = c.Members - 1 ∧ h.Phase.toNat ≤ 4 := by simp [sizeOk]
theorem any_or {α : Type} (l : List α) (p q : α → Bool) : (l.any fun x => p x || q x) = (l.any p || l.any q) := by
  induction l with
  | nil => rfl
  | cons a l ih => simp only [List.any_cons, ih]; cases p a <;> cases q a <;> cases l.any p <;> rfl
theorem any_congr' {α : Type} {l : List α} {p q : α → Bool} (h : ∀ x ∈ l, p x = q x) : l.any p = l.any q := by
  induction l with
  | nil => rfl
  | cons a l ih => simp only [List.any_cons]; rw [h a (by simp), ih fun x hx => h x (by simp [hx])]
theorem all_not_any {α : Type} (l : List α) (p : α → Bool) : (l.all fun x => !p x) = !l.any p := by
  induction l with
  | nil => rfl
  | cons a l ih => simp only [List.all_cons, List.any_cons, ih]; cases p a <;> rfl
theorem blksOk_eq (h : Head) : blksOk h = !((h.Blocks.any fun x => !blkOk x) || (List.range h.Dirty.length).any (dirtyBad h)) := by
  unfold blksOk
  rw [all_not_any, show h.Blocks.all blkOk = !(h.Blocks.any fun x => !blkOk x) by rw [← all_not_any]; simp]
  simp

theorem odd_eq (x : List UInt8) : head_odd x = some (!blkOk x) := by
  unfold head_odd blkOk
  rw [show (((x.length : Int) != 0) && ((x.length : Int) != 128)) = !((x.length == 0) || (x.length == 128)) by rw [Bool.eq_iff_iff]; simp; omega]
theorem contains_eq (l : List (List UInt8)) (hl : l.length < 4294967296) : slices_ContainsFunc_byte_byte l (fun y => head_odd y) = some (l.any fun x => !blkOk x) := by
  unfold slices_ContainsFunc_byte_byte slices_IndexFunc_byte_byte
  obtain ⟨b, hb, hq⟩ := loop_inv (step := fun s : Int => slices_IndexFunc_byte_byte_L1 l (fun y => head_odd y) s) l.length (fun k s => s = (k : Int) ∧ ∀ j (hj : j < l.length), j < k → blkOk l[j] = true)
    (fun b => (∃ k : Nat, b = Sum.inr (k : Int) ∧ (l.any fun x => !blkOk x) = true) ∨ (b = Sum.inl () ∧ (l.any fun x => !blkOk x) = false)) (fun k s hk hI => by
      obtain ⟨rfl, hI⟩ := hI
      unfold slices_IndexFunc_byte_byte_L1
      by_cases hlt : k < l.length
      · rw [decide_eq_true (show (k : Int) < (l.length : Int) by omega), idx_nat, List.getElem?_eq_getElem hlt, wI_succ (by omega)]
        simp only [cond_true, Option.bind_some, odd_eq]
        cases ho : blkOk l[k] with
        | true =>
          refine .inl ⟨_, rfl, hlt, rfl, fun j hj hjk => ?_⟩
          by_cases he : j = k
          · subst he; exact ho
          · exact hI j hj (by omega)
        | false => exact .inr ⟨_, rfl, .inl ⟨k, rfl, List.any_eq_true.2 ⟨l[k], List.getElem_mem _, by rw [ho]; rfl⟩⟩⟩
      · rw [decide_eq_false (show ¬(k : Int) < (l.length : Int) by omega)]
        refine .inr ⟨_, rfl, .inr ⟨rfl, ?_⟩⟩
        rw [List.any_eq_false]
        intro x hx
        obtain ⟨j, hj, rfl⟩ := List.getElem_of_mem hx
        rw [hI j hj (by omega)]; simp) FUEL 0 0 (Nat.zero_le _) (by have := fuel_lt hl; omega) ⟨rfl, fun j _ hj => by omega⟩
  rw [hb]
  rcases hq with ⟨k, rfl, h⟩ | ⟨rfl, h⟩
  · rw [h]; simp
  · rw [h]; rfl

theorem dirty_eq (h : Head) (hl : h.Dirty.length < 4294967296) : ref16_Dirty h = some (anyD h) := by
  unfold ref16_Dirty
  rw [loop_any_list (step := fun s : Int => ref16_Dirty_L1 h s) h.Dirty id (Sum.inr ()) (Sum.inl ()) hl (fun k hk => by
    unfold ref16_Dirty_L1
    rw [decide_eq_true (show (k : Int) < (h.Dirty.length : Int) by omega), idx_nat, List.getElem?_eq_getElem hk, wI_succ (by omega)]
    simp only [cond_true, Option.bind_some, id]
    cases h.Dirty[k] <;> rfl) (by
    unfold ref16_Dirty_L1
    rw [decide_eq_false (by omega)]; rfl)]
  unfold anyD
  cases h.Dirty.any id <;> rfl

theorem phase_le (p : UInt8) : decide ((p.toNat : Int) > ((4 : UInt8).toNat : Int)) = !decide (p.toNat ≤ 4) := by
  rw [Bool.eq_iff_iff]; simp
  omega
theorem size_expr (c : Config) (h : Head) (hc : MayC c) :
    (((((((0 : Int) != (0 : Int)) || (decide (h.Stripe < (0 : Int)))) || (decide (h.Stripe ≥ c.Chunk * c.Rows))) || (((h.Blocks).length : Int) != c.Members)) || (((h.Dirty).length : Int) != (wI (c.Members - (1 : Int))))) || (decide ((h.Phase.toNat : Int) > ((4 : UInt8).toNat : Int)))) = !sizeOk c h := by
  have := hc.1
  rw [wI_id (x := c.Members - 1) (by omega) (by omega), phase_le]
  rw [Bool.eq_iff_iff]
  simp only [Bool.not_eq_true', sizeOk, Bool.or_eq_true, Bool.and_eq_false_iff, decide_eq_true_eq, decide_eq_false_iff_not, bne_iff_ne, ne_eq, not_true_eq_false, false_or]
  omega
theorem check_loop (h : Head) (hb : h.Dirty.length ≤ h.Blocks.length) (hl : h.Dirty.length < 4294967296) :
    ∃ b, loopM (fun s : Bool × Int => head_Check_L1 h s.1 s.2) FUEL (false, (0 : Int)) = some b ∧
      ((b = Sum.inr () ∧ ((List.range h.Dirty.length).any (dirtyBad h)) = true) ∨ (b = Sum.inl (anyD h) ∧ ((List.range h.Dirty.length).any (dirtyBad h)) = false)) := by
  refine loop_inv (step := fun s : Bool × Int => head_Check_L1 h s.1 s.2) h.Dirty.length (fun k s => s = ((h.Dirty.take k).any id, (k : Int)) ∧ ∀ j, j < k → dirtyBad h j = false) _ (fun k s hk hI => ?_) FUEL 0 (false, 0) (Nat.zero_le _) (by have := fuel_lt hl; omega) ⟨rfl, fun j hj => by omega⟩
  obtain ⟨rfl, hI⟩ := hI
  simp only
  unfold head_Check_L1
  by_cases hlt : k < h.Dirty.length
  · rw [decide_eq_true (show (k : Int) < (h.Dirty.length : Int) by omega), idx_nat, idx_nat, List.getElem?_eq_getElem hlt, List.getElem?_eq_getElem (show k < h.Blocks.length by omega), wI_succ (by omega)]
    simp only [cond_true, Option.bind_some]
    have hbad : dirtyBad h k = (h.Dirty[k] && (h.Blocks[k].length == 0)) := by simp [dirtyBad, hlt, show k < h.Blocks.length by omega]
    have htk : (h.Dirty.take (k + 1)).any id = ((h.Dirty.take k).any id || h.Dirty[k]) := by
      rw [take_succ_get _ _ _ (List.getElem?_eq_getElem hlt), List.any_append]
      simp only [List.any_cons, List.any_nil, Bool.or_false, id]
    cases hd : h.Dirty[k] with
    | false =>
      refine .inl ⟨_, rfl, hlt, ?_, fun j hj => ?_⟩
      · rw [htk, hd]
      · by_cases he : j = k
        · subst he; rw [hbad, hd]; rfl
        · exact hI j (by omega)
    | true =>
      simp only [gO, cond_true, Option.bind_some, Bool.true_and]
      rw [hd, Bool.true_and] at hbad
      cases hz : (h.Blocks[k].length == 0) with
      | true =>
        rw [show (((h.Blocks[k].length : Nat) : Int) == 0) = true by simp at hz ⊢; exact hz]
        exact .inr ⟨_, rfl, .inl ⟨rfl, List.any_eq_true.2 ⟨k, List.mem_range.2 hlt, by rw [hbad, hz]⟩⟩⟩
      | false =>
        rw [show (((h.Blocks[k].length : Nat) : Int) == 0) = false by simp at hz ⊢; exact hz]
        refine .inl ⟨_, rfl, hlt, ?_, fun j hj => ?_⟩
        · rw [htk, hd]
        · by_cases he : j = k
          · subst he; rw [hbad, hz]
          · exact hI j (by omega)
  · rw [decide_eq_false (show ¬(k : Int) < (h.Dirty.length : Int) by omega)]
    refine .inr ⟨_, rfl, .inr ⟨?_, ?_⟩⟩
    · rw [List.take_of_length_le (by omega)]; rfl
    · rw [List.any_eq_false]
      intro j hj
      rw [hI j (by have := List.mem_range.1 hj; omega)]; simp
theorem ph0 (p : UInt8) : (p == (0 : UInt8)) = decide (p.toNat = 0) := by
  rw [Bool.eq_iff_iff]; simp only [beq_iff_eq, decide_eq_true_eq]
  exact ⟨fun h => by subst h; rfl, fun h => UInt8.toNat_inj.1 h⟩
theorem ph1 (p : UInt8) : (p == (1 : UInt8)) = decide (p.toNat = 1) := by
  rw [Bool.eq_iff_iff]; simp only [beq_iff_eq, decide_eq_true_eq]
  exact ⟨fun h => by subst h; rfl, fun h => UInt8.toNat_inj.1 h⟩
theorem phle (p : UInt8) : decide ((p.toNat : Int) ≤ ((1 : UInt8).toNat : Int)) = (decide (p.toNat = 0) || decide (p.toNat = 1)) := by
  rw [Bool.eq_iff_iff]; simp
  omega
theorem phgt (p : UInt8) : decide ((p.toNat : Int) > ((1 : UInt8).toNat : Int)) = !(decide (p.toNat = 0) || decide (p.toNat = 1)) := by
  rw [Bool.eq_iff_iff]; simp
  omega
theorem phgt0 (p : UInt8) : decide ((p.toNat : Int) > ((0 : UInt8).toNat : Int)) = !decide (p.toNat = 0) := by
  rw [Bool.eq_iff_iff]; simp
  omega
theorem seq0 (p : UInt32) : ((p.toNat : Int) != ((0 : UInt32).toNat : Int)) = !decide (p.toNat = 0) := by
  rw [Bool.eq_iff_iff]; simp
theorem hcheck_eq (c : Config) (h : Head) : head_Check c h = some (bif mayH c h then 0 else 8) := by
  unfold head_Check
  rw [stripes_eq]
  unfold mayH
  cases hc : mayC c with
  | false => simp [gO]
  | true =>
  have hm := (mayC_iff c).1 hc
  simp only [cond_true, Option.bind_some, size_expr c h hm, Bool.true_and, Bool.not_not]
  cases hs : sizeOk c h with
  | false => simp [gO]
  | true =>
  obtain ⟨h1, h2, h3, h4, h5⟩ := (sizeOk_iff c h).1 hs
  have hm1 := hm.1
  simp only [gO, cond_true, Bool.not_true, Bool.false_or, Bool.true_and]
  rw [contains_eq _ (by omega), blksOk_eq]
  simp only [Option.bind_some]
  cases hany : h.Blocks.any (fun x => !blkOk x) with
  | true => rfl
  | false =>
  simp only [cond_false, Bool.false_or]
  obtain ⟨b, hb, hq⟩ := check_loop h (by omega) (by omega)
  rw [hb]
  rcases hq with ⟨rfl, hd⟩ | ⟨rfl, hd⟩
  · rw [hd]; rfl
  · rw [hd]
    simp only [Option.bind_some, Sum.elim_inl, Bool.not_false, Bool.true_and]
    have hw : wI (c.Members - 1) = ((h.Blocks.length - 1 : Nat) : Int) := by rw [wI_id (by omega) (by omega)]; omega
    rw [hw, idx_nat, List.getElem?_eq_getElem (show h.Blocks.length - 1 < h.Blocks.length by omega)]
    simp only [Option.bind_some]
    have hlast : decide ((h.Blocks[h.Blocks.length - 1].length : Int) > 0) = decide (0 < lastN h) := by
      unfold lastN
      rw [List.getD_eq_getElem?_getD, List.getElem?_eq_getElem (show h.Blocks.length - 1 < h.Blocks.length by omega)]
      exact decide_eq_decide.2 (by simp)
    rw [hlast, ph0, phle, phgt, seq0]
    unfold phOk
    cases (decide (h.Phase.toNat = 0) == decide (0 < lastN h) || !decide (h.Phase.toNat = 0) && !anyD h || (decide (h.Phase.toNat = 0) || decide (h.Phase.toNat = 1)) && !decide (h.Seq.toNat = 0) || h.Deals && (!anyD h || !(decide (h.Phase.toNat = 0) || decide (h.Phase.toNat = 1)))) <;> rfl
theorem may_loop (c : Config) (h : Head) (hm : MayC c) (hs : sizeOk c h = true) :
    loopM (fun s : Int => ref16_May_L1 c h s) FUEL (0 : Int) = some (bif blksOk h then Sum.inl () else Sum.inr ()) := by
  obtain ⟨h1, h2, h3, h4, h5⟩ := (sizeOk_iff c h).1 hs
  have hm1 := hm.1
  have := loop_any (step := fun s : Int => ref16_May_L1 c h s) (fun k => (k : Int)) h.Blocks.length (fun k => !blkOk (h.Blocks.getD k []) || dirtyBad h k) (Sum.inr ()) (Sum.inl ()) (fuel_lt (by omega)) (fun k hk => by
    unfold ref16_May_L1
    rw [decide_eq_true (show (k : Int) < c.Members by omega), wI_id (x := c.Members - 1) (by omega) (by omega), idx_nat, idx_nat, List.getElem?_eq_getElem hk, wI_succ (by omega)]
    simp only [cond_true, Option.bind_some, ref04_Sized]
    have hsz : ((((h.Blocks[k].length : Nat) : Int) == 0) || (((h.Blocks[k].length : Nat) : Int) == 128)) = blkOk h.Blocks[k] := by
      unfold blkOk; rw [Bool.eq_iff_iff]; simp only [Bool.or_eq_true, beq_iff_eq]; omega
    rw [hsz]
    have hg : h.Blocks.getD k [] = h.Blocks[k] := by rw [List.getD_eq_getElem?_getD, List.getElem?_eq_getElem hk]; rfl
    have hz0 : (((h.Blocks[k].length : Nat) : Int) == 0) = (h.Blocks[k].length == 0) := by rw [Bool.eq_iff_iff]; simp
    unfold dirtyBad
    rw [hg]
    rw [← hz0]
    by_cases hkd : k < h.Dirty.length
    · rw [decide_eq_true (show (k : Int) < c.Members - 1 by omega), List.getElem?_eq_getElem hkd]
      have hgd : h.Dirty.getD k false = h.Dirty[k] := by rw [List.getD_eq_getElem?_getD, List.getElem?_eq_getElem hkd]; rfl
      rw [hgd]
      cases blkOk h.Blocks[k] <;> cases h.Dirty[k] <;> simp only [gO, Bool.not_not, Bool.not_true, Bool.not_false, Bool.and_true, Bool.true_and, Bool.false_and, Bool.and_false, Bool.false_or, Bool.true_or, cond_true, cond_false, Option.bind_some] <;> cases (((h.Blocks[k].length : Nat) : Int) == 0) <;> rfl
    · rw [decide_eq_false (show ¬(k : Int) < c.Members - 1 by omega)]
      have hgd : h.Dirty.getD k false = false := by rw [List.getD_eq_getElem?_getD, List.getElem?_eq_none (by omega)]; rfl
      rw [hgd]
      cases blkOk h.Blocks[k] <;> rfl) (by
    unfold ref16_May_L1
    rw [decide_eq_false (show ¬(h.Blocks.length : Int) < c.Members by omega)]; rfl)
  replace this : loopM (fun s : Int => ref16_May_L1 c h s) FUEL (0 : Int) = _ := this
  rw [this, any_or, blksOk_eq]
  have ha : (List.range h.Blocks.length).any (fun k => !blkOk (h.Blocks.getD k [])) = h.Blocks.any fun x => !blkOk x :=
    any_range h.Blocks (fun x => !blkOk x) _ (fun k hk => by rw [List.getD_eq_getElem?_getD, List.getElem?_eq_getElem hk]; rfl)
  have hd : (List.range h.Blocks.length).any (dirtyBad h) = (List.range h.Dirty.length).any (dirtyBad h) := by
    rw [show h.Blocks.length = h.Dirty.length + 1 by omega, List.range_succ, List.any_append]
    have : dirtyBad h h.Dirty.length = false := by simp [dirtyBad]
    simp [this]
  rw [ha, hd]
  cases (h.Blocks.any fun x => !blkOk x) <;> cases (List.range h.Dirty.length).any (dirtyBad h) <;> rfl

theorem rsize_expr (c : Config) (h : Head) (hc : MayC c) (x1 : Int) (hx : 0 ≤ h.Stripe → x1 = c.Chunk * c.Rows) :
    ((((((decide (h.Stripe < (0 : Int))) || (decide (h.Stripe ≥ x1))) || (((h.Blocks).length : Int) != c.Members)) || (((h.Dirty).length : Int) != (wI (c.Members - (1 : Int))))) || (decide ((h.Phase.toNat : Int) > ((4 : UInt8).toNat : Int))))) = !sizeOk c h := by
  have := hc.1
  rw [wI_id (x := c.Members - 1) (by omega) (by omega), phase_le]
  rw [Bool.eq_iff_iff]
  simp only [Bool.not_eq_true', sizeOk, Bool.or_eq_true, Bool.and_eq_false_iff, decide_eq_true_eq, decide_eq_false_iff_not, bne_iff_ne, ne_eq]
  by_cases h0 : 0 ≤ h.Stripe
  · rw [hx h0]; omega
  · omega
theorem rmay_eq (c : Config) (h : Head) (hm : MayC c) : ref16_May c h = some (sizeOk c h && (blksOk h && phOk h)) := by
  unfold ref16_May
  obtain ⟨x1, hx1, hx⟩ : ∃ x1, gO (!decide (h.Stripe < 0)) (ref06_Stripes c) = some x1 ∧ (0 ≤ h.Stripe → x1 = c.Chunk * c.Rows) := by
    rw [rstripes_eq hm]
    by_cases h0 : h.Stripe < 0
    · exact ⟨_, by rw [decide_eq_true h0]; rfl, fun h1 => by omega⟩
    · exact ⟨_, by rw [decide_eq_false h0]; rfl, fun _ => rfl⟩
  rw [hx1]
  simp only [Option.bind_some, rsize_expr c h hm x1 hx]
  cases hs : sizeOk c h with
  | false => rfl
  | true =>
  rw [may_loop c h hm hs]
  obtain ⟨h1, h2, h3, h4, h5⟩ := (sizeOk_iff c h).1 hs
  have hm1 := hm.1
  cases hb : blksOk h with
  | false => rfl
  | true =>
  simp only [Bool.not_true, cond_false, cond_true, Option.bind_some, Sum.elim_inl, Bool.true_and]
  have hw : wI (c.Members - 1) = ((h.Blocks.length - 1 : Nat) : Int) := by rw [wI_id (by omega) (by omega)]; omega
  have hl : h.Blocks[h.Blocks.length - 1]? = some (h.Blocks.getD (h.Blocks.length - 1) []) := by
    rw [List.getD_eq_getElem?_getD, List.getElem?_eq_getElem (show h.Blocks.length - 1 < h.Blocks.length by omega)]; rfl
  rw [hw, idx_nat, hl, dirty_eq h (by omega), ph0, ph1, phle, phgt0, seq0]
  have e1 : decide ((((h.Blocks.getD (h.Blocks.length - 1) []).length : Nat) : Int) > 0) = decide (0 < lastN h) := decide_eq_decide.2 (by unfold lastN; omega)
  have e2 : ((((h.Blocks.getD (h.Blocks.length - 1) []).length : Nat) : Int) == 0) = !decide (0 < lastN h) := by
    rw [Bool.eq_iff_iff]; unfold lastN; simp
  have hp : decide (h.Phase.toNat = 0) = true → decide (h.Phase.toNat = 1) = false := fun h => by simp at h ⊢; omega
  unfold phOk gO
  cases hd0 : decide (h.Phase.toNat = 0) with
  | true =>
    simp only [hp hd0, cond_true, Option.bind_some, e1, e2]
    cases decide (0 < lastN h) <;> cases decide (h.Seq.toNat = 0) <;> cases anyD h <;> cases h.Deals <;> rfl
  | false =>
    simp only [Bool.not_false, cond_true, cond_false, Option.bind_some, e1, e2]
    cases decide (h.Phase.toNat = 1) <;> cases decide (0 < lastN h) <;> cases decide (h.Seq.toNat = 0) <;> cases anyD h <;> cases h.Deals <;> rfl
/- Plain law: loops over two lists, equal heads, what holds of a head that may be. -/

theorem list_any_ne {α : Type} [DecidableEq α] (l m : List α) (h : l.length = m.length) : ((List.range l.length).any fun k => !decide (l[k]? = m[k]?)) = !decide (l = m) := by
  rw [Bool.eq_iff_iff, List.any_eq_true]
  simp only [List.mem_range, Bool.not_eq_true', decide_eq_false_iff_not]
  constructor
  · rintro ⟨k, _, h1⟩ rfl; exact h1 rfl
  · intro hne
    apply Classical.byContradiction
    intro hno
    refine hne (List.ext_getElem? fun k => ?_)
    by_cases hk : k < l.length
    · exact Classical.byContradiction fun h1 => hno ⟨k, hk, h1⟩
    · rw [List.getElem?_eq_none (by omega), List.getElem?_eq_none (by omega)]
/-- A loop that asks whether two lists differ at some place. -/
theorem loop_differ {α B : Type} [DecidableEq α] (l m : List α) {step : Int → Option (Ctl Int B)} (yes no : B) (hl : l.length < 4294967296) (hlm : l.length = m.length)
    (h1 : ∀ k x y, l[k]? = some x → m[k]? = some y → k < l.length → step (k : Int) = some (bif !decide (x = y) then .brk yes else .next ((k + 1 : Nat) : Int))) (h2 : step (l.length : Int) = some (.brk no)) :
    loopM step FUEL (0 : Int) = some (bif decide (l = m) then no else yes) := by
  have := loop_any (step := step) (fun k => (k : Int)) l.length (fun k => !decide (l[k]? = m[k]?)) yes no (fuel_lt hl) (fun k hk => by
    obtain ⟨x, hx⟩ : ∃ x, l[k]? = some x := ⟨_, List.getElem?_eq_getElem hk⟩
    obtain ⟨y, hy⟩ : ∃ y, m[k]? = some y := ⟨_, List.getElem?_eq_getElem (by omega)⟩
    rw [h1 k x y hx hy hk, hx, hy]
    simp only [Option.some.injEq]) h2
  rw [list_any_ne l m hlm] at this
  have h3 : loopM step FUEL (0 : Int) = _ := this
  rw [h3]
  cases decide (l = m) <;> rfl
/-- A loop that only counts. -/
theorem loop_count {step : Int → Option (Ctl Int Unit)} (n : Nat) (hn : n < 4294967296) (h1 : ∀ k, k < n → step (k : Int) = some (.next ((k + 1 : Nat) : Int))) (h2 : step (n : Int) = some (.brk ())) :
    loopM step FUEL (0 : Int) = some () := loop_run (fun k => (k : Int)) n () (fuel_lt hn) h1 h2

theorem rsame_eq (a b : Head) (ha : a.Blocks.length < 4294967296) (hd : a.Dirty.length < 4294967296) : ref16_Same a b = some (decide (a = b)) := by
  unfold ref16_Same
  by_cases hl : a.Stripe = b.Stripe ∧ a.Phase = b.Phase ∧ a.Deals = b.Deals ∧ a.Seq = b.Seq ∧ a.Blocks.length = b.Blocks.length ∧ a.Dirty.length = b.Dirty.length
  · obtain ⟨e1, e2, e3, e4, e5, e6⟩ := hl
    have hc : ((((((a.Stripe != b.Stripe) || (a.Phase != b.Phase)) || (a.Deals != b.Deals)) || ((a.Seq.toNat : Int) != (b.Seq.toNat : Int))) || (((a.Blocks).length : Int) != ((b.Blocks).length : Int))) || (((a.Dirty).length : Int) != ((b.Dirty).length : Int))) = false := by
      simp [e1, e2, e3, e4, e5, e6]
    rw [hc]
    simp only [cond_false]
    rw [loop_differ (step := fun s : Int => ref16_Same_L1 a b s) a.Blocks b.Blocks (Sum.inr ()) (Sum.inl ()) ha e5 (fun k x y hx hy hk => by
      unfold ref16_Same_L1
      rw [decide_eq_true (show (k : Int) < (a.Blocks.length : Int) by omega), idx_nat, idx_nat, hx, hy, wI_succ (by omega)]
      simp only [cond_true, Option.bind_some]
      rw [show decide (x = y) = (x == y) by rw [Bool.eq_iff_iff]; simp]
      cases x == y <;> rfl) (by
      unfold ref16_Same_L1
      rw [decide_eq_false (by omega)]; rfl)]
    by_cases hB : a.Blocks = b.Blocks
    case neg =>
      rw [decide_eq_false hB, decide_eq_false (fun e => hB (by rw [e]))]; rfl
    rw [decide_eq_true hB]
    simp only [cond_true, Option.bind_some, Sum.elim_inl]
    rw [loop_differ (step := fun s : Int => ref16_Same_L2 a b s) a.Dirty b.Dirty (Sum.inr ()) (Sum.inl ()) hd e6 (fun k x y hx hy hk => by
      unfold ref16_Same_L2
      rw [decide_eq_true (show (k : Int) < (a.Dirty.length : Int) by omega), idx_nat, idx_nat, hx, hy, wI_succ (by omega)]
      simp only [cond_true, Option.bind_some]
      cases x <;> cases y <;> rfl) (by
      unfold ref16_Same_L2
      rw [decide_eq_false (by omega)]; rfl)]
    by_cases hD : a.Dirty = b.Dirty
    case neg =>
      rw [decide_eq_false hD, decide_eq_false (fun e => hD (by rw [e]))]; rfl
    rw [decide_eq_true hD, decide_eq_true (show a = b by cases a; cases b; simp_all)]
    rfl
  · have hc : ((((((a.Stripe != b.Stripe) || (a.Phase != b.Phase)) || (a.Deals != b.Deals)) || ((a.Seq.toNat : Int) != (b.Seq.toNat : Int))) || (((a.Blocks).length : Int) != ((b.Blocks).length : Int))) || (((a.Dirty).length : Int) != ((b.Dirty).length : Int))) = true := by
      apply Classical.byContradiction
      intro hn
      simp only [Bool.not_eq_true, Bool.or_eq_false_iff, bne_eq_false_iff_eq] at hn
      exact hl ⟨hn.1.1.1.1.1, hn.1.1.1.1.2, hn.1.1.1.2, UInt32.toNat_inj.1 (by have := hn.1.1.2; omega), by have := hn.1.2; omega, by have := hn.2; omega⟩
    rw [hc, decide_eq_false (fun e => hl (by subst e; simp))]
    rfl
theorem rsame_self (a : Head) (ha : a.Blocks.length < 4294967296) (hd : a.Dirty.length < 4294967296) : ref16_Same a a = some true := by rw [rsame_eq a a ha hd]; simp

def slotIn (c : Config) (slot : Int) : Bool := !(decide (slot < 0) || decide (slot ≥ c.Members - 1))
structure OfH (c : Config) (h : Head) : Prop where
  m : MayC c
  s1 : 0 ≤ h.Stripe
  s2 : h.Stripe < c.Chunk * c.Rows
  nb : (h.Blocks.length : Int) = c.Members
  nd : (h.Dirty.length : Int) = c.Members - 1
  ph : h.Phase.toNat ≤ 4
  bl : ∀ x ∈ h.Blocks, x.length = 0 ∨ x.length = 128
  di : ∀ k, h.Dirty.getD k false = true → (h.Blocks.getD k []).length ≠ 0
  ok : phOk h = true
theorem mayH_of {c : Config} {h : Head} (hm : mayH c h = true) : OfH c h := by
  simp only [mayH, Bool.and_eq_true] at hm
  obtain ⟨h1, h2, h3, h4⟩ := hm
  obtain ⟨a1, a2, a3, a4, a5⟩ := (sizeOk_iff c h).1 h2
  simp only [blksOk, Bool.and_eq_true, List.all_eq_true, List.mem_range, Bool.not_eq_true'] at h3
  refine ⟨(mayC_iff c).1 h1, a1, a2, a3, a4, a5, fun x hx => ?_, fun k hk => ?_, h4⟩
  · have := h3.1 x hx
    simp only [blkOk, Bool.or_eq_true, beq_iff_eq] at this; exact this
  · have hkl : k < h.Dirty.length := by
      apply Classical.byContradiction
      intro hn
      rw [List.getD_eq_getElem?_getD, List.getElem?_eq_none (by omega)] at hk
      cases hk
    have := h3.2 k hkl
    rw [dirtyBad, hk] at this
    simpa using this
theorem slot_expr {c : Config} (hm : MayC c) (slot : Int) : ((decide (slot < (0 : Int))) || (decide (slot ≥ (wI (c.Members - (1 : Int)))))) = !slotIn c slot := by
  have := hm.1
  rw [wI_id (x := c.Members - 1) (by omega) (by omega)]
  simp [slotIn]
theorem slotIn_iff (c : Config) (slot : Int) : slotIn c slot = true ↔ 0 ≤ slot ∧ slot < c.Members - 1 := by simp [slotIn]
theorem getD_some {α : Type} {l : List α} {k : Nat} (hk : k < l.length) (d : α) : l[k]? = some (l.getD k d) := by
  rw [List.getD_eq_getElem?_getD, List.getElem?_eq_getElem hk]; rfl
theorem OfH.blk {c : Config} {h : Head} (o : OfH c h) (k : Nat) : (h.Blocks.getD k []).length = 0 ∨ (h.Blocks.getD k []).length = 128 := by
  by_cases hk : k < h.Blocks.length
  · rw [List.getD_eq_getElem?_getD, List.getElem?_eq_getElem hk]; exact o.bl _ (List.getElem_mem hk)
  · rw [List.getD_eq_getElem?_getD, List.getElem?_eq_none (by omega)]; exact .inl rfl
/- Plain law: a slot taken, a slot known, a new head, copies, comparing. -/

def badH : Head := Head.mk 0 [] [] 0 false 0
def fullH (x : List UInt8) : List UInt8 := bif (x.length == 0) then List.replicate 128 0 else x
def errS (c : Config) (h : Head) (slot : Int) (data : List UInt8) : Int := bif mayH c h then (bif slotIn c slot then (bif blkOk data then 0 else 3) else 2) else 8
def takeS (c : Config) (h : Head) (slot : Int) (data : List UInt8) : Head × Int :=
  bif mayH c h && (slotIn c slot && blkOk data) then (bif decide (h.Phase.toNat ≤ 1) then (Head.mk h.Stripe ((h.Blocks.set (h.Blocks.length - 1) []).set slot.toNat (fullH data)) (h.Dirty.set slot.toNat true) 0 h.Deals h.Seq, 0) else (badH, 160)) else (badH, errS c h slot data)
def knowS (c : Config) (h : Head) (slot : Int) (data : List UInt8) : Head × Int :=
  bif mayH c h && (slotIn c slot && blkOk data) then (bif (h.Blocks.getD slot.toNat []).length == 0 then (Head.mk h.Stripe (h.Blocks.set slot.toNat (fullH data)) h.Dirty h.Phase h.Deals h.Seq, 0) else (h, 0)) else (badH, errS c h slot data)
def newIn (c : Config) (stripe : Int) : Bool := decide (0 ≤ stripe) && decide (stripe < c.Chunk * c.Rows)
def newS (c : Config) (stripe : Int) : Head × Int :=
  bif mayC c then (bif newIn c stripe then (Head.mk stripe (List.replicate c.Members.toNat []) (List.replicate (c.Members - 1).toNat false) 0 false 0, 0) else (badH, 2)) else (badH, 8)

theorem htwin2_eq {h : Head} (hs : SmallH h) : head_Twin h = some h := by
  unfold head_Twin slices_Clone_bool_bool
  have hnd := hs.nd
  rw [app_some _ _ (by simp; omega)]
  have := loop_run (step := fun s : Int × (List (List UInt8)) => head_Twin_L1 h s.1 s.2) (fun k => ((k : Int), h.Blocks.take k)) h.Blocks.length h.Blocks (fuel_lt (by have := hs.nb; omega)) (fun k hk => by
    obtain ⟨x, hx⟩ : ∃ x, h.Blocks[k]? = some x := ⟨_, List.getElem?_eq_getElem hk⟩
    have hxl := hs.len x (List.mem_of_getElem? hx)
    have := hs.nb
    unfold head_Twin_L1 slices_Clone_byte_byte
    simp only [decide_eq_true (show (k : Int) < (h.Blocks.length : Int) by omega), cond_true, idx_nat, hx, Option.bind_some, wI_succ (show k < 9223372036854775807 by omega)]
    rw [app_some _ _ (by simp; omega)]
    simp only [Option.bind_some, List.nil_append]
    rw [app_some _ _ (by simp; omega), take_succ_get _ _ _ hx]
    rfl) (by
    unfold head_Twin_L1
    rw [decide_eq_false (by omega), List.take_length]; rfl)
  have h0 : ((0 : Int), ([] : List (List UInt8))) = (fun k : Nat => ((k : Int), h.Blocks.take k)) 0 := by simp
  simp only [Option.bind_some, List.nil_append]
  rw [h0, this]
  rfl
theorem OfH.small {c : Config} {h : Head} (o : OfH c h) : SmallH h := by
  have := o.m.1
  have := o.nb
  have := o.nd
  exact ⟨by omega, by omega, fun x hx => by have := o.bl x hx; omega⟩
theorem fullH_len {x : List UInt8} (h : blkOk x = true) : (fullH x).length = 128 := by
  unfold fullH
  cases hz : (x.length == 0) with
  | true => simp
  | false => simp only [blkOk, hz, Bool.false_or, beq_iff_eq] at h; exact h

/-- Loops that turn each byte. -/
theorem spoil1 {α : Type} (l : List α) (hl : l.length < 4294967296) :
    loopM (fun s : Int => (bif decide (s < (l.length : Int)) then Option.bind (idx l s) (fun _ => Option.bind (idx l s) (fun _ => some (Ctl.next (wI (s + (1 : Int)))))) else some (Ctl.brk ()) : Option (Ctl Int Unit))) FUEL (0 : Int) = some () :=
  loop_count l.length hl (fun k hk => by
    rw [decide_eq_true (show (k : Int) < (l.length : Int) by omega), idx_nat, List.getElem?_eq_getElem hk, wI_succ (by omega)]; rfl) (by
    rw [decide_eq_false (by omega)]; rfl)
theorem spoil2 {α : Type} (l : List (List α)) (hl : l.length < 4294967296) (hx : ∀ x ∈ l, x.length < 4294967296) :
    loopM (fun s : Int => (bif decide (s < (l.length : Int)) then Option.bind (loopM (fun t : Int => (Option.bind (idx l s) (fun x => (bif decide (t < (x.length : Int)) then Option.bind (idx l s) (fun y => Option.bind (idx y t) (fun _ => Option.bind (idx y t) (fun _ => some (Ctl.next (wI (t + (1 : Int))))))) else some (Ctl.brk ()))) : Option (Ctl Int Unit))) FUEL (0 : Int)) (fun _ => some (Ctl.next (wI (s + (1 : Int))))) else some (Ctl.brk ()) : Option (Ctl Int Unit))) FUEL (0 : Int) = some () :=
  loop_count l.length hl (fun k hk => by
    have hxk := hx _ (List.getElem_mem hk)
    rw [decide_eq_true (show (k : Int) < (l.length : Int) by omega), loop_count l[k].length hxk (fun j hj => by
      rw [idx_nat, List.getElem?_eq_getElem hk]
      simp only [Option.bind_some]
      rw [decide_eq_true (show (j : Int) < (l[k].length : Int) by omega), idx_nat, List.getElem?_eq_getElem hj, wI_succ (by omega)]; rfl) (by
      rw [idx_nat, List.getElem?_eq_getElem hk]
      simp only [Option.bind_some]
      rw [decide_eq_false (by omega)]; rfl), wI_succ (by omega)]; rfl) (by
    rw [decide_eq_false (by omega)]; rfl)
/- Plain law: whether a head may be, by the reference, where the config may be. -/
theorem may16 {c : Config} (h : Head) (hm : MayC c) : ref16_May c h = some (mayH c h) := by
  rw [rmay_eq c h hm]
  unfold mayH
  rw [(mayC_iff c).2 hm, Bool.true_and]
/- Plain law: devices: which may be, copies, blocks. -/

theorem fuel_ltD {n : Nat} (h : n < 4294967296) : n < FUEL := by unfold FUEL; omega
theorem loop_anyD {α B : Type} (l : List α) (p : α → Bool) {step : Int → Option (Ctl Int B)} (yes no : B) (hl : l.length < 4294967296)
    (h1 : ∀ k (hk : k < l.length), step (k : Int) = some (bif p l[k] then .brk yes else .next ((k + 1 : Nat) : Int))) (h2 : step (l.length : Int) = some (.brk no)) :
    loopM step FUEL (0 : Int) = some (bif l.any p then yes else no) := by
  have := loop_any (step := step) (fun k => (k : Int)) l.length (fun k => (l[k]?.map p).getD false) yes no (fuel_ltD hl) (fun k hk => by
    rw [h1 k hk]; simp [hk]) h2
  rw [any_range l p _ (fun k hk => by simp [hk])] at this
  simpa using this
/-- The same for two lists of one length. -/
theorem loop_any2 {α β B : Type} (l : List α) (m : List β) (p : α → β → Bool) {step : Int → Option (Ctl Int B)} (yes no : B) (hl : l.length < 4294967296) (hm : l.length = m.length)
    (h1 : ∀ k (hk : k < l.length) (hk' : k < m.length), step (k : Int) = some (bif p l[k] m[k] then .brk yes else .next ((k + 1 : Nat) : Int))) (h2 : step (l.length : Int) = some (.brk no)) :
    loopM step FUEL (0 : Int) = some (bif (l.zip m).any (fun x => p x.1 x.2) then yes else no) := by
  have hz : (l.zip m).length = l.length := by simp; omega
  have := loop_anyD (l.zip m) (fun x => p x.1 x.2) (step := step) yes no (by omega) (fun k hk => by
    rw [h1 k (by omega) (by omega)]; simp) (by rw [hz]; exact h2)
  exact this
theorem zip_any_ne {α γ : Type} [DecidableEq γ] (f : α → γ) : ∀ (l m : List α), l.length = m.length → ((l.zip m).any (fun x => !decide (f x.1 = f x.2))) = !decide (l.map f = m.map f)
  | [], [], _ => by simp
  | [], _ :: _, h => by simp at h
  | _ :: _, [], h => by simp at h
  | a :: l, b :: m, h => by
    simp only [List.zip_cons_cons, List.any_cons, List.map_cons, zip_any_ne f l m (by simpa using h)]
    rw [Bool.eq_iff_iff]
    simp only [Bool.or_eq_true, Bool.not_eq_true', decide_eq_false_iff_not, List.cons.injEq]
    by_cases h1 : f a = f b <;> by_cases h2 : l.map f = m.map f <;> simp [h1, h2]

def fullB (b : List UInt8) : List UInt8 := if b.length = 0 then List.replicate 128 0 else b
def szB (b : List UInt8) : Bool := b.length == 0 || b.length == 128
theorem fullB_len {b : List UInt8} (h : szB b = true) : (fullB b).length = 128 := by
  unfold szB at h; unfold fullB
  simp at h
  split
  · simp
  · rcases h with h | h
    · subst h; simp at *
    · exact h
theorem fullB_ne (b : List UInt8) : (fullB b).length ≠ 0 := by
  unfold fullB
  split
  · rw [List.length_replicate]; omega
  · assumption
theorem fullB_full (b : List UInt8) : fullB (fullB b) = fullB b := by
  rw [show fullB (fullB b) = if (fullB b).length = 0 then List.replicate 128 0 else fullB b from rfl, if_neg (fullB_ne b)]
theorem szB_full {b : List UInt8} (h : szB b = true) : szB (fullB b) = true := by
  have := fullB_len h
  unfold szB; rw [this]; rfl

theorem rsized_eq (b : List UInt8) : ref04_Sized b = some (szB b) := by
  unfold ref04_Sized szB
  congr 1
  rw [Bool.eq_iff_iff]; simp only [Bool.or_eq_true, beq_iff_eq]; omega

theorem sum_loop {α : Type} (l : List α) (len : α → Nat) (m : Nat) (hm : m ≤ 2000) {step : Int × Int → Option (Ctl (Int × Int) Int)} (n0 : Int) (h0 : 0 ≤ n0) (h0' : n0 ≤ 1000000000)
    (h1 : ∀ k (hk : k < l.length) (n : Int), k < m → step (n, (k : Int)) = some (.next (wI (n + wI (8 + min ((len l[k] : Nat) : Int) 100000)), wI ((k : Int) + 1))))
    (h2 : ∀ (n : Int) (k : Nat), ¬(k < l.length ∧ k < m) → step (n, (k : Int)) = some (.brk n)) :
    ∃ b, loopM step FUEL (n0, (0 : Int)) = some b ∧ n0 ≤ b ∧ b ≤ n0 + 200000 * m ∧ ∀ j (hj : j < l.length), j < m → min ((len l[j] : Nat) : Int) 100000 ≤ b := by
  refine loop_inv (step := step) (min l.length m)
    (fun k s => s.2 = (k : Int) ∧ n0 ≤ s.1 ∧ s.1 ≤ n0 + 200000 * (k : Int) ∧ ∀ j (hj : j < l.length), j < k → min ((len l[j] : Nat) : Int) 100000 ≤ s.1) _ (fun k s hk hI => ?_) FUEL 0 (n0, 0) (Nat.zero_le _) (by unfold FUEL; omega) ⟨rfl, by simp, by simp, fun j _ hj => by omega⟩
  obtain ⟨s1, s2⟩ := s
  obtain ⟨e1, e2, e3, e4⟩ := hI
  simp only at e1 e2 e3 e4
  subst e1
  by_cases hlt : k < l.length ∧ k < m
  · refine .inl ⟨_, h1 k hlt.1 s1 hlt.2, by omega, ?_⟩
    rw [wI_id (x := 8 + min ((len l[k] : Nat) : Int) 100000) (by omega) (by omega), wI_id (by omega) (by omega), wI_succ (by omega)]
    refine ⟨rfl, by simp only; omega, by simp only; omega, fun j hj hjk => ?_⟩
    simp only
    by_cases hjk' : j = k
    · subst hjk'; omega
    · have := e4 j hj (by omega); omega
  · exact .inr ⟨s1, h2 s1 k hlt, e2, by omega, fun j hj hjm => e4 j hj (by omega)⟩

/-! ### which devices may be -/
/-- A loop that looks for the first element with p. -/
theorem loop_first {α B : Type} (l : List α) (p : α → Bool) {step : Int → Option (Ctl Int B)} (yes : Nat → B) (no : B) (hl : l.length < 4294967296)
    (h1 : ∀ k (hk : k < l.length), step (k : Int) = some (bif p l[k] then .brk (yes k) else .next ((k + 1 : Nat) : Int))) (h2 : step (l.length : Int) = some (.brk no)) :
    ∃ b, loopM step FUEL (0 : Int) = some b ∧ ((∃ k, b = yes k ∧ ∃ hk : k < l.length, p l[k] = true ∧ ∀ j (hj : j < l.length), j < k → p l[j] = false) ∨ (b = no ∧ ∀ x ∈ l, p x = false)) := by
  refine loop_inv (step := step) l.length (fun k s => s = (k : Int) ∧ ∀ j (hj : j < l.length), j < k → p l[j] = false) _ (fun k s hk hI => ?_) FUEL 0 0 (Nat.zero_le _) (by have := fuel_ltD hl; omega) ⟨rfl, fun j _ hj => by omega⟩
  obtain ⟨rfl, hI⟩ := hI
  by_cases hlt : k < l.length
  · rw [h1 k hlt]
    cases hp : p l[k] with
    | true => exact .inr ⟨_, rfl, .inl ⟨k, rfl, hlt, hp, hI⟩⟩
    | false =>
      refine .inl ⟨_, rfl, hlt, rfl, fun j hj hjk => ?_⟩
      by_cases he : j = k
      · subst he; exact hp
      · exact hI j hj (by omega)
  · obtain rfl : k = l.length := by omega
    refine .inr ⟨_, h2, .inr ⟨rfl, fun x hx => ?_⟩⟩
    obtain ⟨j, hj, rfl⟩ := List.getElem_of_mem hx
    exact hI j hj hj
theorem contB_eq (l : List (List UInt8)) (f : List UInt8 → Option Bool) (p : List UInt8 → Bool) (hl : l.length < 4294967296) (hf : ∀ x ∈ l, f x = some (p x)) : slices_ContainsFunc_byte_byte l f = some (l.any p) := by
  unfold slices_ContainsFunc_byte_byte slices_IndexFunc_byte_byte
  obtain ⟨b, hb, hq⟩ := loop_first l p (step := fun s : Int => slices_IndexFunc_byte_byte_L1 l f s) (fun k => Sum.inr (k : Int)) (Sum.inl ()) hl (fun k hk => by
      unfold slices_IndexFunc_byte_byte_L1
      rw [decide_eq_true (show (k : Int) < (l.length : Int) by omega), idx_nat, List.getElem?_eq_getElem hk, wI_succ (by omega)]
      simp only [cond_true, Option.bind_some, hf l[k] (List.getElem_mem _)]
      cases p l[k] <;> rfl) (by
      unfold slices_IndexFunc_byte_byte_L1
      rw [decide_eq_false (show ¬(l.length : Int) < (l.length : Int) by omega)]; rfl)
  rw [hb]
  rcases hq with ⟨k, rfl, hk, hp, _⟩ | ⟨rfl, hn⟩
  · rw [List.any_eq_true.2 ⟨l[k], List.getElem_mem _, hp⟩]; simp
  · rw [List.any_eq_false.2 (fun x hx => by rw [hn x hx]; simp)]; rfl
theorem any_orD {α : Type} (l : List α) (p q : α → Bool) : (l.any fun x => p x || q x) = (l.any p || l.any q) := by
  induction l with
  | nil => rfl
  | cons a l ih => simp only [List.any_cons, ih]; cases p a <;> cases q a <;> cases l.any p <;> rfl

/- Plain law: stripes in memory. -/

/-! ### places -/
def stB (s : Int) (h : Head) : Bool := h.Stripe == s
/-- The place of a stripe: none, or the first. -/
inductive At19 (l : List Head) (s : Int) : Int → Prop
  | none (h : ∀ x ∈ l, x.Stripe ≠ s) : At19 l s (-1)
  | some (k : Nat) (hk : k < l.length) (h : l[k].Stripe = s) (hf : ∀ j (hj : j < l.length), j < k → l[j].Stripe ≠ s) : At19 l s (k : Int)
theorem place_eq (l : List Head) (s : Int) (hl : l.length < 4294967296) : ∃ n, shelf_place l s = some n ∧ At19 l s n := by
  unfold shelf_place slices_IndexFunc_api_Head_api_Head
  obtain ⟨b, hb, hq⟩ := loop_first l (stB s) (step := fun q : Int => slices_IndexFunc_api_Head_api_Head_L1 l (fun y => shelf_place_1 y s) q) (fun k => Sum.inr (k : Int)) (Sum.inl ()) hl (fun k hk => by
      unfold slices_IndexFunc_api_Head_api_Head_L1
      rw [decide_eq_true (show (k : Int) < (l.length : Int) by omega), idx_nat, List.getElem?_eq_getElem hk, wI_succ (by omega)]
      simp only [cond_true, Option.bind_some, shelf_place_1]
      show _ = some (bif (l[k].Stripe == s) then _ else _)
      cases (l[k].Stripe == s) <;> rfl) (by
      unfold slices_IndexFunc_api_Head_api_Head_L1
      rw [decide_eq_false (by omega)]; rfl)
  rw [hb]
  rcases hq with ⟨k, rfl, hk, hp, hf⟩ | ⟨rfl, hf⟩
  · exact ⟨_, rfl, .some k hk (by simpa [stB] using hp) (fun j hj hjk => by simpa [stB] using hf j hj hjk)⟩
  · exact ⟨_, rfl, .none (fun x hx => by simpa [stB] using hf x hx)⟩

/-! ### shelves that may be -/
structure OkS (c : Config) (l : List Head) : Prop where
  m : MayC c
  le : (l.length : Int) ≤ c.Heads
  may : ∀ h ∈ l, mayH c h = true
  diff : l.Pairwise fun a b => a.Stripe ≠ b.Stripe
theorem OkS.small {c : Config} {l : List Head} (o : OkS c l) : l.length ≤ 8 := by
  have := o.m.2.2.2.1
  have := o.le
  omega
def badS (c : Config) (l : List Head) (k : Nat) : Bool := !mayH c (l.getD k badH) || (l.take k).any fun h => h.Stripe == (l.getD k badH).Stripe
theorem pw_take {l : List Head} (h : ∀ k (hk : k < l.length), (∀ x ∈ l.take k, x.Stripe ≠ l[k].Stripe)) : l.Pairwise fun a b => a.Stripe ≠ b.Stripe := by
  rw [List.pairwise_iff_getElem]
  intro i j hi hj hij
  exact h j hj _ (List.mem_iff_getElem.2 ⟨i, by rw [List.length_take]; omega, by rw [List.getElem_take]⟩)
theorem check19 (c : Config) (l : List Head) : ∃ e, shelf_Check c l = some e ∧ ((e = 0 ∧ OkS c l) ∨ (e = 8 ∧ ¬ OkS c l)) := by
  unfold shelf_Check
  rw [check_eq]
  simp only [Option.bind_some]
  by_cases hm : MayC c
  case neg =>
    rw [mayC_f hm]
    exact ⟨8, rfl, .inr ⟨rfl, fun o => hm o.m⟩⟩
  rw [(mayC_iff c).2 hm]
  by_cases hle : (l.length : Int) ≤ c.Heads
  case neg =>
    rw [decide_eq_true (show (l.length : Int) > c.Heads by omega)]
    exact ⟨8, rfl, .inr ⟨rfl, fun o => hle o.le⟩⟩
  rw [decide_eq_false (show ¬ (l.length : Int) > c.Heads by omega)]
  have hl : l.length < 4294967296 := by have := hm.2.2.2.1; omega
  simp only [cond_true, bne_self_eq_false, Bool.or_self, cond_false]
  have hgd : ∀ k (hk : k < l.length), l.getD k badH = l[k] := fun k hk => by rw [List.getD_eq_getElem?_getD, List.getElem?_eq_getElem hk]; rfl
  have hLA : loopM (fun s : Int => shelf_Check_L1 c l s) FUEL (0 : Int) = some (bif (List.range l.length).any (badS c l) then Sum.inr () else Sum.inl ()) := loop_any (step := fun q : Int => shelf_Check_L1 c l q) (fun k => (k : Int)) l.length (badS c l) (Sum.inr ()) (Sum.inl ()) (fuel_lt hl) (fun k hk => by
    unfold shelf_Check_L1 badS
    rw [decide_eq_true (by omega), idx_nat, List.getElem?_eq_getElem hk, wI_succ (by omega), hgd k hk]
    simp only [cond_true, Option.bind_some]
    rw [hcheck_eq]
    simp only [Option.bind_some]
    cases mayH c l[k] with
    | false => rfl
    | true =>
      simp only [cond_true, bne_self_eq_false, Bool.not_false, gO, Option.bind_some, Bool.false_or, Bool.not_true]
      rw [show slc l 0 (k : Int) = some (l.take k) by unfold slc; rw [if_pos (by omega)]; rfl]
      simp only [Option.bind_some]
      obtain ⟨n, hn, ha⟩ := place_eq (l.take k) l[k].Stripe (by rw [List.length_take]; omega)
      rw [hn]
      simp only [Option.bind_some]
      cases ha with
      | none h =>
        rw [show ((l.take k).any fun h => h.Stripe == l[k].Stripe) = false from List.any_eq_false.2 (fun x hx => by simpa using h x hx)]
        rfl
      | some j hj h hf =>
        rw [decide_eq_true (by omega), show ((l.take k).any fun h => h.Stripe == l[k].Stripe) = true from List.any_eq_true.2 ⟨_, List.getElem_mem hj, by simpa using h⟩]
        rfl) (by
    unfold shelf_Check_L1
    rw [decide_eq_false (by omega)]; rfl)
  rw [hLA]
  simp only [Option.bind_some]
  cases hany : (List.range l.length).any (badS c l) with
  | true =>
    refine ⟨8, rfl, .inr ⟨rfl, fun o => ?_⟩⟩
    obtain ⟨k, hk, hb⟩ := List.any_eq_true.1 hany
    have hk := List.mem_range.1 hk
    unfold badS at hb
    rw [hgd k hk, o.may _ (List.getElem_mem hk)] at hb
    simp only [Bool.not_true, Bool.false_or] at hb
    obtain ⟨x, hx, he⟩ := List.any_eq_true.1 hb
    obtain ⟨i, hi, rfl⟩ := List.mem_iff_getElem.1 hx
    have hik : i < k := by rw [List.length_take] at hi; omega
    rw [List.getElem_take] at he
    exact (List.pairwise_iff_getElem.1 o.diff i k (by omega) hk hik) (by simpa using he)
  | false =>
    refine ⟨0, rfl, .inl ⟨rfl, hm, hle, fun h hh => ?_, pw_take (fun k hk x hx he => ?_)⟩⟩
    · obtain ⟨k, hk, rfl⟩ := List.mem_iff_getElem.1 hh
      have := List.any_eq_false.1 hany k (List.mem_range.2 hk)
      unfold badS at this
      rw [hgd k hk] at this
      simp only [Bool.or_eq_true, Bool.not_eq_true', not_or, Bool.not_eq_false] at this
      exact this.1
    · have := List.any_eq_false.1 hany k (List.mem_range.2 hk)
      unfold badS at this
      rw [hgd k hk] at this
      simp only [Bool.or_eq_true, not_or] at this
      exact this.2 (List.any_eq_true.2 ⟨x, hx, by simpa using he⟩)
theorem check_ok {c : Config} {l : List Head} (o : OkS c l) : shelf_Check c l = some 0 := by
  obtain ⟨e, h1, ⟨h2, _⟩ | ⟨_, h3⟩⟩ := check19 c l
  · rw [h1, h2]
  · exact (h3 o).elim
theorem OkS.perm {c : Config} {l m : List Head} (o : OkS c l) (h : l.Perm m) : OkS c m :=
  ⟨o.m, by rw [← h.length_eq]; exact o.le, fun x hx => o.may x (h.mem_iff.2 hx), (h.pairwise_iff (fun h => Ne.symm h)).1 o.diff⟩
/-- In a shelf that may be, a place tells a stripe. -/
theorem at_iff {c : Config} {l : List Head} (o : OkS c l) {k : Nat} (hk : k < l.length) : At19 l l[k].Stripe (k : Int) :=
  .some k hk rfl (fun j hj hjk he => (List.pairwise_iff_getElem.1 o.diff j k hj hk hjk) he)
theorem At19.uniq {l : List Head} {s m n : Int} (h1 : At19 l s m) (h2 : At19 l s n) : m = n := by
  cases h1 with
  | none h =>
    cases h2 with
    | none _ => rfl
    | some k hk e _ => exact (h _ (List.getElem_mem hk) e).elim
  | some k hk e hf =>
    cases h2 with
    | none h => exact (h _ (List.getElem_mem hk) e).elim
    | some j hj e' hf' =>
      rcases Nat.lt_trichotomy k j with h | h | h
      · exact (hf' k hk h e).elim
      · rw [h]
      · exact (hf j hj h e').elim
theorem find_ok {c : Config} {l : List Head} (o : OkS c l) (s : Int) : ∃ n, At19 l s n ∧ shelf_place l s = some n ∧ shelf_Find c l s = some (bif decide (n < 0) then (0, 6) else (n, 0)) := by
  obtain ⟨n, hn, ha⟩ := place_eq l s (by have := o.small; omega)
  refine ⟨n, ha, hn, ?_⟩
  unfold shelf_Find
  rw [check_ok o]
  simp only [Option.bind_some, bne_self_eq_false, cond_false, hn]
  cases decide (n < 0) <;> rfl
theorem find_bad {c : Config} {l : List Head} (o : ¬ OkS c l) (s : Int) : shelf_Find c l s = some (0, 8) := by
  unfold shelf_Find
  obtain ⟨e, h1, ⟨_, h2⟩ | ⟨h3, _⟩⟩ := check19 c l
  · exact (o h2).elim
  · rw [h1, h3]; rfl

/-! ### copies, one put first -/
theorem twin19 {c : Config} {l : List Head} (hl : l.length < 4294967296) (h : ∀ x ∈ l, mayH c x = true) : shelf_Twin l = some l := by
  unfold shelf_Twin slices_Clone_api_Head_api_Head
  rw [app_some _ _ (by simp; omega)]
  simp only [Option.bind_some, List.nil_append]
  have := loop_run (step := fun s : Int × (List Head) => shelf_Twin_L1 l s.1 s.2) (fun k => ((k : Int), l)) l.length l (fuel_lt hl) (fun k hk => by
    unfold shelf_Twin_L1
    simp only
    rw [decide_eq_true (by omega), bnd_nat hk, wI_succ (by omega)]
    simp only [cond_true, Option.bind_some, List.getElem?_eq_getElem hk]
    rw [htwin2_eq (mayH_of (h _ (List.getElem_mem hk))).small]
    simp only [Option.bind_some]
    rw [List.set_getElem_self]) (by
    unfold shelf_Twin_L1
    simp only
    rw [decide_eq_false (by omega)]; rfl)
  have h0 : ((0 : Int), l) = (fun k : Nat => ((k : Int), l)) 0 := rfl
  rw [h0, this]; rfl
/-- Without one of a place. -/
def lessK {α : Type} (l : List α) (k : Nat) : List α := l.take k ++ l.drop (k + 1)
theorem first_new {c : Config} {l : List Head} {h : Head} (o : OkS c l) (hh : mayH c h = true) {n : Int} (hn : n < 0) : shelf_first l h n = some (h :: l) := by
  unfold shelf_first shelf_first_J1
  rw [twin19 (c := c) (by have := o.small; omega) o.may]
  simp only [Option.bind_some]
  rw [decide_eq_false (by omega), htwin2_eq (mayH_of hh).small]
  simp only [cond_false, Option.bind_some]
  unfold insL
  rw [if_pos (by have := o.small; omega)]
  rfl
theorem first_old {c : Config} {l : List Head} {h : Head} (o : OkS c l) (hh : mayH c h = true) {k : Nat} (hk : k < l.length) : shelf_first l h (k : Int) = some (h :: lessK l k) := by
  unfold shelf_first shelf_first_J1
  rw [twin19 (c := c) (by have := o.small; omega) o.may]
  simp only [Option.bind_some]
  have hs := o.small
  rw [decide_eq_true (by omega), htwin2_eq (mayH_of hh).small, wI_succ (by omega)]
  simp only [cond_true, Option.bind_some]
  unfold delL
  rw [if_pos (by omega)]
  simp only [Option.bind_some, Int.toNat_natCast]
  unfold insL
  rw [if_pos (by simp; omega)]
  rfl
theorem lessK_len {α : Type} {l : List α} {k : Nat} (hk : k < l.length) : (lessK l k).length = l.length - 1 := by
  unfold lessK
  rw [List.length_append, List.length_take, List.length_drop]
  omega
theorem lessK_perm {α : Type} {l : List α} {k : Nat} (hk : k < l.length) : l.Perm (l[k] :: lessK l k) := by
  have h : l = l.take k ++ l[k] :: l.drop (k + 1) := by rw [List.getElem_cons_drop, List.take_append_drop]
  have h2 := List.perm_middle (a := l[k]) (l₁ := l.take k) (l₂ := l.drop (k + 1))
  unfold lessK
  exact (List.Perm.of_eq h).trans h2
theorem lessK_at {α : Type} {l : List α} {k : Nat} (hk : k < l.length) (i : Nat) : (lessK l k)[i]? = if i < k then l[i]? else l[i + 1]? := by
  unfold lessK
  rw [List.getElem?_append, List.length_take, Nat.min_eq_left (by omega), List.getElem?_take]
  split
  · rfl
  · rw [List.getElem?_drop]
    congr 1
    omega
theorem great19 (l : List Head) (hl : l.length ≤ 9223372036854775807) : ∃ g, ref19_Great l = some g ∧ (g = false → l.length ≤ 20) := by
  unfold ref19_Great
  obtain ⟨b, hb, hq⟩ := loop_inv (step := fun q : Int => ref19_Great_L1 l q) (min l.length 20) (fun k s => s = (k : Int)) (fun b => True) (fun k s hk hs => by
    subst hs
    unfold ref19_Great_L1
    by_cases h : k < l.length ∧ k < 20
    · rw [decide_eq_true (show (k : Int) < (l.length : Int) by omega), decide_eq_true (show (k : Int) < 20 by omega), idx_nat, List.getElem?_eq_getElem h.1, wI_succ (by omega)]
      simp only [Bool.and_self, cond_true, Option.bind_some]
      obtain ⟨g, hg, _⟩ := hgreat_eq l[k]
      rw [hg]
      simp only [Option.bind_some]
      cases g with
      | true => exact .inr ⟨_, rfl, trivial⟩
      | false => exact .inl ⟨_, rfl, by omega, rfl⟩
    · refine .inr ⟨Sum.inl (), ?_, trivial⟩
      · rw [show (decide ((k : Int) < (l.length : Int)) && decide ((k : Int) < 20)) = false by rw [Bool.eq_false_iff]; intro h'; simp at h'; omega]
        rfl) FUEL 0 0 (Nat.zero_le _) (by unfold FUEL; omega) rfl
  rw [hb]
  cases b with
  | inl _ => exact ⟨_, rfl, fun h => by
      have h2 := of_decide_eq_false h
      omega⟩
  | inr _ => exact ⟨true, rfl, fun h => by cases h⟩
/- Plain law: stripes in memory, by the reference. -/

theorem getD_bad {l : List Head} {k : Nat} (hk : k < l.length) : l.getD k badH = l[k] := by rw [List.getD_eq_getElem?_getD, List.getElem?_eq_getElem hk]; rfl
theorem okS_any {c : Config} {l : List Head} (hm : MayC c) (hle : (l.length : Int) ≤ c.Heads) : ((List.range l.length).any (badS c l) = true ∧ ¬ OkS c l) ∨ ((List.range l.length).any (badS c l) = false ∧ OkS c l) := by
  cases hany : (List.range l.length).any (badS c l) with
  | true =>
    refine .inl ⟨rfl, fun o => ?_⟩
    obtain ⟨k, hk, hb⟩ := List.any_eq_true.1 hany
    have hk := List.mem_range.1 hk
    unfold badS at hb
    rw [getD_bad hk, o.may _ (List.getElem_mem hk)] at hb
    simp only [Bool.not_true, Bool.false_or] at hb
    obtain ⟨x, hx, he⟩ := List.any_eq_true.1 hb
    obtain ⟨i, hi, rfl⟩ := List.mem_iff_getElem.1 hx
    have hik : i < k := by rw [List.length_take] at hi; omega
    rw [List.getElem_take] at he
    exact (List.pairwise_iff_getElem.1 o.diff i k (by omega) hk hik) (by simpa using he)
  | false =>
    refine .inr ⟨rfl, hm, hle, fun h hh => ?_, pw_take (fun k hk x hx he => ?_)⟩
    · obtain ⟨k, hk, rfl⟩ := List.mem_iff_getElem.1 hh
      have := List.any_eq_false.1 hany k (List.mem_range.2 hk)
      unfold badS at this
      rw [getD_bad hk] at this
      simp only [Bool.or_eq_true, Bool.not_eq_true', not_or, Bool.not_eq_false] at this
      exact this.1
    · have := List.any_eq_false.1 hany k (List.mem_range.2 hk)
      unfold badS at this
      rw [getD_bad hk] at this
      simp only [Bool.or_eq_true, not_or] at this
      exact this.2 (List.any_eq_true.2 ⟨x, hx, by simpa using he⟩)
/-- Small shelves: what the laws look at. -/
structure SmS (l : List Head) : Prop where
  le : l.length ≤ 20
  sm : ∀ h ∈ l, SmallH h
theorem great19S (l : List Head) (hl : l.length ≤ 9223372036854775807) : ∃ g, ref19_Great l = some g ∧ (g = false → SmS l) := by
  unfold ref19_Great
  obtain ⟨b, hb, hq⟩ := loop_inv (step := fun q : Int => ref19_Great_L1 l q) (min l.length 20) (fun k s => s = (k : Int) ∧ ∀ j (hj : j < l.length), j < k → SmallH l[j]) (fun b => b = Sum.inl () → ∀ j (hj : j < l.length), j < 20 → SmallH l[j]) (fun k s hk hs => by
    obtain ⟨rfl, hI⟩ := hs
    unfold ref19_Great_L1
    by_cases h : k < l.length ∧ k < 20
    · rw [decide_eq_true (show (k : Int) < (l.length : Int) by omega), decide_eq_true (show (k : Int) < 20 by omega), idx_nat, List.getElem?_eq_getElem h.1, wI_succ (by omega)]
      simp only [Bool.and_self, cond_true, Option.bind_some]
      obtain ⟨g, hg, hsm⟩ := hgreat_eq l[k]
      rw [hg]
      simp only [Option.bind_some]
      cases g with
      | true => exact .inr ⟨_, rfl, fun h => by cases h⟩
      | false =>
        refine .inl ⟨_, rfl, by omega, rfl, fun j hj hjk => ?_⟩
        by_cases he : j = k
        · subst he; exact hsm rfl
        · exact hI j hj (by omega)
    · refine .inr ⟨Sum.inl (), ?_, fun _ j hj h20 => hI j hj (by omega)⟩
      rw [show (decide ((k : Int) < (l.length : Int)) && decide ((k : Int) < 20)) = false by rw [Bool.eq_false_iff]; intro h'; simp at h'; omega]
      rfl) FUEL 0 0 (Nat.zero_le _) (by unfold FUEL; omega) ⟨rfl, fun j hj h => by omega⟩
  rw [hb]
  cases b with
  | inl _ =>
    refine ⟨_, rfl, fun h => ?_⟩
    have h2 := of_decide_eq_false h
    refine ⟨by omega, fun x hx => ?_⟩
    obtain ⟨j, hj, rfl⟩ := List.mem_iff_getElem.1 hx
    exact hq rfl j hj (by omega)
  | inr _ => exact ⟨true, rfl, fun h => by cases h⟩
theorem rtwin19 {l : List Head} (s : SmS l) : ref19_Twin l = some l := by
  have hl := s.le
  unfold ref19_Twin
  have := loop_run (step := fun q : (List Head) × Int => ref19_Twin_L1 l q.1 q.2) (fun k => (l.take k, (k : Int))) l.length l (fuel_lt (by omega)) (fun k hk => by
    unfold ref19_Twin_L1
    simp only
    rw [decide_eq_true (by omega), idx_nat, List.getElem?_eq_getElem hk, wI_succ (by omega)]
    simp only [cond_true, Option.bind_some]
    rw [htwin_eq (s.sm _ (List.getElem_mem hk))]
    simp only [Option.bind_some]
    rw [app_some _ _ (by simp; omega), take_succ_get _ _ _ (List.getElem?_eq_getElem hk)]
    rfl) (by
    unfold ref19_Twin_L1
    simp only
    rw [decide_eq_false (by omega), List.take_length]; rfl)
  have h0 : (([] : List Head), (0 : Int)) = (fun k : Nat => (l.take k, (k : Int))) 0 := rfl
  rw [h0, this]; rfl
theorem rmay19 {c : Config} {l : List Head} (hm : MayC c) (hl : l.length ≤ 20) : ref19_May c l = some (bif (List.range l.length).any (badS c l) then false else decide ((l.length : Int) ≤ c.Heads)) := by
  unfold ref19_May
  have hLA : loopM (fun s : Int => ref19_May_L1 c l s) FUEL (0 : Int) = some (bif (List.range l.length).any (badS c l) then Sum.inr () else Sum.inl ()) := loop_any (step := fun q : Int => ref19_May_L1 c l q) (fun k => (k : Int)) l.length (badS c l) (Sum.inr ()) (Sum.inl ()) (fuel_lt (by omega)) (fun k hk => by
    unfold ref19_May_L1 badS
    rw [decide_eq_true (by omega), idx_nat, List.getElem?_eq_getElem hk, wI_succ (by omega), getD_bad hk]
    simp only [cond_true, Option.bind_some]
    rw [may16 _ hm]
    simp only [Option.bind_some]
    cases mayH c l[k] with
    | false => rfl
    | true =>
      simp only [Bool.not_true, cond_false, Bool.false_or]
      have htl : (l.take k).length = k := by rw [List.length_take]; omega
      rw [loop_any_list (step := fun q : Int => ref19_May_L2 l (k : Int) q) (l.take k) (fun h => h.Stripe == l[k].Stripe) (Sum.inr ()) (Sum.inl ()) (by omega) (fun j hj => by
        unfold ref19_May_L2
        have hjk : j < k := by omega
        rw [decide_eq_true (show (j : Int) < (k : Int) by omega), idx_nat, idx_nat, List.getElem?_eq_getElem hk, List.getElem?_eq_getElem (show j < l.length by omega), wI_succ (by omega)]
        simp only [cond_true, Option.bind_some, List.getElem_take]
        cases (l[j].Stripe == l[k].Stripe) <;> rfl) (by
        unfold ref19_May_L2
        rw [decide_eq_false (by omega)]; rfl)]
      cases ((l.take k).any fun h => h.Stripe == l[k].Stripe) <;> rfl) (by
    unfold ref19_May_L1
    rw [decide_eq_false (by omega)]; rfl)
  rw [hLA]
  cases (List.range l.length).any (badS c l) <;> rfl
theorem rcheck19 (c : Config) {l : List Head} (hl : l.length ≤ 20) : ref19_Check c l = shelf_Check c l := by
  unfold ref19_Check
  rw [may_eq]
  simp only [Option.bind_some]
  obtain ⟨e, h1, h2⟩ := check19 c l
  rw [h1]
  by_cases hm : MayC c
  case neg =>
    rw [mayC_f hm]
    rcases h2 with ⟨_, o⟩ | ⟨rfl, _⟩
    · exact (hm o.m).elim
    · rfl
  rw [(mayC_iff c).2 hm]
  simp only [Bool.not_true, Bool.not_false, gO, cond_true, Bool.false_or]
  rw [rmay19 hm hl]
  simp only [Option.bind_some]
  by_cases hle : (l.length : Int) ≤ c.Heads
  case neg =>
    rw [decide_eq_false hle]
    rcases h2 with ⟨_, o⟩ | ⟨rfl, _⟩
    · exact (hle o.le).elim
    · cases (List.range l.length).any (badS c l) <;> rfl
  rw [decide_eq_true hle]
  rcases okS_any hm hle with ⟨ha, hn⟩ | ⟨ha, o⟩
  · rw [ha]
    rcases h2 with ⟨_, o⟩ | ⟨rfl, _⟩
    · exact (hn o).elim
    · rfl
  · rw [ha]
    rcases h2 with ⟨rfl, _⟩ | ⟨_, hn⟩
    · rfl
    · exact (hn o).elim
theorem rplace19 {l : List Head} (hl : l.length ≤ 20) (s : Int) : ref19_Place l s = shelf_place l s := by
  obtain ⟨n, hn, ha⟩ := place_eq l s (by omega)
  rw [hn]
  unfold ref19_Place
  obtain ⟨b, hb, hq⟩ := loop_first l (stB s) (step := fun q : Int => ref19_Place_L1 l s q) (fun k => Sum.inr (k : Int)) (Sum.inl ()) (by omega) (fun k hk => by
      unfold ref19_Place_L1
      rw [decide_eq_true (show (k : Int) < (l.length : Int) by omega), idx_nat, List.getElem?_eq_getElem hk, wI_succ (by omega)]
      simp only [cond_true, Option.bind_some]
      show _ = some (bif (l[k].Stripe == s) then _ else _)
      cases (l[k].Stripe == s) <;> rfl) (by
      unfold ref19_Place_L1
      rw [decide_eq_false (by omega)]; rfl)
  rw [hb]
  rcases hq with ⟨k, rfl, hk, hp, hf⟩ | ⟨rfl, hf⟩
  · have := ha.uniq (.some k hk (by simpa [stB] using hp) (fun j hj hjk => by simpa [stB] using hf j hj hjk))
    rw [this]; rfl
  · have := ha.uniq (.none (fun x hx => by simpa [stB] using hf x hx))
    rw [this]; rfl
theorem rfind19 (c : Config) {l : List Head} (hl : l.length ≤ 20) (s : Int) : ref19_Find c l s = shelf_Find c l s := by
  unfold ref19_Find shelf_Find
  rw [rcheck19 c hl, rplace19 hl]
theorem rsame19 {l : List Head} (s : SmS l) (m : List Head) : ref19_Same l m = some (decide (l = m)) := by
  have hl := s.le
  unfold ref19_Same
  by_cases hn : l.length = m.length
  case neg =>
    rw [show (((l.length : Nat) : Int) != ((m.length : Nat) : Int)) = true by simp; omega, decide_eq_false (fun e => hn (congrArg List.length e))]; rfl
  rw [show (((l.length : Nat) : Int) != ((m.length : Nat) : Int)) = false by simp; omega]
  simp only [cond_false]
  rw [loop_differ l m (step := fun q : Int => ref19_Same_L1 l m q) (Sum.inr ()) (Sum.inl ()) (by omega) hn (fun k x y hx hy hk => by
    have hsm := s.sm x (List.mem_of_getElem? hx)
    have := hsm.nb
    have := hsm.nd
    unfold ref19_Same_L1
    rw [decide_eq_true (by omega), idx_nat, idx_nat, hx, hy, wI_succ (by omega)]
    simp only [cond_true, Option.bind_some]
    rw [rsame_eq x y (by omega) (by omega)]
    simp only [Option.bind_some]
    cases decide (x = y) <;> rfl) (by
    unfold ref19_Same_L1
    rw [decide_eq_false (by omega)]; rfl)]
  cases decide (l = m) <;> rfl
theorem twinS {l : List Head} (s : SmS l) : shelf_Twin l = some l := by
  have hl := s.le
  unfold shelf_Twin slices_Clone_api_Head_api_Head
  rw [app_some _ _ (by simp; omega)]
  simp only [Option.bind_some, List.nil_append]
  have := loop_run (step := fun s : Int × (List Head) => shelf_Twin_L1 l s.1 s.2) (fun k => ((k : Int), l)) l.length l (fuel_lt (by omega)) (fun k hk => by
    unfold shelf_Twin_L1
    simp only
    rw [decide_eq_true (by omega), bnd_nat hk, wI_succ (by omega)]
    simp only [cond_true, Option.bind_some, List.getElem?_eq_getElem hk]
    rw [htwin2_eq (s.sm _ (List.getElem_mem hk))]
    simp only [Option.bind_some]
    rw [List.set_getElem_self]) (by
    unfold shelf_Twin_L1
    simp only
    rw [decide_eq_false (by omega)]; rfl)
  have h0 : ((0 : Int), l) = (fun k : Nat => ((k : Int), l)) 0 := rfl
  rw [h0, this]; rfl
/-- A loop that writes over: it only counts. -/
theorem spoil19 {l : List Head} (s : SmS l) {L : Int → Option (Ctl Int Unit)} {LB LD : Int → Int → Option (Ctl Int Unit)} {LN : Int → Int → Int → Option (Ctl Int Unit)}
    (hL : ∀ q, L q = bif decide (q < (l.length : Int)) then Option.bind (loopM (fun z => LB q z) FUEL (0 : Int)) (fun _ => Option.bind (loopM (fun z => LD q z) FUEL (0 : Int)) (fun _ => some (Ctl.next (wI (q + 1))))) else some (Ctl.brk ()))
    (hB : ∀ q z, LB q z = Option.bind (idx l q) fun x => bif decide (z < (x.Blocks.length : Int)) then Option.bind (loopM (fun n => LN q z n) FUEL (0 : Int)) (fun _ => some (Ctl.next (wI (z + 1)))) else some (Ctl.brk ()))
    (hN : ∀ q z n, LN q z n = Option.bind (idx l q) fun x => Option.bind (idx x.Blocks z) fun y => bif decide (n < (y.length : Int)) then Option.bind (idx l q) (fun x2 => Option.bind (idx x2.Blocks z) fun y2 => Option.bind (idx y2 n) fun _ => Option.bind (idx y2 n) fun _ => some (Ctl.next (wI (n + 1)))) else some (Ctl.brk ()))
    (hD : ∀ q z, LD q z = Option.bind (idx l q) fun x => bif decide (z < (x.Dirty.length : Int)) then Option.bind (idx l q) (fun x2 => Option.bind (idx l q) fun x3 => Option.bind (idx x3.Dirty z) fun _ => Option.bind (idx x2.Dirty z) fun _ => some (Ctl.next (wI (z + 1)))) else some (Ctl.brk ())) :
    loopM L FUEL (0 : Int) = some () := by
  have hl := s.le
  refine loop_count l.length (by omega) (fun k hk => ?_) (by rw [hL, decide_eq_false (by omega)]; rfl)
  have hsm := s.sm _ (List.getElem_mem hk)
  have hnb := hsm.nb
  have hnd := hsm.nd
  have hlk : idx l (k : Int) = some l[k] := by rw [idx_nat, List.getElem?_eq_getElem hk]
  rw [hL, decide_eq_true (by omega), wI_succ (by omega)]
  simp only [cond_true]
  rw [loop_count l[k].Blocks.length (by omega) (fun j hj => by
      have hbl := hsm.len _ (List.getElem_mem hj)
      rw [hB, hlk]
      simp only [Option.bind_some]
      rw [decide_eq_true (by omega), wI_succ (by omega)]
      simp only [cond_true]
      rw [loop_count l[k].Blocks[j].length (by omega) (fun n hn => by
          rw [hN, hlk]
          simp only [Option.bind_some]
          rw [idx_nat, List.getElem?_eq_getElem hj]
          simp only [Option.bind_some]
          rw [decide_eq_true (by omega), idx_nat, List.getElem?_eq_getElem hn, wI_succ (by omega)]
          rfl) (by
          rw [hN, hlk]
          simp only [Option.bind_some]
          rw [idx_nat, List.getElem?_eq_getElem hj]
          simp only [Option.bind_some]
          rw [decide_eq_false (by omega)]; rfl)]
      rfl) (by
      rw [hB, hlk]
      simp only [Option.bind_some]
      rw [decide_eq_false (by omega)]; rfl)]
  simp only [Option.bind_some]
  rw [loop_count l[k].Dirty.length (by omega) (fun j hj => by
      rw [hD, hlk]
      simp only [Option.bind_some]
      rw [decide_eq_true (by omega), idx_nat, List.getElem?_eq_getElem hj, wI_succ (by omega)]
      rfl) (by
      rw [hD, hlk]
      simp only [Option.bind_some]
      rw [decide_eq_false (by omega)]; rfl)]
  rfl
/- Plain law: what was put in is first; what is pinned never goes. -/

theorem dirty_may {c : Config} {a : Head} (h : mayH c a = true) : ref16_Dirty a = some (anyD a) := by
  have o := mayH_of h
  have := o.m.1
  have := o.nd
  exact dirty_eq a (by omega)
/-- The place of the last that is clean. -/
inductive Free19 (l : List Head) : Int → Prop
  | none (h : ∀ x ∈ l, anyD x = true) : Free19 l (-1)
  | some (k : Nat) (hk : k < l.length) (h : anyD l[k] = false) (hf : ∀ j (hj : j < l.length), k < j → anyD l[j] = true) : Free19 l (k : Int)
theorem free19 {c : Config} {l : List Head} (o : OkS c l) : ∃ n, shelf_free l = some n ∧ Free19 l n := by
  have hs := o.small
  unfold shelf_free
  obtain ⟨b, hb, hq⟩ := loop_inv (step := fun q : Int => shelf_free_L1 l q) l.length (fun k s => s = ((l.length - k : Nat) : Int) ∧ ∀ j (hj : j < l.length), l.length - k ≤ j → anyD l[j] = true) (fun b => (b = Sum.inl () ∧ ∀ x ∈ l, anyD x = true) ∨ ∃ k : Nat, b = Sum.inr (k : Int) ∧ ∃ hk : k < l.length, anyD l[k] = false ∧ ∀ j (hj : j < l.length), k < j → anyD l[j] = true) (fun k s hk hI => by
    obtain ⟨rfl, hI⟩ := hI
    unfold shelf_free_L1
    by_cases h0 : l.length - k = 0
    · rw [h0]
      refine .inr ⟨Sum.inl (), rfl, .inl ⟨rfl, fun x hx => ?_⟩⟩
      obtain ⟨j, hj, rfl⟩ := List.mem_iff_getElem.1 hx
      exact hI j hj (by omega)
    · obtain ⟨i, hi⟩ : ∃ i, l.length - k = i + 1 := ⟨l.length - k - 1, by omega⟩
      rw [hi] at hI ⊢
      have hil : i < l.length := by omega
      have hom := mayH_of (o.may _ (List.getElem_mem hil))
      have hd1 := hom.nd
      have hd2 := hom.m.1
      have hw : wI (((i + 1 : Nat) : Int) - 1) = (i : Int) := by rw [wI_id (by omega) (by omega)]; omega
      rw [decide_eq_true (show ((i + 1 : Nat) : Int) > 0 by omega), hw, idx_nat, List.getElem?_eq_getElem hil]
      simp only [cond_true, Option.bind_some]
      rw [loop_any_list (step := fun q : Int => shelf_free_L2 l[i] q) l[i].Dirty (fun x => x) (Sum.inl ()) (Sum.inr ()) (by omega) (fun j hj => by
        unfold shelf_free_L2
        rw [decide_eq_true (by omega), idx_nat, List.getElem?_eq_getElem hj, wI_succ (by omega)]
        simp only [cond_true, Option.bind_some]
        cases l[i].Dirty[j] <;> rfl) (by
        unfold shelf_free_L2
        rw [decide_eq_false (by omega)]; rfl)]
      have ha : l[i].Dirty.any (fun x => x) = anyD l[i] := rfl
      rw [ha]
      simp only [Option.bind_some]
      cases hd : anyD l[i] with
      | true =>
        refine .inl ⟨_, rfl, by omega, by omega, fun j hj hjk => ?_⟩
        by_cases h : j = i
        · subst h; exact hd
        · exact hI j hj (by omega)
      | false =>
        exact .inr ⟨_, rfl, .inr ⟨i, rfl, hil, hd, fun j hj hij => hI j hj (by omega)⟩⟩) FUEL 0 (l.length : Int) (Nat.zero_le _) (by unfold FUEL; omega) ⟨by simp, fun j hj h => by omega⟩
  rw [hb]
  rcases hq with ⟨rfl, h⟩ | ⟨k, rfl, hk, h1, h2⟩
  · exact ⟨_, rfl, .none h⟩
  · exact ⟨_, rfl, .some k hk h1 h2⟩
theorem put_bad {c : Config} {l : List Head} {h : Head} (o : ¬ (OkS c l ∧ mayH c h = true)) : shelf_Put c l h = some ([], 8) := by
  unfold shelf_Put
  obtain ⟨e, h1, ⟨rfl, h2⟩ | ⟨rfl, _⟩⟩ := check19 c l
  · have hm : mayH c h = false := by
      cases hm : mayH c h with
      | false => rfl
      | true => exact (o ⟨h2, hm⟩).elim
    rw [h1]
    simp only [Option.bind_some, bne_self_eq_false, Bool.not_false, gO, cond_true]
    rw [hcheck_eq, hm]
    rfl
  · rw [h1]; rfl
/-- What comes of putting one in. -/
inductive Put19 (c : Config) (l : List Head) (h : Head) : List Head × Int → Prop
  | full (h1 : ∀ x ∈ l, x.Stripe ≠ h.Stripe) (h2 : (l.length : Int) = c.Heads) (h3 : ∀ x ∈ l, anyD x = true) : Put19 c l h ([], 9)
  | more (h1 : ∀ x ∈ l, x.Stripe ≠ h.Stripe) (h2 : (l.length : Int) < c.Heads) : Put19 c l h (h :: l, 0)
  | anew (k : Nat) (hk : k < l.length) (h1 : l[k].Stripe = h.Stripe) : Put19 c l h (h :: lessK l k, 0)
  | goes (k : Nat) (hk : k < l.length) (h1 : ∀ x ∈ l, x.Stripe ≠ h.Stripe) (h2 : (l.length : Int) = c.Heads) (h3 : anyD l[k] = false) (h4 : ∀ j (hj : j < l.length), k < j → anyD l[j] = true) : Put19 c l h (h :: lessK l k, 0)
theorem put_ok {c : Config} {l : List Head} {h : Head} (o : OkS c l) (hm : mayH c h = true) : ∃ r, shelf_Put c l h = some r ∧ Put19 c l h r := by
  unfold shelf_Put
  rw [check_ok o]
  simp only [Option.bind_some, bne_self_eq_false, Bool.not_false, gO, cond_true]
  rw [hcheck_eq, hm]
  simp only [cond_true, Option.bind_some, bne_self_eq_false, Bool.or_self, cond_false]
  obtain ⟨n, hn, ha⟩ := place_eq l h.Stripe (by have := o.small; omega)
  rw [hn]
  simp only [Option.bind_some]
  cases ha with
  | some k hk h1 hf =>
    rw [decide_eq_false (show ¬ (k : Int) < 0 by omega)]
    simp only [Bool.false_and, cond_false]
    unfold shelf_Put_J1
    rw [first_old o hm hk]
    exact ⟨_, rfl, .anew k hk h1⟩
  | none h1 =>
    rw [show decide ((-1 : Int) < 0) = true from rfl]
    simp only [Bool.true_and]
    have hle := o.le
    by_cases hH : (l.length : Int) = c.Heads
    · rw [show ((l.length : Int) == c.Heads) = true by simpa using hH]
      simp only [cond_true]
      obtain ⟨m, hm2, hf⟩ := free19 o
      rw [hm2]
      simp only [Option.bind_some]
      cases hf with
      | none h3 => exact ⟨_, rfl, .full h1 hH h3⟩
      | some k hk h3 h4 =>
        rw [decide_eq_false (show ¬ (k : Int) < 0 by omega)]
        simp only [cond_false]
        unfold shelf_Put_J1
        rw [first_old o hm hk]
        exact ⟨_, rfl, .goes k hk h1 hH h3 h4⟩
    · rw [show ((l.length : Int) == c.Heads) = false by simpa using hH]
      simp only [cond_false]
      unfold shelf_Put_J1
      rw [first_new o hm (by omega)]
      exact ⟨_, rfl, .more h1 (by omega)⟩
theorem okS_cons {c : Config} {l : List Head} {h : Head} (m : MayC c) (hle : ((h :: l).length : Int) ≤ c.Heads) (hm : mayH c h = true) (may : ∀ x ∈ l, mayH c x = true) (diff : l.Pairwise fun a b => a.Stripe ≠ b.Stripe) (h1 : ∀ x ∈ l, x.Stripe ≠ h.Stripe) : OkS c (h :: l) :=
  ⟨m, hle, fun x hx => by
    rcases List.mem_cons.1 hx with rfl | hx
    · exact hm
    · exact may x hx, List.pairwise_cons.2 ⟨fun x hx => Ne.symm (h1 x hx), diff⟩⟩
theorem lessK_mem {l : List Head} {k : Nat} {x : Head} (hx : x ∈ lessK l k) : x ∈ l := by
  rcases List.mem_append.1 hx with hx | hx
  · exact List.mem_of_mem_take hx
  · exact List.mem_of_mem_drop hx
theorem lessK_sub {l : List Head} (k : Nat) : (lessK l k).Sublist l := by
  unfold lessK
  conv => rhs; rw [← List.take_append_drop k l]
  refine List.Sublist.append (List.Sublist.refl _) ?_
  rw [← List.drop_drop]
  exact List.drop_sublist 1 _
theorem put_shelf {c : Config} {l : List Head} {h : Head} (o : OkS c l) (hm : mayH c h = true) {x : List Head} (hp : Put19 c l h (x, 0)) : OkS c x := by
  cases hp with
  | more h1 h2 => exact okS_cons o.m (by rw [List.length_cons]; omega) hm o.may o.diff h1
  | anew k hk h1 =>
    have hle := o.le
    refine okS_cons o.m (by rw [List.length_cons, lessK_len hk]; omega) hm (fun x hx => o.may x (lessK_mem hx)) (o.diff.sublist (lessK_sub k)) (fun x hx => ?_)
    have hd : (l[k] :: lessK l k).Pairwise fun a b => a.Stripe ≠ b.Stripe := ((lessK_perm hk).pairwise_iff (fun h => Ne.symm h)).1 o.diff
    have := (List.pairwise_cons.1 hd).1 x hx
    rw [h1] at this
    exact Ne.symm this
  | goes k hk h1 h2 h3 h4 =>
    have hle := o.le
    exact okS_cons o.m (by rw [List.length_cons, lessK_len hk]; omega) hm (fun x hx => o.may x (lessK_mem hx)) (o.diff.sublist (lessK_sub k)) (fun x hx => h1 x (lessK_mem hx))
/- Plain law: shelves, places, room, copies, comparing. -/

theorem Free19.uniq {l : List Head} {m n : Int} (h1 : Free19 l m) (h2 : Free19 l n) : m = n := by
  cases h1 with
  | none h =>
    cases h2 with
    | none _ => rfl
    | some k hk e _ => rw [h _ (List.getElem_mem hk)] at e; cases e
  | some k hk e hf =>
    cases h2 with
    | none h => rw [h _ (List.getElem_mem hk)] at e; cases e
    | some j hj e' hf' =>
      rcases Nat.lt_trichotomy k j with h | h | h
      · rw [hf j hj h] at e'; cases e'
      · rw [h]
      · rw [hf' k hk h] at e; cases e
theorem rgoes19 {l : List Head} (s : SmS l) : ∃ n, ref19_Goes l = some n ∧ Free19 l n := by
  have hl := s.le
  unfold ref19_Goes
  obtain ⟨b, hb, hq⟩ := loop_inv (step := fun q : Int × Int => ref19_Goes_L1 l q.1 q.2) l.length (fun k q => q.2 = (k : Int) ∧ ((q.1 = -1 ∧ ∀ j (hj : j < l.length), j < k → anyD l[j] = true) ∨ ∃ m : Nat, q.1 = (m : Int) ∧ m < k ∧ ∃ hm : m < l.length, anyD l[m] = false ∧ ∀ j (hj : j < l.length), m < j → j < k → anyD l[j] = true)) (fun b => Free19 l b) (fun k q hk hI => by
    obtain ⟨o, i⟩ := q
    obtain ⟨rfl, hI⟩ := hI
    unfold ref19_Goes_L1 ref19_Goes_J2
    simp only at hI ⊢
    by_cases h : k < l.length
    · have hsm := s.sm _ (List.getElem_mem h)
      have hnd := hsm.nd
      rw [decide_eq_true (show (k : Int) < (l.length : Int) by omega), idx_nat, List.getElem?_eq_getElem h, wI_succ (by omega)]
      simp only [cond_true, Option.bind_some]
      rw [dirty_eq l[k] (by omega)]
      simp only [Option.bind_some]
      cases hd : anyD l[k] with
      | false =>
        refine .inl ⟨_, rfl, h, rfl, .inr ⟨k, rfl, by omega, h, hd, fun j hj h1 h2 => by omega⟩⟩
      | true =>
        refine .inl ⟨_, rfl, h, rfl, ?_⟩
        rcases hI with ⟨ho, hall⟩ | ⟨m, ho, hmk, hm, hc, hf⟩
        · refine .inl ⟨ho, fun j hj hjk => ?_⟩
          by_cases he : j = k
          · subst he; exact hd
          · exact hall j hj (by omega)
        · refine .inr ⟨m, ho, by omega, hm, hc, fun j hj h1 h2 => ?_⟩
          by_cases he : j = k
          · subst he; exact hd
          · exact hf j hj h1 (by omega)
    · rw [decide_eq_false (show ¬ (k : Int) < (l.length : Int) by omega)]
      refine .inr ⟨_, rfl, ?_⟩
      rcases hI with ⟨rfl, hall⟩ | ⟨m, rfl, hmk, hm, hc, hf⟩
      · refine .none (fun x hx => ?_)
        obtain ⟨j, hj, rfl⟩ := List.mem_iff_getElem.1 hx
        exact hall j hj (by omega)
      · exact .some m hm hc (fun j hj h1 => hf j hj h1 (by omega))) FUEL 0 ((-1 : Int), (0 : Int)) (Nat.zero_le _) (by unfold FUEL; omega) ⟨rfl, .inl ⟨rfl, fun j hj h => by omega⟩⟩
  rw [hb]
  exact ⟨b, rfl, hq⟩
theorem rfree19 (c : Config) {l : List Head} (s : SmS l) {n : Int} (hn : Free19 l n) : ref19_Free c l = some (decide ((l.length : Int) < c.Heads) || decide (n ≥ 0)) := by
  unfold ref19_Free
  obtain ⟨m, hm, hf⟩ := rgoes19 s
  have he := hf.uniq hn
  subst he
  cases decide ((l.length : Int) < c.Heads) with
  | true => rfl
  | false =>
    simp only [Bool.not_false, gO, cond_true]
    rw [hm]
    rfl
theorem find_some (c : Config) (l : List Head) (s : Int) : ∃ r, shelf_Find c l s = some r := by
  by_cases o : OkS c l
  · obtain ⟨n, _, _, h⟩ := find_ok o s
    exact ⟨_, h⟩
  · exact ⟨_, find_bad o s⟩
/- Plain law: one that is used comes first. -/

theorem use_ok {c : Config} {l : List Head} (o : OkS c l) {k : Nat} (hk : k < l.length) : shelf_Use c l l[k].Stripe = some (l[k] :: lessK l k, 0) := by
  unfold shelf_Use
  obtain ⟨n, ha, _, hf⟩ := find_ok o l[k].Stripe
  have hn := ha.uniq (at_iff o hk)
  subst hn
  rw [hf, decide_eq_false (by omega)]
  simp only [cond_false, Option.bind_some, bne_self_eq_false]
  rw [idx_nat, List.getElem?_eq_getElem hk]
  simp only [Option.bind_some]
  rw [first_old o (o.may _ (List.getElem_mem hk)) hk]
  rfl
theorem use_none {c : Config} {l : List Head} (o : OkS c l) {s : Int} (h : ∀ x ∈ l, x.Stripe ≠ s) : shelf_Use c l s = some ([], 6) := by
  unfold shelf_Use
  obtain ⟨n, ha, _, hf⟩ := find_ok o s
  have hn := ha.uniq (.none h)
  subst hn
  rw [hf]; rfl
theorem use_bad {c : Config} {l : List Head} (o : ¬ OkS c l) (s : Int) : shelf_Use c l s = some ([], 8) := by
  unfold shelf_Use
  rw [find_bad o]; rfl
/- Plain law: one that is used, one that is put in, by the reference. -/

theorem rfirst_new {l : List Head} (hl : l.length ≤ 20) (h : Head) {n : Int} (hn : n < 0) : ref19_First l h n = some (h :: l) := by
  unfold ref19_First
  have := loop_run (step := fun q : (List Head) × Int => ref19_First_L1 l n q.1 q.2) (fun k => (h :: l.take k, (k : Int))) l.length (h :: l) (fuel_lt (by omega)) (fun k hk => by
    unfold ref19_First_L1 ref19_First_J2
    simp only
    rw [decide_eq_true (by omega), show ((k : Int) != n) = true by simp; omega, idx_nat, List.getElem?_eq_getElem hk, wI_succ (by omega)]
    simp only [cond_true, Option.bind_some]
    rw [app_some _ _ (by simp; omega), take_succ_get _ _ _ (List.getElem?_eq_getElem hk)]
    rfl) (by
    unfold ref19_First_L1
    simp only
    rw [decide_eq_false (by omega), List.take_length]; rfl)
  have h0 : ([h], (0 : Int)) = (fun k : Nat => (h :: l.take k, (k : Int))) 0 := rfl
  rw [h0, this]; rfl
theorem rfirst_old {l : List Head} (hl : l.length ≤ 20) (h : Head) {k0 : Nat} (hk0 : k0 < l.length) : ref19_First l h (k0 : Int) = some (h :: lessK l k0) := by
  unfold ref19_First
  have := loop_run (step := fun q : (List Head) × Int => ref19_First_L1 l (k0 : Int) q.1 q.2) (fun k => (h :: ((l.take k).take k0 ++ (l.take k).drop (k0 + 1)), (k : Int))) l.length (h :: lessK l k0) (fuel_lt (by omega)) (fun k hk => by
    unfold ref19_First_L1 ref19_First_J2
    simp only
    rw [decide_eq_true (by omega), wI_succ (by omega)]
    simp only [cond_true]
    have hx := List.getElem?_eq_getElem hk
    by_cases he : k = k0
    · subst he
      rw [show ((k : Int) != (k : Int)) = false by simp]
      simp only [cond_false]
      rw [take_succ_get _ _ _ hx]
      have e1 : (l.take k ++ [l[k]]).take k = (l.take k).take k := by
        rw [List.take_append_of_le_length (by rw [List.length_take]; omega)]
      have e2 : (l.take k ++ [l[k]]).drop (k + 1) = (l.take k).drop (k + 1) := by
        rw [List.drop_of_length_le (by simp; omega), List.drop_of_length_le (by simp; omega)]
      rw [e1, e2]
    · rw [show ((k : Int) != (k0 : Int)) = true by simp; omega, idx_nat, hx]
      simp only [cond_true, Option.bind_some]
      rw [app_some _ _ (by simp; omega), take_succ_get _ _ _ hx]
      simp only [Option.bind_some]
      have e : (l.take k ++ [l[k]]).take k0 ++ (l.take k ++ [l[k]]).drop (k0 + 1) = (l.take k).take k0 ++ (l.take k).drop (k0 + 1) ++ [l[k]] := by
        have hA : (l.take k).length = k := by rw [List.length_take]; omega
        generalize l.take k = A at hA ⊢
        generalize l[k] = y
        by_cases h2 : k < k0
        · have g1 : (A ++ [y]).take k0 = A ++ [y] := List.take_of_length_le (by rw [List.length_append, hA]; simp; omega)
          have g2 : (A ++ [y]).drop (k0 + 1) = [] := List.drop_of_length_le (by rw [List.length_append, hA]; simp; omega)
          have g3 : A.take k0 = A := List.take_of_length_le (by omega)
          have g4 : A.drop (k0 + 1) = [] := List.drop_of_length_le (by omega)
          rw [g1, g2, g3, g4]; simp
        · have g1 : (A ++ [y]).take k0 = A.take k0 := List.take_append_of_le_length (by omega)
          have g2 : (A ++ [y]).drop (k0 + 1) = A.drop (k0 + 1) ++ [y] := List.drop_append_of_le_length (by omega)
          rw [g1, g2, List.append_assoc]
      rw [e]
      rfl) (by
    unfold ref19_First_L1
    simp only
    rw [decide_eq_false (by omega), List.take_length]; rfl)
  have h0 : ([h], (0 : Int)) = (fun k : Nat => (h :: ((l.take k).take k0 ++ (l.take k).drop (k0 + 1)), (k : Int))) 0 := by simp
  rw [h0, this]; rfl
theorem ruse19 (c : Config) {l : List Head} (s : SmS l) (st : Int) : ref19_Use c l st = shelf_Use c l st := by
  unfold ref19_Use
  rw [rfind19 c s.le]
  by_cases o : OkS c l
  case neg =>
    rw [find_bad o, use_bad o]; rfl
  obtain ⟨n, ha, _, hf⟩ := find_ok o st
  rw [hf]
  cases ha with
  | none h => rw [use_none o h]; rfl
  | some k hk he _ =>
    subst he
    rw [use_ok o hk, decide_eq_false (by omega)]
    simp only [cond_false, Option.bind_some, bne_self_eq_false]
    rw [idx_nat, List.getElem?_eq_getElem hk]
    simp only [Option.bind_some]
    rw [rfirst_old s.le _ hk]
    rfl
theorem rput19 (c : Config) {l : List Head} (s : SmS l) (h : Head) : ref19_Put c l h = shelf_Put c l h := by
  unfold ref19_Put
  rw [rcheck19 c s.le]
  by_cases o : OkS c l
  case neg =>
    rw [put_bad (fun h => o h.1)]
    obtain ⟨e, h1, ⟨_, h2⟩ | ⟨h3, _⟩⟩ := check19 c l
    · exact (o h2).elim
    · rw [h1, h3]; rfl
  rw [check_ok o]
  simp only [Option.bind_some, bne_self_eq_false, cond_false]
  rw [may16 h o.m]
  simp only [Option.bind_some]
  cases hm : mayH c h with
  | false =>
    rw [put_bad (fun h2 => by rw [hm] at h2; cases h2.2)]; rfl
  | true =>
  simp only [Bool.not_true, cond_false]
  unfold ref19_In
  rw [rplace19 s.le]
  have hle := o.le
  obtain ⟨n, hn, ha⟩ := place_eq l h.Stripe (by have := s.le; omega)
  obtain ⟨m, hgo, hf⟩ := rgoes19 s
  have hput : shelf_Put c l h = bif decide (n < 0) && ((l.length : Int) == c.Heads) then (Option.bind (shelf_free l) fun x6 => bif decide (x6 < 0) then some (([] : List Head), (9 : Int)) else shelf_Put_J1 l h x6) else shelf_Put_J1 l h n := by
    unfold shelf_Put
    rw [check_ok o]
    simp only [Option.bind_some, bne_self_eq_false, Bool.not_false, gO, cond_true]
    rw [hcheck_eq, hm]
    simp only [cond_true, Option.bind_some, bne_self_eq_false, Bool.or_self, cond_false]
    rw [hn]
    rfl
  obtain ⟨m2, hfr, hf2⟩ := free19 o
  have hmm := hf2.uniq hf
  subst hmm
  rw [hput, hn, hfr, rfree19 c s hf, hgo]
  simp only [Option.bind_some]
  unfold ref19_In_J1 shelf_Put_J1
  cases ha with
  | some k hk he _ =>
    rw [decide_eq_false (show ¬ (k : Int) < 0 by omega)]
    simp only [gO, cond_false, Option.bind_some, Bool.false_and]
    rw [rfirst_old s.le _ hk, first_old o hm hk]
    rfl
  | none h1 =>
    rw [show decide ((-1 : Int) < 0) = true from rfl]
    simp only [gO, cond_true, Option.bind_some, Bool.true_and]
    by_cases hH : (l.length : Int) = c.Heads
    · rw [show ((l.length : Int) == c.Heads) = true by simpa using hH, decide_eq_false (show ¬ (l.length : Int) < c.Heads by omega)]
      simp only [cond_true, Bool.false_or]
      cases hf with
      | none _ => rfl
      | some k hk _ _ =>
        rw [decide_eq_true (show (k : Int) ≥ 0 by omega), decide_eq_false (show ¬ (k : Int) < 0 by omega)]
        simp only [Bool.not_true, cond_false]
        rw [rfirst_old s.le _ hk, first_old o hm hk]
        rfl
    · rw [show ((l.length : Int) == c.Heads) = false by simpa using hH, decide_eq_true (show (l.length : Int) < c.Heads by omega)]
      simp only [Bool.true_or, Bool.not_true, cond_false]
      rw [rfirst_new s.le _ (by omega), first_new o hm (by omega)]
      rfl
theorem use_small {c : Config} {l : List Head} (s : SmS l) (st : Int) : ∃ r, shelf_Use c l st = some r ∧ SmS r.1 := by
  have hnil : SmS [] := ⟨by simp, fun h hh => by cases hh⟩
  by_cases o : OkS c l
  case neg => exact ⟨_, use_bad o st, hnil⟩
  obtain ⟨n, ha, _, hf⟩ := find_ok o st
  cases ha with
  | none h => exact ⟨_, use_none o h, hnil⟩
  | some k hk he _ =>
    subst he
    refine ⟨_, use_ok o hk, ⟨?_, fun h hh => ?_⟩⟩
    · have := s.le
      rw [List.length_cons, lessK_len hk]; omega
    · rcases List.mem_cons.1 hh with rfl | hh
      · exact s.sm _ (List.getElem_mem hk)
      · exact s.sm _ (lessK_mem hh)
theorem put_small {c : Config} {l : List Head} (s : SmS l) {h : Head} (hs : SmallH h) : ∃ r, shelf_Put c l h = some r ∧ SmS r.1 := by
  have hnil : SmS [] := ⟨by simp, fun h hh => by cases hh⟩
  by_cases o : OkS c l ∧ mayH c h = true
  case neg => exact ⟨_, put_bad o, hnil⟩
  obtain ⟨o, hm⟩ := o
  obtain ⟨r, hr, hp⟩ := put_ok o hm
  refine ⟨r, hr, ?_⟩
  have h8 := o.small
  cases hp with
  | full => exact hnil
  | more => exact ⟨by rw [List.length_cons]; omega, fun x hx => by
      rcases List.mem_cons.1 hx with rfl | hx
      · exact hs
      · exact s.sm _ hx⟩
  | anew k hk => exact ⟨by rw [List.length_cons, lessK_len hk]; omega, fun x hx => by
      rcases List.mem_cons.1 hx with rfl | hx
      · exact hs
      · exact s.sm _ (lessK_mem hx)⟩
  | goes k hk => exact ⟨by rw [List.length_cons, lessK_len hk]; omega, fun x hx => by
      rcases List.mem_cons.1 hx with rfl | hx
      · exact hs
      · exact s.sm _ (lessK_mem hx)⟩
theorem shelfturns_true (c : Config) (l : List Head) (st : Int) (h : Head) (hl : l.length ≤ 9223372036854775807) : law19_ShelfTurns c l st h = some true := by
  unfold law19_ShelfTurns
  obtain ⟨g, hg, hg2⟩ := great19S l hl
  obtain ⟨g3, hg4, hg5⟩ := hgreat_eq h
  rw [hg]
  simp only [Option.bind_some]
  cases g with
  | true => rfl
  | false =>
  have sm := hg2 rfl
  simp only [Bool.not_false, gO, cond_true, Bool.false_or]
  rw [hg4]
  simp only [Option.bind_some]
  cases g3 with
  | true => rfl
  | false =>
  have hsm := hg5 rfl
  simp only [cond_false]
  rw [rtwin19 sm, htwin_eq hsm]
  simp only [Option.bind_some]
  obtain ⟨r1, h1, s1⟩ := use_small (c := c) sm st
  obtain ⟨r2, h2, s2⟩ := put_small (c := c) sm hsm
  rw [ruse19 c sm, h1, rput19 c sm, h2]
  simp only [Option.bind_some]
  rw [rsame19 s1, rsame19 s2]
  simp only [Option.bind_some, decide_true, beq_self_eq_true, Bool.and_self, cond_true]
  rw [spoil19 s1 (L := fun q => law19_ShelfTurns_L7 r1 q) (LB := fun q z => law19_ShelfTurns_L8 r1 q z) (LD := fun q z => law19_ShelfTurns_L10 r1 q z) (LN := fun q z n => law19_ShelfTurns_L9 r1 q z n) (fun _ => rfl) (fun _ _ => rfl) (fun _ _ _ => rfl) (fun _ _ => rfl)]
  simp only [Option.bind_some]
  unfold law19_ShelfTurns_J1
  rw [spoil19 s2 (L := fun q => law19_ShelfTurns_L3 r2 q) (LB := fun q z => law19_ShelfTurns_L4 r2 q z) (LD := fun q z => law19_ShelfTurns_L6 r2 q z) (LN := fun q z n => law19_ShelfTurns_L5 r2 q z n) (fun _ => rfl) (fun _ _ => rfl) (fun _ _ _ => rfl) (fun _ _ => rfl)]
  simp only [Option.bind_some]
  unfold law19_ShelfTurns_J2
  simp only [beq_self_eq_true, Bool.and_self, gO, cond_true]
  have hnb := hsm.nb
  have hnd := hsm.nd
  rw [rsame19 sm, rsame_self h (by omega) (by omega)]
  simp
end Go.Proofs.Ytnehbcbljaghnaa
