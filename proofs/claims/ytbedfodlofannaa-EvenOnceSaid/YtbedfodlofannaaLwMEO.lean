/- Plain laws, in one text. -/
import Derived.Test.YtbedfodlofannaaGvo2
import Derived.Test.YtbedfodlofannaaCore14
namespace Go.Proofs.Ytbedfodlofannaa
open Go GL
/- Plain law: configs. -/

theorem fuel_lt {n : Nat} (h : n < 4294967296) : n < FUEL := by unfold FUEL; omega

/-- A loop over a list, that leaves where an element has p. -/
theorem loop_any_list {α B : Type} (l : List α) (p : α → Bool) {step : Int → Option (Ctl Int B)} (yes no : B) (hl : l.length < 4294967296)
    (h1 : ∀ k (hk : k < l.length), step (k : Int) = some (bif p l[k] then .brk yes else .next ((k + 1 : Nat) : Int))) (h2 : step (l.length : Int) = some (.brk no)) :
    loopM step FUEL (0 : Int) = some (bif l.any p then yes else no) := by
  have := loop_any (step := step) (fun k => (k : Int)) l.length (fun k => (l[k]?.map p).getD false) yes no (fuel_lt hl) (fun k hk => by
    rw [h1 k hk]; simp [hk]) h2
  rw [any_range l p _ (fun k hk => by simp [hk])] at this
  simpa using this

def outB (r : Arr3_Int) : Bool := decide (r.e0 < r.e1) || decide (r.e0 > r.e2)
theorem bounds_eq (l : List Arr3_Int) (hl : l.length < 4294967296) : shape_bounds l = some (!(l.any outB)) := by
  unfold shape_bounds
  rw [loop_any_list l outB (Sum.inr ()) (Sum.inl ()) hl]
  · cases h : l.any outB <;> simp
  · intro k hk
    unfold shape_bounds_L1
    rw [show decide ((k : Int) < (l.length : Int)) = true by simp; omega, idx_nat, List.getElem?_eq_getElem hk, wI_succ (by omega)]
    simp only [cond_true, Option.bind_some, outB]
    cases (decide (l[k].e0 < l[k].e1) || decide (l[k].e0 > l[k].e2)) <;> rfl
  · unfold shape_bounds_L1
    simp

/-- Configs that may be. -/
def MayC (c : Config) : Prop := (3 ≤ c.Members ∧ c.Members ≤ 16) ∧ (1 ≤ c.Chunk ∧ c.Chunk ≤ 8) ∧ (1 ≤ c.Rows ∧ c.Rows ≤ 8) ∧ (2 ≤ c.Heads ∧ c.Heads ≤ 8) ∧ (c.Members + 1) * (c.Heads + 1) ≤ c.Log ∧ c.Log ≤ 255
def mayC (c : Config) : Bool := ((decide (3 ≤ c.Members) && decide (c.Members ≤ 16)) && (decide (1 ≤ c.Chunk) && decide (c.Chunk ≤ 8))) && ((decide (1 ≤ c.Rows) && decide (c.Rows ≤ 8)) && ((decide (2 ≤ c.Heads) && decide (c.Heads ≤ 8)) && (decide ((c.Members + 1) * (c.Heads + 1) ≤ c.Log) && decide (c.Log ≤ 255))))
theorem mayC_iff (c : Config) : mayC c = true ↔ MayC c := by simp [mayC, MayC, and_assoc]
theorem mayC_f {c : Config} (h : ¬ MayC c) : mayC c = false := by rw [← mayC_iff] at h; simpa using h

theorem wI_need {c : Config} (h1 : 3 ≤ c.Members ∧ c.Members ≤ 16) (h2 : 2 ≤ c.Heads ∧ c.Heads ≤ 8) : wI ((wI (c.Members + 1)) * (wI (c.Heads + 1))) = (c.Members + 1) * (c.Heads + 1) := by
  rw [wI_id (x := c.Members + 1) (by omega) (by omega), wI_id (x := c.Heads + 1) (by omega) (by omega)]
  have h3 : (c.Members + 1) * (c.Heads + 1) ≤ 17 * 9 := Int.mul_le_mul (by omega) (by omega) (by omega) (by omega)
  have h4 : 0 ≤ (c.Members + 1) * (c.Heads + 1) := Int.mul_nonneg (by omega) (by omega)
  exact wI_id (by omega) (by omega)
theorem check_eq (c : Config) : shape_Check c = some (bif mayC c then 0 else 8) := by
  unfold shape_Check
  rw [bounds_eq _ (by simp)]
  simp only [Option.bind_some, List.any_cons, List.any_nil, Bool.or_false, outB]
  by_cases h : (3 ≤ c.Members ∧ c.Members ≤ 16) ∧ (1 ≤ c.Chunk ∧ c.Chunk ≤ 8) ∧ (1 ≤ c.Rows ∧ c.Rows ≤ 8) ∧ (2 ≤ c.Heads ∧ c.Heads ≤ 8)
  · obtain ⟨h1, h2, h3, h4⟩ := h
    have hb : (decide (c.Members < 3) || decide (c.Members > 16) || ((decide (c.Chunk < 1) || decide (c.Chunk > 8)) || ((decide (c.Rows < 1) || decide (c.Rows > 8)) || (decide (c.Heads < 2) || decide (c.Heads > 8))))) = false := by simp; omega
    rw [hb]
    simp only [gO, Bool.not_false, Bool.not_true, Bool.false_or, cond_true]
    rw [bounds_eq _ (by simp)]
    simp only [Option.bind_some, List.any_cons, List.any_nil, Bool.or_false, outB, wI_need h1 h4]
    by_cases h5 : (c.Members + 1) * (c.Heads + 1) ≤ c.Log ∧ c.Log ≤ 255
    · rw [(mayC_iff c).2 ⟨h1, h2, h3, h4, h5⟩]
      have : (decide (c.Log < (c.Members + 1) * (c.Heads + 1)) || decide (c.Log > 255)) = false := by simp; omega
      rw [this]; rfl
    · rw [mayC_f (fun h => h5 h.2.2.2.2)]
      have : (decide (c.Log < (c.Members + 1) * (c.Heads + 1)) || decide (c.Log > 255)) = true := by simp; omega
      rw [this]; rfl
  · have hb : (decide (c.Members < 3) || decide (c.Members > 16) || ((decide (c.Chunk < 1) || decide (c.Chunk > 8)) || ((decide (c.Rows < 1) || decide (c.Rows > 8)) || (decide (c.Heads < 2) || decide (c.Heads > 8))))) = true := by simp; omega
    rw [hb, mayC_f (fun hm => h ⟨hm.1, hm.2.1, hm.2.2.1, hm.2.2.2.1⟩)]
    rfl
theorem wI_str {c : Config} (h : MayC c) : wI (c.Chunk * c.Rows) = c.Chunk * c.Rows ∧ 1 ≤ c.Chunk * c.Rows ∧ c.Chunk * c.Rows ≤ 64 := by
  obtain ⟨_, h2, h3, _⟩ := h
  have h4 : c.Chunk * c.Rows ≤ 8 * 8 := Int.mul_le_mul (by omega) (by omega) (by omega) (by omega)
  have h5 : 1 * 1 ≤ c.Chunk * c.Rows := Int.mul_le_mul (by omega) (by omega) (by omega) (by omega)
  exact ⟨wI_id (by omega) (by omega), by omega, by omega⟩
theorem stripes_eq (c : Config) : shape_Stripes c = some (bif mayC c then (c.Chunk * c.Rows, 0) else (0, 8)) := by
  unfold shape_Stripes shape_told
  rw [check_eq]
  cases h : mayC c with
  | true => simp [(wI_str ((mayC_iff c).1 h)).1]
  | false => simp
/- Plain law: heads' sizes, copies, and which heads may be. -/

structure SmallH (h : Head) : Prop where
  nb : h.Blocks.length ≤ 60
  nd : h.Dirty.length ≤ 60
  len : ∀ x ∈ h.Blocks, x.length ≤ 10000

def blkOk (x : List UInt8) : Bool := (x.length == 0) || (x.length == 128)
def dirtyBad (h : Head) (k : Nat) : Bool := (h.Dirty.getD k false) && ((h.Blocks.getD k []).length == 0)
def lastN (h : Head) : Nat := (h.Blocks.getD (h.Blocks.length - 1) []).length
def anyD (h : Head) : Bool := h.Dirty.any id
def phOk (h : Head) : Bool := !(((decide (h.Phase.toNat = 0) == decide (0 < lastN h)) || (!decide (h.Phase.toNat = 0) && !anyD h)) || ((decide (h.Phase.toNat = 0) || decide (h.Phase.toNat = 1)) && !decide (h.Seq.toNat = 0)) || (h.Deals && (!anyD h || !(decide (h.Phase.toNat = 0) || decide (h.Phase.toNat = 1)))))
def sizeOk (c : Config) (h : Head) : Bool := decide (0 ≤ h.Stripe) && (decide (h.Stripe < c.Chunk * c.Rows) && (decide ((h.Blocks.length : Int) = c.Members) && (decide ((h.Dirty.length : Int) = c.Members - 1) && decide (h.Phase.toNat ≤ 4))))
def blksOk (h : Head) : Bool := h.Blocks.all blkOk && (List.range h.Dirty.length).all fun k => !dirtyBad h k
def mayH (c : Config) (h : Head) : Bool := mayC c && (sizeOk c h && (blksOk h && phOk h))

theorem sizeOk_iff (c : Config) (h : Head) : sizeOk c h = true ↔ 0 ≤ h.Stripe ∧ h.Stripe < c.Chunk * c.Rows ∧ (h.Blocks.length : Int) = c.Members ∧ (h.Dirty.length : Int) = c.Members - 1 ∧ h.Phase.toNat ≤ 4 := by simp [sizeOk]
theorem any_or {α : Type} (l : List α) (p q : α → Bool) : (l.any fun x => p x || q x) = (l.any p || l.any q) := by
  induction l with
  | nil => rfl
  | cons a l ih => simp only [List.any_cons, ih]; cases p a <;> cases q a <;> cases l.any p <;> rfl
theorem any_congr' {α : Type} {l : List α} {p q : α → Bool} (h : ∀ x ∈ l, p x = q x) : l.any p = l.any q := by
  induction l with
  | nil => rfl
  | cons a l ih => simp only [List.any_cons]; rw [h a (by simp), ih fun x hx => h x (by simp [hx])]
theorem all_not_any {α : Type} (l : List α) (p : α → Bool) : (l.all fun x => !p x) = !l.any p := by
  induction l with
  | nil => rfl
  | cons a l ih => simp only [List.all_cons, List.any_cons, ih]; cases p a <;> rfl
theorem blksOk_eq (h : Head) : blksOk h = !((h.Blocks.any fun x => !blkOk x) || (List.range h.Dirty.length).any (dirtyBad h)) := by
  unfold blksOk
  rw [all_not_any, show h.Blocks.all blkOk = !(h.Blocks.any fun x => !blkOk x) by rw [← all_not_any]; simp]
  simp

theorem odd_eq (x : List UInt8) : head_odd x = some (!blkOk x) := by
  unfold head_odd blkOk
  rw [show (((x.length : Int) != 0) && ((x.length : Int) != 128)) = !((x.length == 0) || (x.length == 128)) by rw [Bool.eq_iff_iff]; simp; omega]
theorem contains_eq (l : List (List UInt8)) (hl : l.length < 4294967296) : slices_ContainsFunc_byte_byte l (fun y => head_odd y) = some (l.any fun x => !blkOk x) := by
  unfold slices_ContainsFunc_byte_byte slices_IndexFunc_byte_byte
  obtain ⟨b, hb, hq⟩ := loop_inv (step := fun s : Int => slices_IndexFunc_byte_byte_L1 l (fun y => head_odd y) s) l.length (fun k s => s = (k : Int) ∧ ∀ j (hj : j < l.length), j < k → blkOk l[j] = true)
    (fun b => (∃ k : Nat, b = Sum.inr (k : Int) ∧ (l.any fun x => !blkOk x) = true) ∨ (b = Sum.inl () ∧ (l.any fun x => !blkOk x) = false)) (fun k s hk hI => by
      obtain ⟨rfl, hI⟩ := hI
      unfold slices_IndexFunc_byte_byte_L1
      by_cases hlt : k < l.length
      · rw [decide_eq_true (show (k : Int) < (l.length : Int) by omega), idx_nat, List.getElem?_eq_getElem hlt, wI_succ (by omega)]
        simp only [cond_true, Option.bind_some, odd_eq]
        cases ho : blkOk l[k] with
        | true =>
          refine .inl ⟨_, rfl, hlt, rfl, fun j hj hjk => ?_⟩
          by_cases he : j = k
          · subst he; exact ho
          · exact hI j hj (by omega)
        | false => exact .inr ⟨_, rfl, .inl ⟨k, rfl, List.any_eq_true.2 ⟨l[k], List.getElem_mem _, by rw [ho]; rfl⟩⟩⟩
      · rw [decide_eq_false (show ¬(k : Int) < (l.length : Int) by omega)]
        refine .inr ⟨_, rfl, .inr ⟨rfl, ?_⟩⟩
        rw [List.any_eq_false]
        intro x hx
        obtain ⟨j, hj, rfl⟩ := List.getElem_of_mem hx
        rw [hI j hj (by omega)]; simp) FUEL 0 0 (Nat.zero_le _) (by have := fuel_lt hl; omega) ⟨rfl, fun j _ hj => by omega⟩
  rw [hb]
  rcases hq with ⟨k, rfl, h⟩ | ⟨rfl, h⟩
  · rw [h]; simp
  · rw [h]; rfl

theorem dirty_eq (h : Head) (hl : h.Dirty.length < 4294967296) : ref16_Dirty h = some (anyD h) := by
  unfold ref16_Dirty
  rw [loop_any_list (step := fun s : Int => ref16_Dirty_L1 h s) h.Dirty id (Sum.inr ()) (Sum.inl ()) hl (fun k hk => by
    unfold ref16_Dirty_L1
    rw [decide_eq_true (show (k : Int) < (h.Dirty.length : Int) by omega), idx_nat, List.getElem?_eq_getElem hk, wI_succ (by omega)]
    simp only [cond_true, Option.bind_some, id]
    cases h.Dirty[k] <;> rfl) (by
    unfold ref16_Dirty_L1
    rw [decide_eq_false (by omega)]; rfl)]
  unfold anyD
  cases h.Dirty.any id <;> rfl

theorem phase_le (p : UInt8) : decide ((p.toNat : Int) > ((4 : UInt8).toNat : Int)) = !decide (p.toNat ≤ 4) := by
  rw [Bool.eq_iff_iff]; simp
  omega
theorem size_expr (c : Config) (h : Head) (hc : MayC c) :
    (((((((0 : Int) != (0 : Int)) || (decide (h.Stripe < (0 : Int)))) || (decide (h.Stripe ≥ c.Chunk * c.Rows))) || (((h.Blocks).length : Int) != c.Members)) || (((h.Dirty).length : Int) != (wI (c.Members - (1 : Int))))) || (decide ((h.Phase.toNat : Int) > ((4 : UInt8).toNat : Int)))) = !sizeOk c h := by
  have := hc.1
  rw [wI_id (x := c.Members - 1) (by omega) (by omega), phase_le]
  rw [Bool.eq_iff_iff]
  simp only [Bool.not_eq_true', sizeOk, Bool.or_eq_true, Bool.and_eq_false_iff, decide_eq_true_eq, decide_eq_false_iff_not, bne_iff_ne, ne_eq, not_true_eq_false, false_or]
  omega
theorem check_loop (h : Head) (hb : h.Dirty.length ≤ h.Blocks.length) (hl : h.Dirty.length < 4294967296) :
    ∃ b, loopM (fun s : Bool × Int => head_Check_L1 h s.1 s.2) FUEL (false, (0 : Int)) = some b ∧
      ((b = Sum.inr () ∧ ((List.range h.Dirty.length).any (dirtyBad h)) = true) ∨ (b = Sum.inl (anyD h) ∧ ((List.range h.Dirty.length).any (dirtyBad h)) = false)) := by
  refine loop_inv (step := fun s : Bool × Int => head_Check_L1 h s.1 s.2) h.Dirty.length (fun k s => s = ((h.Dirty.take k).any id, (k : Int)) ∧ ∀ j, j < k → dirtyBad h j = false) _ (fun k s hk hI => ?_) FUEL 0 (false, 0) (Nat.zero_le _) (by have := fuel_lt hl; omega) ⟨rfl, fun j hj => by omega⟩
  obtain ⟨rfl, hI⟩ := hI
  simp only
  unfold head_Check_L1
  by_cases hlt : k < h.Dirty.length
  · rw [decide_eq_true (show (k : Int) < (h.Dirty.length : Int) by omega), idx_nat, idx_nat, List.getElem?_eq_getElem hlt, List.getElem?_eq_getElem (show k < h.Blocks.length by omega), wI_succ (by omega)]
    simp only [cond_true, Option.bind_some]
    have hbad : dirtyBad h k = (h.Dirty[k] && (h.Blocks[k].length == 0)) := by simp [dirtyBad, hlt, show k < h.Blocks.length by omega]
    have htk : (h.Dirty.take (k + 1)).any id = ((h.Dirty.take k).any id || h.Dirty[k]) := by
      rw [take_succ_get _ _ _ (List.getElem?_eq_getElem hlt), List.any_append]
      simp only [List.any_cons, List.any_nil, Bool.or_false, id]
    cases hd : h.Dirty[k] with
    | false =>
      refine .inl ⟨_, rfl, hlt, ?_, fun j hj => ?_⟩
      · rw [htk, hd]
      · by_cases he : j = k
        · subst he; rw [hbad, hd]; rfl
        · exact hI j (by omega)
    | true =>
      simp only [gO, cond_true, Option.bind_some, Bool.true_and]
      rw [hd, Bool.true_and] at hbad
      cases hz : (h.Blocks[k].length == 0) with
      | true =>
        rw [show (((h.Blocks[k].length : Nat) : Int) == 0) = true by simp at hz ⊢; exact hz]
        exact .inr ⟨_, rfl, .inl ⟨rfl, List.any_eq_true.2 ⟨k, List.mem_range.2 hlt, by rw [hbad, hz]⟩⟩⟩
      | false =>
        rw [show (((h.Blocks[k].length : Nat) : Int) == 0) = false by simp at hz ⊢; exact hz]
        refine .inl ⟨_, rfl, hlt, ?_, fun j hj => ?_⟩
        · rw [htk, hd]
        · by_cases he : j = k
          · subst he; rw [hbad, hz]
          · exact hI j (by omega)
  · rw [decide_eq_false (show ¬(k : Int) < (h.Dirty.length : Int) by omega)]
    refine .inr ⟨_, rfl, .inr ⟨?_, ?_⟩⟩
    · rw [List.take_of_length_le (by omega)]; rfl
    · rw [List.any_eq_false]
      intro j hj
      rw [hI j (by have := List.mem_range.1 hj; omega)]; simp
theorem ph0 (p : UInt8) : (p == (0 : UInt8)) = decide (p.toNat = 0) := by
  rw [Bool.eq_iff_iff]; simp only [beq_iff_eq, decide_eq_true_eq]
  exact ⟨fun h => by subst h; rfl, fun h => UInt8.toNat_inj.1 h⟩
theorem ph1 (p : UInt8) : (p == (1 : UInt8)) = decide (p.toNat = 1) := by
  rw [Bool.eq_iff_iff]; simp only [beq_iff_eq, decide_eq_true_eq]
  exact ⟨fun h => by subst h; rfl, fun h => UInt8.toNat_inj.1 h⟩
theorem phle (p : UInt8) : decide ((p.toNat : Int) ≤ ((1 : UInt8).toNat : Int)) = (decide (p.toNat = 0) || decide (p.toNat = 1)) := by
  rw [Bool.eq_iff_iff]; simp
  omega
theorem phgt (p : UInt8) : decide ((p.toNat : Int) > ((1 : UInt8).toNat : Int)) = !(decide (p.toNat = 0) || decide (p.toNat = 1)) := by
  rw [Bool.eq_iff_iff]; simp
  omega
theorem phgt0 (p : UInt8) : decide ((p.toNat : Int) > ((0 : UInt8).toNat : Int)) = !decide (p.toNat = 0) := by
  rw [Bool.eq_iff_iff]; simp
  omega
theorem seq0 (p : UInt32) : ((p.toNat : Int) != ((0 : UInt32).toNat : Int)) = !decide (p.toNat = 0) := by
  rw [Bool.eq_iff_iff]; simp
theorem hcheck_eq (c : Config) (h : Head) : head_Check c h = some (bif mayH c h then 0 else 8) := by
  unfold head_Check
  rw [stripes_eq]
  unfold mayH
  cases hc : mayC c with
  | false => simp [gO]
  | true =>
  have hm := (mayC_iff c).1 hc
  simp only [cond_true, Option.bind_some, size_expr c h hm, Bool.true_and, Bool.not_not]
  cases hs : sizeOk c h with
  | false => simp [gO]
  | true =>
  obtain ⟨h1, h2, h3, h4, h5⟩ := (sizeOk_iff c h).1 hs
  have hm1 := hm.1
  simp only [gO, cond_true, Bool.not_true, Bool.false_or, Bool.true_and]
  rw [contains_eq _ (by omega), blksOk_eq]
  simp only [Option.bind_some]
  cases hany : h.Blocks.any (fun x => !blkOk x) with
  | true => rfl
  | false =>
  simp only [cond_false, Bool.false_or]
  obtain ⟨b, hb, hq⟩ := check_loop h (by omega) (by omega)
  rw [hb]
  rcases hq with ⟨rfl, hd⟩ | ⟨rfl, hd⟩
  · rw [hd]; rfl
  · rw [hd]
    simp only [Option.bind_some, Sum.elim_inl, Bool.not_false, Bool.true_and]
    have hw : wI (c.Members - 1) = ((h.Blocks.length - 1 : Nat) : Int) := by rw [wI_id (by omega) (by omega)]; omega
    rw [hw, idx_nat, List.getElem?_eq_getElem (show h.Blocks.length - 1 < h.Blocks.length by omega)]
    simp only [Option.bind_some]
    have hlast : decide ((h.Blocks[h.Blocks.length - 1].length : Int) > 0) = decide (0 < lastN h) := by
      unfold lastN
      rw [List.getD_eq_getElem?_getD, List.getElem?_eq_getElem (show h.Blocks.length - 1 < h.Blocks.length by omega)]
      exact decide_eq_decide.2 (by simp)
    rw [hlast, ph0, phle, phgt, seq0]
    unfold phOk
    cases (decide (h.Phase.toNat = 0) == decide (0 < lastN h) || !decide (h.Phase.toNat = 0) && !anyD h || (decide (h.Phase.toNat = 0) || decide (h.Phase.toNat = 1)) && !decide (h.Seq.toNat = 0) || h.Deals && (!anyD h || !(decide (h.Phase.toNat = 0) || decide (h.Phase.toNat = 1)))) <;> rfl
theorem rsize_expr (c : Config) (h : Head) (hc : MayC c) (x1 : Int) (hx : 0 ≤ h.Stripe → x1 = c.Chunk * c.Rows) :
    ((((((decide (h.Stripe < (0 : Int))) || (decide (h.Stripe ≥ x1))) || (((h.Blocks).length : Int) != c.Members)) || (((h.Dirty).length : Int) != (wI (c.Members - (1 : Int))))) || (decide ((h.Phase.toNat : Int) > ((4 : UInt8).toNat : Int))))) = !sizeOk c h := by
  have := hc.1
  rw [wI_id (x := c.Members - 1) (by omega) (by omega), phase_le]
  rw [Bool.eq_iff_iff]
  simp only [Bool.not_eq_true', sizeOk, Bool.or_eq_true, Bool.and_eq_false_iff, decide_eq_true_eq, decide_eq_false_iff_not, bne_iff_ne, ne_eq]
  by_cases h0 : 0 ≤ h.Stripe
  · rw [hx h0]; omega
  · omega
/- Plain law: loops over two lists, equal heads, what holds of a head that may be. -/

theorem list_any_ne {α : Type} [DecidableEq α] (l m : List α) (h : l.length = m.length) : ((List.range l.length).any fun k => !decide (l[k]? = m[k]?)) = !decide (l = m) := by
  rw [Bool.eq_iff_iff, List.any_eq_true]
  simp only [List.mem_range, Bool.not_eq_true', decide_eq_false_iff_not]
  constructor
  · rintro ⟨k, _, h1⟩ rfl; exact h1 rfl
  · intro hne
    apply Classical.byContradiction
    intro hno
    refine hne (List.ext_getElem? fun k => ?_)
    by_cases hk : k < l.length
    · exact Classical.byContradiction fun h1 => hno ⟨k, hk, h1⟩
    · rw [List.getElem?_eq_none (by omega), List.getElem?_eq_none (by omega)]
/-- A loop that asks whether two lists differ at some place. -/
theorem loop_differ {α B : Type} [DecidableEq α] (l m : List α) {step : Int → Option (Ctl Int B)} (yes no : B) (hl : l.length < 4294967296) (hlm : l.length = m.length)
    (h1 : ∀ k x y, l[k]? = some x → m[k]? = some y → k < l.length → step (k : Int) = some (bif !decide (x = y) then .brk yes else .next ((k + 1 : Nat) : Int))) (h2 : step (l.length : Int) = some (.brk no)) :
    loopM step FUEL (0 : Int) = some (bif decide (l = m) then no else yes) := by
  have := loop_any (step := step) (fun k => (k : Int)) l.length (fun k => !decide (l[k]? = m[k]?)) yes no (fuel_lt hl) (fun k hk => by
    obtain ⟨x, hx⟩ : ∃ x, l[k]? = some x := ⟨_, List.getElem?_eq_getElem hk⟩
    obtain ⟨y, hy⟩ : ∃ y, m[k]? = some y := ⟨_, List.getElem?_eq_getElem (by omega)⟩
    rw [h1 k x y hx hy hk, hx, hy]
    simp only [Option.some.injEq]) h2
  rw [list_any_ne l m hlm] at this
  have h3 : loopM step FUEL (0 : Int) = _ := this
  rw [h3]
  cases decide (l = m) <;> rfl
/-- A loop that only counts. -/
theorem loop_count {step : Int → Option (Ctl Int Unit)} (n : Nat) (hn : n < 4294967296) (h1 : ∀ k, k < n → step (k : Int) = some (.next ((k + 1 : Nat) : Int))) (h2 : step (n : Int) = some (.brk ())) :
    loopM step FUEL (0 : Int) = some () := loop_run (fun k => (k : Int)) n () (fuel_lt hn) h1 h2

def slotIn (c : Config) (slot : Int) : Bool := !(decide (slot < 0) || decide (slot ≥ c.Members - 1))
structure OfH (c : Config) (h : Head) : Prop where
  m : MayC c
  s1 : 0 ≤ h.Stripe
  s2 : h.Stripe < c.Chunk * c.Rows
  nb : (h.Blocks.length : Int) = c.Members
  nd : (h.Dirty.length : Int) = c.Members - 1
  ph : h.Phase.toNat ≤ 4
  bl : ∀ x ∈ h.Blocks, x.length = 0 ∨ x.length = 128
  di : ∀ k, h.Dirty.getD k false = true → (h.Blocks.getD k []).length ≠ 0
  ok : phOk h = true
theorem mayH_of {c : Config} {h : Head} (hm : mayH c h = true) : OfH c h := by
  simp only [mayH, Bool.and_eq_true] at hm
  obtain ⟨h1, h2, h3, h4⟩ := hm
  obtain ⟨a1, a2, a3, a4, a5⟩ := (sizeOk_iff c h).1 h2
  simp only [blksOk, Bool.and_eq_true, List.all_eq_true, List.mem_range, Bool.not_eq_true'] at h3
  refine ⟨(mayC_iff c).1 h1, a1, a2, a3, a4, a5, fun x hx => ?_, fun k hk => ?_, h4⟩
  · have := h3.1 x hx
    simp only [blkOk, Bool.or_eq_true, beq_iff_eq] at this; exact this
  · have hkl : k < h.Dirty.length := by
      apply Classical.byContradiction
      intro hn
      rw [List.getD_eq_getElem?_getD, List.getElem?_eq_none (by omega)] at hk
      cases hk
    have := h3.2 k hkl
    rw [dirtyBad, hk] at this
    simpa using this
theorem slot_expr {c : Config} (hm : MayC c) (slot : Int) : ((decide (slot < (0 : Int))) || (decide (slot ≥ (wI (c.Members - (1 : Int)))))) = !slotIn c slot := by
  have := hm.1
  rw [wI_id (x := c.Members - 1) (by omega) (by omega)]
  simp [slotIn]
theorem slotIn_iff (c : Config) (slot : Int) : slotIn c slot = true ↔ 0 ≤ slot ∧ slot < c.Members - 1 := by simp [slotIn]
theorem getD_some {α : Type} {l : List α} {k : Nat} (hk : k < l.length) (d : α) : l[k]? = some (l.getD k d) := by
  rw [List.getD_eq_getElem?_getD, List.getElem?_eq_getElem hk]; rfl
theorem OfH.blk {c : Config} {h : Head} (o : OfH c h) (k : Nat) : (h.Blocks.getD k []).length = 0 ∨ (h.Blocks.getD k []).length = 128 := by
  by_cases hk : k < h.Blocks.length
  · rw [List.getD_eq_getElem?_getD, List.getElem?_eq_getElem hk]; exact o.bl _ (List.getElem_mem hk)
  · rw [List.getD_eq_getElem?_getD, List.getElem?_eq_none (by omega)]; exact .inl rfl
/- Plain law: a slot taken, a slot known, a new head, copies, comparing. -/

def badH : Head := Head.mk 0 [] [] 0 false 0
def fullH (x : List UInt8) : List UInt8 := bif (x.length == 0) then List.replicate 128 0 else x
def errS (c : Config) (h : Head) (slot : Int) (data : List UInt8) : Int := bif mayH c h then (bif slotIn c slot then (bif blkOk data then 0 else 3) else 2) else 8
def takeS (c : Config) (h : Head) (slot : Int) (data : List UInt8) : Head × Int :=
  bif mayH c h && (slotIn c slot && blkOk data) then (bif decide (h.Phase.toNat ≤ 1) then (Head.mk h.Stripe ((h.Blocks.set (h.Blocks.length - 1) []).set slot.toNat (fullH data)) (h.Dirty.set slot.toNat true) 0 h.Deals h.Seq, 0) else (badH, 160)) else (badH, errS c h slot data)
def knowS (c : Config) (h : Head) (slot : Int) (data : List UInt8) : Head × Int :=
  bif mayH c h && (slotIn c slot && blkOk data) then (bif (h.Blocks.getD slot.toNat []).length == 0 then (Head.mk h.Stripe (h.Blocks.set slot.toNat (fullH data)) h.Dirty h.Phase h.Deals h.Seq, 0) else (h, 0)) else (badH, errS c h slot data)
def newIn (c : Config) (stripe : Int) : Bool := decide (0 ≤ stripe) && decide (stripe < c.Chunk * c.Rows)
def newS (c : Config) (stripe : Int) : Head × Int :=
  bif mayC c then (bif newIn c stripe then (Head.mk stripe (List.replicate c.Members.toNat []) (List.replicate (c.Members - 1).toNat false) 0 false 0, 0) else (badH, 2)) else (badH, 8)

theorem htwin2_eq {h : Head} (hs : SmallH h) : head_Twin h = some h := by
  unfold head_Twin slices_Clone_bool_bool
  have hnd := hs.nd
  rw [app_some _ _ (by simp; omega)]
  have := loop_run (step := fun s : Int × (List (List UInt8)) => head_Twin_L1 h s.1 s.2) (fun k => ((k : Int), h.Blocks.take k)) h.Blocks.length h.Blocks (fuel_lt (by have := hs.nb; omega)) (fun k hk => by
    obtain ⟨x, hx⟩ : ∃ x, h.Blocks[k]? = some x := ⟨_, List.getElem?_eq_getElem hk⟩
    have hxl := hs.len x (List.mem_of_getElem? hx)
    have := hs.nb
    unfold head_Twin_L1 slices_Clone_byte_byte
    simp only [decide_eq_true (show (k : Int) < (h.Blocks.length : Int) by omega), cond_true, idx_nat, hx, Option.bind_some, wI_succ (show k < 9223372036854775807 by omega)]
    rw [app_some _ _ (by simp; omega)]
    simp only [Option.bind_some, List.nil_append]
    rw [app_some _ _ (by simp; omega), take_succ_get _ _ _ hx]
    rfl) (by
    unfold head_Twin_L1
    rw [decide_eq_false (by omega), List.take_length]; rfl)
  have h0 : ((0 : Int), ([] : List (List UInt8))) = (fun k : Nat => ((k : Int), h.Blocks.take k)) 0 := by simp
  simp only [Option.bind_some, List.nil_append]
  rw [h0, this]
  rfl
theorem OfH.small {c : Config} {h : Head} (o : OfH c h) : SmallH h := by
  have := o.m.1
  have := o.nb
  have := o.nd
  exact ⟨by omega, by omega, fun x hx => by have := o.bl x hx; omega⟩
theorem blockH_eq (x : List UInt8) (hx : x.length < 4294967296) : head_block x = some (fullH x) := by
  unfold head_block fullH slices_Clone_byte_byte
  rw [show ((x.length : Int) == 0) = (x.length == 0) by rw [Bool.eq_iff_iff]; simp]
  cases (x.length == 0) with
  | true => exact (by simp only [cond_true]; rw [show (128 : Int) = ((128 : Nat) : Int) from rfl, makeL_some _ _ (by omega)]; rfl)
  | false =>
    simp only [cond_false]
    rw [app_some _ _ (by simpa using hx)]; rfl
theorem fullH_len {x : List UInt8} (h : blkOk x = true) : (fullH x).length = 128 := by
  unfold fullH
  cases hz : (x.length == 0) with
  | true => simp
  | false => simp only [blkOk, hz, Bool.false_or, beq_iff_eq] at h; exact h

theorem htake_eq (c : Config) (h : Head) (slot : Int) (data : List UInt8) : head_Take c h slot data = some (takeS c h slot data) := by
  unfold head_Take takeS errS
  rw [hcheck_eq]
  cases hm : mayH c h with
  | false => rfl
  | true =>
  have o := mayH_of hm
  have hmm := o.m.1
  simp only [cond_true, Option.bind_some, slot_expr o.m]
  cases hs : slotIn c slot with
  | false => rfl
  | true =>
  obtain ⟨s1, s2⟩ := (slotIn_iff c slot).1 hs
  obtain ⟨k, rfl⟩ := Int.eq_ofNat_of_zero_le s1
  have hnb := o.nb
  have hnd := o.nd
  have hw : wI (c.Members - 1) = ((h.Blocks.length - 1 : Nat) : Int) := by rw [wI_id (by omega) (by omega)]; omega
  simp only [bne_self_eq_false, Bool.not_true, cond_false, cond_true, odd_eq, Option.bind_some, Bool.true_and]
  cases hd : blkOk data with
  | false => rfl
  | true =>
  simp only [Bool.not_true, cond_false, cond_true, htwin2_eq o.small, Option.bind_some, hw]
  have hpe : decide ((h.Phase.toNat : Int) > ((1 : UInt8).toNat : Int)) = !decide (h.Phase.toNat ≤ 1) := by
    rw [Bool.eq_iff_iff]; simp; omega
  rw [hpe]
  cases hp : decide (h.Phase.toNat ≤ 1) with
  | false => rfl
  | true =>
  have hdl : data.length < 4294967296 := by
    simp only [blkOk, Bool.or_eq_true, beq_iff_eq] at hd; omega
  simp only [Bool.not_true, cond_false, cond_true]
  rw [bnd_nat (show h.Blocks.length - 1 < h.Blocks.length by omega), blockH_eq data hdl]
  simp only [Option.bind_some]
  rw [bnd_nat (by rw [List.length_set]; omega), bnd_nat (by omega)]
  rfl
theorem hknow_eq (c : Config) (h : Head) (slot : Int) (data : List UInt8) : head_Know c h slot data = some (knowS c h slot data) := by
  unfold head_Know knowS errS
  rw [hcheck_eq]
  cases hm : mayH c h with
  | false => rfl
  | true =>
  have o := mayH_of hm
  have hmm := o.m.1
  simp only [cond_true, Option.bind_some, slot_expr o.m]
  cases hs : slotIn c slot with
  | false => rfl
  | true =>
  obtain ⟨s1, s2⟩ := (slotIn_iff c slot).1 hs
  obtain ⟨k, rfl⟩ := Int.eq_ofNat_of_zero_le s1
  have hnb := o.nb
  have hnd := o.nd
  simp only [bne_self_eq_false, Bool.not_true, cond_false, cond_true, odd_eq, Option.bind_some, Bool.true_and]
  cases hd : blkOk data with
  | false => rfl
  | true =>
  have hdl : data.length < 4294967296 := by
    simp only [blkOk, Bool.or_eq_true, beq_iff_eq] at hd; omega
  simp only [Bool.not_true, cond_false, cond_true, htwin2_eq o.small, Option.bind_some, idx_nat, Int.toNat_natCast]
  rw [getD_some (show k < h.Blocks.length by omega) []]
  simp only [Option.bind_some]
  rw [show (((h.Blocks.getD k []).length : Int) == 0) = ((h.Blocks.getD k []).length == 0) by rw [Bool.eq_iff_iff]; simp]
  cases ((h.Blocks.getD k []).length == 0) with
  | false => rfl
  | true =>
    simp only [cond_true]
    rw [bnd_nat (show k < h.Blocks.length by omega), blockH_eq data hdl]
    rfl
theorem hnew_eq (c : Config) (stripe : Int) : head_New c stripe = some (newS c stripe) := by
  unfold head_New newS
  rw [stripes_eq]
  cases hc : mayC c with
  | false => rfl
  | true =>
  have hm := (mayC_iff c).1 hc
  have hm1 := hm.1
  simp only [cond_true, Option.bind_some, bne_self_eq_false, cond_false]
  unfold head_New_J1 newIn
  by_cases h1 : stripe < 0
  · rw [decide_eq_true h1, decide_eq_false (show ¬ 0 ≤ stripe by omega)]; rfl
  · rw [decide_eq_false h1, decide_eq_true (show 0 ≤ stripe by omega)]
    simp only [cond_false, Bool.true_and]
    by_cases h2 : stripe < c.Chunk * c.Rows
    · rw [decide_eq_true h2, decide_eq_false (show ¬ stripe ≥ c.Chunk * c.Rows by omega)]
      obtain ⟨m, hmm⟩ := Int.eq_ofNat_of_zero_le (show 0 ≤ c.Members by omega)
      rw [wI_id (x := c.Members - 1) (by omega) (by omega)]
      rw [hmm, show ((m : Int) - 1) = ((m - 1 : Nat) : Int) by omega, makeL_some _ _ (by omega), makeL_some _ _ (by omega)]
      rfl
    · rw [decide_eq_false h2, decide_eq_true (show stripe ≥ c.Chunk * c.Rows by omega)]; rfl
/-- Loops that turn each byte. -/
theorem spoil1 {α : Type} (l : List α) (hl : l.length < 4294967296) :
    loopM (fun s : Int => (bif decide (s < (l.length : Int)) then Option.bind (idx l s) (fun _ => Option.bind (idx l s) (fun _ => some (Ctl.next (wI (s + (1 : Int)))))) else some (Ctl.brk ()) : Option (Ctl Int Unit))) FUEL (0 : Int) = some () :=
  loop_count l.length hl (fun k hk => by
    rw [decide_eq_true (show (k : Int) < (l.length : Int) by omega), idx_nat, List.getElem?_eq_getElem hk, wI_succ (by omega)]; rfl) (by
    rw [decide_eq_false (by omega)]; rfl)
theorem spoil2 {α : Type} (l : List (List α)) (hl : l.length < 4294967296) (hx : ∀ x ∈ l, x.length < 4294967296) :
    loopM (fun s : Int => (bif decide (s < (l.length : Int)) then Option.bind (loopM (fun t : Int => (Option.bind (idx l s) (fun x => (bif decide (t < (x.length : Int)) then Option.bind (idx l s) (fun y => Option.bind (idx y t) (fun _ => Option.bind (idx y t) (fun _ => some (Ctl.next (wI (t + (1 : Int))))))) else some (Ctl.brk ()))) : Option (Ctl Int Unit))) FUEL (0 : Int)) (fun _ => some (Ctl.next (wI (s + (1 : Int))))) else some (Ctl.brk ()) : Option (Ctl Int Unit))) FUEL (0 : Int) = some () :=
  loop_count l.length hl (fun k hk => by
    have hxk := hx _ (List.getElem_mem hk)
    rw [decide_eq_true (show (k : Int) < (l.length : Int) by omega), loop_count l[k].length hxk (fun j hj => by
      rw [idx_nat, List.getElem?_eq_getElem hk]
      simp only [Option.bind_some]
      rw [decide_eq_true (show (j : Int) < (l[k].length : Int) by omega), idx_nat, List.getElem?_eq_getElem hj, wI_succ (by omega)]; rfl) (by
      rw [idx_nat, List.getElem?_eq_getElem hk]
      simp only [Option.bind_some]
      rw [decide_eq_false (by omega)]; rfl), wI_succ (by omega)]; rfl) (by
    rw [decide_eq_false (by omega)]; rfl)
/- Plain law: a head's plan. -/

theorem hasTrue_eq (l : List Bool) (hl : l.length < 4294967296) : slices_Contains_bool_bool l true = some (l.any id) := by
  unfold slices_Contains_bool_bool slices_Index_bool_bool
  obtain ⟨b, hb, hq⟩ := loop_inv (step := fun s : Int => slices_Index_bool_bool_L1 l true s) l.length (fun k s => s = (k : Int) ∧ ∀ j (hj : j < l.length), j < k → l[j] = false)
    (fun b => (∃ k : Nat, b = Sum.inr (k : Int) ∧ l.any id = true) ∨ (b = Sum.inl () ∧ l.any id = false)) (fun k s hk hI => by
      obtain ⟨rfl, hI⟩ := hI
      unfold slices_Index_bool_bool_L1
      by_cases hlt : k < l.length
      · rw [decide_eq_true (show (k : Int) < (l.length : Int) by omega), idx_nat, List.getElem?_eq_getElem hlt, wI_succ (by omega)]
        simp only [cond_true, Option.bind_some]
        cases ho : l[k] with
        | false =>
          refine .inl ⟨_, rfl, hlt, rfl, fun j hj hjk => ?_⟩
          by_cases he : j = k
          · subst he; exact ho
          · exact hI j hj (by omega)
        | true => exact .inr ⟨_, rfl, .inl ⟨k, rfl, List.any_eq_true.2 ⟨l[k], List.getElem_mem _, by rw [ho]; rfl⟩⟩⟩
      · rw [decide_eq_false (show ¬(k : Int) < (l.length : Int) by omega)]
        refine .inr ⟨_, rfl, .inr ⟨rfl, ?_⟩⟩
        rw [List.any_eq_false]
        intro x hx
        obtain ⟨j, hj, rfl⟩ := List.getElem_of_mem hx
        rw [hI j hj (by omega)]; simp) FUEL 0 0 (Nat.zero_le _) (by have := fuel_lt hl; omega) ⟨rfl, fun j _ hj => by omega⟩
  rw [hb]
  rcases hq with ⟨k, rfl, h⟩ | ⟨rfl, h⟩
  · rw [h]; simp
  · rw [h]; rfl
theorem hasInt_eq (l : List Int) (x : Int) (hl : l.length < 4294967296) : slices_Contains_int_int l x = some (decide (x ∈ l)) := by
  unfold slices_Contains_int_int slices_Index_int_int
  obtain ⟨b, hb, hq⟩ := loop_inv (step := fun s : Int => slices_Index_int_int_L1 l x s) l.length (fun k s => s = (k : Int) ∧ ∀ j (hj : j < l.length), j < k → l[j] ≠ x)
    (fun b => (∃ k : Nat, b = Sum.inr (k : Int) ∧ x ∈ l) ∨ (b = Sum.inl () ∧ x ∉ l)) (fun k s hk hI => by
      obtain ⟨rfl, hI⟩ := hI
      unfold slices_Index_int_int_L1
      by_cases hlt : k < l.length
      · rw [decide_eq_true (show (k : Int) < (l.length : Int) by omega), idx_nat, List.getElem?_eq_getElem hlt, wI_succ (by omega)]
        simp only [cond_true, Option.bind_some]
        cases ho : (x == l[k]) with
        | false =>
          refine .inl ⟨_, rfl, hlt, rfl, fun j hj hjk => ?_⟩
          by_cases he : j = k
          · subst he; intro h2; rw [h2] at ho; simp at ho
          · exact hI j hj (by omega)
        | true => exact .inr ⟨_, rfl, .inl ⟨k, rfl, by rw [beq_iff_eq] at ho; rw [ho]; exact List.getElem_mem _⟩⟩
      · rw [decide_eq_false (show ¬(k : Int) < (l.length : Int) by omega)]
        refine .inr ⟨_, rfl, .inr ⟨rfl, fun hx => ?_⟩⟩
        obtain ⟨j, hj, rfl⟩ := List.getElem_of_mem hx
        exact hI j hj (by omega) rfl) FUEL 0 0 (Nat.zero_le _) (by have := fuel_lt hl; omega) ⟨rfl, fun j _ hj => by omega⟩
  rw [hb]
  rcases hq with ⟨k, rfl, h⟩ | ⟨rfl, h⟩
  · rw [decide_eq_true h]; simp
  · rw [decide_eq_false h]; rfl

/-- The places below k at which p holds. -/
def slotsOf (p : Nat → Bool) (k : Nat) : List Int := ((List.range k).filter p).map fun i : Nat => (i : Int)
theorem slotsOf_succ (p : Nat → Bool) (k : Nat) : slotsOf p (k + 1) = bif p k then slotsOf p k ++ [(k : Int)] else slotsOf p k := by
  unfold slotsOf
  rw [List.range_succ, List.filter_append, List.map_append]
  rw [show List.filter p [k] = bif p k then [k] else [] by simp only [List.filter]; cases p k <;> rfl]
  cases hd : p k <;> simp
theorem slotsOf_len (p : Nat → Bool) (k : Nat) : (slotsOf p k).length ≤ k := by unfold slotsOf; rw [List.length_map]; exact Nat.le_trans (List.length_filter_le _ _) (by simp)
theorem slotsOf_mem (p : Nat → Bool) (k : Nat) (x : Int) : x ∈ slotsOf p k ↔ ∃ i : Nat, i < k ∧ p i = true ∧ x = (i : Int) := by
  unfold slotsOf
  simp only [List.mem_map, List.mem_filter, List.mem_range]
  exact ⟨fun ⟨i, h, e⟩ => ⟨i, h.1, h.2, e.symm⟩, fun ⟨i, h1, h2, e⟩ => ⟨i, ⟨h1, h2⟩, e.symm⟩⟩
theorem slotsOf_sorted (p : Nat → Bool) (k : Nat) : (slotsOf p k).Pairwise (· < ·) := by
  unfold slotsOf
  rw [List.pairwise_map]
  exact (List.Pairwise.filter p (List.pairwise_lt_range (n := k))).imp (fun h => by omega)

def unk (h : Head) (i : Nat) : Bool := (h.Blocks.getD i []).length == 0
def dty (h : Head) (i : Nat) : Bool := h.Dirty.getD i false
def restS (h : Head) : List Int := slotsOf (unk h) h.Dirty.length
def oldS (h : Head) : List Int := slotsOf (dty h) h.Dirty.length ++ [(h.Dirty.length : Int)]
def lessP (a b : Plan) : Plan := bif decide (b.Reads.length < a.Reads.length) then b else a
def pickS (lost : Int) (h : Head) : Plan :=
  bif decide (lost ∈ restS h) then Plan.mk 3 (oldS h) else bif decide (lost ∈ oldS h) then Plan.mk 2 (restS h) else lessP (Plan.mk 2 (restS h)) (Plan.mk 3 (oldS h))

theorem cmp_eq (a b : Int) : cmp_Compare_int a b = some (bif decide (a < b) then -1 else bif decide (a > b) then 1 else 0) := by
  unfold cmp_Compare_int cmp_isNaN_int
  simp only [bne_self_eq_false, Option.bind_some, cond_false]
  cases decide (a < b) <;> cases decide (a > b) <;> rfl
theorem cmpP_eq (a b : Plan) : ∃ n : Int, plan_Of_1 a b = some n ∧ decide (n < 0) = decide (a.Reads.length < b.Reads.length) := by
  unfold plan_Of_1
  rw [cmp_eq]
  refine ⟨_, rfl, ?_⟩
  by_cases h : a.Reads.length < b.Reads.length
  · rw [decide_eq_true (show (a.Reads.length : Int) < (b.Reads.length : Int) by omega), decide_eq_true h]; rfl
  · rw [decide_eq_false (show ¬(a.Reads.length : Int) < (b.Reads.length : Int) by omega), decide_eq_false h]
    cases decide ((a.Reads.length : Int) > (b.Reads.length : Int)) <;> rfl
theorem min1_eq (a : Plan) : slices_MinFunc_api_Plan_api_Plan [a] (fun y => plan_Of_1 y.1 y.2) = some a := by
  unfold slices_MinFunc_api_Plan_api_Plan slices_MinFunc_api_Plan_api_Plan_J1
  have : loopM (fun s : Int × UInt8 × (List Int) => slices_MinFunc_api_Plan_api_Plan_L2 [a] (fun y => plan_Of_1 y.1 y.2) s.1 s.2.1 s.2.2) FUEL ((1 : Int), a.Kind, a.Reads) = some (a.Kind, a.Reads) :=
    loop_run (fun _ => ((1 : Int), a.Kind, a.Reads)) 0 (a.Kind, a.Reads) (by unfold FUEL; omega) (fun k hk => by omega) rfl
  have hi : idx [a] (0 : Int) = some a := rfl
  rw [show decide ((([a].length : Nat) : Int) < 1) = false from rfl, hi]
  simp only [cond_false, Option.bind_some]
  rw [this]
  rfl
theorem min2_eq (a b : Plan) : slices_MinFunc_api_Plan_api_Plan [a, b] (fun y => plan_Of_1 y.1 y.2) = some (lessP a b) := by
  unfold slices_MinFunc_api_Plan_api_Plan slices_MinFunc_api_Plan_api_Plan_J1
  have : loopM (fun s : Int × UInt8 × (List Int) => slices_MinFunc_api_Plan_api_Plan_L2 [a, b] (fun y => plan_Of_1 y.1 y.2) s.1 s.2.1 s.2.2) FUEL ((1 : Int), a.Kind, a.Reads) = some ((lessP a b).Kind, (lessP a b).Reads) :=
    loop_run (fun k => if k = 0 then ((1 : Int), a.Kind, a.Reads) else ((2 : Int), (lessP a b).Kind, (lessP a b).Reads)) 1 _ (by unfold FUEL; omega) (fun k hk => by
      obtain rfl : k = 0 := by omega
      obtain ⟨n, h1, h2⟩ := cmpP_eq b (Plan.mk a.Kind a.Reads)
      show slices_MinFunc_api_Plan_api_Plan_L2 [a, b] (fun y => plan_Of_1 y.1 y.2) 1 a.Kind a.Reads = some (Ctl.next ((2 : Int), (lessP a b).Kind, (lessP a b).Reads))
      unfold slices_MinFunc_api_Plan_api_Plan_L2
      show Option.bind (plan_Of_1 b (Plan.mk a.Kind a.Reads)) _ = _
      rw [h1]
      simp only [Option.bind_some, h2]
      unfold lessP
      cases decide (b.Reads.length < a.Reads.length) <;> rfl) rfl
  have hi : idx [a, b] (0 : Int) = some a := rfl
  rw [show decide ((([a, b].length : Nat) : Int) < 1) = false from rfl, hi]
  simp only [cond_false, Option.bind_some]
  rw [this]
  rfl
theorem some_eq (lost : Int) (l : List Plan) (hl : l.length < 100) (hx : ∀ p ∈ l, p.Reads.length < 4294967296) : plan_some lost l = some (l.filter fun p => !decide (lost ∈ p.Reads)) := by
  unfold plan_some
  have := loop_run (step := fun s : (List Plan) × Int => plan_some_L1 lost l s.1 s.2) (fun k => ((l.take k).filter (fun p => !decide (lost ∈ p.Reads)), (k : Int))) l.length (l.filter fun p => !decide (lost ∈ p.Reads)) (fuel_lt (by omega)) (fun k hk => by
    unfold plan_some_L1 plan_some_J2
    have hp := hx _ (List.getElem_mem hk)
    have hlen : ((l.take k).filter (fun p => !decide (lost ∈ p.Reads))).length ≤ k := Nat.le_trans (List.length_filter_le _ _) (by simp; omega)
    simp only
    rw [decide_eq_true (show (k : Int) < (l.length : Int) by omega), idx_nat, List.getElem?_eq_getElem hk, wI_succ (by omega)]
    simp only [cond_true, Option.bind_some]
    rw [hasInt_eq _ _ hp, take_succ_get _ _ _ (List.getElem?_eq_getElem hk), List.filter_append]
    simp only [Option.bind_some]
    rw [show List.filter (fun p => !decide (lost ∈ p.Reads)) [l[k]] = bif !decide (lost ∈ l[k].Reads) then [l[k]] else [] by simp only [List.filter]; cases (decide (lost ∈ l[k].Reads)) <;> rfl]
    cases (!decide (lost ∈ l[k].Reads)) with
    | false => simp
    | true =>
      simp only [cond_true]
      rw [app_some _ _ (by simp only [List.length_cons, List.length_nil]; omega)]
      rfl) (by
    unfold plan_some_L1
    simp only
    rw [decide_eq_false (by omega), List.take_length]; rfl)
  replace this : loopM (fun s : (List Plan) × Int => plan_some_L1 lost l s.1 s.2) FUEL (([] : List Plan), (0 : Int)) = _ := this
  rw [this]
  rfl

/-! members and slots -/
theorem divide_eq {a b : Int} (ha : 0 ≤ a) (ha2 : a ≤ 1000000) (hb : 0 < b) : turn_divide a b = some (a / b, a % b) := by
  unfold turn_divide quoI remI
  rw [if_neg (by omega), if_neg (by omega), Int.tdiv_eq_ediv_of_nonneg ha, Int.tmod_eq_emod_of_nonneg ha]
  have h1 : 0 ≤ a / b := Int.ediv_nonneg ha (by omega)
  have h2 : a / b ≤ a := Int.ediv_le_self b ha
  rw [wI_id (by omega) (by omega)]
  rfl
def parS (c : Config) (stripe : Int) : Int := c.Members - 1 - (stripe / c.Chunk) % c.Members
def memS (c : Config) (stripe k : Int) : Int := (parS c stripe + 1 + k) % c.Members
def sloS (c : Config) (stripe m : Int) : Int := (m + c.Members - parS c stripe - 1) % c.Members
theorem parS_in {c : Config} (hm : MayC c) (stripe : Int) : 0 ≤ parS c stripe ∧ parS c stripe < c.Members := by
  have := hm.1
  unfold parS
  have h1 := Int.emod_nonneg (stripe / c.Chunk) (show c.Members ≠ 0 by omega)
  have h2 := Int.emod_lt_of_pos (stripe / c.Chunk) (show 0 < c.Members by omega)
  omega
theorem mem_slo {c : Config} (hm : MayC c) (stripe k : Int) (h0 : 0 ≤ k) (h1 : k < c.Members) : sloS c stripe (memS c stripe k) = k := by
  have hM := hm.1
  have hp := parS_in hm stripe
  unfold sloS memS
  generalize parS c stripe = p at *
  generalize c.Members = M at *
  by_cases h : p + 1 + k < M
  · rw [Int.emod_eq_of_lt (show 0 ≤ p + 1 + k by omega) h, show p + 1 + k + M - p - 1 = k + M by omega, Int.add_emod_right, Int.emod_eq_of_lt h0 h1]
  · have e : (p + 1 + k) % M = p + 1 + k - M := by
      rw [show p + 1 + k = (p + 1 + k - M) + M by omega, Int.add_emod_right, Int.emod_eq_of_lt (by omega) (by omega)]
      omega
    rw [e, show p + 1 + k - M + M - p - 1 = k by omega, Int.emod_eq_of_lt h0 h1]
theorem at_eq {c : Config} (hm : MayC c) {stripe k : Int} (s0 : 0 ≤ stripe) (s1 : stripe < c.Chunk * c.Rows) (h0 : 0 ≤ k) (h1 : k < c.Members) : turn_at c stripe k c.Members = some (⟨c, stripe / c.Chunk⟩, 0) := by
  unfold turn_at
  have hs := wI_str hm
  have hc := hm.2.1
  rw [stripes_eq, (mayC_iff c).2 hm]
  simp only [cond_true, Option.bind_some, bne_self_eq_false, cond_false]
  rw [decide_eq_false (show ¬ stripe < 0 by omega), decide_eq_false (show ¬ stripe ≥ c.Chunk * c.Rows by omega), decide_eq_false (show ¬ k < 0 by omega), decide_eq_false (show ¬ k ≥ c.Members by omega)]
  simp only [cond_false]
  unfold turn_at_J1
  rw [divide_eq s0 (by omega) (by omega)]
  rfl
theorem row_small {c : Config} (hm : MayC c) {stripe : Int} (s0 : 0 ≤ stripe) (s1 : stripe < c.Chunk * c.Rows) : 0 ≤ stripe / c.Chunk ∧ stripe / c.Chunk ≤ 64 := by
  have hs := wI_str hm
  have hc := hm.2.1
  have h1 : 0 ≤ stripe / c.Chunk := Int.ediv_nonneg s0 (by omega)
  have h2 : stripe / c.Chunk ≤ stripe := Int.ediv_le_self c.Chunk s0
  omega
theorem parity_eq {c : Config} (hm : MayC c) {stripe : Int} (s0 : 0 ≤ stripe) (s1 : stripe < c.Chunk * c.Rows) : turn_row_parity ⟨c, stripe / c.Chunk⟩ = some (parS c stripe) := by
  have hM := hm.1
  have hr := row_small hm s0 s1
  have hp := parS_in hm stripe
  unfold turn_row_parity
  simp only
  rw [divide_eq hr.1 (by omega) (by omega)]
  simp only [Option.bind_some]
  rw [wI_id (x := c.Members - 1) (by omega) (by omega)]
  unfold parS at hp ⊢
  rw [wI_id (by omega) (by omega)]
theorem slot_eq {c : Config} (hm : MayC c) {stripe k : Int} (s0 : 0 ≤ stripe) (s1 : stripe < c.Chunk * c.Rows) (h0 : 0 ≤ k) (h1 : k < c.Members) : turn_Slot c stripe k = some (sloS c stripe k, 0) := by
  have hM := hm.1
  have hp := parS_in hm stripe
  unfold turn_Slot turn_row_slot
  rw [at_eq hm s0 s1 h0 h1]
  simp only [Option.bind_some, bne_self_eq_false, cond_false]
  rw [parity_eq hm s0 s1]
  simp only [Option.bind_some]
  rw [wI_id (x := k + c.Members) (by omega) (by omega), wI_id (x := k + c.Members - parS c stripe) (by omega) (by omega), wI_id (by omega) (by omega), divide_eq (by omega) (by omega) (by omega)]
  rfl
def lostS (c : Config) (h : Head) (missing : Int) : Int := bif missing == -1 then -1 else sloS c h.Stripe missing
theorem lost_eq {c : Config} {h : Head} (o : OfH c h) {missing : Int} (h0 : -1 ≤ missing) (h1 : missing < c.Members) : plan_lost c h.Stripe missing = some (lostS c h missing) := by
  unfold plan_lost lostS
  by_cases he : missing = -1
  · subst he; rfl
  · rw [show (missing == -1) = false by simp [he]]
    simp only [cond_false]
    rw [slot_eq o.m o.s1 o.s2 (by omega) h1]
    rfl
def planIn (c : Config) (missing : Int) : Bool := decide (-1 ≤ missing) && decide (missing < c.Members)
def planS (c : Config) (h : Head) (missing : Int) : Plan × Int :=
  bif mayH c h then (bif planIn c missing then (bif (h.Phase == 0) && anyD h then (bif (restS h).length == 0 then (Plan.mk 1 [], 0) else (pickS (lostS c h missing) h, 0)) else (Plan.mk 0 [], 6)) else (Plan.mk 0 [], 2)) else (Plan.mk 0 [], 8)
theorem rest_old {c : Config} {h : Head} (o : OfH c h) {x : Int} (h1 : x ∈ restS h) : x ∉ oldS h := by
  intro h2
  obtain ⟨i, a1, a2, rfl⟩ := (slotsOf_mem _ _ _).1 h1
  unfold oldS at h2
  rcases List.mem_append.1 h2 with h2 | h2
  · obtain ⟨j, b1, b2, b3⟩ := (slotsOf_mem _ _ _).1 h2
    obtain rfl : i = j := by omega
    have := o.di i b2
    unfold unk at a2
    simp at a2 this
    exact this a2
  · simp at h2; omega
theorem of_eq (c : Config) (h : Head) (missing : Int) : plan_Of c h missing = some (planS c h missing) := by
  unfold plan_Of planS
  rw [hcheck_eq]
  cases hm : mayH c h with
  | false => rfl
  | true =>
  have o := mayH_of hm
  have hm1 := o.m.1
  have hnb := o.nb
  have hnd := o.nd
  simp only [cond_true, Option.bind_some, bne_self_eq_false, cond_false]
  rw [show (decide (missing < (-1 : Int)) || decide (missing ≥ c.Members)) = !planIn c missing by rw [Bool.eq_iff_iff]; simp [planIn] <;> omega]
  cases hp : planIn c missing with
  | false => rfl
  | true =>
  have hpi : -1 ≤ missing ∧ missing < c.Members := by simpa [planIn] using hp
  simp only [Bool.not_true, cond_false, cond_true]
  rw [hasTrue_eq _ (by omega)]
  cases hph : (h.Phase == 0) with
  | false =>
    simp only [bne, hph, Bool.not_false, Bool.not_true, gO, cond_false, Option.bind_some, Bool.true_or, cond_true, Bool.false_and]
  | true =>
  simp only [bne, hph, Bool.not_true, Bool.not_false, gO, cond_true, Option.bind_some, Bool.false_or, Bool.true_and]
  rw [show h.Dirty.any id = anyD h from rfl]
  cases had : anyD h with
  | false => rfl
  | true =>
  simp only [Bool.not_true, cond_false, cond_true]
  have hl1 := slotsOf_len (unk h) h.Dirty.length
  have hl2 := slotsOf_len (dty h) h.Dirty.length
  have := loop_run (step := fun s : Int × (List Int) × (List Int) => plan_Of_L1 h s.1 s.2.1 s.2.2) (fun k => ((k : Int), slotsOf (unk h) k, slotsOf (dty h) k)) h.Dirty.length (slotsOf (unk h) h.Dirty.length, slotsOf (dty h) h.Dirty.length) (fuel_lt (by omega)) (fun k hk => by
    have h1 := slotsOf_len (unk h) k
    have h2 := slotsOf_len (dty h) k
    unfold plan_Of_L1 plan_Of_J3 plan_Of_J2
    simp only
    rw [decide_eq_true (show (k : Int) < (h.Dirty.length : Int) by omega), idx_nat, idx_nat, getD_some hk false, getD_some (show k < h.Blocks.length by omega) [], wI_succ (by omega), slotsOf_succ, slotsOf_succ]
    simp only [cond_true, Option.bind_some]
    rw [show (((h.Blocks.getD k []).length : Int) == 0) = unk h k by unfold unk; rw [Bool.eq_iff_iff]; simp]
    rw [show dty h k = h.Dirty.getD k false from rfl]
    rw [app_some _ _ (by simp; omega), app_some _ _ (by simp; omega)]
    cases h.Dirty.getD k false <;> cases unk h k <;> rfl) (by
    unfold plan_Of_L1
    simp only
    rw [decide_eq_false (by omega)]; rfl)
  replace this : loopM (fun s : Int × (List Int) × (List Int) => plan_Of_L1 h s.1 s.2.1 s.2.2) FUEL ((0 : Int), ([] : List Int), ([] : List Int)) = _ := this
  rw [this]
  simp only [Option.bind_some]
  rw [show (((slotsOf (unk h) h.Dirty.length).length : Int) == 0) = ((restS h).length == 0) by unfold restS; rw [Bool.eq_iff_iff]; simp]
  cases hr : ((restS h).length == 0) with
  | true => rfl
  | false =>
  simp only [cond_false]
  rw [app_some _ _ (by simp; omega), lost_eq o hpi.1 hpi.2, wI_id (x := c.Members - 1) (by omega) (by omega), ← hnd]
  simp only [Option.bind_some]
  rw [show slotsOf (dty h) h.Dirty.length ++ [(h.Dirty.length : Int)] = oldS h from rfl, show slotsOf (unk h) h.Dirty.length = restS h from rfl]
  rw [some_eq _ _ (by simp) (fun p hp => by
    simp only [List.mem_cons, List.not_mem_nil, or_false] at hp
    rcases hp with rfl | rfl
    · simp only; unfold restS; omega
    · simp only; unfold oldS; simp; omega)]
  simp only [Option.bind_some, List.filter_cons, List.filter_nil]
  unfold pickS
  by_cases h1 : lostS c h missing ∈ restS h
  · have h2 := rest_old o h1
    rw [decide_eq_true h1, decide_eq_false h2]
    exact (by simp only [Bool.not_true, Bool.not_false, if_true, Bool.false_eq_true, if_false]; rw [min1_eq]; rfl)
  · rw [decide_eq_false h1]
    by_cases h2 : lostS c h missing ∈ oldS h
    · rw [decide_eq_true h2]
      exact (by simp only [Bool.not_true, Bool.not_false, if_true, Bool.false_eq_true, if_false]; rw [min1_eq]; rfl)
    · rw [decide_eq_false h2]
      exact (by simp only [Bool.not_false, if_true]; rw [min2_eq]; rfl)
/- Plain law: devices: which may be, copies, blocks. -/

theorem fuel_ltD {n : Nat} (h : n < 4294967296) : n < FUEL := by unfold FUEL; omega
theorem loop_anyD {α B : Type} (l : List α) (p : α → Bool) {step : Int → Option (Ctl Int B)} (yes no : B) (hl : l.length < 4294967296)
    (h1 : ∀ k (hk : k < l.length), step (k : Int) = some (bif p l[k] then .brk yes else .next ((k + 1 : Nat) : Int))) (h2 : step (l.length : Int) = some (.brk no)) :
    loopM step FUEL (0 : Int) = some (bif l.any p then yes else no) := by
  have := loop_any (step := step) (fun k => (k : Int)) l.length (fun k => (l[k]?.map p).getD false) yes no (fuel_ltD hl) (fun k hk => by
    rw [h1 k hk]; simp [hk]) h2
  rw [any_range l p _ (fun k hk => by simp [hk])] at this
  simpa using this
/-- The same for two lists of one length. -/
theorem loop_any2 {α β B : Type} (l : List α) (m : List β) (p : α → β → Bool) {step : Int → Option (Ctl Int B)} (yes no : B) (hl : l.length < 4294967296) (hm : l.length = m.length)
    (h1 : ∀ k (hk : k < l.length) (hk' : k < m.length), step (k : Int) = some (bif p l[k] m[k] then .brk yes else .next ((k + 1 : Nat) : Int))) (h2 : step (l.length : Int) = some (.brk no)) :
    loopM step FUEL (0 : Int) = some (bif (l.zip m).any (fun x => p x.1 x.2) then yes else no) := by
  have hz : (l.zip m).length = l.length := by simp; omega
  have := loop_anyD (l.zip m) (fun x => p x.1 x.2) (step := step) yes no (by omega) (fun k hk => by
    rw [h1 k (by omega) (by omega)]; simp) (by rw [hz]; exact h2)
  exact this
theorem zip_any_ne {α γ : Type} [DecidableEq γ] (f : α → γ) : ∀ (l m : List α), l.length = m.length → ((l.zip m).any (fun x => !decide (f x.1 = f x.2))) = !decide (l.map f = m.map f)
  | [], [], _ => by simp
  | [], _ :: _, h => by simp at h
  | _ :: _, [], h => by simp at h
  | a :: l, b :: m, h => by
    simp only [List.zip_cons_cons, List.any_cons, List.map_cons, zip_any_ne f l m (by simpa using h)]
    rw [Bool.eq_iff_iff]
    simp only [Bool.or_eq_true, Bool.not_eq_true', decide_eq_false_iff_not, List.cons.injEq]
    by_cases h1 : f a = f b <;> by_cases h2 : l.map f = m.map f <;> simp [h1, h2]

def fullB (b : List UInt8) : List UInt8 := if b.length = 0 then List.replicate 128 0 else b
def szB (b : List UInt8) : Bool := b.length == 0 || b.length == 128
theorem fullB_len {b : List UInt8} (h : szB b = true) : (fullB b).length = 128 := by
  unfold szB at h; unfold fullB
  simp at h
  split
  · simp
  · rcases h with h | h
    · subst h; simp at *
    · exact h
theorem fullB_ne (b : List UInt8) : (fullB b).length ≠ 0 := by
  unfold fullB
  split
  · rw [List.length_replicate]; omega
  · assumption
theorem fullB_full (b : List UInt8) : fullB (fullB b) = fullB b := by
  rw [show fullB (fullB b) = if (fullB b).length = 0 then List.replicate 128 0 else fullB b from rfl, if_neg (fullB_ne b)]
theorem szB_full {b : List UInt8} (h : szB b = true) : szB (fullB b) = true := by
  have := fullB_len h
  unfold szB; rw [this]; rfl

theorem sum_loop {α : Type} (l : List α) (len : α → Nat) (m : Nat) (hm : m ≤ 2000) {step : Int × Int → Option (Ctl (Int × Int) Int)} (n0 : Int) (h0 : 0 ≤ n0) (h0' : n0 ≤ 1000000000)
    (h1 : ∀ k (hk : k < l.length) (n : Int), k < m → step (n, (k : Int)) = some (.next (wI (n + wI (8 + min ((len l[k] : Nat) : Int) 100000)), wI ((k : Int) + 1))))
    (h2 : ∀ (n : Int) (k : Nat), ¬(k < l.length ∧ k < m) → step (n, (k : Int)) = some (.brk n)) :
    ∃ b, loopM step FUEL (n0, (0 : Int)) = some b ∧ n0 ≤ b ∧ b ≤ n0 + 200000 * m ∧ ∀ j (hj : j < l.length), j < m → min ((len l[j] : Nat) : Int) 100000 ≤ b := by
  refine loop_inv (step := step) (min l.length m)
    (fun k s => s.2 = (k : Int) ∧ n0 ≤ s.1 ∧ s.1 ≤ n0 + 200000 * (k : Int) ∧ ∀ j (hj : j < l.length), j < k → min ((len l[j] : Nat) : Int) 100000 ≤ s.1) _ (fun k s hk hI => ?_) FUEL 0 (n0, 0) (Nat.zero_le _) (by unfold FUEL; omega) ⟨rfl, by simp, by simp, fun j _ hj => by omega⟩
  obtain ⟨s1, s2⟩ := s
  obtain ⟨e1, e2, e3, e4⟩ := hI
  simp only at e1 e2 e3 e4
  subst e1
  by_cases hlt : k < l.length ∧ k < m
  · refine .inl ⟨_, h1 k hlt.1 s1 hlt.2, by omega, ?_⟩
    rw [wI_id (x := 8 + min ((len l[k] : Nat) : Int) 100000) (by omega) (by omega), wI_id (by omega) (by omega), wI_succ (by omega)]
    refine ⟨rfl, by simp only; omega, by simp only; omega, fun j hj hjk => ?_⟩
    simp only
    by_cases hjk' : j = k
    · subst hjk'; omega
    · have := e4 j hj (by omega); omega
  · exact .inr ⟨s1, h2 s1 k hlt, e2, by omega, fun j hj hjm => e4 j hj (by omega)⟩

/-! ### which devices may be -/
/-- A loop that looks for the first element with p. -/
theorem loop_first {α B : Type} (l : List α) (p : α → Bool) {step : Int → Option (Ctl Int B)} (yes : Nat → B) (no : B) (hl : l.length < 4294967296)
    (h1 : ∀ k (hk : k < l.length), step (k : Int) = some (bif p l[k] then .brk (yes k) else .next ((k + 1 : Nat) : Int))) (h2 : step (l.length : Int) = some (.brk no)) :
    ∃ b, loopM step FUEL (0 : Int) = some b ∧ ((∃ k, b = yes k ∧ ∃ hk : k < l.length, p l[k] = true ∧ ∀ j (hj : j < l.length), j < k → p l[j] = false) ∨ (b = no ∧ ∀ x ∈ l, p x = false)) := by
  refine loop_inv (step := step) l.length (fun k s => s = (k : Int) ∧ ∀ j (hj : j < l.length), j < k → p l[j] = false) _ (fun k s hk hI => ?_) FUEL 0 0 (Nat.zero_le _) (by have := fuel_ltD hl; omega) ⟨rfl, fun j _ hj => by omega⟩
  obtain ⟨rfl, hI⟩ := hI
  by_cases hlt : k < l.length
  · rw [h1 k hlt]
    cases hp : p l[k] with
    | true => exact .inr ⟨_, rfl, .inl ⟨k, rfl, hlt, hp, hI⟩⟩
    | false =>
      refine .inl ⟨_, rfl, hlt, rfl, fun j hj hjk => ?_⟩
      by_cases he : j = k
      · subst he; exact hp
      · exact hI j hj (by omega)
  · obtain rfl : k = l.length := by omega
    refine .inr ⟨_, h2, .inr ⟨rfl, fun x hx => ?_⟩⟩
    obtain ⟨j, hj, rfl⟩ := List.getElem_of_mem hx
    exact hI j hj hj
theorem contB_eq (l : List (List UInt8)) (f : List UInt8 → Option Bool) (p : List UInt8 → Bool) (hl : l.length < 4294967296) (hf : ∀ x ∈ l, f x = some (p x)) : slices_ContainsFunc_byte_byte l f = some (l.any p) := by
  unfold slices_ContainsFunc_byte_byte slices_IndexFunc_byte_byte
  obtain ⟨b, hb, hq⟩ := loop_first l p (step := fun s : Int => slices_IndexFunc_byte_byte_L1 l f s) (fun k => Sum.inr (k : Int)) (Sum.inl ()) hl (fun k hk => by
      unfold slices_IndexFunc_byte_byte_L1
      rw [decide_eq_true (show (k : Int) < (l.length : Int) by omega), idx_nat, List.getElem?_eq_getElem hk, wI_succ (by omega)]
      simp only [cond_true, Option.bind_some, hf l[k] (List.getElem_mem _)]
      cases p l[k] <;> rfl) (by
      unfold slices_IndexFunc_byte_byte_L1
      rw [decide_eq_false (show ¬(l.length : Int) < (l.length : Int) by omega)]; rfl)
  rw [hb]
  rcases hq with ⟨k, rfl, hk, hp, _⟩ | ⟨rfl, hn⟩
  · rw [List.any_eq_true.2 ⟨l[k], List.getElem_mem _, hp⟩]; simp
  · rw [List.any_eq_false.2 (fun x hx => by rw [hn x hx]; simp)]; rfl
theorem any_orD {α : Type} (l : List α) (p q : α → Bool) : (l.any fun x => p x || q x) = (l.any p || l.any q) := by
  induction l with
  | nil => rfl
  | cons a l ih => simp only [List.any_cons, ih]; cases p a <;> cases q a <;> cases l.any p <;> rfl

/- Plain law of the folding functions, part 1. -/

def xorL (a b : List UInt8) : List UInt8 := List.zipWith (· ^^^ ·) a b
def padL (b : List UInt8) : List UInt8 := if b.length = 0 then List.replicate 128 0 else b
def foldS (l : List (List UInt8)) : List UInt8 := l.foldl (fun acc b => xorL acc (padL b)) (List.replicate 128 0)
def blockB (b : List UInt8) : Bool := b.length == 0 || b.length == 128

theorem xorL_get {a b : List UInt8} {k : Nat} {x y : UInt8} (h1 : a[k]? = some x) (h2 : b[k]? = some y) : (xorL a b)[k]? = some (x ^^^ y) := by
  unfold xorL; rw [List.getElem?_zipWith, h1, h2]
theorem xorL_len (a b : List UInt8) : (xorL a b).length = min a.length b.length := by unfold xorL; simp
theorem padL_len {b : List UInt8} (h : blockB b = true) : (padL b).length = 128 := by
  unfold padL blockB at *
  split
  · simp
  · rcases Bool.or_eq_true _ _ |>.mp h with h | h
    · simp at h; simp_all
    · simpa using h

theorem xorL_zero {a : List UInt8} (h : a.length = 128) : xorL a (List.replicate 128 0) = a := by
  apply List.ext_getElem?
  intro i
  unfold xorL
  rw [List.getElem?_zipWith]
  by_cases hi : i < 128
  · rw [List.getElem?_eq_getElem (by omega), List.getElem?_replicate, if_pos hi]; simp
  · rw [List.getElem?_eq_none (by omega), List.getElem?_replicate, if_neg hi]

/-- The inner loop. -/
theorem fold_inner (x a : List UInt8) (hx : x.length = 128) (ha : a.length = 128) :
    loopM (fun s : Int × (List UInt8) => fold_Fold_L3 x s.1 s.2) FUEL ((0 : Int), a) = some (xorL a x) := by
  have hr : (xorL a x).length = 128 := by rw [xorL_len]; omega
  refine loop_map (xorL a x) a 128 _ (by decide) (fun k hk => ?_) ?_
  · obtain ⟨u, hu⟩ : ∃ u, x[k]? = some u := ⟨_, List.getElem?_eq_getElem (by omega)⟩
    obtain ⟨v, hv⟩ : ∃ v, a[k]? = some v := ⟨_, List.getElem?_eq_getElem (by omega)⟩
    unfold fold_Fold_L3
    simp only [hx, idx_nat, hu, bnd_nat hk, mix_get _ _ _ (hr.trans ha.symm), hv, Option.bind_some, wI_succ (show k < 9223372036854775807 by omega)]
    rw [mix_set _ _ _ (hr.trans ha.symm) _ (xorL_get hv hu)]
    rw [decide_eq_true (by omega)]
    rfl
  · unfold fold_Fold_L3
    simp only [hx]
    rw [mix_end _ _ 128 hr ha]
    rfl

def foldF (l : List (List UInt8)) (k : Nat) : List UInt8 := foldS (l.take k)
theorem foldS_len : ∀ (l : List (List UInt8)), (∀ b ∈ l, blockB b = true) → (foldS l).length = 128 := by
  intro l
  unfold foldS
  have : ∀ (l : List (List UInt8)) (a : List UInt8), a.length = 128 → (∀ b ∈ l, blockB b = true) → (l.foldl (fun acc b => xorL acc (padL b)) a).length = 128 := by
    intro l
    induction l with
    | nil => intro a h _; exact h
    | cons b l ih =>
      intro a h hl
      refine ih _ ?_ (fun x hx => hl x (by simp [hx]))
      rw [xorL_len, padL_len (hl b (by simp))]; omega
  exact this l _ (by simp)
theorem foldS_snoc (l : List (List UInt8)) (b : List UInt8) : foldS (l ++ [b]) = xorL (foldS l) (padL b) := by
  unfold foldS; rw [List.foldl_append]; rfl

def FoldSpec (l : List (List UInt8)) : List UInt8 × Int :=
  if 16 < l.length then ([], 4) else if l.all blockB then (foldS l, 0) else ([], 3)

theorem fold_eq (l : List (List UInt8)) : fold_Fold l = some (FoldSpec l) := by
  unfold fold_Fold FoldSpec
  by_cases h16 : 16 < l.length
  · rw [if_pos h16, decide_eq_true (by omega)]; rfl
  · rw [if_neg h16, decide_eq_false (by omega)]
    simp only [cond_false]
    have := loop_inv (step := fun s : Int × (List UInt8) => fold_Fold_L1 l s.1 s.2) l.length
      (fun k s => s = ((k : Int), foldS (l.take k)) ∧ ∀ b ∈ l.take k, blockB b = true)
      (fun r => (l.all blockB = true ∧ r = (0, foldS l)) ∨ l.all blockB = false ∧ r.1 = 3) (fun k s hk hs => by
        obtain ⟨rfl, hb⟩ := hs
        unfold fold_Fold_L1
        by_cases h : k < l.length
        · obtain ⟨x, hx⟩ : ∃ x, l[k]? = some x := ⟨_, List.getElem?_eq_getElem h⟩
          simp only [decide_eq_true (show (k : Int) < (l.length : Int) by omega), cond_true, idx_nat, hx, Option.bind_some]
          have hall : blockB x = true → ∀ b ∈ l.take (k + 1), blockB b = true := by
            intro h1 b hb'
            rw [take_succ_get _ _ _ hx] at hb'
            simp at hb'
            rcases hb' with hb' | rfl
            · exact hb b hb'
            · exact h1
          by_cases h0 : x.length = 0
          · have hbx : blockB x = true := by simp [blockB, h0]
            have : ((x.length : Int) == 0) = true := beq_iff_eq.2 (by omega)
            rw [this]
            refine .inl ⟨_, rfl, h, ?_, hall hbx⟩
            simp only [wI_succ (show k < 9223372036854775807 by omega)]
            rw [take_succ_get _ _ _ hx, foldS_snoc]
            rw [show padL x = List.replicate 128 0 from if_pos h0, xorL_zero (foldS_len _ hb)]
          · have : ((x.length : Int) == 0) = false := beq_eq_false_iff_ne.2 (by omega)
            rw [this]
            by_cases h1 : x.length = 128
            · have hbx : blockB x = true := by simp [blockB, h1]
              have : ((x.length : Int) == 128) = true := beq_iff_eq.2 (by omega)
              rw [this]
              simp only [cond_true, cond_false]
              rw [fold_inner x _ h1 (foldS_len _ hb)]
              refine .inl ⟨_, rfl, h, ?_, hall hbx⟩
              simp only [wI_succ (show k < 9223372036854775807 by omega)]
              rw [take_succ_get _ _ _ hx, foldS_snoc]
              rw [show padL x = x from if_neg h0]
            · have : ((x.length : Int) == 128) = false := beq_eq_false_iff_ne.2 (by omega)
              rw [this]
              refine .inr ⟨_, rfl, .inr ⟨?_, rfl⟩⟩
              rw [List.all_eq_false]
              exact ⟨x, List.mem_of_getElem? hx, by simp [blockB, h0, h1]⟩
        · obtain rfl : k = l.length := by omega
          rw [decide_eq_false (by omega)]
          rw [List.take_length] at *
          exact .inr ⟨_, rfl, .inl ⟨List.all_eq_true.2 hb, rfl⟩⟩) FUEL 0 ((0 : Int), List.replicate 128 (0 : UInt8)) (Nat.zero_le _) (by unfold FUEL; omega) ⟨by simp [foldS], by simp⟩
    obtain ⟨r, hr, hq⟩ := this
    rw [hr]
    rcases hq with ⟨h1, rfl⟩ | ⟨h1, h2⟩
    · rw [h1]; rfl
    · simp [h1, h2]
/- Plain law of the folding functions, part 2: the references and the laws. -/

theorem FUEL_gt {n : Nat} (h : n ≤ 9223372036854775807) : n < FUEL := by unfold FUEL; omega

def GreatS (l : List (List UInt8)) : Bool := decide (300 < l.length) || l.any fun b => decide (1000 < b.length)

theorem great_false {l : List (List UInt8)} (h : GreatS l = false) : l.length ≤ 300 ∧ ∀ b ∈ l, b.length ≤ 1000 := by
  unfold GreatS at h
  simp at h
  exact ⟨h.1, fun b hb => by have := h.2 b hb; omega⟩

theorem blockB_len {b : List UInt8} (h : blockB b = true) : b.length = 0 ∨ b.length = 128 := by
  unfold blockB at h
  simpa using h

/- Plain law of the folding functions, part 3: the laws. -/

def at0 (b : List UInt8) (i : Nat) : UInt8 := (b[i]?).getD 0
def gx (i : Nat) (l : List (List UInt8)) : UInt8 := l.foldr (fun b acc => at0 b i ^^^ acc) 0

theorem gx_app (i : Nat) (l m : List (List UInt8)) : gx i (l ++ m) = gx i l ^^^ gx i m := by
  induction l with
  | nil => simp [gx]
  | cons b l ih => show at0 b i ^^^ gx i (l ++ m) = at0 b i ^^^ gx i l ^^^ gx i m; rw [ih, UInt8.xor_assoc]
theorem gx_one (i : Nat) (b : List UInt8) : gx i [b] = at0 b i := by simp [gx]

theorem pad_get {b : List UInt8} (h : blockB b = true) {i : Nat} (hi : i < 128) : (padL b)[i]? = some (at0 b i) := by
  unfold padL at0
  rcases blockB_len h with h | h
  · rw [if_pos h, List.getElem?_replicate, if_pos hi, List.getElem?_eq_none (by omega)]; rfl
  · rw [if_neg (by omega), List.getElem?_eq_getElem (by omega)]; rfl

theorem foldS_get (l : List (List UInt8)) (h : ∀ b ∈ l, blockB b = true) {i : Nat} (hi : i < 128) : (foldS l)[i]? = some (gx i l) := by
  unfold foldS
  have : ∀ (l : List (List UInt8)) (a : List UInt8) (x : UInt8), a[i]? = some x → (∀ b ∈ l, blockB b = true) → (l.foldl (fun acc b => xorL acc (padL b)) a)[i]? = some (x ^^^ gx i l) := by
    intro l
    induction l with
    | nil => intro a x h _; rw [List.foldl_nil, h]; simp [gx]
    | cons b l ih =>
      intro a x h hl
      rw [List.foldl_cons, ih _ (x ^^^ at0 b i) (xorL_get h (pad_get (hl b (by simp)) hi)) (fun c hc => hl c (by simp [hc]))]
      rw [UInt8.xor_assoc]; rfl
  rw [this l _ 0 (by rw [List.getElem?_replicate, if_pos hi]) h]
  simp

theorem ext128 {a b : List UInt8} (ha : a.length = 128) (hb : b.length = 128) (h : ∀ i, i < 128 → a[i]? = b[i]?) : a = b := by
  apply List.ext_getElem?
  intro i
  by_cases hi : i < 128
  · exact h i hi
  · rw [List.getElem?_eq_none (by omega), List.getElem?_eq_none (by omega)]
theorem foldS_ext {l m : List (List UInt8)} (hl : ∀ b ∈ l, blockB b = true) (hm : ∀ b ∈ m, blockB b = true) (h : ∀ i, i < 128 → gx i l = gx i m) : foldS l = foldS m :=
  ext128 (foldS_len l hl) (foldS_len m hm) fun i hi => by rw [foldS_get l hl hi, foldS_get m hm hi, h i hi]
theorem at_foldS {l : List (List UInt8)} (hl : ∀ b ∈ l, blockB b = true) {i : Nat} (hi : i < 128) : at0 (foldS l) i = gx i l := by
  unfold at0; rw [foldS_get l hl hi]; rfl
theorem foldS_block {l : List (List UInt8)} (hl : ∀ b ∈ l, blockB b = true) : blockB (foldS l) = true := by simp [blockB, foldS_len l hl]

theorem spec_cases (l : List (List UInt8)) : (FoldSpec l = ([], 4) ∧ 16 < l.length) ∨ (FoldSpec l = (foldS l, 0) ∧ l.length ≤ 16 ∧ ∀ b ∈ l, blockB b = true) ∨ (FoldSpec l = ([], 3) ∧ l.length ≤ 16 ∧ ∃ b ∈ l, blockB b = false) := by
  unfold FoldSpec
  split
  · exact .inl ⟨rfl, by assumption⟩
  · split
    · rename_i h; exact .inr (.inl ⟨rfl, by omega, List.all_eq_true.1 h⟩)
    · rename_i h
      refine .inr (.inr ⟨rfl, by omega, ?_⟩)
      rw [Bool.not_eq_true, List.all_eq_false] at h
      obtain ⟨x, h1, h2⟩ := h
      exact ⟨x, h1, by simpa using h2⟩

def othersL {α : Type} (l : List α) (i k : Nat) : List α := (l.take k).take i ++ (l.take k).drop (i + 1)
theorem others_zero {α : Type} (l : List α) (i : Nat) : othersL l i 0 = [] := by simp [othersL]
theorem others_ne {α : Type} {l : List α} {i k : Nat} {x : α} (hx : l[k]? = some x) (h : k ≠ i) : othersL l i (k + 1) = othersL l i k ++ [x] := by
  have hk := (List.getElem?_eq_some_iff.1 hx).1
  unfold othersL
  rw [take_succ_get _ _ _ hx]
  by_cases h2 : k < i
  · have hA : (l.take k).length = k := by simp; omega
    generalize l.take k = A at hA
    rw [List.take_of_length_le (l := A ++ [x]) (by simp; omega), List.drop_of_length_le (l := A ++ [x]) (by simp; omega), List.take_of_length_le (l := A) (by omega), List.drop_of_length_le (l := A) (by omega)]
    simp
  · rw [List.take_append_of_le_length (by simp; omega), List.drop_append_of_le_length (by simp; omega), List.append_assoc]
theorem others_eq {α : Type} {l : List α} {k : Nat} {x : α} (hx : l[k]? = some x) : othersL l k (k + 1) = othersL l k k := by
  have hk := (List.getElem?_eq_some_iff.1 hx).1
  unfold othersL
  rw [take_succ_get _ _ _ hx, List.take_append_of_le_length (by simp; omega), List.drop_of_length_le (by simp; omega), List.drop_of_length_le (by simp; omega)]

theorem xor_mid (a b c : UInt8) : (a ^^^ c) ^^^ (a ^^^ (b ^^^ c)) = b := by
  have h1 : (a ^^^ c) ^^^ (a ^^^ (b ^^^ c)) = (a ^^^ a) ^^^ (c ^^^ c) ^^^ b := by
    simp only [UInt8.xor_assoc]
    congr 1
    rw [← UInt8.xor_assoc c a, UInt8.xor_comm c a, UInt8.xor_assoc]
    congr 1
    rw [UInt8.xor_comm b c]
  rw [h1]; simp

/- Plain law: the parity that a plan makes. -/

theorem restI_loop {c : Config} {h : Head} (o : OfH c h) {B : Type} {step : (List Int) × Int → Option (Ctl ((List Int) × Int) B)} (b : B)
    (h1 : ∀ k (hk : k < h.Dirty.length) (hb : k < h.Blocks.length), step (slotsOf (unk h) k, (k : Int)) = some (.next (slotsOf (unk h) (k + 1), ((k + 1 : Nat) : Int)))) (h2 : step (restS h, (h.Dirty.length : Int)) = some (.brk b)) :
    loopM step FUEL (([] : List Int), (0 : Int)) = some b := by
  have hM := o.m.1
  have hnb := o.nb
  have hnd := o.nd
  have := loop_run (step := step) (fun k => (slotsOf (unk h) k, (k : Int))) h.Dirty.length b (fuel_lt (by omega)) (fun k hk => h1 k hk (by omega)) h2
  have e0 : (([] : List Int), (0 : Int)) = (fun k : Nat => (slotsOf (unk h) k, (k : Int))) 0 := rfl
  rw [e0, this]
theorem unk_eq {h : Head} {k : Nat} (hk : k < h.Blocks.length) : unk h k = (((h.Blocks[k].length : Nat) : Int) == 0) := by
  unfold unk
  rw [List.getD_eq_getElem?_getD, List.getElem?_eq_getElem hk, Option.getD_some, Bool.eq_iff_iff]
  simp
theorem right1_eq {c : Config} {h : Head} (o : OfH c h) : even_right_1 h = some (restS h) := by
  have hM := o.m.1
  have hnd := o.nd
  unfold even_right_1
  rw [restI_loop o (step := fun s : (List Int) × Int => even_right_1_L1 h s.1 s.2) (restS h) (fun k hk hb => by
    have hl := slotsOf_len (unk h) k
    unfold even_right_1_L1 even_right_1_J2
    simp only
    rw [decide_eq_true (by omega), idx_nat, List.getElem?_eq_getElem hb, wI_succ (by omega), slotsOf_succ, unk_eq hb]
    simp only [cond_true, Option.bind_some]
    cases (((h.Blocks[k].length : Nat) : Int) == 0) with
    | true => simp only [cond_true]; rw [app_some _ _ (by simp; omega)]; rfl
    | false => rfl) (by
    unfold even_right_1_L1
    simp only
    rw [decide_eq_false (by omega)]; rfl)]
  rfl
theorem right2_eq {c : Config} {h : Head} (o : OfH c h) : even_right_2 h c = some (oldS h) := by
  have hM := o.m.1
  have hnb := o.nb
  have hnd := o.nd
  unfold even_right_2
  have hL := loop_run (step := fun q : (List Int) × Int => even_right_2_L1 h q.1 q.2) (fun k => (slotsOf (dty h) k, (k : Int))) h.Dirty.length (slotsOf (dty h) h.Dirty.length) (fuel_lt (by omega)) (fun k hk => by
    unfold even_right_2_L1 even_right_2_J2
    simp only
    have hl := slotsOf_len (dty h) k
    rw [decide_eq_true (by omega), idx_nat, List.getElem?_eq_getElem hk, wI_succ (by omega), slotsOf_succ]
    simp only [cond_true, Option.bind_some]
    have hu : dty h k = h.Dirty[k] := by
      unfold dty
      rw [List.getD_eq_getElem?_getD, List.getElem?_eq_getElem hk, Option.getD_some]
    rw [hu]
    cases h.Dirty[k] with
    | true => simp only [cond_true]; rw [app_some _ _ (by simp; omega)]; rfl
    | false => rfl) (by
    unfold even_right_2_L1
    simp only
    rw [decide_eq_false (by omega)]; rfl)
  have e0 : (([] : List Int), (0 : Int)) = (fun k : Nat => (slotsOf (dty h) k, (k : Int))) 0 := rfl
  rw [e0, hL]
  simp only [Option.bind_some]
  have hl := slotsOf_len (dty h) h.Dirty.length
  rw [wI_id (by omega) (by omega), app_some _ _ (by simp; omega)]
  simp only [Option.bind_some]
  unfold oldS
  rw [hnd]
theorem equalI_eq {a b : List Int} (hl : a.length < 4294967296) : slices_Equal_int_int a b = some (decide (a = b)) := by
  unfold slices_Equal_int_int
  by_cases h1 : a.length = b.length
  case neg =>
    rw [show (((a.length : Nat) : Int) != ((b.length : Nat) : Int)) = true by simp; omega]
    rw [decide_eq_false (fun e => h1 (congrArg List.length e))]; rfl
  rw [show (((a.length : Nat) : Int) != ((b.length : Nat) : Int)) = false by simp; omega]
  simp only [cond_false]
  rw [loop_any2 a b (fun x y => !decide (x = y)) (step := fun s : Int => slices_Equal_int_int_L1 a b s) (Sum.inr ()) (Sum.inl ()) hl h1 (fun k hk hk' => by
    unfold slices_Equal_int_int_L1
    rw [decide_eq_true (show (k : Int) < (a.length : Int) by omega), idx_nat, idx_nat, List.getElem?_eq_getElem hk, List.getElem?_eq_getElem hk', wI_succ (by omega)]
    simp only [cond_true, Option.bind_some]
    rw [show (a[k] != b[k]) = !decide (a[k] = b[k]) by rw [Bool.eq_iff_iff]; simp]
    cases decide (a[k] = b[k]) <;> rfl) (by
    unfold slices_Equal_int_int_L1
    rw [decide_eq_false (by omega)]; rfl)]
  have := zip_any_ne (fun x : Int => x) a b h1
  simp only [List.map_id'] at this
  rw [this]
  simp only [Option.bind_some]
  cases decide (a = b) <;> rfl

/-! ### what a plan has to be, and what it makes -/
def planFit (h : Head) (p : Plan) : Bool := bif decide ((restS h).length = 0) then (p.Kind == 1) && decide (p.Reads = []) else ((p.Kind == 2) && decide (p.Reads = restS h)) || ((p.Kind == 3) && decide (p.Reads = oldS h))
def knownP (h : Head) (old : Bool) (k : Nat) : Bool := (dty h k || !old) && decide (0 < (h.Blocks.getD k []).length)
def knownTo (h : Head) (old : Bool) (k : Nat) : List (List UInt8) := ((List.range k).filter (knownP h old)).map fun k => h.Blocks.getD k []
def knownS (h : Head) (old : Bool) : List (List UInt8) := knownTo h old h.Dirty.length
theorem knownTo_succ (h : Head) (old : Bool) (k : Nat) : knownTo h old (k + 1) = bif knownP h old k then knownTo h old k ++ [h.Blocks.getD k []] else knownTo h old k := by
  unfold knownTo
  rw [List.range_succ, List.filter_append, List.map_append]
  cases hp : knownP h old k <;> simp [List.filter, hp]
theorem knownTo_len (h : Head) (old : Bool) (k : Nat) : (knownTo h old k).length ≤ k := by
  unfold knownTo
  rw [List.length_map]
  have := List.length_filter_le (knownP h old) (List.range k)
  simpa using this
theorem known_ok {c : Config} {h : Head} (o : OfH c h) (old : Bool) (k : Nat) : ∀ b ∈ knownTo h old k, blockB b = true := fun b hb => by
  obtain ⟨j, _, rfl⟩ := List.mem_map.1 hb
  have := o.blk j
  unfold blockB
  simp only [Bool.or_eq_true, beq_iff_eq]; exact this
def parE (c : Config) (h : Head) (p : Plan) (reads : List (List UInt8)) : List UInt8 × Int :=
  bif !mayH c h then ([], 8) else bif (h.Phase != 0) || !anyD h then ([], 6) else bif !planFit h p then ([], 2) else bif ((reads.length : Int) != (p.Reads.length : Int)) then ([], 4) else bif reads.any (fun b => !szB b) then ([], 3) else (foldS (reads ++ knownS h (p.Kind == 3)), 0)
theorem foldS_two {a b : List (List UInt8)} (ha : ∀ x ∈ a, blockB x = true) (hb : ∀ x ∈ b, blockB x = true) : foldS [foldS a, foldS b] = foldS (a ++ b) := by
  refine foldS_ext (fun x hx => ?_) (fun x hx => ?_) (fun i hi => ?_)
  · simp only [List.mem_cons, List.not_mem_nil, or_false] at hx
    rcases hx with rfl | rfl
    · exact foldS_block ha
    · exact foldS_block hb
  · rcases List.mem_append.1 hx with hx | hx
    · exact ha x hx
    · exact hb x hx
  · rw [gx_app, show [foldS a, foldS b] = [foldS a] ++ [foldS b] from rfl, gx_app, gx_one, gx_one, at_foldS ha hi, at_foldS hb hi]
theorem fit_len {c : Config} {h : Head} (o : OfH c h) {p : Plan} (hf : planFit h p = true) : p.Reads.length ≤ 16 := by
  have hM := o.m.1
  have hnd := o.nd
  have h1 := slotsOf_len (unk h) h.Dirty.length
  have h2 := slotsOf_len (dty h) h.Dirty.length
  unfold planFit at hf
  cases hr : decide ((restS h).length = 0) with
  | true =>
    rw [hr] at hf
    simp only [cond_true, Bool.and_eq_true, decide_eq_true_eq] at hf
    rw [hf.2]; simp
  | false =>
    rw [hr] at hf
    simp only [cond_false, Bool.or_eq_true, Bool.and_eq_true, decide_eq_true_eq] at hf
    rcases hf with ⟨_, h3⟩ | ⟨_, h3⟩
    · rw [h3]; unfold restS; omega
    · rw [h3]; unfold oldS; simp; omega
theorem evenJ3_eq {c : Config} {h : Head} (o : OfH c h) (p : Plan) {reads : List (List UInt8)} (hl : reads.length ≤ 16) (hr : ∀ b ∈ reads, blockB b = true) : even_Parity_J3 h p reads = some (foldS (reads ++ knownS h (p.Kind == 3)), 0) := by
  have hM := o.m.1
  have hnb := o.nb
  have hnd := o.nd
  unfold even_Parity_J3
  have hL := loop_run (step := fun s : Int × (List (List UInt8)) => even_Parity_L4 h p s.1 s.2) (fun k => ((k : Int), knownTo h (p.Kind == 3) k)) h.Dirty.length (knownS h (p.Kind == 3)) (fuel_lt (by omega)) (fun k hk => by
    have hkb : k < h.Blocks.length := by omega
    have hkl := knownTo_len h (p.Kind == 3) k
    have hu : dty h k = h.Dirty[k] := by
      unfold dty
      rw [List.getD_eq_getElem?_getD, List.getElem?_eq_getElem hk, Option.getD_some]
    have hbk : h.Blocks.getD k [] = h.Blocks[k] := by rw [List.getD_eq_getElem?_getD, List.getElem?_eq_getElem hkb]; rfl
    unfold even_Parity_L4
    simp only
    rw [decide_eq_true (by omega), idx_nat, List.getElem?_eq_getElem hk, idx_nat, List.getElem?_eq_getElem hkb, wI_succ (by omega), knownTo_succ]
    simp only [cond_true, Option.bind_some]
    unfold knownP
    rw [hu, hbk]
    cases (h.Dirty[k] || !(p.Kind == 3)) with
    | false => rfl
    | true =>
      simp only [gO, cond_true, Option.bind_some, Bool.true_and]
      rw [show decide (((h.Blocks[k].length : Nat) : Int) > 0) = decide (0 < h.Blocks[k].length) from decide_eq_decide.2 (by omega)]
      cases decide (0 < h.Blocks[k].length) with
      | false => rfl
      | true =>
        simp only [cond_true, Option.bind_some]
        rw [app_some _ _ (by simp; omega)]; rfl) (by
    unfold even_Parity_L4
    simp only
    rw [decide_eq_false (by omega)]; rfl)
  have e0 : ((0 : Int), ([] : List (List UInt8))) = (fun k : Nat => ((k : Int), knownTo h (p.Kind == 3) k)) 0 := rfl
  have hkl := knownTo_len h (p.Kind == 3) h.Dirty.length
  have hko : ∀ b ∈ knownS h (p.Kind == 3), blockB b = true := known_ok o _ _
  rw [e0, hL]
  simp only [Option.bind_some, fold_eq]
  have f1 : FoldSpec reads = (foldS reads, 0) := by
    unfold FoldSpec
    rw [if_neg (by omega), if_pos (List.all_eq_true.2 hr)]
  have f2 : FoldSpec (knownS h (p.Kind == 3)) = (foldS (knownS h (p.Kind == 3)), 0) := by
    unfold FoldSpec
    rw [if_neg (by unfold knownS; omega), if_pos (List.all_eq_true.2 hko)]
  have f3 : FoldSpec [foldS reads, foldS (knownS h (p.Kind == 3))] = (foldS (reads ++ knownS h (p.Kind == 3)), 0) := by
    unfold FoldSpec
    rw [if_neg (by simp), if_pos (List.all_eq_true.2 (fun x hx => by
      simp only [List.mem_cons, List.not_mem_nil, or_false] at hx
      rcases hx with rfl | rfl
      · exact foldS_block hr
      · exact foldS_block hko)), foldS_two hr hko]
  rw [f1, f2, f3]
theorem evenJ2_eq {c : Config} {h : Head} (o : OfH c h) (p : Plan) {reads : List (List UInt8)} (hl : reads.length < 4294967296) (j : Bool) (hj : j = false → p.Reads.length ≤ 16) :
    even_Parity_J2 h p reads j = some (bif j then ([], 2) else bif ((reads.length : Int) != (p.Reads.length : Int)) then ([], 4) else bif reads.any (fun b => !szB b) then ([], 3) else (foldS (reads ++ knownS h (p.Kind == 3)), 0)) := by
  unfold even_Parity_J2
  cases j with
  | true => rfl
  | false =>
    simp only [cond_false]
    cases hn : ((reads.length : Int) != (p.Reads.length : Int)) with
    | true => rfl
    | false =>
      have hn' : (reads.length : Int) = (p.Reads.length : Int) := by simpa using hn
      have := hj rfl
      simp only [cond_false]
      rw [contB_eq reads (fun y => even_Parity_1 y) (fun b => !szB b) hl (fun x _ => by
        unfold even_Parity_1 szB
        refine congrArg some ?_
        rw [Bool.eq_iff_iff]
        simp only [Bool.and_eq_true, bne_iff_ne, ne_eq, Bool.not_eq_true', Bool.or_eq_false_iff, beq_eq_false_iff_ne]
        omega)]
      simp only [Option.bind_some]
      cases ha : reads.any (fun b => !szB b) with
      | true => rfl
      | false =>
        simp only [cond_false]
        rw [evenJ3_eq o p (by omega) (fun b hb => by
          have := List.any_eq_false.1 ha b hb
          have h2 : szB b = true := by simpa using this
          exact h2)]
theorem evenJ1_eq {c : Config} {h : Head} (o : OfH c h) (p : Plan) {reads : List (List UInt8)} (e1 e2 e3 : Option (List Int)) :
    even_Parity_J1 h p reads (e1.map some) (e2.map some) (e3.map some) = even_Parity_J2 h p reads (!(((p.Kind == 1) && decide (e1 = some p.Reads)) || (((p.Kind == 2) && decide (e2 = some p.Reads)) || ((p.Kind == 3) && decide (e3 = some p.Reads))))) ∨ (∃ r, (e1 = some r ∨ e2 = some r ∨ e3 = some r) ∧ ¬ r.length < 4294967296) := by
  by_cases hbig : ∃ r, (e1 = some r ∨ e2 = some r ∨ e3 = some r) ∧ ¬ r.length < 4294967296
  · exact .inr hbig
  refine .inl ?_
  have hlen : ∀ r, (e1 = some r ∨ e2 = some r ∨ e3 = some r) → r.length < 4294967296 := fun r hr => Classical.byContradiction fun hn => hbig ⟨r, hr, hn⟩
  obtain ⟨kind, R⟩ := p
  simp only
  have hk256 : kind.toNat < 256 := kind.toNat_lt
  unfold even_Parity_J1
  simp only
  rw [wI_id (by omega) (by omega)]
  have hcase : ∀ (e : Option (List Int)) (q : Nat), (e.map some).isNone = true ∨ True → (hq : q < 4) → kind.toNat = q → ([(none : Option (Option (List Int))), e1.map some, e2.map some, e3.map some] : List (Option (Option (List Int))))[q]? = some (e.map some) → (∀ r, e = some r → r.length < 4294967296) →
      (bif (decide ((kind.toNat : Int) ≥ 4)) then (even_Parity_J2 h ⟨kind, R⟩ reads (decide ((kind.toNat : Int) ≥ 4))) else Option.bind (bnd 4 (kind.toNat : Int)) (fun x20 => Option.bind ((([(none : Option (Option (List Int))), e1.map some, e2.map some, e3.map some] : List (Option (Option (List Int)))))[x20]?) (fun x21 => (bif (x21).isNone then (even_Parity_J2 h ⟨kind, R⟩ reads ((x21).isNone)) else Option.bind (bnd 4 (kind.toNat : Int)) (fun x22 => Option.bind ((([(none : Option (Option (List Int))), e1.map some, e2.map some, e3.map some] : List (Option (Option (List Int)))))[x22]?) (fun x23 => Option.bind (Option.bind x23 id) (fun x24 => Option.bind (slices_Equal_int_int x24 R) (fun x25 => (even_Parity_J2 h ⟨kind, R⟩ reads (!x25)))))))))) = even_Parity_J2 h ⟨kind, R⟩ reads (!decide (e = some R)) := by
    intro e q _ hq hkq hget hle
    rw [hkq, decide_eq_false (by omega), bnd_nat hq]
    simp only [cond_false, Option.bind_some]
    rw [hget]
    simp only [Option.bind_some]
    cases e with
    | none => simp
    | some r =>
      simp only [Option.map_some, Option.isNone_some, cond_false, Option.bind_some, id]
      rw [equalI_eq (hle r rfl)]
      simp only [Option.bind_some]
      rw [show decide (some r = some R) = decide (r = R) from decide_eq_decide.2 (by simp)]
  by_cases k0 : kind = 0
  · subst k0
    rw [hcase none 0 (.inr trivial) (by omega) rfl rfl (fun _ hr => by cases hr)]
    simp
  by_cases k1 : kind = 1
  · subst k1
    rw [hcase e1 1 (.inr trivial) (by omega) rfl rfl (fun r hr => hlen r (.inl hr))]
    simp
  by_cases k2 : kind = 2
  · subst k2
    rw [hcase e2 2 (.inr trivial) (by omega) rfl rfl (fun r hr => hlen r (.inr (.inl hr)))]
    simp
  by_cases k3 : kind = 3
  · subst k3
    rw [hcase e3 3 (.inr trivial) (by omega) rfl rfl (fun r hr => hlen r (.inr (.inr hr)))]
    simp
  have e0 : kind.toNat ≠ 0 := fun e => k0 (UInt8.toNat_inj.1 (by rw [e]; rfl))
  have e1' : kind.toNat ≠ 1 := fun e => k1 (UInt8.toNat_inj.1 (by rw [e]; rfl))
  have e2' : kind.toNat ≠ 2 := fun e => k2 (UInt8.toNat_inj.1 (by rw [e]; rfl))
  have e3' : kind.toNat ≠ 3 := fun e => k3 (UInt8.toNat_inj.1 (by rw [e]; rfl))
  rw [decide_eq_true (by omega), show (kind == 1) = false by simpa using k1, show (kind == 2) = false by simpa using k2, show (kind == 3) = false by simpa using k3]
  rfl
theorem even_eq (c : Config) (h : Head) (p : Plan) {reads : List (List UInt8)} (hl : reads.length < 4294967296) : even_Parity c h p reads = some (parE c h p reads) := by
  unfold even_Parity parE
  rw [hcheck_eq]
  cases hm : mayH c h with
  | false => rfl
  | true =>
    have o := mayH_of hm
    have hM := o.m.1
    have hnb := o.nb
    have hnd := o.nd
    simp only [cond_true, Option.bind_some, bne_self_eq_false, cond_false, Bool.not_true]
    rw [hasTrue_eq h.Dirty (by omega)]
    cases hph : (h.Phase != 0) with
    | true => rfl
    | false =>
    simp only [gO, Bool.not_false, cond_true, Option.bind_some, Bool.false_or]
    unfold anyD
    cases hd : h.Dirty.any id with
    | false => rfl
    | true =>
    simp only [Bool.not_true, cond_false]
    rw [restI_loop o (step := fun s : (List Int) × Int => even_Parity_L6 h s.1 s.2) (restS h) (fun k hk hb => by
      have hl := slotsOf_len (unk h) k
      unfold even_Parity_L6 even_Parity_J7
      simp only
      rw [decide_eq_true (by omega), idx_nat, List.getElem?_eq_getElem hb, wI_succ (by omega), slotsOf_succ, unk_eq hb]
      simp only [cond_true, Option.bind_some]
      cases (((h.Blocks[k].length : Nat) : Int) == 0) with
      | true => simp only [cond_true]; rw [app_some _ _ (by simp; omega)]; rfl
      | false => rfl) (by
      unfold even_Parity_L6
      simp only
      rw [decide_eq_false (by omega)]; rfl)]
    simp only [Option.bind_some]
    unfold even_Parity_J5
    have hfit : ∀ j : Bool, j = (!planFit h p) → j = false → p.Reads.length ≤ 16 := fun j hj hjf => fit_len o (by rw [hj] at hjf; simpa using hjf)
    have hrl : (restS h).length < 4294967296 := by have := slotsOf_len (unk h) h.Dirty.length; unfold restS; omega
    have hol : (oldS h).length < 4294967296 := by have := slotsOf_len (dty h) h.Dirty.length; unfold oldS; simp; omega
    rw [right1_eq o, right2_eq o]
    by_cases hr : (restS h).length = 0
    · rw [show ((((restS h).length : Nat) : Int) == 0) = true by simp [hr]]
      simp only [cond_true]
      have hp1 : planFit h p = ((p.Kind == 1) && decide (p.Reads = [])) := by unfold planFit; rw [decide_eq_true hr]; rfl
      rcases evenJ1_eq o p (reads := reads) (some []) none none with e | ⟨r, hr', hr2⟩
      · unfold even_right_3
        have e : even_Parity_J1 h p reads (some (some [])) none none = _ := e
        rw [e, evenJ2_eq o p hl _ (fun hj => hfit _ (by rw [hp1, show decide ((some ([] : List Int)) = some p.Reads) = decide (p.Reads = []) from decide_eq_decide.2 (by simp [eq_comm])]; simp) hj)]
        rw [hp1, show decide ((some ([] : List Int)) = some p.Reads) = decide (p.Reads = []) from decide_eq_decide.2 (by simp [eq_comm])]
        simp
      · simp only [Option.some.injEq, reduceCtorEq, or_false] at hr'
        subst hr'
        exact (hr2 (by simp)).elim
    · rw [show ((((restS h).length : Nat) : Int) == 0) = false by simpa using hr]
      simp only [cond_false]
      have hp1 : planFit h p = (((p.Kind == 2) && decide (p.Reads = restS h)) || ((p.Kind == 3) && decide (p.Reads = oldS h))) := by unfold planFit; rw [decide_eq_false hr]; rfl
      rcases evenJ1_eq o p (reads := reads) none (some (restS h)) (some (oldS h)) with e | ⟨r, hr', hr2⟩
      · have e : even_Parity_J1 h p reads none (some (some (restS h))) (some (some (oldS h))) = _ := e
        have q1 : decide (some (restS h) = some p.Reads) = decide (p.Reads = restS h) := decide_eq_decide.2 (by simp [eq_comm])
        have q2 : decide (some (oldS h) = some p.Reads) = decide (p.Reads = oldS h) := decide_eq_decide.2 (by simp [eq_comm])
        rw [e, evenJ2_eq o p hl _ (fun hj => hfit _ (by rw [hp1, q1, q2]; simp) hj)]
        rw [hp1, q1, q2]
        simp
      · simp only [reduceCtorEq, Option.some.injEq, false_or] at hr'
        rcases hr' with rfl | rfl
        · exact (hr2 hrl).elim
        · exact (hr2 hol).elim
/- Plain law: each plan of one head makes the same parity. -/

theorem aliveO_true : law18_alive = some true := by kernel_rfl
/-! ### lists by their places -/
theorem range_set {α : Type} (f g : Nat → α) (m k : Nat) (x : α) (h1 : ∀ i, i < m → i ≠ k → g i = f i) (h2 : k < m → g k = x) : ((List.range m).map f).set k x = (List.range m).map g := by
  refine List.ext_getElem (by simp) (fun i hi hi' => ?_)
  simp only [List.length_set, List.length_map, List.length_range] at hi
  rw [List.getElem_set]
  by_cases h : k = i
  · subst h
    rw [if_pos rfl]
    simp [h2 hi]
  · rw [if_neg h]
    simp [h1 i hi (fun e => h e.symm)]
theorem range_getD {α : Type} (f : Nat → α) (m i : Nat) (d : α) : ((List.range m).map f).getD i d = bif decide (i < m) then f i else d := by
  rw [List.getD_eq_getElem?_getD]
  by_cases h : i < m
  · rw [decide_eq_true h, List.getElem?_eq_getElem (by simpa using h)]
    simp
  · rw [decide_eq_false h, List.getElem?_eq_none (by simp; omega)]
    rfl
theorem range_at {α : Type} (f : Nat → α) {m i : Nat} (h : i < m) (d : α) : ((List.range m).map f).getD i d = f i := by rw [range_getD, decide_eq_true h]; rfl

/-! ### the head behind k slots -/
def tkB (news : List (List UInt8)) (i : Nat) : Bool := decide (i < news.length) && ((news.getD i []).length == 128)
def knB (flags : List Bool) (i : Nat) : Bool := flags.getD i false
def cB (olds news : List (List UInt8)) (flags : List Bool) (k i : Nat) : List UInt8 :=
  bif decide (i < k) then (bif tkB news i then news.getD i [] else bif knB flags i then fullH (olds.getD i []) else []) else []
def onceH (st : Int) (n : Nat) (olds news : List (List UInt8)) (flags : List Bool) (k : Nat) : Head :=
  Head.mk st ((List.range (n + 1)).map (cB olds news flags k)) ((List.range n).map fun i => decide (i < k) && tkB news i) 0 false 0
def aftL (n : Nat) (olds news : List (List UInt8)) (k : Nat) : List (List UInt8) := (List.range n).map fun i => bif decide (i < k) && tkB news i then news.getD i [] else olds.getD i []

theorem tk_len {news : List (List UInt8)} {i : Nat} (h : tkB news i = true) : (news.getD i []).length = 128 := by
  unfold tkB at h
  simp only [Bool.and_eq_true, beq_iff_eq] at h
  exact h.2
theorem old_ok {olds : List (List UInt8)} (ho : ∀ b ∈ olds, blockB b = true) (i : Nat) : blkOk (olds.getD i []) = true := by
  rw [List.getD_eq_getElem?_getD]
  by_cases h : i < olds.length
  · rw [List.getElem?_eq_getElem h]
    have := ho _ (List.getElem_mem h)
    unfold blkOk
    unfold blockB at this
    exact this
  · rw [List.getElem?_eq_none (by omega)]; rfl
theorem cB_len {olds news : List (List UInt8)} {flags : List Bool} (ho : ∀ b ∈ olds, blockB b = true) (k i : Nat) : (cB olds news flags k i).length = bif decide (i < k) && (tkB news i || knB flags i) then 128 else 0 := by
  unfold cB
  cases decide (i < k) with
  | false => rfl
  | true =>
  cases ht : tkB news i with
  | true => simpa using tk_len ht
  | false =>
  cases hk : knB flags i with
  | true => simpa using fullH_len (old_ok ho i)
  | false => rfl
theorem once_blk {st : Int} {n : Nat} {olds news : List (List UInt8)} {flags : List Bool} (k i : Nat) (h : i < n + 1) : (onceH st n olds news flags k).Blocks.getD i [] = cB olds news flags k i := range_at _ h _
theorem once_may {c : Config} (hm : MayC c) {st : Int} (s0 : 0 ≤ st) (s1 : st < c.Chunk * c.Rows) {n : Nat} (hn : c.Members = (n : Int) + 1) {olds news : List (List UInt8)} (flags : List Bool) (ho : ∀ b ∈ olds, blockB b = true) (k : Nat) (hk : k ≤ n) :
    mayH c (onceH st n olds news flags k) = true := by
  unfold mayH
  simp only [Bool.and_eq_true]
  refine ⟨(mayC_iff c).2 hm, (sizeOk_iff c _).2 ⟨s0, s1, ?_, ?_, ?_⟩, ?_, ?_⟩
  · unfold onceH; simp; omega
  · unfold onceH; simp; omega
  · show (0 : UInt8).toNat ≤ 4
    decide
  · unfold blksOk
    rw [Bool.and_eq_true]
    refine ⟨List.all_eq_true.2 (fun x hx => ?_), List.all_eq_true.2 (fun i hi => ?_)⟩
    · obtain ⟨i, _, rfl⟩ := List.mem_map.1 hx
      unfold blkOk
      rw [cB_len ho]
      cases decide (i < k) && (tkB news i || knB flags i) <;> rfl
    · have hi : i < n := by
        have := List.mem_range.1 hi
        unfold onceH at this
        simpa using this
      unfold dirtyBad
      rw [once_blk k i (by omega), cB_len ho]
      have : (onceH st n olds news flags k).Dirty.getD i false = (decide (i < k) && tkB news i) := range_at _ hi _
      rw [this]
      cases decide (i < k) <;> cases tkB news i <;> cases knB flags i <;> rfl
  · have hl : lastN (onceH st n olds news flags k) = 0 := by
      unfold lastN
      rw [show (onceH st n olds news flags k).Blocks.length - 1 = n by unfold onceH; simp, once_blk k n (by omega), cB_len ho, decide_eq_false (by omega)]
      rfl
    unfold phOk
    rw [hl]
    rfl
theorem once_new {c : Config} (hm : MayC c) {st : Int} (s0 : 0 ≤ st) (s1 : st < c.Chunk * c.Rows) {n : Nat} (hn : c.Members = (n : Int) + 1) (olds news : List (List UInt8)) (flags : List Bool) : newS c st = (onceH st n olds news flags 0, 0) := by
  unfold newS newIn
  rw [(mayC_iff c).2 hm, decide_eq_true s0, decide_eq_true s1]
  simp only [cond_true, Bool.and_self]
  unfold onceH
  congr 2
  · refine List.ext_getElem (by simp; omega) (fun i h1 h2 => ?_)
    simp [cB]
  · refine List.ext_getElem (by simp; omega) (fun i h1 h2 => ?_)
    simp
theorem once_take {c : Config} (hm : MayC c) {st : Int} (s0 : 0 ≤ st) (s1 : st < c.Chunk * c.Rows) {n : Nat} (hn : c.Members = (n : Int) + 1) {olds news : List (List UInt8)} (flags : List Bool) (ho : ∀ b ∈ olds, blockB b = true) {k : Nat} (hk : k < n) (ht : tkB news k = true) :
    takeS c (onceH st n olds news flags k) (k : Int) (news.getD k []) = (onceH st n olds news flags (k + 1), 0) := by
  unfold takeS
  rw [once_may hm s0 s1 hn flags ho k (by omega), (slotIn_iff c _).2 (by omega), show blkOk (news.getD k []) = true by unfold blkOk; rw [tk_len ht]; rfl, show fullH (news.getD k []) = news.getD k [] by unfold fullH; rw [tk_len ht]; rfl]
  simp only [Bool.and_self, cond_true]
  rw [decide_eq_true (show (onceH st n olds news flags k).Phase.toNat ≤ 1 by show (0 : UInt8).toNat ≤ 1; decide)]
  simp only [cond_true, Int.toNat_natCast]
  refine congrArg (fun h => (h, (0 : Int))) ?_
  unfold onceH
  simp only [List.length_map, List.length_range, Nat.add_sub_cancel]
  congr 1
  · rw [range_set (cB olds news flags k) (cB olds news flags k) (n + 1) n [] (fun _ _ _ => rfl) (fun _ => by unfold cB; rw [decide_eq_false (by omega)]; rfl)]
    refine range_set _ _ _ _ _ (fun i hi hne => ?_) (fun _ => ?_)
    · unfold cB
      rw [show decide (i < k + 1) = decide (i < k) from decide_eq_decide.2 (by omega)]
    · unfold cB
      rw [decide_eq_true (show k < k + 1 by omega), ht]; rfl
  · refine range_set _ _ _ _ _ (fun i hi hne => ?_) (fun _ => ?_)
    · rw [show decide (i < k + 1) = decide (i < k) from decide_eq_decide.2 (by omega)]
    · rw [decide_eq_true (show k < k + 1 by omega), ht]; rfl
theorem aft_take {n : Nat} {olds news : List (List UInt8)} {k : Nat} (ht : tkB news k = true) : (aftL n olds news k).set k (news.getD k []) = aftL n olds news (k + 1) := by
  unfold aftL
  refine range_set _ _ _ _ _ (fun i hi hne => ?_) (fun _ => ?_)
  · rw [show decide (i < k + 1) = decide (i < k) from decide_eq_decide.2 (by omega)]
  · rw [decide_eq_true (show k < k + 1 by omega), ht]; rfl
theorem aft_keep {n : Nat} {olds news : List (List UInt8)} {k : Nat} (ht : tkB news k = false) : aftL n olds news k = aftL n olds news (k + 1) := by
  unfold aftL
  refine List.map_congr_left (fun i _ => ?_)
  by_cases h : i = k
  · subst h; rw [ht]; simp
  · rw [show decide (i < k + 1) = decide (i < k) from decide_eq_decide.2 (by omega)]
theorem dty_keep {n : Nat} {news : List (List UInt8)} {k : Nat} (ht : tkB news k = false) : ((List.range n).map fun i => decide (i < k) && tkB news i) = (List.range n).map fun i => decide (i < k + 1) && tkB news i := by
  refine List.map_congr_left (fun i _ => ?_)
  by_cases h : i = k
  · subst h; rw [ht]; simp
  · rw [show decide (i < k + 1) = decide (i < k) from decide_eq_decide.2 (by omega)]
theorem once_know {c : Config} (hm : MayC c) {st : Int} (s0 : 0 ≤ st) (s1 : st < c.Chunk * c.Rows) {n : Nat} (hn : c.Members = (n : Int) + 1) {olds news : List (List UInt8)} {flags : List Bool} (ho : ∀ b ∈ olds, blockB b = true) {k : Nat} (hk : k < n) (ht : tkB news k = false) (hkn : knB flags k = true) :
    knowS c (onceH st n olds news flags k) (k : Int) (olds.getD k []) = (onceH st n olds news flags (k + 1), 0) := by
  unfold knowS
  rw [once_may hm s0 s1 hn flags ho k (by omega), (slotIn_iff c _).2 (by omega), old_ok ho k]
  simp only [Bool.and_self, cond_true, Int.toNat_natCast]
  rw [once_blk k k (by omega), cB_len ho, decide_eq_false (by omega)]
  simp only [Bool.false_and, cond_false, beq_self_eq_true, cond_true]
  refine congrArg (fun h => (h, (0 : Int))) ?_
  unfold onceH
  simp only
  congr 1
  · refine range_set _ _ _ _ _ (fun i hi hne => ?_) (fun _ => ?_)
    · unfold cB
      rw [show decide (i < k + 1) = decide (i < k) from decide_eq_decide.2 (by omega)]
    · unfold cB
      rw [decide_eq_true (show k < k + 1 by omega), ht, hkn]; rfl
  · exact dty_keep ht
theorem once_keep {st : Int} {n : Nat} {olds news : List (List UInt8)} {flags : List Bool} {k : Nat} (ht : tkB news k = false) (hkn : knB flags k = false) : onceH st n olds news flags k = onceH st n olds news flags (k + 1) := by
  unfold onceH
  congr 1
  · refine List.map_congr_left (fun i _ => ?_)
    unfold cB
    by_cases h : i = k
    · subst h; rw [ht, hkn]; simp
    · rw [show decide (i < k + 1) = decide (i < k) from decide_eq_decide.2 (by omega)]
  · exact dty_keep ht
/-! ### sums -/
def xr (f : Nat → UInt8) : Nat → UInt8
  | 0 => 0
  | n + 1 => xr f n ^^^ f n
theorem xr_congr {f g : Nat → UInt8} : ∀ n, (∀ i, i < n → f i = g i) → xr f n = xr g n
  | 0, _ => rfl
  | n + 1, h => by simp only [xr]; rw [xr_congr n (fun i hi => h i (by omega)), h n (by omega)]
theorem xr_xor (f g : Nat → UInt8) : ∀ n, xr f n ^^^ xr g n = xr (fun i => f i ^^^ g i) n
  | 0 => by simp [xr]
  | n + 1 => by
    simp only [xr]
    rw [← xr_xor f g n]
    simp only [UInt8.xor_assoc]
    congr 1
    rw [← UInt8.xor_assoc (f n), UInt8.xor_comm (f n), UInt8.xor_assoc]
theorem gx_range (j : Nat) (p : Nat → Bool) (g : Nat → List UInt8) : ∀ n, gx j (((List.range n).filter p).map g) = xr (fun i => bif p i then at0 (g i) j else 0) n
  | 0 => rfl
  | n + 1 => by
    rw [List.range_succ, List.filter_append, List.map_append, gx_app, gx_range j p g n]
    simp only [xr]
    congr 1
    cases hp : p n <;> simp [List.filter, hp, gx]
theorem gx_map (j : Nat) (g : Nat → List UInt8) (n : Nat) : gx j ((List.range n).map g) = xr (fun i => at0 (g i) j) n := by
  have := gx_range j (fun _ => true) g n
  rw [List.filter_eq_self.2 (fun _ _ => rfl)] at this
  rw [this]
  exact xr_congr n (fun _ _ => rfl)
theorem at_nil (j : Nat) : at0 [] j = 0 := rfl
theorem at_full {x : List UInt8} {j : Nat} (hj : j < 128) : at0 (fullH x) j = at0 x j := by
  unfold fullH
  cases hz : (x.length == 0) with
  | false => rfl
  | true =>
    have : x = [] := List.eq_nil_of_length_eq_zero (by simpa using hz)
    subst this
    unfold at0
    simp only [cond_true]
    rw [show ((List.replicate 128 (0 : UInt8))[j]?) = some 0 by rw [List.getElem?_replicate, if_pos hj]]
    rfl
/- Plain law: each plan of one head makes the same parity (the law). -/

theorem par_ok {c : Config} {h : Head} {p : Plan} {reads : List (List UInt8)} (hm : mayH c h = true) (hph : h.Phase = 0) (hd : anyD h = true) (hf : planFit h p = true) (hl : reads.length = p.Reads.length) (hr : ∀ b ∈ reads, blockB b = true) :
    parE c h p reads = (foldS (reads ++ knownS h (p.Kind == 3)), 0) := by
  unfold parE
  rw [hm, hph, hd, hf, hl]
  rw [show reads.any (fun b => !szB b) = false from List.any_eq_false.2 (fun b hb => by
    have h2 : szB b = true := hr b hb
    rw [h2]; simp)]
  simp
theorem plan_cases {c : Config} {h : Head} {m : Int} (hm : mayH c h = true) (hi : planIn c m = true) (hph : h.Phase = 0) (hd : anyD h = true) :
    ∃ p, planS c h m = (p, 0) ∧ planFit h p = true ∧ ((p = Plan.mk 1 [] ∧ restS h = []) ∨ p = Plan.mk 2 (restS h) ∨ p = Plan.mk 3 (oldS h)) := by
  unfold planS
  rw [hm, hi, hph, hd]
  simp only [cond_true, beq_self_eq_true, Bool.and_self]
  cases hr : ((restS h).length == 0) with
  | true =>
    have hr' : (restS h).length = 0 := by simpa using hr
    refine ⟨_, rfl, ?_, .inl ⟨rfl, List.eq_nil_of_length_eq_zero hr'⟩⟩
    unfold planFit
    rw [decide_eq_true hr']
    rfl
  | false =>
    have hr' : ¬ (restS h).length = 0 := by simpa using hr
    have f2 : planFit h (Plan.mk 2 (restS h)) = true := by
      unfold planFit
      rw [decide_eq_false hr']
      simp
    have f3 : planFit h (Plan.mk 3 (oldS h)) = true := by
      unfold planFit
      rw [decide_eq_false hr']
      simp
    simp only [cond_false]
    unfold pickS lessP
    cases decide (lostS c h m ∈ restS h) with
    | true => exact ⟨_, rfl, f3, .inr (.inr rfl)⟩
    | false =>
    cases decide (lostS c h m ∈ oldS h) with
    | true => exact ⟨_, rfl, f2, .inr (.inl rfl)⟩
    | false =>
    cases decide ((Plan.mk 3 (oldS h)).Reads.length < (Plan.mk 2 (restS h)).Reads.length) with
    | true => exact ⟨_, rfl, f3, .inr (.inr rfl)⟩
    | false => exact ⟨_, rfl, f2, .inr (.inl rfl)⟩
theorem off_eq (l : List (List UInt8)) (p : Plan) (hp : p.Reads.length < 4294967296) (hin : ∀ k ∈ p.Reads, 0 ≤ k ∧ k < (l.length : Int)) : law18_off l p = some (p.Reads.map fun k => l.getD k.toNat []) := by
  unfold law18_off
  have := loop_run (step := fun s : (List (List UInt8)) × Int => law18_off_L1 l p s.1 s.2) (fun k => ((p.Reads.take k).map (fun k => l.getD k.toNat []), (k : Int))) p.Reads.length (p.Reads.map fun k => l.getD k.toNat []) (fuel_lt (by omega)) (fun k hk => by
    have hx := hin _ (List.getElem_mem hk)
    unfold law18_off_L1
    simp only
    rw [decide_eq_true (by omega), idx_nat, List.getElem?_eq_getElem hk, wI_succ (by omega)]
    simp only [cond_true, Option.bind_some]
    obtain ⟨i, hi⟩ := Int.eq_ofNat_of_zero_le hx.1
    have hil : i < l.length := by omega
    rw [hi, idx_nat, List.getElem?_eq_getElem hil]
    simp only [Option.bind_some]
    rw [app_some _ _ (by simp; omega), take_succ_get _ _ _ (List.getElem?_eq_getElem hk), List.map_append]
    simp only [Option.bind_some, List.map_cons, List.map_nil, hi, Int.toNat_natCast]
    rw [List.getD_eq_getElem?_getD, List.getElem?_eq_getElem hil]
    rfl) (by
    unfold law18_off_L1
    rw [decide_eq_false (by omega), List.take_length]; rfl)
  have h0 : (([] : List (List UInt8)), (0 : Int)) = (fun k : Nat => ((p.Reads.take k).map (fun k => l.getD k.toNat []), (k : Int))) 0 := rfl
  rw [h0, this]; rfl
theorem aft_ok {n : Nat} {olds news : List (List UInt8)} (ho : ∀ b ∈ olds, blockB b = true) (k : Nat) : ∀ b ∈ aftL n olds news k, blockB b = true := fun b hb => by
  obtain ⟨i, _, rfl⟩ := List.mem_map.1 hb
  cases ht : decide (i < k) && tkB news i with
  | true =>
    simp only [Bool.and_eq_true] at ht
    unfold blockB
    rw [cond_true, tk_len ht.2]; rfl
  | false => exact old_ok ho i
theorem slots_map (l : List (List UInt8)) (p : Nat → Bool) (n : Nat) : (slotsOf p n).map (fun k => l.getD k.toNat []) = ((List.range n).filter p).map fun i => l.getD i [] := by
  unfold slotsOf
  rw [List.map_map]
  rfl
theorem getD_ok {l : List (List UInt8)} (h : ∀ b ∈ l, blockB b = true) (i : Nat) : blockB (l.getD i []) = true := old_ok h i
theorem xor_self3 (a b c : UInt8) : a ^^^ c ^^^ (b ^^^ a) = c ^^^ b := by
  rw [UInt8.xor_comm b a, UInt8.xor_assoc, ← UInt8.xor_assoc c a, UInt8.xor_comm c a, UInt8.xor_assoc, ← UInt8.xor_assoc a a]
  simp
/-- The heart: what a plan reads, with what is known, folds as what is told behind the writes. -/
theorem plan_fold {c : Config} {st : Int} {n : Nat} (hn : c.Members = (n : Int) + 1) {olds news : List (List UInt8)} {flags : List Bool} (ho : ∀ b ∈ olds, blockB b = true) (hol : olds.length = n) {h : Head} (hh : h = onceH st n olds news flags n) (o : OfH c h) {p : Plan}
    (hp : (p = Plan.mk 1 [] ∧ restS h = []) ∨ p = Plan.mk 2 (restS h) ∨ p = Plan.mk 3 (oldS h)) :
    (∀ k ∈ p.Reads, 0 ≤ k ∧ k < ((olds ++ [foldS olds]).length : Int)) ∧ (∀ b ∈ p.Reads.map (fun k => (olds ++ [foldS olds]).getD k.toNat []), blockB b = true) ∧
    foldS (p.Reads.map (fun k => (olds ++ [foldS olds]).getD k.toNat []) ++ knownS h (p.Kind == 3)) = foldS (aftL n olds news n) := by
  have hall : ∀ b ∈ olds ++ [foldS olds], blockB b = true := fun b hb => by
    rcases List.mem_append.1 hb with hb | hb
    · exact ho b hb
    · rw [List.mem_singleton.1 hb]; exact foldS_block ho
  have hdl : h.Dirty.length = n := by rw [hh]; unfold onceH; simp
  have hreads : ∀ b ∈ p.Reads.map (fun k => (olds ++ [foldS olds]).getD k.toNat []), blockB b = true := fun b hb => by
    obtain ⟨k, _, rfl⟩ := List.mem_map.1 hb
    exact getD_ok hall _
  refine ⟨fun k hk => ?_, hreads, ?_⟩
  · have hlen : (olds ++ [foldS olds]).length = n + 1 := by simp [hol]
    rw [hlen]
    rcases hp with ⟨rfl, _⟩ | rfl | rfl
    · cases hk
    · obtain ⟨i, hi, _, rfl⟩ := (slotsOf_mem _ _ _).1 hk; omega
    · rcases List.mem_append.1 hk with hk | hk
      · obtain ⟨i, hi, _, rfl⟩ := (slotsOf_mem _ _ _).1 hk; omega
      · have : k = (h.Dirty.length : Int) := by simpa using hk
        omega
  refine foldS_ext (fun b hb => ?_) (aft_ok ho n) (fun j hj => ?_)
  · rcases List.mem_append.1 hb with hb | hb
    · exact hreads b hb
    · exact known_ok o _ _ b hb
  have hblk : ∀ i, i < n → h.Blocks.getD i [] = cB olds news flags n i := fun i hi => by rw [hh]; exact once_blk n i (by omega)
  have hdt : ∀ i, i < n → dty h i = tkB news i := fun i hi => by
    rw [hh]
    unfold dty onceH
    simp only
    rw [range_at _ hi, decide_eq_true hi]; rfl
  have hx5 : ∀ i, i < n → (olds ++ [foldS olds]).getD i [] = olds.getD i [] := fun i hi => by
    rw [List.getD_eq_getElem?_getD, List.getElem?_append_left (by omega), ← List.getD_eq_getElem?_getD]
  have hxn : (olds ++ [foldS olds]).getD n [] = foldS olds := by
    rw [List.getD_eq_getElem?_getD, List.getElem?_append_right (by omega), hol, Nat.sub_self]; rfl
  have haft : gx j (aftL n olds news n) = xr (fun i => bif tkB news i then at0 (news.getD i []) j else at0 (olds.getD i []) j) n := by
    unfold aftL
    rw [gx_map]
    refine xr_congr n (fun i hi => ?_)
    rw [decide_eq_true hi]
    cases tkB news i <;> rfl
  have hkn : ∀ old, gx j (knownS h old) = xr (fun i => bif tkB news i then at0 (news.getD i []) j else bif old then 0 else bif knB flags i then at0 (olds.getD i []) j else 0) n := fun old => by
    unfold knownS knownTo
    rw [gx_range, hdl]
    refine xr_congr n (fun i hi => ?_)
    unfold knownP
    rw [hdt i hi, hblk i hi, cB_len ho, decide_eq_true hi]
    unfold cB
    rw [decide_eq_true hi]
    cases tkB news i with
    | true => rfl
    | false =>
      cases old with
      | true => rfl
      | false =>
        cases knB flags i with
        | false => rfl
        | true => exact at_full hj
  have hunk : ∀ i, i < n → unk h i = (!tkB news i && !knB flags i) := fun i hi => by
    unfold unk
    rw [hblk i hi, cB_len ho, decide_eq_true hi]
    cases tkB news i <;> cases knB flags i <;> rfl
  have hrest : gx j ((restS h).map fun k => (olds ++ [foldS olds]).getD k.toNat []) = xr (fun i => bif tkB news i then 0 else bif knB flags i then 0 else at0 (olds.getD i []) j) n := by
    unfold restS
    rw [slots_map, gx_range, hdl]
    refine xr_congr n (fun i hi => ?_)
    rw [hunk i hi, hx5 i hi]
    cases tkB news i <;> cases knB flags i <;> rfl
  rw [gx_app, haft, hkn]
  have h2 : gx j ((restS h).map fun k => (olds ++ [foldS olds]).getD k.toNat []) ^^^ xr (fun i => bif tkB news i then at0 (news.getD i []) j else bif false then 0 else bif knB flags i then at0 (olds.getD i []) j else 0) n = xr (fun i => bif tkB news i then at0 (news.getD i []) j else at0 (olds.getD i []) j) n := by
    rw [hrest, xr_xor]
    refine xr_congr n (fun i hi => ?_)
    cases tkB news i <;> cases knB flags i <;> simp
  rcases hp with ⟨rfl, hr⟩ | rfl | rfl
  · rw [hr] at h2
    exact h2
  · exact h2
  · unfold oldS
    rw [List.map_append, slots_map, gx_app, gx_range, hdl, show gx j (([(n : Int)] : List Int).map fun k => (olds ++ [foldS olds]).getD k.toNat []) = gx j [(olds ++ [foldS olds]).getD n []] from rfl, hxn, gx_one, at_foldS ho hj]
    have hold : gx j olds = xr (fun i => at0 (olds.getD i []) j) n := by
      rw [← gx_map]
      congr 1
      refine List.ext_getElem (by simp [hol]) (fun i h1 h2 => ?_)
      simp [List.getElem?_eq_getElem h1]
    rw [hold, xr_xor, xr_xor]
    refine xr_congr n (fun i hi => ?_)
    rw [hdt i hi, hx5 i hi]
    cases tkB news i <;> simp
theorem fill18 (b : UInt8) (k : Nat) (hk : k < 128) : (List.replicate k b ++ List.replicate (128 - k) (0 : UInt8)).set k b = List.replicate (k + 1) b ++ List.replicate (128 - (k + 1)) 0 := by
  rw [List.set_append_right _ _ (by simp)]
  simp only [List.length_replicate, Nat.sub_self]
  rw [show 128 - k = (128 - (k + 1)) + 1 by omega, List.replicate_succ, List.set_cons_zero, List.replicate_succ', List.append_assoc]; rfl
theorem full0_eq : law18_full 0 = some (List.replicate 128 0) := by kernel_rfl
theorem once_loop {c : Config} (hm : MayC c) {st : Int} (s0 : 0 ≤ st) (s1 : st < c.Chunk * c.Rows) {n : Nat} (hn : c.Members = (n : Int) + 1) {olds news : List (List UInt8)} (flags : List Bool) (ho : ∀ b ∈ olds, blockB b = true) (hol : olds.length = n) (hnl : news.length ≤ n) :
    loopM (fun s : Int × (List (List UInt8)) × Int × Int × (List (List UInt8)) × (List Bool) × UInt8 × Bool × UInt32 => law18_EvenOnce_L1 c olds news flags s.1 s.2.1 s.2.2.1 s.2.2.2.1 s.2.2.2.2.1 s.2.2.2.2.2.1 s.2.2.2.2.2.2.1 s.2.2.2.2.2.2.2.1 s.2.2.2.2.2.2.2.2) FUEL
      ((0 : Int), aftL n olds news 0, (0 : Int), (onceH st n olds news flags 0).Stripe, (onceH st n olds news flags 0).Blocks, (onceH st n olds news flags 0).Dirty, (onceH st n olds news flags 0).Phase, (onceH st n olds news flags 0).Deals, (onceH st n olds news flags 0).Seq) =
    some (Sum.inl (aftL n olds news n, (onceH st n olds news flags n).Stripe, (onceH st n olds news flags n).Blocks, (onceH st n olds news flags n).Dirty, (onceH st n olds news flags n).Phase, (onceH st n olds news flags n).Deals, (onceH st n olds news flags n).Seq)) := by
  have hM := hm.1
  have hL := loop_run (step := fun s : Int × (List (List UInt8)) × Int × Int × (List (List UInt8)) × (List Bool) × UInt8 × Bool × UInt32 => law18_EvenOnce_L1 c olds news flags s.1 s.2.1 s.2.2.1 s.2.2.2.1 s.2.2.2.2.1 s.2.2.2.2.2.1 s.2.2.2.2.2.2.1 s.2.2.2.2.2.2.2.1 s.2.2.2.2.2.2.2.2)
    (fun k => ((0 : Int), aftL n olds news k, (k : Int), (onceH st n olds news flags k).Stripe, (onceH st n olds news flags k).Blocks, (onceH st n olds news flags k).Dirty, (onceH st n olds news flags k).Phase, (onceH st n olds news flags k).Deals, (onceH st n olds news flags k).Seq)) n
    (Sum.inl (aftL n olds news n, (onceH st n olds news flags n).Stripe, (onceH st n olds news flags n).Blocks, (onceH st n olds news flags n).Dirty, (onceH st n olds news flags n).Phase, (onceH st n olds news flags n).Deals, (onceH st n olds news flags n).Seq)) (fuel_lt (by omega)) (fun k hk => by
    simp only
    unfold law18_EvenOnce_L1 law18_EvenOnce_J2
    rw [decide_eq_true (show (k : Int) < (olds.length : Int) by omega), wI_succ (by omega)]
    simp only [cond_true]
    have hH : Head.mk (onceH st n olds news flags k).Stripe (onceH st n olds news flags k).Blocks (onceH st n olds news flags k).Dirty (onceH st n olds news flags k).Phase (onceH st n olds news flags k).Deals (onceH st n olds news flags k).Seq = onceH st n olds news flags k := rfl
    have hal : (aftL n olds news k).length = n := by unfold aftL; simp
    have hkeep : tkB news k = false → Option.bind (gO (decide ((k : Int) < (flags.length : Int))) (idx flags (k : Int))) (fun x30 => (bif ((decide ((k : Int) < (flags.length : Int))) && x30) then Option.bind (idx olds (k : Int)) (fun x31 => Option.bind (head_Know c (Head.mk (onceH st n olds news flags k).Stripe (onceH st n olds news flags k).Blocks (onceH st n olds news flags k).Dirty (onceH st n olds news flags k).Phase (onceH st n olds news flags k).Deals (onceH st n olds news flags k).Seq) (k : Int) x31) (fun x32 => (bif (x32.2 != (0 : Int)) then some (Ctl.brk (Sum.inr () : ((List (List UInt8)) × Int × (List (List UInt8)) × (List Bool) × UInt8 × Bool × UInt32) ⊕ Unit)) else some (Ctl.next (x32.2, aftL n olds news k, ((k + 1 : Nat) : Int), x32.1.Stripe, x32.1.Blocks, x32.1.Dirty, x32.1.Phase, x32.1.Deals, x32.1.Seq))))) else (bif ((0 : Int) != (0 : Int)) then some (Ctl.brk (Sum.inr () : ((List (List UInt8)) × Int × (List (List UInt8)) × (List Bool) × UInt8 × Bool × UInt32) ⊕ Unit)) else some (Ctl.next ((0 : Int), aftL n olds news k, ((k + 1 : Nat) : Int), (onceH st n olds news flags k).Stripe, (onceH st n olds news flags k).Blocks, (onceH st n olds news flags k).Dirty, (onceH st n olds news flags k).Phase, (onceH st n olds news flags k).Deals, (onceH st n olds news flags k).Seq))))) =
        some (Ctl.next ((0 : Int), aftL n olds news (k + 1), ((k + 1 : Nat) : Int), (onceH st n olds news flags (k + 1)).Stripe, (onceH st n olds news flags (k + 1)).Blocks, (onceH st n olds news flags (k + 1)).Dirty, (onceH st n olds news flags (k + 1)).Phase, (onceH st n olds news flags (k + 1)).Deals, (onceH st n olds news flags (k + 1)).Seq)) := fun ht => by
      rw [aft_keep ht]
      have hfl : ∃ x, gO (decide ((k : Int) < (flags.length : Int))) (idx flags (k : Int)) = some x ∧ (decide ((k : Int) < (flags.length : Int)) && x) = knB flags k := by
        unfold knB
        by_cases hf : k < flags.length
        · rw [decide_eq_true (by omega), idx_nat, List.getElem?_eq_getElem hf, List.getD_eq_getElem?_getD, List.getElem?_eq_getElem hf]
          exact ⟨_, rfl, rfl⟩
        · rw [decide_eq_false (by omega), List.getD_eq_getElem?_getD, List.getElem?_eq_none (by omega)]
          exact ⟨_, rfl, rfl⟩
      obtain ⟨x, hx1, hx2⟩ := hfl
      rw [hx1]
      simp only [Option.bind_some, hx2]
      cases hkn : knB flags k with
      | false =>
        simp only [cond_false, bne_self_eq_false]
        rw [once_keep ht hkn]
      | true =>
        simp only [cond_true]
        rw [idx_nat, List.getElem?_eq_getElem (show k < olds.length by omega)]
        simp only [Option.bind_some]
        rw [hH, show olds[k] = olds.getD k [] by rw [List.getD_eq_getElem?_getD, List.getElem?_eq_getElem (show k < olds.length by omega)]; rfl, hknow_eq, once_know hm s0 s1 hn ho hk ht hkn]
        simp only [Option.bind_some, bne_self_eq_false, cond_false]
    by_cases hnk : k < news.length
    · have hg : news.getD k [] = news[k] := by rw [List.getD_eq_getElem?_getD, List.getElem?_eq_getElem hnk]; rfl
      rw [decide_eq_true (show (k : Int) < (news.length : Int) by omega), idx_nat, List.getElem?_eq_getElem hnk]
      simp only [gO, cond_true, Option.bind_some, Bool.true_and]
      have htk : tkB news k = ((((news[k].length : Nat) : Int)) == 128) := by
        unfold tkB
        rw [decide_eq_true hnk, hg, Bool.true_and, Bool.eq_iff_iff]
        simp only [beq_iff_eq]; omega
      rw [← htk]
      cases ht : tkB news k with
      | false =>
        simp only [cond_false]
        exact hkeep ht
      | true =>
        simp only [cond_true]
        rw [hH, ← hg, htake_eq, once_take hm s0 s1 hn flags ho hk ht]
        simp only [Option.bind_some]
        rw [bnd_nat (by omega)]
        simp only [Option.bind_some, bne_self_eq_false, cond_false]
        rw [aft_take ht]
    · rw [decide_eq_false (show ¬ (k : Int) < (news.length : Int) by omega)]
      have ht : tkB news k = false := by unfold tkB; rw [decide_eq_false hnk]; rfl
      simp only [gO, cond_false, Option.bind_some, Bool.false_and]
      exact hkeep ht) (by
    simp only
    unfold law18_EvenOnce_L1
    rw [decide_eq_false (by omega)]
    rfl)
  exact hL
theorem evenonce_true (c : Config) (st : Int) (olds news : List (List UInt8)) (flags : List Bool) : law18_EvenOnce c st olds news flags = some true := by
  unfold law18_EvenOnce
  rw [aliveO_true, hnew_eq]
  simp only [Option.bind_some, Bool.not_true, Bool.or_false]
  by_cases hm : MayC c
  case neg =>
    have : newS c st = (badH, 8) := by unfold newS; rw [mayC_f hm]; rfl
    rw [this]; rfl
  by_cases hin : 0 ≤ st ∧ st < c.Chunk * c.Rows
  case neg =>
    have : newS c st = (badH, 2) := by
      unfold newS newIn
      rw [(mayC_iff c).2 hm]
      simp only [cond_true]
      rw [show (decide (0 ≤ st) && decide (st < c.Chunk * c.Rows)) = false by rw [Bool.eq_false_iff]; intro h; simp at h; omega]
      rfl
    rw [this]; rfl
  obtain ⟨s0, s1⟩ := hin
  have hM := hm.1
  obtain ⟨n, hn⟩ : ∃ n : Nat, c.Members = (n : Int) + 1 := ⟨(c.Members - 1).toNat, by omega⟩
  rw [once_new hm s0 s1 hn olds news flags]
  simp only [bne_self_eq_false, Bool.false_or]
  rw [wI_id (x := c.Members - 1) (by omega) (by omega)]
  by_cases hol : olds.length = n
  case neg =>
    rw [show (((olds.length : Nat) : Int) != c.Members - 1) = true by simp; omega]; rfl
  rw [show (((olds.length : Nat) : Int) != c.Members - 1) = false by simp; omega]
  by_cases hnl : news.length ≤ n
  case neg =>
    rw [decide_eq_true (by omega)]; rfl
  rw [decide_eq_false (show ¬ (news.length : Int) > (olds.length : Int) by omega)]
  simp only [Bool.or_self, cond_false, fold_eq, Option.bind_some]
  rcases spec_cases olds with ⟨e, h16⟩ | ⟨e, h16, ho⟩ | ⟨e, h16, hb⟩
  · rw [e]; rfl
  rotate_left
  · rw [e]; rfl
  rw [e]
  simp only [bne_self_eq_false, cond_false]
  rw [app_some _ _ (by simp; omega)]
  simp only [Option.bind_some, List.nil_append]
  rw [app_some _ _ (by simp; omega)]
  simp only [Option.bind_some]
  have ha0 : aftL n olds news 0 = olds := by
    unfold aftL
    refine List.ext_getElem (by simp [hol]) (fun i h1 h2 => ?_)
    simp [List.getElem?_eq_getElem h2]
  have hlp := once_loop hm s0 s1 hn flags ho hol hnl
  rw [ha0] at hlp
  rw [hlp]
  simp only [Option.bind_some, Sum.elim_inl]
  generalize hh : onceH st n olds news flags n = h at *
  have hmh : mayH c h = true := by rw [← hh]; exact once_may hm s0 s1 hn flags ho n (Nat.le_refl _)
  have o := mayH_of hmh
  have hph : h.Phase = 0 := by rw [← hh]; rfl
  have heta : Head.mk h.Stripe h.Blocks h.Dirty h.Phase h.Deals h.Seq = h := rfl
  have hnd := o.nd
  rw [heta, dirty_eq h (by omega)]
  simp only [Option.bind_some]
  cases hd : anyD h with
  | false => rfl
  | true =>
  simp only [Bool.not_true, cond_false]
  have haok := aft_ok (n := n) (olds := olds) (news := news) ho n
  have hal : (aftL n olds news n).length = n := by unfold aftL; simp
  have fA : FoldSpec (aftL n olds news n) = (foldS (aftL n olds news n), 0) := by
    unfold FoldSpec
    rw [if_neg (by omega), if_pos (List.all_eq_true.2 haok)]
  rw [fA]
  have hL := loop_run (step := fun s : Int => law18_EvenOnce_L3 c (olds ++ [foldS olds]) (aftL n olds news n, h.Stripe, h.Blocks, h.Dirty, h.Phase, h.Deals, h.Seq) (foldS (aftL n olds news n), 0) s) (fun k => (k : Int) - 1) (n + 2) (Sum.inl ()) (fuel_lt (by omega)) (fun k hk => by
    unfold law18_EvenOnce_L3
    simp only [heta]
    rw [decide_eq_true (by omega), of_eq]
    simp only [cond_true, Option.bind_some]
    obtain ⟨p, hp1, hp2, hp3⟩ := plan_cases (m := (k : Int) - 1) hmh (by unfold planIn; simp; omega) hph hd
    obtain ⟨q1, q2, q3⟩ := plan_fold hn ho hol hh.symm o hp3
    have hpl := fit_len o hp2
    rw [hp1]
    simp only
    rw [off_eq _ _ (by omega) q1]
    simp only [Option.bind_some]
    rw [even_eq c h p (by simp; omega), par_ok hmh hph hd hp2 (by simp) q2, q3]
    simp only [Option.bind_some, bne_self_eq_false, Bool.or_self, beq_self_eq_true, Bool.not_true, cond_false]
    rw [wI_id (by omega) (by omega)]
    congr 2
    omega) (by
    unfold law18_EvenOnce_L3
    rw [decide_eq_false (by omega)]; rfl)
  rw [show (-1 : Int) = (fun k : Nat => (k : Int) - 1) 0 from rfl, hL]
  simp only [Option.bind_some, Sum.elim_inl]
  rw [app_some _ _ (by simp; omega)]
  simp only [Option.bind_some]
  have hzok : ∀ b ∈ aftL n olds news n ++ [foldS (aftL n olds news n)], blockB b = true := fun b hb => by
    rcases List.mem_append.1 hb with hb | hb
    · exact haok b hb
    · rw [List.mem_singleton.1 hb]; exact foldS_block haok
  have fZ : FoldSpec (aftL n olds news n ++ [foldS (aftL n olds news n)]) = (List.replicate 128 0, 0) := by
    unfold FoldSpec
    rw [if_neg (by simp; omega), if_pos (List.all_eq_true.2 hzok)]
    congr 1
    refine ext128 (foldS_len _ hzok) (by simp) (fun k hk => ?_)
    rw [foldS_get _ hzok hk, gx_app, gx_one, at_foldS haok hk, List.getElem?_replicate, if_pos hk]
    simp
  rw [fZ, full0_eq]
  simp [gO]
end Go.Proofs.Ytbedfodlofannaa
