/- Plain law: heads' sizes, copies, and which heads may be. -/
import Derived.Test.YtjefieckineneaaLwShapeHK
namespace Go.Proofs.Ytjefieckineneaa
open Go GL

structure SmallH (h : Head) : Prop where
  nb : h.Blocks.length ≤ 60
  nd : h.Dirty.length ≤ 60
  len : ∀ x ∈ h.Blocks, x.length ≤ 10000

def blkOk (x : List UInt8) : Bool := (x.length == 0) || (x.length == 128)
def dirtyBad (h : Head) (k : Nat) : Bool := (h.Dirty.getD k false) && ((h.Blocks.getD k []).length == 0)
def lastN (h : Head) : Nat := (h.Blocks.getD (h.Blocks.length - 1) []).length
def anyD (h : Head) : Bool := h.Dirty.any id
def phOk (h : Head) : Bool := !(((decide (h.Phase.toNat = 0) == decide (0 < lastN h)) || (!decide (h.Phase.toNat = 0) && !anyD h)) || ((decide (h.Phase.toNat = 0) || decide (h.Phase.toNat = 1)) && !decide (h.Seq.toNat = 0)) || (h.Deals && (!anyD h || !(decide (h.Phase.toNat = 0) || decide (h.Phase.toNat = 1)))))
def sizeOk (c : Config) (h : Head) : Bool := decide (0 ≤ h.Stripe) && (decide (h.Stripe < c.Chunk * c.Rows) && (decide ((h.Blocks.length : Int) = c.Members) && (decide ((h.Dirty.length : Int) = c.Members - 1) && decide (h.Phase.toNat ≤ 4))))
def blksOk (h : Head) : Bool := h.Blocks.all blkOk && (List.range h.Dirty.length).all fun k => !dirtyBad h k
def mayH (c : Config) (h : Head) : Bool := mayC c && (sizeOk c h && (blksOk h && phOk h))

theorem sizeOk_iff (c : Config) (h : Head) : sizeOk c h = true ↔ 0 ≤ h.Stripe ∧ h.Stripe < c.Chunk * c.Rows ∧ (h.Blocks.length : Int) = c.Members ∧ (h.Dirty.length : Int) = c.Members - 1 ∧ h.Phase.toNat ≤ 4 := by simp [sizeOk]
theorem any_or {α : Type} (l : List α) (p q : α → Bool) : (l.any fun x => p x || q x) = (l.any p || l.any q) := by
  induction l with
  | nil => rfl
  | cons a l ih => simp only [List.any_cons, ih]; cases p a <;> cases q a <;> cases l.any p <;> rfl
theorem any_congr' {α : Type} {l : List α} {p q : α → Bool} (h : ∀ x ∈ l, p x = q x) : l.any p = l.any q := by
  induction l with
  | nil => rfl
  | cons a l ih => simp only [List.any_cons]; rw [h a (by simp), ih fun x hx => h x (by simp [hx])]
theorem all_not_any {α : Type} (l : List α) (p : α → Bool) : (l.all fun x => !p x) = !l.any p := by
  induction l with
  | nil => rfl
  | cons a l ih => simp only [List.all_cons, List.any_cons, ih]; cases p a <;> rfl
theorem blksOk_eq (h : Head) : blksOk h = !((h.Blocks.any fun x => !blkOk x) || (List.range h.Dirty.length).any (dirtyBad h)) := by
  unfold blksOk
  rw [all_not_any, show h.Blocks.all blkOk = !(h.Blocks.any fun x => !blkOk x) by rw [← all_not_any]; simp]
  simp

theorem odd_eq (x : List UInt8) : head_odd x = some (!blkOk x) := by
  unfold head_odd blkOk
  rw [show (((x.length : Int) != 0) && ((x.length : Int) != 128)) = !((x.length == 0) || (x.length == 128)) by rw [Bool.eq_iff_iff]; simp; omega]
theorem contains_eq (l : List (List UInt8)) (hl : l.length < 4294967296) : slices_ContainsFunc_byte_byte l (fun y => head_odd y) = some (l.any fun x => !blkOk x) := by
  unfold slices_ContainsFunc_byte_byte slices_IndexFunc_byte_byte
  obtain ⟨b, hb, hq⟩ := loop_inv (step := fun s : Int => slices_IndexFunc_byte_byte_L1 l (fun y => head_odd y) s) l.length (fun k s => s = (k : Int) ∧ ∀ j (hj : j < l.length), j < k → blkOk l[j] = true)
    (fun b => (∃ k : Nat, b = Sum.inr (k : Int) ∧ (l.any fun x => !blkOk x) = true) ∨ (b = Sum.inl () ∧ (l.any fun x => !blkOk x) = false)) (fun k s hk hI => by
      obtain ⟨rfl, hI⟩ := hI
      unfold slices_IndexFunc_byte_byte_L1
      by_cases hlt : k < l.length
      · rw [decide_eq_true (show (k : Int) < (l.length : Int) by omega), idx_nat, List.getElem?_eq_getElem hlt, wI_succ (by omega)]
        simp only [cond_true, Option.bind_some, odd_eq]
        cases ho : blkOk l[k] with
        | true =>
          refine .inl ⟨_, rfl, hlt, rfl, fun j hj hjk => ?_⟩
          by_cases he : j = k
          · subst he; exact ho
          · exact hI j hj (by omega)
        | false => exact .inr ⟨_, rfl, .inl ⟨k, rfl, List.any_eq_true.2 ⟨l[k], List.getElem_mem _, by rw [ho]; rfl⟩⟩⟩
      · rw [decide_eq_false (show ¬(k : Int) < (l.length : Int) by omega)]
        refine .inr ⟨_, rfl, .inr ⟨rfl, ?_⟩⟩
        rw [List.any_eq_false]
        intro x hx
        obtain ⟨j, hj, rfl⟩ := List.getElem_of_mem hx
        rw [hI j hj (by omega)]; simp) FUEL 0 0 (Nat.zero_le _) (by have := fuel_lt hl; omega) ⟨rfl, fun j _ hj => by omega⟩
  rw [hb]
  rcases hq with ⟨k, rfl, h⟩ | ⟨rfl, h⟩
  · rw [h]; simp
  · rw [h]; rfl

theorem phase_le (p : UInt8) : decide ((p.toNat : Int) > ((4 : UInt8).toNat : Int)) = !decide (p.toNat ≤ 4) := by
  rw [Bool.eq_iff_iff]; simp
  omega
theorem size_expr (c : Config) (h : Head) (hc : MayC c) :
    (((((((0 : Int) != (0 : Int)) || (decide (h.Stripe < (0 : Int)))) || (decide (h.Stripe ≥ c.Chunk * c.Rows))) || (((h.Blocks).length : Int) != c.Members)) || (((h.Dirty).length : Int) != (wI (c.Members - (1 : Int))))) || (decide ((h.Phase.toNat : Int) > ((4 : UInt8).toNat : Int)))) = !sizeOk c h := by
  have := hc.1
  rw [wI_id (x := c.Members - 1) (by omega) (by omega), phase_le]
  rw [Bool.eq_iff_iff]
  simp only [Bool.not_eq_true', sizeOk, Bool.or_eq_true, Bool.and_eq_false_iff, decide_eq_true_eq, decide_eq_false_iff_not, bne_iff_ne, ne_eq, not_true_eq_false, false_or]
  omega
theorem check_loop (h : Head) (hb : h.Dirty.length ≤ h.Blocks.length) (hl : h.Dirty.length < 4294967296) :
    ∃ b, loopM (fun s : Bool × Int => head_Check_L1 h s.1 s.2) FUEL (false, (0 : Int)) = some b ∧
      ((b = Sum.inr () ∧ ((List.range h.Dirty.length).any (dirtyBad h)) = true) ∨ (b = Sum.inl (anyD h) ∧ ((List.range h.Dirty.length).any (dirtyBad h)) = false)) := by
  refine loop_inv (step := fun s : Bool × Int => head_Check_L1 h s.1 s.2) h.Dirty.length (fun k s => s = ((h.Dirty.take k).any id, (k : Int)) ∧ ∀ j, j < k → dirtyBad h j = false) _ (fun k s hk hI => ?_) FUEL 0 (false, 0) (Nat.zero_le _) (by have := fuel_lt hl; omega) ⟨rfl, fun j hj => by omega⟩
  obtain ⟨rfl, hI⟩ := hI
  simp only
  unfold head_Check_L1
  by_cases hlt : k < h.Dirty.length
  · rw [decide_eq_true (show (k : Int) < (h.Dirty.length : Int) by omega), idx_nat, idx_nat, List.getElem?_eq_getElem hlt, List.getElem?_eq_getElem (show k < h.Blocks.length by omega), wI_succ (by omega)]
    simp only [cond_true, Option.bind_some]
    have hbad : dirtyBad h k = (h.Dirty[k] && (h.Blocks[k].length == 0)) := by simp [dirtyBad, hlt, show k < h.Blocks.length by omega]
    have htk : (h.Dirty.take (k + 1)).any id = ((h.Dirty.take k).any id || h.Dirty[k]) := by
      rw [take_succ_get _ _ _ (List.getElem?_eq_getElem hlt), List.any_append]
      simp only [List.any_cons, List.any_nil, Bool.or_false, id]
    cases hd : h.Dirty[k] with
    | false =>
      refine .inl ⟨_, rfl, hlt, ?_, fun j hj => ?_⟩
      · rw [htk, hd]
      · by_cases he : j = k
        · subst he; rw [hbad, hd]; rfl
        · exact hI j (by omega)
    | true =>
      simp only [gO, cond_true, Option.bind_some, Bool.true_and]
      rw [hd, Bool.true_and] at hbad
      cases hz : (h.Blocks[k].length == 0) with
      | true =>
        rw [show (((h.Blocks[k].length : Nat) : Int) == 0) = true by simp at hz ⊢; exact hz]
        exact .inr ⟨_, rfl, .inl ⟨rfl, List.any_eq_true.2 ⟨k, List.mem_range.2 hlt, by rw [hbad, hz]⟩⟩⟩
      | false =>
        rw [show (((h.Blocks[k].length : Nat) : Int) == 0) = false by simp at hz ⊢; exact hz]
        refine .inl ⟨_, rfl, hlt, ?_, fun j hj => ?_⟩
        · rw [htk, hd]
        · by_cases he : j = k
          · subst he; rw [hbad, hz]
          · exact hI j (by omega)
  · rw [decide_eq_false (show ¬(k : Int) < (h.Dirty.length : Int) by omega)]
    refine .inr ⟨_, rfl, .inr ⟨?_, ?_⟩⟩
    · rw [List.take_of_length_le (by omega)]; rfl
    · rw [List.any_eq_false]
      intro j hj
      rw [hI j (by have := List.mem_range.1 hj; omega)]; simp
theorem ph0 (p : UInt8) : (p == (0 : UInt8)) = decide (p.toNat = 0) := by
  rw [Bool.eq_iff_iff]; simp only [beq_iff_eq, decide_eq_true_eq]
  exact ⟨fun h => by subst h; rfl, fun h => UInt8.toNat_inj.1 h⟩
theorem ph1 (p : UInt8) : (p == (1 : UInt8)) = decide (p.toNat = 1) := by
  rw [Bool.eq_iff_iff]; simp only [beq_iff_eq, decide_eq_true_eq]
  exact ⟨fun h => by subst h; rfl, fun h => UInt8.toNat_inj.1 h⟩
theorem phle (p : UInt8) : decide ((p.toNat : Int) ≤ ((1 : UInt8).toNat : Int)) = (decide (p.toNat = 0) || decide (p.toNat = 1)) := by
  rw [Bool.eq_iff_iff]; simp
  omega
theorem phgt (p : UInt8) : decide ((p.toNat : Int) > ((1 : UInt8).toNat : Int)) = !(decide (p.toNat = 0) || decide (p.toNat = 1)) := by
  rw [Bool.eq_iff_iff]; simp
  omega
theorem phgt0 (p : UInt8) : decide ((p.toNat : Int) > ((0 : UInt8).toNat : Int)) = !decide (p.toNat = 0) := by
  rw [Bool.eq_iff_iff]; simp
  omega
theorem seq0 (p : UInt32) : ((p.toNat : Int) != ((0 : UInt32).toNat : Int)) = !decide (p.toNat = 0) := by
  rw [Bool.eq_iff_iff]; simp
theorem hcheck_eq (c : Config) (h : Head) : head_Check c h = some (bif mayH c h then 0 else 8) := by
  unfold head_Check
  rw [stripes_eq]
  unfold mayH
  cases hc : mayC c with
  | false => simp [gO]
  | true =>
  have hm := (mayC_iff c).1 hc
  simp only [cond_true, Option.bind_some, size_expr c h hm, Bool.true_and, Bool.not_not]
  cases hs : sizeOk c h with
  | false => simp [gO]
  | true =>
  obtain ⟨h1, h2, h3, h4, h5⟩ := (sizeOk_iff c h).1 hs
  have hm1 := hm.1
  simp only [gO, cond_true, Bool.not_true, Bool.false_or, Bool.true_and]
  rw [contains_eq _ (by omega), blksOk_eq]
  simp only [Option.bind_some]
  cases hany : h.Blocks.any (fun x => !blkOk x) with
  | true => rfl
  | false =>
  simp only [cond_false, Bool.false_or]
  obtain ⟨b, hb, hq⟩ := check_loop h (by omega) (by omega)
  rw [hb]
  rcases hq with ⟨rfl, hd⟩ | ⟨rfl, hd⟩
  · rw [hd]; rfl
  · rw [hd]
    simp only [Option.bind_some, Sum.elim_inl, Bool.not_false, Bool.true_and]
    have hw : wI (c.Members - 1) = ((h.Blocks.length - 1 : Nat) : Int) := by rw [wI_id (by omega) (by omega)]; omega
    rw [hw, idx_nat, List.getElem?_eq_getElem (show h.Blocks.length - 1 < h.Blocks.length by omega)]
    simp only [Option.bind_some]
    have hlast : decide ((h.Blocks[h.Blocks.length - 1].length : Int) > 0) = decide (0 < lastN h) := by
      unfold lastN
      rw [List.getD_eq_getElem?_getD, List.getElem?_eq_getElem (show h.Blocks.length - 1 < h.Blocks.length by omega)]
      exact decide_eq_decide.2 (by simp)
    rw [hlast, ph0, phle, phgt, seq0]
    unfold phOk
    cases (decide (h.Phase.toNat = 0) == decide (0 < lastN h) || !decide (h.Phase.toNat = 0) && !anyD h || (decide (h.Phase.toNat = 0) || decide (h.Phase.toNat = 1)) && !decide (h.Seq.toNat = 0) || h.Deals && (!anyD h || !(decide (h.Phase.toNat = 0) || decide (h.Phase.toNat = 1)))) <;> rfl
theorem rsize_expr (c : Config) (h : Head) (hc : MayC c) (x1 : Int) (hx : 0 ≤ h.Stripe → x1 = c.Chunk * c.Rows) :
    ((((((decide (h.Stripe < (0 : Int))) || (decide (h.Stripe ≥ x1))) || (((h.Blocks).length : Int) != c.Members)) || (((h.Dirty).length : Int) != (wI (c.Members - (1 : Int))))) || (decide ((h.Phase.toNat : Int) > ((4 : UInt8).toNat : Int))))) = !sizeOk c h := by
  have := hc.1
  rw [wI_id (x := c.Members - 1) (by omega) (by omega), phase_le]
  rw [Bool.eq_iff_iff]
  simp only [Bool.not_eq_true', sizeOk, Bool.or_eq_true, Bool.and_eq_false_iff, decide_eq_true_eq, decide_eq_false_iff_not, bne_iff_ne, ne_eq]
  by_cases h0 : 0 ≤ h.Stripe
  · rw [hx h0]; omega
  · omega
end Go.Proofs.Ytjefieckineneaa
