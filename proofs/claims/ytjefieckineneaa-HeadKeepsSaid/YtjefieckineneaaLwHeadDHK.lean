/- Plain law: the steps on the way home. -/
import Derived.Test.YtjefieckineneaaLwHeadCHK
namespace Go.Proofs.Ytjefieckineneaa
open Go GL

def moveS (c : Config) (h : Head) (ok : Bool) (x : Head) : Head × Int := bif mayH c h then (bif ok then (x, 0) else (badH, 6)) else (badH, 8)
def logS (c : Config) (h : Head) (seq : UInt32) : Head × Int := moveS c h (h.Phase == 1) (Head.mk h.Stripe h.Blocks h.Dirty 2 false seq)
def sureS (c : Config) (h : Head) : Head × Int := moveS c h (h.Phase == 2) (Head.mk h.Stripe h.Blocks h.Dirty 3 h.Deals h.Seq)
def layS (c : Config) (h : Head) : Head × Int := moveS c h (h.Phase == 1 || h.Phase == 3) (Head.mk h.Stripe h.Blocks h.Dirty 4 false h.Seq)
def homeS (c : Config) (h : Head) : Head × Int := moveS c h (h.Phase == 4) (Head.mk h.Stripe (h.Blocks.set (h.Blocks.length - 1) []) (List.replicate h.Dirty.length false) 0 h.Deals 0)
def makeS (c : Config) (h : Head) (par : List UInt8) : Head × Int :=
  bif mayH c h then (bif blkOk par then (bif (h.Phase == 0) && anyD h then (Head.mk h.Stripe (h.Blocks.set (h.Blocks.length - 1) (fullB par)) h.Dirty 1 h.Deals h.Seq, 0) else (badH, 6)) else (badH, 3)) else (badH, 8)

theorem slot0 {c : Config} (hm : MayC c) : ((decide ((0 : Int) < (0 : Int))) || (decide ((0 : Int) ≥ (wI (c.Members - (1 : Int)))))) = false := by
  have := hm.1
  rw [wI_id (x := c.Members - 1) (by omega) (by omega)]
  simp; omega
theorem hasTrue_eq (l : List Bool) (hl : l.length < 4294967296) : slices_Contains_bool_bool l true = some (l.any id) := by
  unfold slices_Contains_bool_bool slices_Index_bool_bool
  obtain ⟨b, hb, hq⟩ := loop_inv (step := fun s : Int => slices_Index_bool_bool_L1 l true s) l.length (fun k s => s = (k : Int) ∧ ∀ j (hj : j < l.length), j < k → l[j] = false)
    (fun b => (∃ k : Nat, b = Sum.inr (k : Int) ∧ l.any id = true) ∨ (b = Sum.inl () ∧ l.any id = false)) (fun k s hk hI => by
      obtain ⟨rfl, hI⟩ := hI
      unfold slices_Index_bool_bool_L1
      by_cases hlt : k < l.length
      · rw [decide_eq_true (show (k : Int) < (l.length : Int) by omega), idx_nat, List.getElem?_eq_getElem hlt, wI_succ (by omega)]
        simp only [cond_true, Option.bind_some]
        cases ho : l[k] with
        | false =>
          refine .inl ⟨_, rfl, hlt, rfl, fun j hj hjk => ?_⟩
          by_cases he : j = k
          · subst he; exact ho
          · exact hI j hj (by omega)
        | true => exact .inr ⟨_, rfl, .inl ⟨k, rfl, List.any_eq_true.2 ⟨l[k], List.getElem_mem _, by rw [ho]; rfl⟩⟩⟩
      · rw [decide_eq_false (show ¬(k : Int) < (l.length : Int) by omega)]
        refine .inr ⟨_, rfl, .inr ⟨rfl, ?_⟩⟩
        rw [List.any_eq_false]
        intro x hx
        obtain ⟨j, hj, rfl⟩ := List.getElem_of_mem hx
        rw [hI j hj (by omega)]; simp) FUEL 0 0 (Nat.zero_le _) (by have := fuel_lt hl; omega) ⟨rfl, fun j _ hj => by omega⟩
  rw [hb]
  rcases hq with ⟨k, rfl, h⟩ | ⟨rfl, h⟩
  · rw [h]; simp
  · rw [h]; rfl
theorem odd_nil : head_odd ([] : List UInt8) = some false := rfl
theorem hlog_eq (c : Config) (h : Head) (seq : UInt32) : head_Log c h seq = some (logS c h seq) := by
  unfold head_Log logS moveS
  rw [hcheck_eq]
  cases hm : mayH c h with
  | false => rfl
  | true =>
  have o := mayH_of hm
  simp only [cond_true, Option.bind_some, bne_self_eq_false, cond_false, slot0 o.m, odd_nil, htwin2_eq o.small]
  rw [show head_may (1 : Int) h.Phase = some (h.Phase == 1) from rfl]
  cases (h.Phase == 1) <;> rfl
theorem hsure_eq (c : Config) (h : Head) : head_Sure c h = some (sureS c h) := by
  unfold head_Sure sureS moveS
  rw [hcheck_eq]
  cases hm : mayH c h with
  | false => rfl
  | true =>
  have o := mayH_of hm
  simp only [cond_true, Option.bind_some, bne_self_eq_false, cond_false, slot0 o.m, odd_nil, htwin2_eq o.small]
  rw [show head_may (2 : Int) h.Phase = some (h.Phase == 2) from rfl]
  cases (h.Phase == 2) <;> rfl
theorem hlay_eq (c : Config) (h : Head) : head_Lay c h = some (layS c h) := by
  unfold head_Lay layS moveS
  rw [hcheck_eq]
  cases hm : mayH c h with
  | false => rfl
  | true =>
  have o := mayH_of hm
  simp only [cond_true, Option.bind_some, bne_self_eq_false, cond_false, slot0 o.m, odd_nil, htwin2_eq o.small]
  rw [show head_may (3 : Int) h.Phase = some (h.Phase == 1 || h.Phase == 3) from rfl]
  cases (h.Phase == 1) <;> cases (h.Phase == 3) <;> rfl
theorem hhome_eq (c : Config) (h : Head) : head_Home c h = some (homeS c h) := by
  unfold head_Home homeS moveS
  rw [hcheck_eq]
  cases hm : mayH c h with
  | false => rfl
  | true =>
  have o := mayH_of hm
  have hm1 := o.m.1
  have hnb := o.nb
  simp only [cond_true, Option.bind_some, bne_self_eq_false, cond_false, slot0 o.m, odd_nil, htwin2_eq o.small]
  rw [show head_may (4 : Int) h.Phase = some (h.Phase == 4) from rfl]
  have hw : wI (c.Members - 1) = ((h.Blocks.length - 1 : Nat) : Int) := by rw [wI_id (by omega) (by omega)]; omega
  rw [hw, bnd_nat (show h.Blocks.length - 1 < h.Blocks.length by omega)]
  cases (h.Phase == 4) <;> rfl
theorem hmake_eq (c : Config) (h : Head) (par : List UInt8) : head_Make c h par = some (makeS c h par) := by
  unfold head_Make makeS
  rw [hcheck_eq]
  cases hm : mayH c h with
  | false => rfl
  | true =>
  have o := mayH_of hm
  have hm1 := o.m.1
  have hnb := o.nb
  have hnd := o.nd
  simp only [cond_true, Option.bind_some, bne_self_eq_false, cond_false, odd_eq]
  cases hd : blkOk par with
  | false => rfl
  | true =>
  have hdl : par.length < 4294967296 := by
    simp only [blkOk, Bool.or_eq_true, beq_iff_eq] at hd; omega
  have e0 : blkOk [] = true := rfl
  simp only [Bool.not_true, cond_false, cond_true, slot0 o.m, e0, htwin2_eq o.small, Option.bind_some]
  rw [show head_may (0 : Int) h.Phase = some (h.Phase == 0) from rfl, hasTrue_eq _ (by omega), block_eq par hdl]
  have hw : wI (c.Members - 1) = ((h.Blocks.length - 1 : Nat) : Int) := by rw [wI_id (by omega) (by omega)]; omega
  rw [hw, bnd_nat (show h.Blocks.length - 1 < h.Blocks.length by omega)]
  unfold anyD
  cases (h.Phase == 0) <;> cases h.Dirty.any id <;> rfl
end Go.Proofs.Ytjefieckineneaa
