/- Plain law: a slot taken, a slot known, a new head, copies, comparing. -/
import Derived.Test.YtjefieckineneaaLwHeadSHK
namespace Go.Proofs.Ytjefieckineneaa
open Go GL

def badH : Head := Head.mk 0 [] [] 0 false 0
def fullB (x : List UInt8) : List UInt8 := bif (x.length == 0) then List.replicate 128 0 else x
def errS (c : Config) (h : Head) (slot : Int) (data : List UInt8) : Int := bif mayH c h then (bif slotIn c slot then (bif blkOk data then 0 else 3) else 2) else 8
def takeS (c : Config) (h : Head) (slot : Int) (data : List UInt8) : Head × Int :=
  bif mayH c h && (slotIn c slot && blkOk data) then (bif decide (h.Phase.toNat ≤ 1) then (Head.mk h.Stripe ((h.Blocks.set (h.Blocks.length - 1) []).set slot.toNat (fullB data)) (h.Dirty.set slot.toNat true) 0 h.Deals h.Seq, 0) else (badH, 160)) else (badH, errS c h slot data)
def knowS (c : Config) (h : Head) (slot : Int) (data : List UInt8) : Head × Int :=
  bif mayH c h && (slotIn c slot && blkOk data) then (bif (h.Blocks.getD slot.toNat []).length == 0 then (Head.mk h.Stripe (h.Blocks.set slot.toNat (fullB data)) h.Dirty h.Phase h.Deals h.Seq, 0) else (h, 0)) else (badH, errS c h slot data)
def newIn (c : Config) (stripe : Int) : Bool := decide (0 ≤ stripe) && decide (stripe < c.Chunk * c.Rows)
def newS (c : Config) (stripe : Int) : Head × Int :=
  bif mayC c then (bif newIn c stripe then (Head.mk stripe (List.replicate c.Members.toNat []) (List.replicate (c.Members - 1).toNat false) 0 false 0, 0) else (badH, 2)) else (badH, 8)

theorem htwin2_eq {h : Head} (hs : SmallH h) : head_Twin h = some h := by
  unfold head_Twin slices_Clone_bool_bool
  have hnd := hs.nd
  rw [app_some _ _ (by simp; omega)]
  have := loop_run (step := fun s : Int × (List (List UInt8)) => head_Twin_L1 h s.1 s.2) (fun k => ((k : Int), h.Blocks.take k)) h.Blocks.length h.Blocks (fuel_lt (by have := hs.nb; omega)) (fun k hk => by
    obtain ⟨x, hx⟩ : ∃ x, h.Blocks[k]? = some x := ⟨_, List.getElem?_eq_getElem hk⟩
    have hxl := hs.len x (List.mem_of_getElem? hx)
    have := hs.nb
    unfold head_Twin_L1 slices_Clone_byte_byte
    simp only [decide_eq_true (show (k : Int) < (h.Blocks.length : Int) by omega), cond_true, idx_nat, hx, Option.bind_some, wI_succ (show k < 9223372036854775807 by omega)]
    rw [app_some _ _ (by simp; omega)]
    simp only [Option.bind_some, List.nil_append]
    rw [app_some _ _ (by simp; omega), take_succ_get _ _ _ hx]
    rfl) (by
    unfold head_Twin_L1
    rw [decide_eq_false (by omega), List.take_length]; rfl)
  have h0 : ((0 : Int), ([] : List (List UInt8))) = (fun k : Nat => ((k : Int), h.Blocks.take k)) 0 := by simp
  simp only [Option.bind_some, List.nil_append]
  rw [h0, this]
  rfl
theorem OfH.small {c : Config} {h : Head} (o : OfH c h) : SmallH h := by
  have := o.m.1
  have := o.nb
  have := o.nd
  exact ⟨by omega, by omega, fun x hx => by have := o.bl x hx; omega⟩
theorem block_eq (x : List UInt8) (hx : x.length < 4294967296) : head_block x = some (fullB x) := by
  unfold head_block fullB slices_Clone_byte_byte
  rw [show ((x.length : Int) == 0) = (x.length == 0) by rw [Bool.eq_iff_iff]; simp]
  cases (x.length == 0) with
  | true => exact (by simp only [cond_true]; rw [show (128 : Int) = ((128 : Nat) : Int) from rfl, makeL_some _ _ (by omega)]; rfl)
  | false =>
    simp only [cond_false]
    rw [app_some _ _ (by simpa using hx)]; rfl
theorem fullB_len {x : List UInt8} (h : blkOk x = true) : (fullB x).length = 128 := by
  unfold fullB
  cases hz : (x.length == 0) with
  | true => simp
  | false => simp only [blkOk, hz, Bool.false_or, beq_iff_eq] at h; exact h

theorem htake_eq (c : Config) (h : Head) (slot : Int) (data : List UInt8) : head_Take c h slot data = some (takeS c h slot data) := by
  unfold head_Take takeS errS
  rw [hcheck_eq]
  cases hm : mayH c h with
  | false => rfl
  | true =>
  have o := mayH_of hm
  have hmm := o.m.1
  simp only [cond_true, Option.bind_some, slot_expr o.m]
  cases hs : slotIn c slot with
  | false => rfl
  | true =>
  obtain ⟨s1, s2⟩ := (slotIn_iff c slot).1 hs
  obtain ⟨k, rfl⟩ := Int.eq_ofNat_of_zero_le s1
  have hnb := o.nb
  have hnd := o.nd
  have hw : wI (c.Members - 1) = ((h.Blocks.length - 1 : Nat) : Int) := by rw [wI_id (by omega) (by omega)]; omega
  simp only [bne_self_eq_false, Bool.not_true, cond_false, cond_true, odd_eq, Option.bind_some, Bool.true_and]
  cases hd : blkOk data with
  | false => rfl
  | true =>
  simp only [Bool.not_true, cond_false, cond_true, htwin2_eq o.small, Option.bind_some, hw]
  have hpe : decide ((h.Phase.toNat : Int) > ((1 : UInt8).toNat : Int)) = !decide (h.Phase.toNat ≤ 1) := by
    rw [Bool.eq_iff_iff]; simp; omega
  rw [hpe]
  cases hp : decide (h.Phase.toNat ≤ 1) with
  | false => rfl
  | true =>
  have hdl : data.length < 4294967296 := by
    simp only [blkOk, Bool.or_eq_true, beq_iff_eq] at hd; omega
  simp only [Bool.not_true, cond_false, cond_true]
  rw [bnd_nat (show h.Blocks.length - 1 < h.Blocks.length by omega), block_eq data hdl]
  simp only [Option.bind_some]
  rw [bnd_nat (by rw [List.length_set]; omega), bnd_nat (by omega)]
  rfl
theorem hknow_eq (c : Config) (h : Head) (slot : Int) (data : List UInt8) : head_Know c h slot data = some (knowS c h slot data) := by
  unfold head_Know knowS errS
  rw [hcheck_eq]
  cases hm : mayH c h with
  | false => rfl
  | true =>
  have o := mayH_of hm
  have hmm := o.m.1
  simp only [cond_true, Option.bind_some, slot_expr o.m]
  cases hs : slotIn c slot with
  | false => rfl
  | true =>
  obtain ⟨s1, s2⟩ := (slotIn_iff c slot).1 hs
  obtain ⟨k, rfl⟩ := Int.eq_ofNat_of_zero_le s1
  have hnb := o.nb
  have hnd := o.nd
  simp only [bne_self_eq_false, Bool.not_true, cond_false, cond_true, odd_eq, Option.bind_some, Bool.true_and]
  cases hd : blkOk data with
  | false => rfl
  | true =>
  have hdl : data.length < 4294967296 := by
    simp only [blkOk, Bool.or_eq_true, beq_iff_eq] at hd; omega
  simp only [Bool.not_true, cond_false, cond_true, htwin2_eq o.small, Option.bind_some, idx_nat, Int.toNat_natCast]
  rw [getD_some (show k < h.Blocks.length by omega) []]
  simp only [Option.bind_some]
  rw [show (((h.Blocks.getD k []).length : Int) == 0) = ((h.Blocks.getD k []).length == 0) by rw [Bool.eq_iff_iff]; simp]
  cases ((h.Blocks.getD k []).length == 0) with
  | false => rfl
  | true =>
    simp only [cond_true]
    rw [bnd_nat (show k < h.Blocks.length by omega), block_eq data hdl]
    rfl
theorem hnew_eq (c : Config) (stripe : Int) : head_New c stripe = some (newS c stripe) := by
  unfold head_New newS
  rw [stripes_eq]
  cases hc : mayC c with
  | false => rfl
  | true =>
  have hm := (mayC_iff c).1 hc
  have hm1 := hm.1
  simp only [cond_true, Option.bind_some, bne_self_eq_false, cond_false]
  unfold head_New_J1 newIn
  by_cases h1 : stripe < 0
  · rw [decide_eq_true h1, decide_eq_false (show ¬ 0 ≤ stripe by omega)]; rfl
  · rw [decide_eq_false h1, decide_eq_true (show 0 ≤ stripe by omega)]
    simp only [cond_false, Bool.true_and]
    by_cases h2 : stripe < c.Chunk * c.Rows
    · rw [decide_eq_true h2, decide_eq_false (show ¬ stripe ≥ c.Chunk * c.Rows by omega)]
      obtain ⟨m, hmm⟩ := Int.eq_ofNat_of_zero_le (show 0 ≤ c.Members by omega)
      rw [wI_id (x := c.Members - 1) (by omega) (by omega)]
      rw [hmm, show ((m : Int) - 1) = ((m - 1 : Nat) : Int) by omega, makeL_some _ _ (by omega), makeL_some _ _ (by omega)]
      rfl
    · rw [decide_eq_false h2, decide_eq_true (show stripe ≥ c.Chunk * c.Rows by omega)]; rfl
/-- Loops that turn each byte. -/
theorem spoil1 {α : Type} (l : List α) (hl : l.length < 4294967296) :
    loopM (fun s : Int => (bif decide (s < (l.length : Int)) then Option.bind (idx l s) (fun _ => Option.bind (idx l s) (fun _ => some (Ctl.next (wI (s + (1 : Int)))))) else some (Ctl.brk ()) : Option (Ctl Int Unit))) FUEL (0 : Int) = some () :=
  loop_count l.length hl (fun k hk => by
    rw [decide_eq_true (show (k : Int) < (l.length : Int) by omega), idx_nat, List.getElem?_eq_getElem hk, wI_succ (by omega)]; rfl) (by
    rw [decide_eq_false (by omega)]; rfl)
theorem spoil2 {α : Type} (l : List (List α)) (hl : l.length < 4294967296) (hx : ∀ x ∈ l, x.length < 4294967296) :
    loopM (fun s : Int => (bif decide (s < (l.length : Int)) then Option.bind (loopM (fun t : Int => (Option.bind (idx l s) (fun x => (bif decide (t < (x.length : Int)) then Option.bind (idx l s) (fun y => Option.bind (idx y t) (fun _ => Option.bind (idx y t) (fun _ => some (Ctl.next (wI (t + (1 : Int))))))) else some (Ctl.brk ()))) : Option (Ctl Int Unit))) FUEL (0 : Int)) (fun _ => some (Ctl.next (wI (s + (1 : Int))))) else some (Ctl.brk ()) : Option (Ctl Int Unit))) FUEL (0 : Int) = some () :=
  loop_count l.length hl (fun k hk => by
    have hxk := hx _ (List.getElem_mem hk)
    rw [decide_eq_true (show (k : Int) < (l.length : Int) by omega), loop_count l[k].length hxk (fun j hj => by
      rw [idx_nat, List.getElem?_eq_getElem hk]
      simp only [Option.bind_some]
      rw [decide_eq_true (show (j : Int) < (l[k].length : Int) by omega), idx_nat, List.getElem?_eq_getElem hj, wI_succ (by omega)]; rfl) (by
      rw [idx_nat, List.getElem?_eq_getElem hk]
      simp only [Option.bind_some]
      rw [decide_eq_false (by omega)]; rfl), wI_succ (by omega)]; rfl) (by
    rw [decide_eq_false (by omega)]; rfl)
end Go.Proofs.Ytjefieckineneaa
