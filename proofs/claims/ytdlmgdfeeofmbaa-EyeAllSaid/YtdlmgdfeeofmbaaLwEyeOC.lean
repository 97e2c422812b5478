/- Plain law: eyes: what holds of folds. -/
import Derived.Test.YtdlmgdfeeofmbaaLwEyeBC
import Derived.Test.YtdlmgdfeeofmbaaLwActsAC
namespace Go.Proofs.Ytdlmgdfeeofmbaa
open Go GL

theorem ealive_true : law22_alive = some true := by kernel_rfl
theorem whole_eq22 {c : Config} {ds : List Disk} (h : OkA c ds) : law22_whole c ds = some (!deadA c ds) := by
  obtain ⟨m1, m2, m3⟩ := h.m
  have hlen := h.len
  unfold law22_whole
  have hd := loop_any (step := fun q : Int => law22_whole_L1 c ds q) (fun k => (k : Int)) (mN c) (fun i => (dAt ds i).Dead) (Sum.inr ()) (Sum.inl ()) (fuel_ltD (by omega)) (fun k hk => by
    unfold law22_whole_L1
    rw [show (decide ((k : Int) < c.Members) && decide ((k : Int) < (ds.length : Int))) = true by simp; omega, idx_nat, dAt_get (by omega), wI_succ (by omega)]
    simp only [cond_true, Option.bind_some]
    cases (dAt ds k).Dead <;> rfl) (by
    unfold law22_whole_L1
    rw [show (decide (((mN c : Nat) : Int) < c.Members) && decide (((mN c : Nat) : Int) < (ds.length : Int))) = false by simp; omega]; rfl)
  erw [hd]
  unfold deadA
  cases (List.range (mN c)).any fun i => (dAt ds i).Dead <;> rfl

theorem zeroB_iff (b : List UInt8) (h : b.length = 128) : zeroB b = true ↔ ∀ i, i < 128 → b[i]? = some 0 := by
  unfold zeroB
  simp only [Bool.not_eq_true', List.any_eq_false, bne_iff_ne, ne_eq, Decidable.not_not]
  constructor
  · intro hz i hi
    rw [List.getElem?_eq_getElem (by omega)]
    exact congrArg some (hz _ (List.getElem_mem _))
  · intro hz x hx
    obtain ⟨i, hi, rfl⟩ := List.getElem_of_mem hx
    have := hz i (by omega)
    rw [List.getElem?_eq_getElem hi] at this
    exact Option.some.inj this
theorem xor_zero_iff (a b c : UInt8) : a ^^^ (b ^^^ c) = 0 ↔ a ^^^ c = b := by
  constructor
  · intro h
    have h2 : (a ^^^ (b ^^^ c)) ^^^ b = b := by rw [h]; simp
    rw [show (a ^^^ (b ^^^ c)) ^^^ b = a ^^^ c by
      rw [UInt8.xor_comm b c, ← UInt8.xor_assoc, UInt8.xor_assoc, UInt8.xor_self]; simp] at h2
    exact h2
  · intro h
    rw [← h, UInt8.xor_assoc a c c]
    simp
theorem gx_split (i : Nat) (l : List (List UInt8)) (m : Nat) (hm : m < l.length) : gx i l = gx i (l.take m) ^^^ (at0 l[m] i ^^^ gx i (l.drop (m + 1))) := by
  have hsplit : l = l.take m ++ (l[m] :: l.drop (m + 1)) := by rw [List.getElem_cons_drop, List.take_append_drop]
  have h1 : gx i l = gx i (l.take m ++ (l[m] :: l.drop (m + 1))) := by rw [← hsplit]
  rw [h1, gx_app]; rfl
/-- A fold is nothing just where one of its blocks is the fold of the others. -/
theorem zero_iff_others (l : List (List UInt8)) (hl : ∀ b ∈ l, blockB b = true) (m : Nat) (hm : m < l.length) (h128 : l[m].length = 128) :
    zeroB (foldS l) = decide (foldS (l.take m ++ l.drop (m + 1)) = l[m]) := by
  have ho : ∀ b ∈ l.take m ++ l.drop (m + 1), blockB b = true := fun b hb => by
    rcases List.mem_append.1 hb with h | h
    · exact hl b (List.mem_of_mem_take h)
    · exact hl b (List.mem_of_mem_drop h)
  rw [Bool.eq_iff_iff, zeroB_iff _ (foldS_len l hl), decide_eq_true_iff]
  have key : ∀ i, i < 128 → ((foldS l)[i]? = some 0 ↔ (foldS (l.take m ++ l.drop (m + 1)))[i]? = l[m][i]?) := fun i hi => by
    rw [foldS_get l hl hi, foldS_get _ ho hi, gx_split i l m hm, gx_app]
    rw [List.getElem?_eq_getElem (show i < l[m].length by omega)]
    have ha : at0 l[m] i = l[m][i] := by unfold at0; rw [List.getElem?_eq_getElem (by omega)]; rfl
    rw [ha]
    constructor
    · intro h
      exact congrArg some ((xor_zero_iff _ _ _).1 (Option.some.inj h))
    · intro h
      exact congrArg some ((xor_zero_iff _ _ _).2 (Option.some.inj h))
  constructor
  · intro h
    exact ext128 (foldS_len _ ho) h128 (fun i hi => (key i hi).1 (h i hi))
  · intro h i hi
    exact (key i hi).2 (by rw [h])

theorem evenR_err {c : Config} {ds : List Disk} {s : Int} (h : ((evenR c ds s).2 != 0) = true) : (evenR c ds s).1 = false := by
  unfold evenR at h ⊢
  cases ho : okA c ds with
  | false => rfl
  | true =>
    rw [ho] at h
    cases hc : (decide (s < 0) || decide (s ≥ (sN c : Int))) with
    | true => rfl
    | false => rw [hc] at h; simp at h
theorem evenR_ok {c : Config} {ds : List Disk} {s : Int} (h : (evenR c ds s).2 = 0) : OkA c ds ∧ ∃ k : Nat, s = (k : Int) ∧ k < sN c ∧ evenR c ds s = (evenA c ds k, 0) := by
  unfold evenR at h ⊢
  cases ho : okA c ds with
  | false => rw [ho] at h; simp at h
  | true =>
    rw [ho] at h
    cases hc : (decide (s < 0) || decide (s ≥ (sN c : Int))) with
    | true => rw [hc] at h; simp at h
    | false =>
      have hc' := hc
      simp only [Bool.or_eq_false_iff, decide_eq_false_iff_not] at hc'
      exact ⟨(okA_iff c ds).1 ho, s.toNat, by omega, by omega, rfl⟩
theorem bool_eq_dec (a b : Bool) (h : a = b) : (a == b) = true := by rw [h]; simp

theorem filt_get (p : Nat → Bool) (n k : Nat) (hk : k < n) (hp : p k = true) : ((List.range n).filter p)[((List.range k).filter p).length]? = some k := by
  have h1 : List.range n = List.range k ++ (k :: (List.range n).drop (k + 1)) := by
    have : (List.range n)[k]'(by simpa using hk) = k := by simp
    have h2 := (List.take_append_drop k (List.range n)).symm
    rw [List.drop_eq_getElem_cons (by simpa using hk), this, List.take_range] at h2
    rw [show min k n = k by omega] at h2
    exact h2
  rw [h1, List.filter_append, List.filter_cons, if_pos hp, List.getElem?_append_right (Nat.le_refl _)]
  simp
theorem eyeall_true (c : Config) (ds : List Disk) : law22_EyeAll c ds = some true := by
  unfold law22_EyeAll
  obtain ⟨g, hg, hs⟩ := agreat_eq ds
  rw [ealive_true, hg]
  simp only [Option.bind_some, Bool.not_true, Bool.or_false]
  cases g with
  | true => rfl
  | false =>
  simp only [cond_false, podd_eqL, Option.bind_some, pcheckA_eq]
  unfold oddR
  cases ho : okA c ds with
  | false => rfl
  | true =>
  have h := (okA_iff c ds).1 ho
  have hsn := h.s
  simp only [Bool.not_true, cond_false, bne_self_eq_false]
  have hL := loop_run (step := fun q : Int × Int => law22_EyeAll_L1 c ds (oddL c ds, 0) q.1 q.2) (fun k => ((((List.range k).filter fun s => !evenA c ds s).length : Int), (k : Int))) (sN c) (Sum.inl ((oddL c ds).length : Int)) (fuel_ltD (by omega)) (fun k hk => by
    have hfl : ((List.range k).filter fun s => !evenA c ds s).length ≤ k := by
      have := List.length_filter_le (fun s => !evenA c ds s) (List.range k)
      simpa using this
    unfold law22_EyeAll_L1 law22_EyeAll_J2
    simp only
    rw [hsn.2.2, wI_id (x := (sN c : Int)) (by omega) (by omega), decide_eq_true (by omega), peven_eq]
    have hev : evenR c ds (k : Int) = (evenA c ds k, 0) := by
      unfold evenR
      rw [ho, show (decide ((k : Int) < 0) || decide ((k : Int) ≥ (sN c : Int))) = false by simp; omega]; rfl
    rw [hev]
    simp only [cond_true, Option.bind_some, bne_self_eq_false, cond_false]
    rw [wI_succ (by omega), List.range_succ, List.filter_append]
    cases he : evenA c ds k with
    | true => simp [he]
    | false =>
      have hget := filt_get (fun s => !evenA c ds s) (sN c) k hk (by rw [he]; rfl)
      have hlt : ((List.range k).filter fun s => !evenA c ds s).length < (oddL c ds).length := by
        have := (List.getElem?_eq_some_iff.1 hget).1
        simpa [oddL] using this
      have hx : (oddL c ds)[((List.range k).filter fun s => !evenA c ds s).length]? = some (k : Int) := by
        unfold oddL
        rw [List.getElem?_map, hget]; rfl
      simp only [cond_false]
      rw [decide_eq_false (by omega), idx_nat, hx]
      simp only [gO, Bool.not_false, cond_true, Option.bind_some, Bool.false_or, bne_self_eq_false, cond_false]
      rw [wI_succ (by omega)]
      simp [he]) (by
    unfold law22_EyeAll_L1
    simp only
    rw [hsn.2.2, wI_id (x := (sN c : Int)) (by omega) (by omega), decide_eq_false (by omega)]
    simp [oddL])
  have h0 : ((0 : Int), (0 : Int)) = (fun k : Nat => ((((List.range k).filter fun s => !evenA c ds s).length : Int), (k : Int))) 0 := by simp
  rw [h0, hL]
  simp only [Option.bind_some, Sum.elim_inl, beq_self_eq_true, Bool.true_and]
  cases hz : (((oddL c ds).length : Int) == 0) with
  | true => simp [gO]
  | false =>
    have hda : deadA c ds = false := by
      cases hd : deadA c ds with
      | false => rfl
      | true =>
        have : oddL c ds = [] := by
          unfold oddL
          rw [List.filter_eq_nil_iff.2 (fun s _ => by unfold evenA; rw [hd]; simp)]; rfl
        rw [this] at hz; simp at hz
    rw [whole_eq22 h, hda]
    simp [gO]
end Go.Proofs.Ytdlmgdfeeofmbaa
