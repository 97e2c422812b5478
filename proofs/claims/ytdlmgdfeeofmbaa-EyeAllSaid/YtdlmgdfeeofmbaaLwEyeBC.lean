/- Plain law: even stripes, by the program and by the reference. -/
import Derived.Test.YtdlmgdfeeofmbaaLwEyeAC
namespace Go.Proofs.Ytdlmgdfeeofmbaa
open Go GL

theorem nodead_get {c : Config} {ds : List Disk} (h : deadA c ds = false) {i : Nat} (hi : i < mN c) : (dAt ds i).Dead = false := by
  unfold deadA at h
  rw [List.any_eq_false] at h
  simpa using h i (List.mem_range.2 hi)

theorem podd_eqA {c : Config} {ds : List Disk} (h : OkA c ds) {s : Nat} (hs : s < sN c) : eye_array_odd ⟨c, ds⟩ (s : Int) = some (!evenA c ds s) := by
  obtain ⟨m1, m2, m3⟩ := h.m
  have hlen := h.len
  have hsn := h.s
  unfold eye_array_odd
  have hL := loop_run (step := fun s : (List Int) × Int => eye_array_odd_L3 ⟨c, ds⟩ s.1 s.2) (fun k => (((List.range k).filter fun i => !(dAt ds i).Dead).map fun i => ((i : Nat) : Int), (k : Int))) (mN c) (((List.range (mN c)).filter fun i => !(dAt ds i).Dead).map fun i => ((i : Nat) : Int)) (fuel_ltD (by omega)) (fun k hk => by
    unfold eye_array_odd_L3 eye_array_odd_J5 eye_array_odd_J4
    simp only
    rw [decide_eq_true (by omega), idx_nat, dAt_get (by omega)]
    simp only [cond_true, Option.bind_some]
    rw [wI_succ (by omega), List.range_succ, List.filter_append]
    cases hd : (dAt ds k).Dead with
    | true => simp [hd]
    | false =>
      have hfl : ((List.range k).filter fun i => !(dAt ds i).Dead).length ≤ k := by
        have := List.length_filter_le (fun i => !(dAt ds i).Dead) (List.range k)
        simpa using this
      simp only [Bool.not_false, cond_true]
      rw [app_some _ _ (by simp; omega)]
      simp [hd]) (by
    unfold eye_array_odd_L3
    simp only
    rw [decide_eq_false (by omega)]; rfl)
  have h0 : (([] : List Int), (0 : Int)) = (fun k : Nat => (((List.range k).filter fun i => !(dAt ds i).Dead).map fun i => ((i : Nat) : Int), (k : Int))) 0 := by simp
  rw [h0, hL]
  simp only [Option.bind_some]
  unfold eye_array_odd_J1 evenA
  cases hda : deadA c ds with
  | true =>
    have hlt : ((List.range (mN c)).filter fun i => !(dAt ds i).Dead).length < mN c := by
      unfold deadA at hda
      obtain ⟨i, hi, hd⟩ := List.any_eq_true.1 hda
      have := (List.length_filter_lt_length_iff_exists (p := fun i => !(dAt ds i).Dead)).2 ⟨i, hi, by simp [hd]⟩
      simpa using this
    rw [decide_eq_true (by simp; omega)]; rfl
  | false =>
    have hfil : ((List.range (mN c)).filter fun i => !(dAt ds i).Dead) = List.range (mN c) := List.filter_eq_self.2 (fun i hi => by rw [nodead_get hda (List.mem_range.1 hi)]; rfl)
    rw [hfil, decide_eq_false (by simp; omega)]
    simp only [cond_false, Bool.false_or]
    have hL2 := loop_run (step := fun q : (List (List UInt8)) × Int => eye_array_odd_L2 ⟨c, ds⟩ (s : Int) ((List.range (mN c)).map fun i => ((i : Nat) : Int)) q.1 q.2) (fun k => ((colA c ds s).take k, (k : Int))) (mN c) (colA c ds s) (fuel_ltD (by omega)) (fun k hk => by
      unfold eye_array_odd_L2
      simp only
      rw [decide_eq_true (by simp; omega), idx_nat]
      simp only [cond_true, List.getElem?_map, List.getElem?_range hk, Option.map_some, Option.bind_some]
      rw [idx_nat, dAt_get (by omega)]
      simp only [Option.bind_some]
      rw [wI_one (by omega), last_of (h.may k (by omega)) (nodead_get hda hk) (h.mem hk hs), wI_succ (by omega)]
      simp only [Option.bind_some]
      rw [app_some _ _ (by simp; omega), take_succ_get _ _ (liesD (dAt ds k) (s + 1)) (by simp [colA, List.getElem?_range hk])]
      rfl) (by
      unfold eye_array_odd_L2
      simp only
      rw [decide_eq_false (by simp), List.take_of_length_le (by rw [col_len]; omega)]; rfl)
    have h1 : (([] : List (List UInt8)), (0 : Int)) = (fun k : Nat => ((colA c ds s).take k, (k : Int))) 0 := by simp
    rw [h1, hL2]
    simp only [Option.bind_some]
    rw [fold_eq]
    have hF : FoldSpec (colA c ds s) = (foldS (colA c ds s), 0) := by
      unfold FoldSpec
      rw [if_neg (by rw [col_len]; omega), if_pos (List.all_eq_true.2 (col_ok h hs))]
    rw [hF]
    simp only [Option.bind_some]
    have hl128 := foldS_len (colA c ds s) (col_ok h hs)
    obtain ⟨x, hx, hq⟩ := max_spec (foldS (colA c ds s)) (by omega) (by omega)
    rw [hx]
    simp only [Option.bind_some]
    rw [hq]

def evenR (c : Config) (ds : List Disk) (s : Int) : Bool × Int := bif !okA c ds then (false, 8) else bif decide (s < 0) || decide (s ≥ (sN c : Int)) then (false, 2) else (evenA c ds s.toNat, 0)
theorem peven_eq (c : Config) (ds : List Disk) (s : Int) : eye_Even c ds s = some (evenR c ds s) := by
  unfold eye_Even evenR
  rw [pcheckA_eq]
  cases ho : okA c ds with
  | false => rfl
  | true =>
    have h := (okA_iff c ds).1 ho
    have hsn := h.s
    simp only [Option.bind_some, cond_true, bne_self_eq_false, cond_false, Bool.not_true]
    rw [stripes_eq, (mayC_iff c).2 h.mc]
    simp only [cond_true, Option.bind_some]
    rw [hsn.2.2]
    cases hc : (decide (s < 0) || decide (s ≥ (sN c : Int))) with
    | true => rfl
    | false =>
      simp only [Bool.or_eq_false_iff, decide_eq_false_iff_not] at hc
      obtain ⟨k, rfl⟩ : ∃ k : Nat, s = (k : Int) := ⟨s.toNat, by omega⟩
      simp only [cond_false]
      rw [podd_eqA h (by omega)]
      simp
def oddL (c : Config) (ds : List Disk) : List Int := ((List.range (sN c)).filter fun s => !evenA c ds s).map fun s => ((s : Nat) : Int)
def oddR (c : Config) (ds : List Disk) : List Int × Int := bif !okA c ds then ([], 8) else (oddL c ds, 0)
theorem podd_eqL (c : Config) (ds : List Disk) : eye_Odd c ds = some (oddR c ds) := by
  unfold eye_Odd oddR
  rw [pcheckA_eq]
  cases ho : okA c ds with
  | false => rfl
  | true =>
    have h := (okA_iff c ds).1 ho
    have hsn := h.s
    simp only [Option.bind_some, cond_true, bne_self_eq_false, cond_false, Bool.not_true]
    rw [stripes_eq, (mayC_iff c).2 h.mc]
    simp only [cond_true, Option.bind_some]
    rw [hsn.2.2]
    unfold eye_without_int
    have hL := loop_run (step := fun q : (List Int) × Int => eye_without_int_L1 (sN c : Int) (fun y => eye_Odd_1 y ⟨c, ds⟩) q.1 q.2) (fun k => (((List.range k).filter fun s => !evenA c ds s).map fun s => ((s : Nat) : Int), (k : Int))) (sN c) (oddL c ds) (fuel_ltD (by omega)) (fun k hk => by
      unfold eye_without_int_L1 eye_without_int_J2 eye_Odd_1
      simp only
      rw [decide_eq_true (by omega), podd_eqA h hk]
      simp only [cond_true, Option.bind_some]
      rw [wI_succ (by omega), List.range_succ, List.filter_append]
      have hfl : ((List.range k).filter fun s => !evenA c ds s).length ≤ k := by
        have := List.length_filter_le (fun s => !evenA c ds s) (List.range k)
        simpa using this
      cases he : evenA c ds k with
      | true => simp [he]
      | false =>
        simp only [Bool.not_false, Bool.not_true, cond_true]
        rw [app_some _ _ (by simp; omega)]
        simp [he]) (by
      unfold eye_without_int_L1
      simp only
      rw [decide_eq_false (by omega)]; rfl)
    have h0 : (([] : List Int), (0 : Int)) = (fun k : Nat => (((List.range k).filter fun s => !evenA c ds s).map fun s => ((s : Nat) : Int), (k : Int))) 0 := by simp
    rw [h0, hL]; rfl
theorem oddL_len (c : Config) (ds : List Disk) (h : OkA c ds) : (oddL c ds).length < 4294967296 := by
  have := List.length_filter_le (fun s => !evenA c ds s) (List.range (sN c))
  have hs := h.s
  simp [oddL] at this ⊢
  omega
theorem oddR_len (c : Config) (ds : List Disk) : (oddR c ds).1.length < 4294967296 := by
  unfold oddR
  cases ho : okA c ds with
  | false => simp
  | true => exact oddL_len c ds ((okA_iff c ds).1 ho)
end Go.Proofs.Ytdlmgdfeeofmbaa
