/- Plain law: even stripes, by the program and by the reference. -/
import Derived.Test.YtfilegnndamngaaLwEyeAO
namespace Go.Proofs.Ytfilegnndamngaa
open Go GL

theorem nodead_get {c : Config} {ds : List Disk} (h : deadA c ds = false) {i : Nat} (hi : i < mN c) : (dAt ds i).Dead = false := by
  unfold deadA at h
  rw [List.any_eq_false] at h
  simpa using h i (List.mem_range.2 hi)

def evenR (c : Config) (ds : List Disk) (s : Int) : Bool × Int := bif !okA c ds then (false, 8) else bif decide (s < 0) || decide (s ≥ (sN c : Int)) then (false, 2) else (evenA c ds s.toNat, 0)
def oddL (c : Config) (ds : List Disk) : List Int := ((List.range (sN c)).filter fun s => !evenA c ds s).map fun s => ((s : Nat) : Int)
def oddR (c : Config) (ds : List Disk) : List Int × Int := bif !okA c ds then ([], 8) else (oddL c ds, 0)
theorem oddL_len (c : Config) (ds : List Disk) (h : OkA c ds) : (oddL c ds).length < 4294967296 := by
  have := List.length_filter_le (fun s => !evenA c ds s) (List.range (sN c))
  have hs := h.s
  simp [oddL] at this ⊢
  omega
theorem oddR_len (c : Config) (ds : List Disk) : (oddR c ds).1.length < 4294967296 := by
  unfold oddR
  cases ho : okA c ds with
  | false => simp
  | true => exact oddL_len c ds ((okA_iff c ds).1 ho)
end Go.Proofs.Ytfilegnndamngaa
