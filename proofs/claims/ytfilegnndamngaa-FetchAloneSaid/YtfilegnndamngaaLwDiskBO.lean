/- Plain law: devices: comparing, reading, writing. -/
import Derived.Test.YtfilegnndamngaaLwDiskAO
namespace Go.Proofs.Ytfilegnndamngaa
open Go GL

def viewW (w : Write) : Int × List UInt8 := (w.At, fullB w.Data)
def viewD (d : Disk) : List (List UInt8) × List (Int × List UInt8) × Bool := (d.Blocks.map fullB, d.Wait.map viewW, d.Dead)

theorem beqL (a b : List UInt8) : (a == b) = decide (a = b) := by rw [Bool.eq_iff_iff]; simp

/-! ### reading -/
def liesD (d : Disk) (at_ : Nat) : List UInt8 := fullB (d.Blocks.getD at_ [])
def overW (at_ : Int) (acc : List UInt8) (w : Write) : List UInt8 := if w.At = at_ then fullB w.Data else acc
def seenD (d : Disk) (at_ : Nat) : List UInt8 := d.Wait.foldl (overW (at_ : Int)) (liesD d at_)
def askD (d : Disk) (at_ : Int) : Int := bif mayD d then (bif decide (at_ < 0) || decide (at_ ≥ (d.Blocks.length : Int)) then 2 else 0) else 8

theorem over_none (at_ : Int) : ∀ (l : List Write) (acc : List UInt8), (∀ w ∈ l, w.At ≠ at_) → l.foldl (overW at_) acc = acc
  | [], _, _ => rfl
  | w :: l, acc, h => by
    rw [List.foldl_cons, show overW at_ acc w = acc from if_neg (h w (by simp))]
    exact over_none at_ l acc (fun x hx => h x (by simp [hx]))
theorem over_last (at_ : Int) (l : List Write) (acc : List UInt8) (i : Nat) (hi : i < l.length) (h1 : l[i].At = at_) (h2 : ∀ j (hj : j < l.length), i < j → l[j].At ≠ at_) : l.foldl (overW at_) acc = fullB l[i].Data := by
  have hsplit : l = l.take i ++ (l[i] :: l.drop (i + 1)) := by rw [List.getElem_cons_drop, List.take_append_drop]
  rw [show l.foldl (overW at_) acc = (l.take i ++ (l[i] :: l.drop (i + 1))).foldl (overW at_) acc by rw [← hsplit]]
  rw [List.foldl_append, List.foldl_cons, show overW at_ ((l.take i).foldl (overW at_) acc) l[i] = fullB l[i].Data from if_pos h1]
  refine over_none at_ _ _ (fun w hw => ?_)
  obtain ⟨j, hj, rfl⟩ := List.getElem_of_mem hw
  rw [List.getElem_drop]
  exact h2 _ _ (by omega)

theorem pplace_eq (d : Disk) (at_ : Int) : disk_place d at_ = some (askD d at_) := by
  unfold disk_place askD
  rw [pcheck_eq]
  simp only [Option.bind_some]
  cases mayD d with
  | false => rfl
  | true => cases (decide (at_ < 0) || decide (at_ ≥ (d.Blocks.length : Int))) <;> rfl
theorem askD_ok {d : Disk} {at_ : Int} (h : askD d at_ = 0) : MayD d ∧ ∃ k : Nat, at_ = (k : Int) ∧ k < d.Blocks.length := by
  unfold askD at h
  cases hm : mayD d with
  | false => rw [hm] at h; simp at h
  | true =>
    rw [hm] at h
    simp only [cond_true] at h
    cases hc : (decide (at_ < 0) || decide (at_ ≥ (d.Blocks.length : Int))) with
    | true => rw [hc] at h; simp at h
    | false =>
      simp only [Bool.or_eq_false_iff, decide_eq_false_iff_not] at hc
      exact ⟨(mayD_iff d).1 hm, at_.toNat, by omega, by omega⟩

def lastD (d : Disk) (at_ : Int) : List UInt8 × Int := bif (askD d at_ != 0) then ([], askD d at_) else bif d.Dead then ([], 40) else (liesD d at_.toNat, 0)
def readD (d : Disk) (at_ : Int) : List UInt8 × Int := bif (askD d at_ != 0) then ([], askD d at_) else bif d.Dead then ([], 40) else (seenD d at_.toNat, 0)
theorem plast_eq (d : Disk) (at_ : Int) : disk_Lasting d at_ = some (lastD d at_) := by
  unfold disk_Lasting lastD
  rw [pplace_eq]
  simp only [Option.bind_some]
  cases h : (askD d at_ != 0) with
  | true => rfl
  | false =>
    obtain ⟨hm, k, rfl, hk⟩ := askD_ok (by simpa using h)
    cases d.Dead with
    | true => rfl
    | false =>
      have := hm.small.lb _ (List.getElem_mem hk)
      simp only [cond_false, idx_nat, List.getElem?_eq_getElem hk, Option.bind_some]
      rw [pblock_eq (by omega)]
      simp [liesD, hk]
theorem pread_eq (d : Disk) (at_ : Int) : disk_Read d at_ = some (readD d at_) := by
  unfold disk_Read
  rw [plast_eq]
  simp only [Option.bind_some]
  unfold lastD readD
  cases h : (askD d at_ != 0) with
  | true => simp only [cond_true, h]
  | false =>
    obtain ⟨hm, k, rfl, hk⟩ := askD_ok (by simpa using h)
    cases d.Dead with
    | true => rfl
    | false =>
      simp only [cond_false, bne_self_eq_false, Int.toNat_natCast]
      unfold disk_Read_J1
      have hw := hm.small.nw
      obtain ⟨b, hb, hq⟩ := loop_inv (step := fun s : Int => disk_Read_L2 d (k : Int) s) d.Wait.length (fun i s => s = (d.Wait.length : Int) - 1 - (i : Int) ∧ ∀ j (hj : j < d.Wait.length), d.Wait.length - i ≤ j → d.Wait[j].At ≠ (k : Int))
        (fun b => (b = Sum.inl () ∧ seenD d k = liesD d k) ∨ b = Sum.inr (seenD d k)) (fun i s hi hI => by
        obtain ⟨rfl, hI⟩ := hI
        unfold disk_Read_L2
        by_cases hlt : i < d.Wait.length
        · have hj : d.Wait.length - 1 - i < d.Wait.length := by omega
          have hd := hm.small.lw _ (List.getElem_mem hj)
          rw [decide_eq_true (by omega), show (d.Wait.length : Int) - 1 - (i : Int) = ((d.Wait.length - 1 - i : Nat) : Int) by omega, idx_nat, List.getElem?_eq_getElem hj]
          simp only [cond_true, Option.bind_some]
          by_cases hat : d.Wait[d.Wait.length - 1 - i].At = (k : Int)
          · rw [show (d.Wait[d.Wait.length - 1 - i].At == (k : Int)) = true by simpa using hat, pblock_eq (by omega)]
            refine .inr ⟨_, rfl, .inr ?_⟩
            unfold seenD
            rw [over_last (k : Int) d.Wait _ _ hj hat (fun j hj' hlt' => hI j hj' (by omega))]
          · rw [show (d.Wait[d.Wait.length - 1 - i].At == (k : Int)) = false by simpa using hat, wI_id (by omega) (by omega)]
            refine .inl ⟨_, rfl, hlt, by omega, fun j hj' hle => ?_⟩
            by_cases he : j = d.Wait.length - 1 - i
            · subst he; exact hat
            · exact hI j hj' (by omega)
        · rw [decide_eq_false (by omega)]
          refine .inr ⟨_, rfl, .inl ⟨rfl, ?_⟩⟩
          unfold seenD
          refine over_none _ _ _ (fun w hw => ?_)
          obtain ⟨j, hj, rfl⟩ := List.getElem_of_mem hw
          exact hI j hj (by omega)) FUEL 0 ((d.Wait.length : Int) - 1) (Nat.zero_le _) (by have := fuel_ltD (show d.Wait.length < 4294967296 by omega); omega) ⟨by simp, fun j hj h => by omega⟩
      rw [wI_id (by omega) (by omega), hb]
      rcases hq with ⟨rfl, h1⟩ | rfl
      · rw [h1]; rfl
      · rfl
end Go.Proofs.Ytfilegnndamngaa
