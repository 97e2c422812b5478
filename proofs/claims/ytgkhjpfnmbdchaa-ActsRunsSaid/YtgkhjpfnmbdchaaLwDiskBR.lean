/- Plain law: devices: comparing, reading, writing. -/
import Derived.Test.YtgkhjpfnmbdchaaLwDiskAR
namespace Go.Proofs.Ytgkhjpfnmbdchaa
open Go GL

def viewW (w : Write) : Int × List UInt8 := (w.At, fullB w.Data)
def viewD (d : Disk) : List (List UInt8) × List (Int × List UInt8) × Bool := (d.Blocks.map fullB, d.Wait.map viewW, d.Dead)

theorem beqL (a b : List UInt8) : (a == b) = decide (a = b) := by rw [Bool.eq_iff_iff]; simp

theorem rsame_eq {a b : Disk} (ha : SmallD a) (hb : SmallD b) : ref04_Same a b = some (decide (viewD a = viewD b)) := by
  have a1 := ha.nb; have a2 := ha.nw; have b1 := hb.nb; have b2 := hb.nw
  unfold ref04_Same
  by_cases h1 : a.Blocks.length = b.Blocks.length
  case neg =>
    rw [show (((a.Blocks.length : Nat) : Int) != ((b.Blocks.length : Nat) : Int)) = true by simp; omega]
    rw [decide_eq_false (fun e => h1 (by have := congrArg (fun v => v.1.length) e; simpa [viewD] using this))]; rfl
  by_cases h2 : a.Wait.length = b.Wait.length
  case neg =>
    rw [show (((a.Wait.length : Nat) : Int) != ((b.Wait.length : Nat) : Int)) = true by simp; omega]
    rw [decide_eq_false (fun e => h2 (by have := congrArg (fun v => v.2.1.length) e; simpa [viewD] using this))]; simp
  by_cases h3 : a.Dead = b.Dead
  case neg =>
    rw [show (a.Dead != b.Dead) = true by simpa using h3]
    rw [decide_eq_false (fun e => h3 (congrArg (fun v => v.2.2) e))]; simp
  rw [show (((a.Blocks.length : Nat) : Int) != ((b.Blocks.length : Nat) : Int)) = false by simp; omega, show (((a.Wait.length : Nat) : Int) != ((b.Wait.length : Nat) : Int)) = false by simp; omega, show (a.Dead != b.Dead) = false by simpa using h3]
  simp only [Bool.or_self, cond_false]
  rw [loop_any2 a.Blocks b.Blocks (fun x y => !decide (fullB x = fullB y)) (step := fun s : Int => ref04_Same_L1 a b s) (Sum.inr ()) (Sum.inl ()) (by omega) h1 (fun k hk hk' => by
    unfold ref04_Same_L1
    have k1 := ha.lb _ (List.getElem_mem hk)
    have k2 := hb.lb _ (List.getElem_mem hk')
    rw [decide_eq_true (show (k : Int) < (a.Blocks.length : Int) by omega), idx_nat, idx_nat, List.getElem?_eq_getElem hk, List.getElem?_eq_getElem hk', wI_succ (by omega)]
    simp only [cond_true, Option.bind_some]
    rw [rfull_eq (by omega), rfull_eq (by omega)]
    simp only [Option.bind_some, beqL]
    cases decide (fullB a.Blocks[k] = fullB b.Blocks[k]) <;> rfl) (by
    unfold ref04_Same_L1
    rw [decide_eq_false (by omega)]; rfl), zip_any_ne fullB _ _ h1]
  simp only [Option.bind_some]
  by_cases e1 : a.Blocks.map fullB = b.Blocks.map fullB
  case neg =>
    rw [decide_eq_false e1, decide_eq_false (fun e => e1 (congrArg (fun v => v.1) e))]; rfl
  rw [decide_eq_true e1]
  simp only [Bool.not_true, cond_false, Sum.elim_inl]
  rw [loop_any2 a.Wait b.Wait (fun x y => !decide (viewW x = viewW y)) (step := fun s : Int => ref04_Same_L2 a b s) (Sum.inr ()) (Sum.inl ()) (by omega) h2 (fun k hk hk' => by
    unfold ref04_Same_L2 viewW
    have k1 := ha.lw _ (List.getElem_mem hk)
    have k2 := hb.lw _ (List.getElem_mem hk')
    rw [decide_eq_true (show (k : Int) < (a.Wait.length : Int) by omega), idx_nat, idx_nat, List.getElem?_eq_getElem hk, List.getElem?_eq_getElem hk', wI_succ (by omega)]
    simp only [cond_true, Option.bind_some]
    by_cases hat : a.Wait[k].At = b.Wait[k].At
    · rw [show (a.Wait[k].At != b.Wait[k].At) = false by simpa using hat]
      simp only [gO, Bool.not_false, cond_true, Option.bind_some, Bool.false_or]
      rw [rfull_eq (by omega), rfull_eq (by omega)]
      simp only [Option.bind_some, beqL]
      rw [show decide ((a.Wait[k].At, fullB a.Wait[k].Data) = (b.Wait[k].At, fullB b.Wait[k].Data)) = decide (fullB a.Wait[k].Data = fullB b.Wait[k].Data) from decide_eq_decide.2 (by simp [hat])]
      cases decide (fullB a.Wait[k].Data = fullB b.Wait[k].Data) <;> rfl
    · rw [show (a.Wait[k].At != b.Wait[k].At) = true by simpa using hat]
      rw [decide_eq_false (fun e => hat (congrArg Prod.fst e))]
      simp [gO]) (by
    unfold ref04_Same_L2
    rw [decide_eq_false (by omega)]; rfl), zip_any_ne viewW _ _ h2]
  simp only [Option.bind_some]
  by_cases e2 : a.Wait.map viewW = b.Wait.map viewW
  · rw [decide_eq_true e2, decide_eq_true (by simp [viewD, e1, e2, h3])]; rfl
  · rw [decide_eq_false e2, decide_eq_false (fun e => e2 (congrArg (fun v => v.2.1) e))]; rfl

/-! ### reading -/
def liesD (d : Disk) (at_ : Nat) : List UInt8 := fullB (d.Blocks.getD at_ [])
def overW (at_ : Int) (acc : List UInt8) (w : Write) : List UInt8 := if w.At = at_ then fullB w.Data else acc
def seenD (d : Disk) (at_ : Nat) : List UInt8 := d.Wait.foldl (overW (at_ : Int)) (liesD d at_)
def askD (d : Disk) (at_ : Int) : Int := bif mayD d then (bif decide (at_ < 0) || decide (at_ ≥ (d.Blocks.length : Int)) then 2 else 0) else 8

theorem over_none (at_ : Int) : ∀ (l : List Write) (acc : List UInt8), (∀ w ∈ l, w.At ≠ at_) → l.foldl (overW at_) acc = acc
  | [], _, _ => rfl
  | w :: l, acc, h => by
    rw [List.foldl_cons, show overW at_ acc w = acc from if_neg (h w (by simp))]
    exact over_none at_ l acc (fun x hx => h x (by simp [hx]))
theorem over_last (at_ : Int) (l : List Write) (acc : List UInt8) (i : Nat) (hi : i < l.length) (h1 : l[i].At = at_) (h2 : ∀ j (hj : j < l.length), i < j → l[j].At ≠ at_) : l.foldl (overW at_) acc = fullB l[i].Data := by
  have hsplit : l = l.take i ++ (l[i] :: l.drop (i + 1)) := by rw [List.getElem_cons_drop, List.take_append_drop]
  rw [show l.foldl (overW at_) acc = (l.take i ++ (l[i] :: l.drop (i + 1))).foldl (overW at_) acc by rw [← hsplit]]
  rw [List.foldl_append, List.foldl_cons, show overW at_ ((l.take i).foldl (overW at_) acc) l[i] = fullB l[i].Data from if_pos h1]
  refine over_none at_ _ _ (fun w hw => ?_)
  obtain ⟨j, hj, rfl⟩ := List.getElem_of_mem hw
  rw [List.getElem_drop]
  exact h2 _ _ (by omega)

theorem rlies_eq {d : Disk} (h : SmallD d) {k : Nat} (hk : k < d.Blocks.length) : ref04_Lies d (k : Int) = some (liesD d k) := by
  unfold ref04_Lies liesD
  have := h.lb _ (List.getElem_mem hk)
  rw [idx_nat, List.getElem?_eq_getElem hk]
  simp only [Option.bind_some]
  rw [rfull_eq (by omega)]
  simp [hk]
theorem rseen_eq {d : Disk} (h : SmallD d) {k : Nat} (hk : k < d.Blocks.length) : ref04_Seen d (k : Int) = some (seenD d k) := by
  unfold ref04_Seen seenD
  rw [rlies_eq h hk]
  simp only [Option.bind_some]
  have hw := h.nw
  have := loop_run (step := fun s : (List UInt8) × Int => ref04_Seen_L1 d (k : Int) s.1 s.2) (fun i => ((d.Wait.take i).foldl (overW (k : Int)) (liesD d k), (i : Int))) d.Wait.length (d.Wait.foldl (overW (k : Int)) (liesD d k)) (fuel_ltD (by omega)) (fun i hi => by
    have hd := h.lw _ (List.getElem_mem hi)
    unfold ref04_Seen_L1 ref04_Seen_J2
    simp only [decide_eq_true (show (i : Int) < (d.Wait.length : Int) by omega), cond_true, idx_nat, List.getElem?_eq_getElem hi, Option.bind_some]
    rw [take_succ_get _ _ _ (List.getElem?_eq_getElem hi), List.foldl_append, List.foldl_cons, List.foldl_nil, wI_succ (by omega), rfull_eq (by omega)]
    unfold overW
    by_cases hat : d.Wait[i].At = (k : Int)
    · rw [show (d.Wait[i].At == (k : Int)) = true by simpa using hat, if_pos hat]; rfl
    · rw [show (d.Wait[i].At == (k : Int)) = false by simpa using hat, if_neg hat]; rfl) (by
    unfold ref04_Seen_L1
    rw [decide_eq_false (by omega), List.take_length]; rfl)
  have h0 : (liesD d k, (0 : Int)) = (fun i : Nat => ((d.Wait.take i).foldl (overW (k : Int)) (liesD d k), (i : Int))) 0 := by simp
  rw [h0, this]; rfl
theorem pplace_eq (d : Disk) (at_ : Int) : disk_place d at_ = some (askD d at_) := by
  unfold disk_place askD
  rw [pcheck_eq]
  simp only [Option.bind_some]
  cases mayD d with
  | false => rfl
  | true => cases (decide (at_ < 0) || decide (at_ ≥ (d.Blocks.length : Int))) <;> rfl
theorem askD_ok {d : Disk} {at_ : Int} (h : askD d at_ = 0) : MayD d ∧ ∃ k : Nat, at_ = (k : Int) ∧ k < d.Blocks.length := by
  unfold askD at h
  cases hm : mayD d with
  | false => rw [hm] at h; simp at h
  | true =>
    rw [hm] at h
    simp only [cond_true] at h
    cases hc : (decide (at_ < 0) || decide (at_ ≥ (d.Blocks.length : Int))) with
    | true => rw [hc] at h; simp at h
    | false =>
      simp only [Bool.or_eq_false_iff, decide_eq_false_iff_not] at hc
      exact ⟨(mayD_iff d).1 hm, at_.toNat, by omega, by omega⟩

def lastD (d : Disk) (at_ : Int) : List UInt8 × Int := bif (askD d at_ != 0) then ([], askD d at_) else bif d.Dead then ([], 40) else (liesD d at_.toNat, 0)
def readD (d : Disk) (at_ : Int) : List UInt8 × Int := bif (askD d at_ != 0) then ([], askD d at_) else bif d.Dead then ([], 40) else (seenD d at_.toNat, 0)
end Go.Proofs.Ytgkhjpfnmbdchaa
