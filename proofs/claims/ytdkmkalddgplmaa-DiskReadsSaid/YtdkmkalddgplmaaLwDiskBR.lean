/- Plain law: devices: comparing, reading, writing. -/
import Derived.Test.YtdkmkalddgplmaaLwDiskAR
namespace Go.Proofs.Ytdkmkalddgplmaa
open Go GL

def viewW (w : Write) : Int × List UInt8 := (w.At, fullB w.Data)
def viewD (d : Disk) : List (List UInt8) × List (Int × List UInt8) × Bool := (d.Blocks.map fullB, d.Wait.map viewW, d.Dead)

theorem beqL (a b : List UInt8) : (a == b) = decide (a = b) := by rw [Bool.eq_iff_iff]; simp

theorem peq_eq (x y : List UInt8) (hx : x.length < 4294967296) (hy : y.length < 4294967296) : disk_Same_1 x y = some (decide (fullB x = fullB y)) := by
  unfold disk_Same_1
  rw [pblock_eq hx, pblock_eq hy]
  unfold bytes_Equal
  simp only [Option.bind_some, beqL]
theorem psame_eq {a b : Disk} (ha : SmallD a) (hb : SmallD b) : disk_Same a b = some (decide (viewD a = viewD b)) := by
  have a1 := ha.nb; have a2 := ha.nw; have b1 := hb.nb; have b2 := hb.nw
  unfold disk_Same
  by_cases h3 : a.Dead = b.Dead
  case neg =>
    rw [show (a.Dead == b.Dead) = false by simpa using h3]
    rw [decide_eq_false (fun e => h3 (congrArg (fun v => v.2.2) e))]
    simp only [gO, cond_false, Option.bind_some, Bool.false_and]
    unfold disk_Same_J1
    rw [show (a.Dead == b.Dead) = false by simpa using h3]; rfl
  have hde : (a.Dead == b.Dead) = true := by simpa using h3
  rw [hde]
  have hE : slices_EqualFunc_byte_byte_byte_byte a.Blocks b.Blocks (fun y => disk_Same_1 y.1 y.2) = some (decide (a.Blocks.map fullB = b.Blocks.map fullB)) := by
    unfold slices_EqualFunc_byte_byte_byte_byte
    by_cases h1 : a.Blocks.length = b.Blocks.length
    case neg =>
      rw [show (((a.Blocks.length : Nat) : Int) != ((b.Blocks.length : Nat) : Int)) = true by simp; omega]
      rw [decide_eq_false (fun e => h1 (by have := congrArg List.length e; simpa using this))]; rfl
    rw [show (((a.Blocks.length : Nat) : Int) != ((b.Blocks.length : Nat) : Int)) = false by simp; omega]
    simp only [cond_false]
    rw [loop_any2 a.Blocks b.Blocks (fun x y => !decide (fullB x = fullB y)) (step := fun s : Int => slices_EqualFunc_byte_byte_byte_byte_L1 a.Blocks b.Blocks (fun y => disk_Same_1 y.1 y.2) s) (Sum.inr ()) (Sum.inl ()) (by omega) h1 (fun k hk hk' => by
      unfold slices_EqualFunc_byte_byte_byte_byte_L1
      have k1 := ha.lb _ (List.getElem_mem hk)
      have k2 := hb.lb _ (List.getElem_mem hk')
      rw [decide_eq_true (show (k : Int) < (a.Blocks.length : Int) by omega), idx_nat, idx_nat, List.getElem?_eq_getElem hk, List.getElem?_eq_getElem hk', wI_succ (by omega)]
      simp only [cond_true, Option.bind_some]
      rw [peq_eq _ _ (by omega) (by omega)]
      simp only [Option.bind_some]
      cases decide (fullB a.Blocks[k] = fullB b.Blocks[k]) <;> rfl) (by
      unfold slices_EqualFunc_byte_byte_byte_byte_L1
      rw [decide_eq_false (by omega)]; rfl), zip_any_ne fullB _ _ h1]
    cases decide (a.Blocks.map fullB = b.Blocks.map fullB) <;> rfl
  rw [hE]
  simp only [gO, cond_true, Option.bind_some, Bool.true_and]
  by_cases e1 : a.Blocks.map fullB = b.Blocks.map fullB
  case neg =>
    rw [decide_eq_false e1, decide_eq_false (fun e => e1 (congrArg (fun v => v.1) e))]
    simp only [cond_false]
    unfold disk_Same_J1
    rw [hde]; rfl
  rw [decide_eq_true e1]
  simp only [cond_true]
  by_cases h2 : a.Wait.length = b.Wait.length
  case neg =>
    rw [show (((a.Wait.length : Nat) : Int) != ((b.Wait.length : Nat) : Int)) = true by simp; omega]
    rw [decide_eq_false (fun e => h2 (by have := congrArg (fun v => v.2.1.length) e; simpa [viewD] using this))]
    simp only [cond_true]
    unfold disk_Same_J1
    simp
  rw [show (((a.Wait.length : Nat) : Int) != ((b.Wait.length : Nat) : Int)) = false by simp; omega]
  simp only [cond_false]
  rw [loop_any2 a.Wait b.Wait (fun x y => !decide (viewW x = viewW y)) (step := fun s : Int => disk_Same_L2 a b s) (Sum.inr ()) (Sum.inl ()) (by omega) h2 (fun k hk hk' => by
    unfold disk_Same_L2 viewW
    have k1 := ha.lw _ (List.getElem_mem hk)
    have k2 := hb.lw _ (List.getElem_mem hk')
    rw [decide_eq_true (show (k : Int) < (a.Wait.length : Int) by omega), idx_nat, idx_nat, List.getElem?_eq_getElem hk, List.getElem?_eq_getElem hk']
    simp only [cond_true, Option.bind_some, disk_Same_J4, disk_Same_J3]
    rw [wI_succ (by omega)]
    by_cases hat : a.Wait[k].At = b.Wait[k].At
    · rw [show (a.Wait[k].At == b.Wait[k].At) = true by simpa using hat]
      simp only [cond_true, Option.bind_some, Bool.true_and]
      rw [pblock_eq (by omega), pblock_eq (by omega)]
      unfold bytes_Equal
      simp only [Option.bind_some, beqL]
      rw [show decide ((a.Wait[k].At, fullB a.Wait[k].Data) = (b.Wait[k].At, fullB b.Wait[k].Data)) = decide (fullB a.Wait[k].Data = fullB b.Wait[k].Data) from decide_eq_decide.2 (by simp [hat])]
      cases decide (fullB a.Wait[k].Data = fullB b.Wait[k].Data) <;> rfl
    · rw [show (a.Wait[k].At == b.Wait[k].At) = false by simpa using hat]
      rw [decide_eq_false (fun e => hat (congrArg Prod.fst e))]
      simp) (by
    unfold disk_Same_L2
    rw [decide_eq_false (by omega)]; rfl), zip_any_ne viewW _ _ h2]
  simp only [Option.bind_some]
  unfold disk_Same_J1
  rw [hde]
  by_cases e2 : a.Wait.map viewW = b.Wait.map viewW
  · rw [decide_eq_true e2, decide_eq_true (by simp [viewD, e1, e2, h3])]; rfl
  · rw [decide_eq_false e2, decide_eq_false (fun e => e2 (congrArg (fun v => v.2.1) e))]; rfl

/-! ### reading -/
def liesD (d : Disk) (at_ : Nat) : List UInt8 := fullB (d.Blocks.getD at_ [])
def overW (at_ : Int) (acc : List UInt8) (w : Write) : List UInt8 := if w.At = at_ then fullB w.Data else acc
def seenD (d : Disk) (at_ : Nat) : List UInt8 := d.Wait.foldl (overW (at_ : Int)) (liesD d at_)
def askD (d : Disk) (at_ : Int) : Int := bif mayD d then (bif decide (at_ < 0) || decide (at_ ≥ (d.Blocks.length : Int)) then 2 else 0) else 8

theorem over_none (at_ : Int) : ∀ (l : List Write) (acc : List UInt8), (∀ w ∈ l, w.At ≠ at_) → l.foldl (overW at_) acc = acc
  | [], _, _ => rfl
  | w :: l, acc, h => by
    rw [List.foldl_cons, show overW at_ acc w = acc from if_neg (h w (by simp))]
    exact over_none at_ l acc (fun x hx => h x (by simp [hx]))
theorem over_last (at_ : Int) (l : List Write) (acc : List UInt8) (i : Nat) (hi : i < l.length) (h1 : l[i].At = at_) (h2 : ∀ j (hj : j < l.length), i < j → l[j].At ≠ at_) : l.foldl (overW at_) acc = fullB l[i].Data := by
  have hsplit : l = l.take i ++ (l[i] :: l.drop (i + 1)) := by rw [List.getElem_cons_drop, List.take_append_drop]
  rw [show l.foldl (overW at_) acc = (l.take i ++ (l[i] :: l.drop (i + 1))).foldl (overW at_) acc by rw [← hsplit]]
  rw [List.foldl_append, List.foldl_cons, show overW at_ ((l.take i).foldl (overW at_) acc) l[i] = fullB l[i].Data from if_pos h1]
  refine over_none at_ _ _ (fun w hw => ?_)
  obtain ⟨j, hj, rfl⟩ := List.getElem_of_mem hw
  rw [List.getElem_drop]
  exact h2 _ _ (by omega)

theorem pplace_eq (d : Disk) (at_ : Int) : disk_place d at_ = some (askD d at_) := by
  unfold disk_place askD
  rw [pcheck_eq]
  simp only [Option.bind_some]
  cases mayD d with
  | false => rfl
  | true => cases (decide (at_ < 0) || decide (at_ ≥ (d.Blocks.length : Int))) <;> rfl
theorem askD_ok {d : Disk} {at_ : Int} (h : askD d at_ = 0) : MayD d ∧ ∃ k : Nat, at_ = (k : Int) ∧ k < d.Blocks.length := by
  unfold askD at h
  cases hm : mayD d with
  | false => rw [hm] at h; simp at h
  | true =>
    rw [hm] at h
    simp only [cond_true] at h
    cases hc : (decide (at_ < 0) || decide (at_ ≥ (d.Blocks.length : Int))) with
    | true => rw [hc] at h; simp at h
    | false =>
      simp only [Bool.or_eq_false_iff, decide_eq_false_iff_not] at hc
      exact ⟨(mayD_iff d).1 hm, at_.toNat, by omega, by omega⟩

def lastD (d : Disk) (at_ : Int) : List UInt8 × Int := bif (askD d at_ != 0) then ([], askD d at_) else bif d.Dead then ([], 40) else (liesD d at_.toNat, 0)
def readD (d : Disk) (at_ : Int) : List UInt8 × Int := bif (askD d at_ != 0) then ([], askD d at_) else bif d.Dead then ([], 40) else (seenD d at_.toNat, 0)
theorem plast_eq (d : Disk) (at_ : Int) : disk_Lasting d at_ = some (lastD d at_) := by
  unfold disk_Lasting lastD
  rw [pplace_eq]
  simp only [Option.bind_some]
  cases h : (askD d at_ != 0) with
  | true => rfl
  | false =>
    obtain ⟨hm, k, rfl, hk⟩ := askD_ok (by simpa using h)
    cases d.Dead with
    | true => rfl
    | false =>
      have := hm.small.lb _ (List.getElem_mem hk)
      simp only [cond_false, idx_nat, List.getElem?_eq_getElem hk, Option.bind_some]
      rw [pblock_eq (by omega)]
      simp [liesD, hk]
theorem pread_eq (d : Disk) (at_ : Int) : disk_Read d at_ = some (readD d at_) := by
  unfold disk_Read
  rw [plast_eq]
  simp only [Option.bind_some]
  unfold lastD readD
  cases h : (askD d at_ != 0) with
  | true => simp only [cond_true, h]
  | false =>
    obtain ⟨hm, k, rfl, hk⟩ := askD_ok (by simpa using h)
    cases d.Dead with
    | true => rfl
    | false =>
      simp only [cond_false, bne_self_eq_false, Int.toNat_natCast]
      unfold disk_Read_J1
      have hw := hm.small.nw
      obtain ⟨b, hb, hq⟩ := loop_inv (step := fun s : Int => disk_Read_L2 d (k : Int) s) d.Wait.length (fun i s => s = (d.Wait.length : Int) - 1 - (i : Int) ∧ ∀ j (hj : j < d.Wait.length), d.Wait.length - i ≤ j → d.Wait[j].At ≠ (k : Int))
        (fun b => (b = Sum.inl () ∧ seenD d k = liesD d k) ∨ b = Sum.inr (seenD d k)) (fun i s hi hI => by
        obtain ⟨rfl, hI⟩ := hI
        unfold disk_Read_L2
        by_cases hlt : i < d.Wait.length
        · have hj : d.Wait.length - 1 - i < d.Wait.length := by omega
          have hd := hm.small.lw _ (List.getElem_mem hj)
          rw [decide_eq_true (by omega), show (d.Wait.length : Int) - 1 - (i : Int) = ((d.Wait.length - 1 - i : Nat) : Int) by omega, idx_nat, List.getElem?_eq_getElem hj]
          simp only [cond_true, Option.bind_some]
          by_cases hat : d.Wait[d.Wait.length - 1 - i].At = (k : Int)
          · rw [show (d.Wait[d.Wait.length - 1 - i].At == (k : Int)) = true by simpa using hat, pblock_eq (by omega)]
            refine .inr ⟨_, rfl, .inr ?_⟩
            unfold seenD
            rw [over_last (k : Int) d.Wait _ _ hj hat (fun j hj' hlt' => hI j hj' (by omega))]
          · rw [show (d.Wait[d.Wait.length - 1 - i].At == (k : Int)) = false by simpa using hat, wI_id (by omega) (by omega)]
            refine .inl ⟨_, rfl, hlt, by omega, fun j hj' hle => ?_⟩
            by_cases he : j = d.Wait.length - 1 - i
            · subst he; exact hat
            · exact hI j hj' (by omega)
        · rw [decide_eq_false (by omega)]
          refine .inr ⟨_, rfl, .inl ⟨rfl, ?_⟩⟩
          unfold seenD
          refine over_none _ _ _ (fun w hw => ?_)
          obtain ⟨j, hj, rfl⟩ := List.getElem_of_mem hw
          exact hI j hj (by omega)) FUEL 0 ((d.Wait.length : Int) - 1) (Nat.zero_le _) (by have := fuel_ltD (show d.Wait.length < 4294967296 by omega); omega) ⟨by simp, fun j hj h => by omega⟩
      rw [wI_id (by omega) (by omega), hb]
      rcases hq with ⟨rfl, h1⟩ | rfl
      · rw [h1]; rfl
      · rfl
end Go.Proofs.Ytdkmkalddgplmaa
