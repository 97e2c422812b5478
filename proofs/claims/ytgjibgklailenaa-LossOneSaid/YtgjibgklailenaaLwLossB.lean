/- Plain law: any steps on a loss of three members and two stripes. -/
import Derived.Test.YtgjibgklailenaaLwLossA
namespace Go.Proofs.Ytgjibgklailenaa
open Go GL

abbrev LSt := Int × Int × Int × Bool × Int × UInt32 × Int × Bool × Int × Int × Bool × Bool
abbrev LB := (Unit) ⊕ (Unit)
def setI (j : Int) : Ctl LSt LB → Ctl LSt LB
  | .next (a, b, c, d, _, r) => .next (a, b, c, d, j, r)
  | .brk b => .brk b
def rnd (a0 : List Op45) (s : LSt) : Option (Ctl LSt LB) :=
  law23_LossOne_L1 a0 s.1 s.2.1 s.2.2.1 s.2.2.2.1 s.2.2.2.2.1 s.2.2.2.2.2.1 s.2.2.2.2.2.2.1 s.2.2.2.2.2.2.2.1 s.2.2.2.2.2.2.2.2.1 s.2.2.2.2.2.2.2.2.2.1 s.2.2.2.2.2.2.2.2.2.2.1 s.2.2.2.2.2.2.2.2.2.2.2

theorem mapB {α β γ : Type} (f : β → γ) (e : Option α) (g : α → Option β) : Option.map f (Option.bind e g) = Option.bind e (fun x => Option.map f (g x)) := by cases e <;> rfl
theorem mapC {β γ : Type} (f : β → γ) (c : Bool) (a b : Option β) : Option.map f (bif c then a else b) = bif c then Option.map f a else Option.map f b := by cases c <;> rfl
theorem mapS {β γ : Type} (f : β → γ) (a : β) : Option.map f (some a) = some (f a) := rfl
theorem bindS {α β : Type} (a : α) (g : α → Option β) : Option.bind (some a) g = g a := rfl
theorem gO2 {β : Type} (c : Bool) (op : Op45) (h : UInt8 → Option β) : Option.bind (gO c (some op)) (fun x => Option.bind (gO c (some (x.Kind % 4))) h) = Option.bind (gO c (some (op.Kind % 4))) h := by cases c <;> rfl
theorem remB4 (k : UInt8) : remB k (4 : UInt8) = some (k % 4) := rfl
theorem remB4m (k : UInt8) : remB (k % 4) (4 : UInt8) = some (k % 4) := by
  rw [remB4]; congr 1
  rw [← UInt8.toNat_inj]; simp [UInt8.toNat_mod]
theorem step_mod (x : Loss) (k : UInt8) (a : Int) : law23_step x k a = law23_step x (k % 4) a := by
  unfold law23_step; rw [remB4m, remB4]
/-- A step hangs on its kind and its place by their rests alone. -/
def lite (o : Op45) : Op45 := ⟨o.Kind % 4, o.At % 3⟩
theorem at_lite (o : Op45) : remI (wI (o.At.toNat : Int)) (3 : Int) = some ((o.At.toNat : Int).tmod 3) ∧ remI (wI ((lite o).At.toNat : Int)) (3 : Int) = some ((o.At.toNat : Int).tmod 3) := by
  have h := o.At.toNat_lt
  have h2 : ((lite o).At.toNat : Int) = (o.At.toNat : Int) % 3 := by simp [lite, UInt8.toNat_mod]
  have h3 : (o.At.toNat : Int).tmod 3 = (o.At.toNat : Int) % 3 := Int.tmod_eq_emod_of_nonneg (by omega)
  constructor
  · unfold remI; rw [if_neg (by decide), wI_id (by omega) (by omega)]
  · unfold remI; rw [if_neg (by decide), h2, h3, wI_id (by omega) (by omega)]
    rw [Int.tmod_eq_emod_of_nonneg (by omega)]; congr 1; omega
theorem rnd_lite (a0 : List Op45) (k : Nat) (o : Op45) (ho : a0[k]? = some o) (hl : a0.length < 4294967296) (a b c : Int) (d : Bool) (e : UInt32) (f : Int) (g : Bool) (h i : Int) (j l : Bool) :
    rnd a0 (a, b, c, d, (k : Int), e, f, g, h, i, j, l) = Option.map (setI ((k + 1 : Nat) : Int)) (rnd [lite o] (a, b, c, d, 0, e, f, g, h, i, j, l)) := by
  have hk : k < a0.length := (List.getElem?_eq_some_iff.1 ho).1
  have h1 : decide ((k : Int) < (a0.length : Int)) = true := by simp; omega
  have h2 : idx a0 (k : Int) = some o := by rw [idx_nat, ho]
  have h3 : idx [lite o] (0 : Int) = some (lite o) := rfl
  have h4 : decide ((0 : Int) < (([lite o] : List Op45).length : Int)) = true := by simp
  have h5 : wI ((k : Int) + 1) = ((k + 1 : Nat) : Int) := wI_succ (by omega)
  have h6 : (lite o).Kind % 4 = o.Kind % 4 := by have := remB4m o.Kind; rw [remB4] at this; exact Option.some.inj this
  have h7 : ∀ x y, law23_step x (lite o).Kind y = law23_step x o.Kind y := fun x y => (step_mod x o.Kind y).symm
  simp only [rnd, law23_LossOne_L1, law23_LossOne_J2, law23_LossOne_J3, law23_LossOne_J4, law23_LossOne_J5, h1, h2, h3, h4, h5, h6, h7, gO2, bindS, (at_lite o).1, (at_lite o).2, remB4, cond_true, mapB, mapC, mapS, setI]

/-! the states -/
def vst (l m k : Int) (b : Bool) (i : Int) : LSt := (l, m, k, b, i, 5, l, decide (0 ≤ m), (if 0 ≤ m then m else 0), k, false, b)
def okS (l m k : Int) : Bool := decide (-1 ≤ l ∧ l ≤ 2 ∧ -1 ≤ m ∧ m ≤ 2 ∧ 0 ≤ k ∧ k ≤ 2 ∧ (0 ≤ m → 0 ≤ l ∧ k ≤ m) ∧ (m < 0 → k = 0))
def goesOn (r : Option (Ctl LSt LB)) : Bool :=
  match r with
  | some (.next (l, m, k, b, i, e, f, g, h, d, nl, br)) => okS l m k && (i == 1 && (e == 5 && (f == l && (g == decide (0 ≤ m) && (h == (if 0 ≤ m then m else 0) && (d == k && (nl == false && br == b)))))))
  | _ => false
theorem goesOn_spec {r : Option (Ctl LSt LB)} (h : goesOn r = true) : ∃ l m k b, okS l m k = true ∧ r = some (.next (vst l m k b 1)) := by
  unfold goesOn at h
  split at h
  case h_2 => cases h
  rename_i l m k b i e f g h' d nl br
  simp only [Bool.and_eq_true, beq_iff_eq] at h
  obtain ⟨h0, h1, h2, h3, h4, h5, h6, h7, h8⟩ := h
  exact ⟨l, m, k, b, h0, by subst h1 h2 h3 h4 h5 h6 h7 h8; rfl⟩
def allRounds : Bool := [(-1 : Int), 0, 1, 2].all fun l => [(-1 : Int), 0, 1, 2].all fun m => [(0 : Int), 1, 2].all fun k => !okS l m k || [false, true].all fun b =>
  [(0 : UInt8), 1, 2, 3].all fun q => [(0 : UInt8), 1, 2].all fun a => goesOn (rnd [⟨q, a⟩] (vst l m k b 0))
theorem allRounds_true : allRounds = true := by kernel_rfl

theorem u8_lt4 (k : UInt8) : k % 4 = 0 ∨ k % 4 = 1 ∨ k % 4 = 2 ∨ k % 4 = 3 := by
  have h : (k % 4).toNat < 4 := by rw [UInt8.toNat_mod]; exact Nat.mod_lt _ (by decide)
  have h2 : (k % 4).toNat = 0 ∨ (k % 4).toNat = 1 ∨ (k % 4).toNat = 2 ∨ (k % 4).toNat = 3 := by omega
  rcases h2 with h | h | h | h
  · exact .inl (UInt8.toNat_inj.1 h)
  · exact .inr (.inl (UInt8.toNat_inj.1 h))
  · exact .inr (.inr (.inl (UInt8.toNat_inj.1 h)))
  · exact .inr (.inr (.inr (UInt8.toNat_inj.1 h)))
theorem u8_lt3 (k : UInt8) : k % 3 = 0 ∨ k % 3 = 1 ∨ k % 3 = 2 := by
  have h : (k % 3).toNat < 3 := by rw [UInt8.toNat_mod]; exact Nat.mod_lt _ (by decide)
  have h2 : (k % 3).toNat = 0 ∨ (k % 3).toNat = 1 ∨ (k % 3).toNat = 2 := by omega
  rcases h2 with h | h | h
  · exact .inl (UInt8.toNat_inj.1 h)
  · exact .inr (.inl (UInt8.toNat_inj.1 h))
  · exact .inr (.inr (UInt8.toNat_inj.1 h))
theorem round_ok (o : Op45) (l m k : Int) (b : Bool) (h : okS l m k = true) : goesOn (rnd [lite o] (vst l m k b 0)) = true := by
  have hA := allRounds_true
  unfold allRounds at hA
  have h' := h
  simp only [okS, decide_eq_true_eq] at h'
  have hl : l ∈ [(-1 : Int), 0, 1, 2] := by simp; omega
  have hm : m ∈ [(-1 : Int), 0, 1, 2] := by simp; omega
  have hk : k ∈ [(0 : Int), 1, 2] := by simp; omega
  have h1 := List.all_eq_true.1 (List.all_eq_true.1 (List.all_eq_true.1 hA l hl) m hm) k hk
  rw [h] at h1
  simp only [Bool.not_true, Bool.false_or] at h1
  have h2 := List.all_eq_true.1 h1 b (by cases b <;> simp)
  have h3 := List.all_eq_true.1 h2 (o.Kind % 4) (by rcases u8_lt4 o.Kind with h | h | h | h <;> rw [h] <;> simp)
  exact List.all_eq_true.1 h3 (o.At % 3) (by rcases u8_lt3 o.At with h | h | h <;> rw [h] <;> simp)

theorem alive_true : law23_alive = some true := by kernel_rfl
theorem nobody_eq : law23_nobody = some (Loss.mk 5 (-1) false 0 0 false false) := rfl

theorem one_true (a0 : List Op45) (hl : a0.length ≤ 9223372036854775807) : law23_LossOne a0 = some true := by
  unfold law23_LossOne
  rw [alive_true, nobody_eq]
  simp only [bindS, Bool.not_true, Bool.or_false]
  by_cases h100 : (a0.length : Int) > 100
  · simp [h100]
  · rw [show decide ((a0.length : Int) > 100) = false by simp; omega]
    simp only [cond_false]
    have hlt : a0.length < 4294967296 := by omega
    obtain ⟨b, hb, rfl⟩ := loop_inv (step := rnd a0) a0.length (fun k s => ∃ l m q d, s = vst l m q d (k : Int) ∧ okS l m q = true) (fun b => b = Sum.inl ()) (fun k s hk hs => by
      obtain ⟨l, m, q, d, rfl, ho⟩ := hs
      by_cases hkl : k < a0.length
      · left
        have hr := round_ok a0[k] l m q d ho
        have he := rnd_lite a0 k a0[k] (List.getElem?_eq_getElem hkl) hlt l m q d 5 l (decide (0 ≤ m)) (if 0 ≤ m then m else 0) q false d
        obtain ⟨l', m', q', d', ho', hv⟩ := goesOn_spec hr
        refine ⟨vst l' m' q' d' ((k + 1 : Nat) : Int), ?_, hkl, l', m', q', d', rfl, ho'⟩
        show rnd a0 (vst l m q d (k : Int)) = _
        rw [show rnd a0 (vst l m q d (k : Int)) = _ from he, show rnd [lite a0[k]] (l, m, q, d, 0, 5, l, decide (0 ≤ m), (if 0 ≤ m then m else 0), q, false, d) = _ from hv]
        rfl
      · right
        refine ⟨Sum.inl (), ?_, rfl⟩
        obtain rfl : k = a0.length := by omega
        simp [rnd, law23_LossOne_L1, vst]) FUEL 0 (vst (-1) (-1) 0 false 0) (Nat.zero_le _) (by have := fuel_lt hlt; omega) ⟨-1, -1, 0, false, rfl, rfl⟩
    have hb' : loopM (fun s : LSt => rnd a0 s) FUEL ((-1 : Int), (-1 : Int), (0 : Int), false, (0 : Int), (5 : UInt32), (-1 : Int), false, (0 : Int), (0 : Int), false, false) = some (Sum.inl ()) := hb
    simp only [rnd] at hb'
    rw [hb']
    rfl
end Go.Proofs.Ytgjibgklailenaa
