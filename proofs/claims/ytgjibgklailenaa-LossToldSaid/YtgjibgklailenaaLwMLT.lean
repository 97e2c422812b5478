/- Plain laws, in one text. -/
import Derived.Test.YtgjibgklailenaaGlt3
set_option linter.unusedVariables false
set_option linter.unusedSimpArgs false
set_option linter.unnecessarySimpa false
namespace Go.Proofs.Ytgjibgklailenaa
open Go GL
/- Plain law: configs. -/

theorem fuel_lt {n : Nat} (h : n < 4294967296) : n < FUEL := by unfold FUEL; omega

/-- A loop over a list, that leaves where an element has p. -/
theorem loop_any_list {α B : Type} (l : List α) (p : α → Bool) {step : Int → Option (Ctl Int B)} (yes no : B) (hl : l.length < 4294967296)
    (h1 : ∀ k (hk : k < l.length), step (k : Int) = some (bif p l[k] then .brk yes else .next ((k + 1 : Nat) : Int))) (h2 : step (l.length : Int) = some (.brk no)) :
    loopM step FUEL (0 : Int) = some (bif l.any p then yes else no) := by
  have := loop_any (step := step) (fun k => (k : Int)) l.length (fun k => (l[k]?.map p).getD false) yes no (fuel_lt hl) (fun k hk => by
    rw [h1 k hk]; simp [hk]) h2
  rw [any_range l p _ (fun k hk => by simp [hk])] at this
  simpa using this

def outB (r : Arr3_Int) : Bool := decide (r.e0 < r.e1) || decide (r.e0 > r.e2)
theorem bounds_eq (l : List Arr3_Int) (hl : l.length < 4294967296) : shape_bounds l = some (!(l.any outB)) := by
  unfold shape_bounds
  rw [loop_any_list l outB (Sum.inr ()) (Sum.inl ()) hl]
  · cases h : l.any outB <;> simp
  · intro k hk
    unfold shape_bounds_L1
    rw [show decide ((k : Int) < (l.length : Int)) = true by simp; omega, idx_nat, List.getElem?_eq_getElem hk, wI_succ (by omega)]
    simp only [cond_true, Option.bind_some, outB]
    cases (decide (l[k].e0 < l[k].e1) || decide (l[k].e0 > l[k].e2)) <;> rfl
  · unfold shape_bounds_L1
    simp

/-- Configs that may be. -/
def MayC (c : Config) : Prop := (3 ≤ c.Members ∧ c.Members ≤ 16) ∧ (1 ≤ c.Chunk ∧ c.Chunk ≤ 8) ∧ (1 ≤ c.Rows ∧ c.Rows ≤ 8) ∧ (2 ≤ c.Heads ∧ c.Heads ≤ 8) ∧ (c.Members + 1) * (c.Heads + 1) ≤ c.Log ∧ c.Log ≤ 255
def mayC (c : Config) : Bool := ((decide (3 ≤ c.Members) && decide (c.Members ≤ 16)) && (decide (1 ≤ c.Chunk) && decide (c.Chunk ≤ 8))) && ((decide (1 ≤ c.Rows) && decide (c.Rows ≤ 8)) && ((decide (2 ≤ c.Heads) && decide (c.Heads ≤ 8)) && (decide ((c.Members + 1) * (c.Heads + 1) ≤ c.Log) && decide (c.Log ≤ 255))))
theorem mayC_iff (c : Config) : mayC c = true ↔ MayC c := by simp [mayC, MayC, and_assoc]
theorem mayC_f {c : Config} (h : ¬ MayC c) : mayC c = false := by rw [← mayC_iff] at h; simpa using h

theorem wI_need {c : Config} (h1 : 3 ≤ c.Members ∧ c.Members ≤ 16) (h2 : 2 ≤ c.Heads ∧ c.Heads ≤ 8) : wI ((wI (c.Members + 1)) * (wI (c.Heads + 1))) = (c.Members + 1) * (c.Heads + 1) := by
  rw [wI_id (x := c.Members + 1) (by omega) (by omega), wI_id (x := c.Heads + 1) (by omega) (by omega)]
  have h3 : (c.Members + 1) * (c.Heads + 1) ≤ 17 * 9 := Int.mul_le_mul (by omega) (by omega) (by omega) (by omega)
  have h4 : 0 ≤ (c.Members + 1) * (c.Heads + 1) := Int.mul_nonneg (by omega) (by omega)
  exact wI_id (by omega) (by omega)
theorem check_eq (c : Config) : shape_Check c = some (bif mayC c then 0 else 8) := by
  unfold shape_Check
  rw [bounds_eq _ (by simp)]
  simp only [Option.bind_some, List.any_cons, List.any_nil, Bool.or_false, outB]
  by_cases h : (3 ≤ c.Members ∧ c.Members ≤ 16) ∧ (1 ≤ c.Chunk ∧ c.Chunk ≤ 8) ∧ (1 ≤ c.Rows ∧ c.Rows ≤ 8) ∧ (2 ≤ c.Heads ∧ c.Heads ≤ 8)
  · obtain ⟨h1, h2, h3, h4⟩ := h
    have hb : (decide (c.Members < 3) || decide (c.Members > 16) || ((decide (c.Chunk < 1) || decide (c.Chunk > 8)) || ((decide (c.Rows < 1) || decide (c.Rows > 8)) || (decide (c.Heads < 2) || decide (c.Heads > 8))))) = false := by simp; omega
    rw [hb]
    simp only [gO, Bool.not_false, Bool.not_true, Bool.false_or, cond_true]
    rw [bounds_eq _ (by simp)]
    simp only [Option.bind_some, List.any_cons, List.any_nil, Bool.or_false, outB, wI_need h1 h4]
    by_cases h5 : (c.Members + 1) * (c.Heads + 1) ≤ c.Log ∧ c.Log ≤ 255
    · rw [(mayC_iff c).2 ⟨h1, h2, h3, h4, h5⟩]
      have : (decide (c.Log < (c.Members + 1) * (c.Heads + 1)) || decide (c.Log > 255)) = false := by simp; omega
      rw [this]; rfl
    · rw [mayC_f (fun h => h5 h.2.2.2.2)]
      have : (decide (c.Log < (c.Members + 1) * (c.Heads + 1)) || decide (c.Log > 255)) = true := by simp; omega
      rw [this]; rfl
  · have hb : (decide (c.Members < 3) || decide (c.Members > 16) || ((decide (c.Chunk < 1) || decide (c.Chunk > 8)) || ((decide (c.Rows < 1) || decide (c.Rows > 8)) || (decide (c.Heads < 2) || decide (c.Heads > 8))))) = true := by simp; omega
    rw [hb, mayC_f (fun hm => h ⟨hm.1, hm.2.1, hm.2.2.1, hm.2.2.2.1⟩)]
    rfl
theorem wI_str {c : Config} (h : MayC c) : wI (c.Chunk * c.Rows) = c.Chunk * c.Rows ∧ 1 ≤ c.Chunk * c.Rows ∧ c.Chunk * c.Rows ≤ 64 := by
  obtain ⟨_, h2, h3, _⟩ := h
  have h4 : c.Chunk * c.Rows ≤ 8 * 8 := Int.mul_le_mul (by omega) (by omega) (by omega) (by omega)
  have h5 : 1 * 1 ≤ c.Chunk * c.Rows := Int.mul_le_mul (by omega) (by omega) (by omega) (by omega)
  exact ⟨wI_id (by omega) (by omega), by omega, by omega⟩
theorem stripes_eq (c : Config) : shape_Stripes c = some (bif mayC c then (c.Chunk * c.Rows, 0) else (0, 8)) := by
  unfold shape_Stripes shape_told
  rw [check_eq]
  cases h : mayC c with
  | true => simp [(wI_str ((mayC_iff c).1 h)).1]
  | false => simp
/- Plain law: sums by a table are sums bit by bit. -/

def sB (n : BitVec 32) : BitVec 32 := bif n.getLsbD 0 then (n >>> 1) ^^^ 2197175160#32 else n >>> 1
theorem sB_xor (a b : BitVec 32) : sB (a ^^^ b) = sB a ^^^ sB b := by
  unfold sB
  rw [BitVec.getLsbD_xor, BitVec.ushiftRight_xor_distrib]
  cases a.getLsbD 0 <;> cases b.getLsbD 0 <;> simp only [cond_true, cond_false, Bool.xor_false, Bool.xor_true, Bool.not_true, Bool.not_false]
  · rw [BitVec.xor_assoc]
  · rw [BitVec.xor_assoc, BitVec.xor_assoc, BitVec.xor_comm (b >>> 1)]
  · rw [BitVec.xor_assoc, BitVec.xor_comm (2197175160#32) (b >>> 1 ^^^ 2197175160#32), BitVec.xor_assoc (b >>> 1), BitVec.xor_self, BitVec.xor_zero]
theorem sB_even {a : BitVec 32} (h : a.getLsbD 0 = false) : sB a = a >>> 1 := by unfold sB; rw [h]; rfl
theorem bv_nib (n : BitVec 32) : n = ((n >>> 4) <<< 4) ^^^ (n &&& 15#32) := by
  apply BitVec.eq_of_getLsbD_eq
  intro i hi
  have h15 : (15#32).getLsbD i = decide (i < 4) := by
    rw [BitVec.getLsbD_ofNat, show (15 : Nat) = 2 ^ 4 - 1 from rfl, Nat.testBit_two_pow_sub_one]
    by_cases h : i < 4 <;> simp [h]; omega
  simp only [BitVec.getLsbD_xor, BitVec.getLsbD_and, h15, BitVec.getLsbD_shiftLeft, BitVec.getLsbD_ushiftRight]
  by_cases h : i < 4
  · simp [h, hi]
  · rw [show 4 + (i - 4) = i by omega]; simp [h, hi]
theorem sB_hi (n : BitVec 32) : sB (sB (sB (sB ((n >>> 4) <<< 4)))) = n >>> 4 := by
  have g : ∀ i j, i + j < 4 → ((((n >>> 4) <<< 4) >>> i).getLsbD j) = false := fun i j h => by
    rw [BitVec.getLsbD_ushiftRight, BitVec.getLsbD_shiftLeft]
    simp [h]
  have e1 : sB ((n >>> 4) <<< 4) = ((n >>> 4) <<< 4) >>> 1 := sB_even (by simp)
  have e2 : sB (((n >>> 4) <<< 4) >>> 1) = ((n >>> 4) <<< 4) >>> 2 := by rw [sB_even (g 1 0 (by omega)), ← BitVec.shiftRight_add]
  have e3 : sB (((n >>> 4) <<< 4) >>> 2) = ((n >>> 4) <<< 4) >>> 3 := by rw [sB_even (g 2 0 (by omega)), ← BitVec.shiftRight_add]
  have e4 : sB (((n >>> 4) <<< 4) >>> 3) = ((n >>> 4) <<< 4) >>> 4 := by rw [sB_even (g 3 0 (by omega)), ← BitVec.shiftRight_add]
  rw [e1, e2, e3, e4]
  apply BitVec.eq_of_getLsbD_eq
  intro i hi
  rw [BitVec.getLsbD_ushiftRight, BitVec.getLsbD_shiftLeft, show 4 + i - 4 = i by omega]
  by_cases h : 4 + i < 32
  · simp [h]
  · have : (n >>> 4).getLsbD i = false := by rw [BitVec.getLsbD_ushiftRight]; exact BitVec.getLsbD_of_ge _ _ (by omega)
    rw [this]; simp
def wordsL : List UInt32 := [(0 : UInt32), (274646895 : UInt32), (549293790 : UInt32), (820201905 : UInt32), (1098587580 : UInt32), (1361435347 : UInt32), (1640403810 : UInt32), (1905808397 : UInt32), (2197175160 : UInt32), (2460548119 : UInt32), (2722870694 : UInt32), (2987750089 : UInt32), (3280807620 : UInt32), (3553878443 : UInt32), (3811616794 : UInt32), (4084100981 : UInt32)]
theorem sB_lo : ∀ k : Fin 16, sB (sB (sB (sB (BitVec.ofNat 32 k.val)))) = (wordsL.getD k.val 0).toBitVec := by decide
theorem and15 (n : BitVec 32) : (n &&& 15#32).toNat < 16 := by
  rw [BitVec.toNat_and]
  exact Nat.lt_of_le_of_lt Nat.and_le_right (by decide)
theorem sB_nib (n : BitVec 32) : sB (sB (sB (sB n))) = (n >>> 4) ^^^ (wordsL.getD (n &&& 15#32).toNat 0).toBitVec := by
  have h := sB_lo ⟨(n &&& 15#32).toNat, and15 n⟩
  simp only [BitVec.ofNat_toNat, BitVec.setWidth_eq] at h
  rw [← h]
  have e := bv_nib n
  calc sB (sB (sB (sB n))) = sB (sB (sB (sB (((n >>> 4) <<< 4) ^^^ (n &&& 15#32))))) := by rw [← e]
    _ = _ := by rw [sB_xor, sB_xor, sB_xor, sB_xor, sB_hi]

/-- One step on whole numbers. -/
def f1 (n : UInt32) : UInt32 := ⟨sB n.toBitVec⟩
theorem f1_eq (n : UInt32) : f1 n = bif ((n % 2).toNat : Int) == ((1 : UInt32).toNat : Int) then (n / 2) ^^^ 2197175160 else n / 2 := by
  have h2 : (n / 2).toBitVec = n.toBitVec >>> 1 := by
    apply BitVec.eq_of_toNat_eq
    show (n.toBitVec / 2#32).toNat = _
    rw [BitVec.toNat_udiv, BitVec.toNat_ushiftRight, Nat.shiftRight_eq_div_pow]; rfl
  have h3 : n.toBitVec.getLsbD 0 = (((n % 2).toNat : Int) == ((1 : UInt32).toNat : Int)) := by
    rw [UInt32.toNat_mod]
    show n.toBitVec.toNat.testBit 0 = _
    rw [Nat.testBit_zero, Bool.eq_iff_iff]
    simp
    show n.toNat % 2 = 1 ↔ _
    omega
  unfold f1 sB
  rw [h3]
  cases (((n % 2).toNat : Int) == ((1 : UInt32).toNat : Int)) with
  | true => apply UInt32.toBitVec_inj.1; simp only [cond_true]; rw [UInt32.toBitVec_xor, h2]; rfl
  | false => apply UInt32.toBitVec_inj.1; simp only [cond_false]; exact h2.symm
theorem shrW4 (n : UInt32) : (shrW n 4).toBitVec = n.toBitVec >>> 4 := by
  apply BitVec.eq_of_toNat_eq
  rw [BitVec.toNat_ushiftRight, Nat.shiftRight_eq_div_pow]
  unfold shrW
  have : n.toNat < 4294967296 := n.toNat_lt
  show (UInt32.ofNat (n.toNat / 2 ^ min 4 32)).toNat = _
  rw [UInt32.toNat_ofNat_of_lt' (show n.toNat / 2 ^ min 4 32 < UInt32.size from Nat.lt_of_le_of_lt (Nat.div_le_self _ _) this)]
  rfl
theorem nib_lt (n : UInt32) : (n &&& 15).toNat < 16 := by
  have := and15 n.toBitVec
  exact this
theorem nib_get (n : UInt32) : wordsL[(n &&& 15).toNat]? = some (wordsL.getD (n &&& 15).toNat 0) := by
  rw [List.getD_eq_getElem?_getD, List.getElem?_eq_getElem (show (n &&& 15).toNat < wordsL.length from nib_lt n)]; rfl
theorem nib_eq (n : UInt32) : shrW n 4 ^^^ wordsL.getD (n &&& 15).toNat 0 = f1 (f1 (f1 (f1 n))) := by
  apply UInt32.toBitVec_inj.1
  rw [UInt32.toBitVec_xor, shrW4]
  exact (sB_nib n.toBitVec).symm

/-- A byte more. -/
def ov (s : UInt32) (x : UInt8) : UInt32 := f1 (f1 (f1 (f1 (f1 (f1 (f1 (f1 (s ^^^ scW.of (x.toNat : Int)))))))))
theorem bnd_u {n : Nat} (u : UInt32) (h : u.toNat < n) : bnd n (u.toNat : Int) = some u.toNat := bnd_nat h
theorem over_step (l : List UInt8) (s : UInt32) (k : Nat) (hk : k < l.length) (hl : l.length < 4294967296) : poly_Over_L1 l (ArrV.mk wordsL) s (k : Int) = some (Ctl.next (ov s l[k], ((k + 1 : Nat) : Int))) := by
  unfold poly_Over_L1
  rw [decide_eq_true (show (k : Int) < (l.length : Int) by omega), idx_nat, List.getElem?_eq_getElem hk, wI_succ (by omega)]
  simp only [cond_true, Option.bind_some]
  rw [bnd_u _ (nib_lt _)]
  simp only [Option.bind_some]
  rw [nib_get]
  simp only [Option.bind_some]
  rw [nib_eq, bnd_u _ (nib_lt _)]
  simp only [Option.bind_some]
  rw [nib_get]
  simp only [Option.bind_some]
  rw [nib_eq]
  rfl
def crcF (s : UInt32) (l : List UInt8) : UInt32 := l.foldl ov s
theorem crcF_snoc (s : UInt32) (l : List UInt8) (k : Nat) (hk : k < l.length) : crcF s (l.take (k + 1)) = ov (crcF s (l.take k)) l[k] := by
  unfold crcF
  rw [take_succ_get l k l[k] (List.getElem?_eq_getElem hk), List.foldl_append]; rfl
def crc (l : List UInt8) : UInt32 := 4294967295 ^^^ crcF 4294967295 l
theorem psum_eq (l : List UInt8) (hl : l.length < 4294967296) : poly_Sum l = some (crc l) := by
  unfold poly_Sum poly_Over poly_words
  simp only [Option.bind_some]
  have h := loop_run (step := fun s : UInt32 × Int => poly_Over_L1 l (ArrV.mk wordsL) s.1 s.2) (fun k => (crcF 4294967295 (l.take k), (k : Int))) l.length (crcF 4294967295 l) (by unfold FUEL; omega)
    (fun k hk => by
      show poly_Over_L1 l (ArrV.mk wordsL) _ _ = _
      rw [over_step l _ k hk hl, crcF_snoc _ _ _ hk])
    (by
      show poly_Over_L1 l (ArrV.mk wordsL) _ _ = _
      unfold poly_Over_L1
      rw [decide_eq_false (by omega), List.take_length]; rfl)
  have h0 : ((4294967295 : UInt32) ^^^ 0) = 4294967295 := by decide
  rw [h0]
  have h : loopM (fun s : UInt32 × Int => poly_Over_L1 l (ArrV.mk wordsL) s.1 s.2) FUEL (4294967295, 0) = some (crcF 4294967295 l) := h
  show Option.bind (Option.bind (loopM (fun s : UInt32 × Int => poly_Over_L1 l (ArrV.mk wordsL) s.1 s.2) FUEL (4294967295, 0)) _) _ = _
  rw [h]
  rfl
theorem scW_not (a : UInt32) : scW.of (((4294967295 : UInt32).toNat : Int) - (a.toNat : Int)) = 4294967295 ^^^ a := by
  have h : a.toNat < 4294967296 := a.toNat_lt
  have e1 : ((4294967295 : UInt32).toNat : Int) = 4294967295 := rfl
  have e2 : scW.of (((4294967295 : UInt32).toNat : Int) - (a.toNat : Int)) = UInt32.ofNat (4294967295 - a.toNat) := by
    unfold scW.of
    rw [e1]
    congr 1
    omega
  rw [e2]
  apply UInt32.toBitVec_inj.1
  rw [UInt32.toBitVec_xor]
  apply BitVec.eq_of_getLsbD_eq
  intro i hi
  have e3 : (UInt32.ofNat (4294967295 - a.toNat)).toBitVec = ~~~ a.toBitVec := by
    apply BitVec.eq_of_toNat_eq
    show (UInt32.ofNat (4294967295 - a.toNat)).toNat = _
    rw [UInt32.toNat_ofNat_of_lt' (show 4294967295 - a.toNat < UInt32.size by show _ < 4294967296; omega), BitVec.toNat_not]
    rfl
  rw [e3]
  have e4 : (4294967295 : UInt32).toBitVec = BitVec.allOnes 32 := by decide
  rw [e4, BitVec.getLsbD_xor, BitVec.getLsbD_not, BitVec.getLsbD_allOnes]
  simp [hi]
theorem not_not32 (a : UInt32) : (4294967295 : UInt32) ^^^ (4294967295 ^^^ a) = a := by rw [← UInt32.xor_assoc, UInt32.xor_self, UInt32.zero_xor]
def fk : Nat → UInt32 → UInt32
  | 0, n => n
  | k + 1, n => f1 (fk k n)
/- Plain law: numbers in a block; a label's block. -/

/-- A number's byte. -/
def byt (n i : Nat) : UInt8 := UInt8.ofNat (n / 256 ^ i % 256)
/-- A block behind the first so many bytes of a number. -/
def setR (b : List UInt8) (at_ n : Nat) : Nat → List UInt8
  | 0 => b
  | k + 1 => (setR b at_ n k).set (at_ + k) (byt n k)
theorem setR_len (b : List UInt8) (at_ n : Nat) : ∀ k, (setR b at_ n k).length = b.length
  | 0 => rfl
  | k + 1 => by rw [setR, List.length_set, setR_len b at_ n k]
theorem scB_nat (m : Nat) : scB.of (m : Int) = UInt8.ofNat (m % 256) := by
  unfold scB.of; congr 1
theorem pow8 : ∀ i : Nat, i ≤ 4 → (2 : Int) ^ (min ((8 * (i : Int)).toNat) 64) = ((256 ^ i : Nat) : Int)
  | 0, _ => rfl
  | 1, _ => rfl
  | 2, _ => rfl
  | 3, _ => rfl
  | 4, _ => rfl
  | i + 5, h => absurd h (by omega)
theorem shr_nat (n i : Nat) (h : i ≤ 4) : shrI (n : Int) (wI ((8 : Int) * (i : Int))) = some ((n / 256 ^ i : Nat) : Int) := by
  rw [wI_id (by omega) (by omega)]
  unfold shrI
  rw [if_neg (by omega), pow8 i h]
  congr 1
  rw [Int.fdiv_eq_ediv_of_nonneg _ (Int.natCast_nonneg _)]
  rfl
def fullP (b : List UInt8) : List UInt8 := if b.length = 0 then List.replicate 128 0 else b
theorem fullP_len {b : List UInt8} (h : b.length = 0 ∨ b.length = 128) : (fullP b).length = 128 := by
  unfold fullP
  split
  · simp
  · omega
theorem whole_eq {b : List UInt8} (h : b.length = 0 ∨ b.length = 128) : pack_whole b = some (ArrV.mk (fullP b), 0) := by
  unfold pack_whole fullP
  rcases h with h | h
  · rw [if_pos h]
    have : b = [] := List.eq_nil_of_length_eq_zero h
    subst this
    rw [show ((([] : List UInt8).length : Int) != 0 && (([] : List UInt8).length : Int) != 128) = false from rfl]
    simp only [cond_false]
    refine congrArg some (Prod.ext (congrArg ArrV.mk ?_) rfl)
    unfold cpyA
    simp
  · rw [if_neg (by omega), h]
    rw [show (((128 : Nat) : Int) != 0 && ((128 : Nat) : Int) != 128) = false from rfl]
    simp only [cond_false]
    refine congrArg some (Prod.ext (congrArg ArrV.mk ?_) rfl)
    unfold cpyA
    rw [List.length_replicate, ← h, List.take_length, h]
    simp
theorem whole_bad {b : List UInt8} (h : ¬ (b.length = 0 ∨ b.length = 128)) : pack_whole b = some (ArrV.mk (List.replicate 128 0), 3) := by
  unfold pack_whole
  rw [show ((((b).length : Int) != (0 : Int)) && (((b).length : Int) != (128 : Int))) = true by rw [Bool.and_eq_true, bne_iff_ne, bne_iff_ne]; omega]
  simp only [cond_true]
theorem put_eq {b : List UInt8} {at_ sz n : Nat} (hb : b.length = 0 ∨ b.length = 128) (h1 : 1 ≤ sz) (h2 : sz ≤ 4) (h3 : at_ + sz ≤ 128) (hn : n < 256 ^ sz) :
    pack_Put b (at_ : Int) (sz : Int) (n : Int) = some (setR (fullP b) at_ n sz, 0) := by
  unfold pack_Put pack_fits
  rw [whole_eq hb]
  simp only [Option.bind_some, show ((0 : Int) != 0) = false from rfl, cond_false]
  rw [wI_id (by omega) (by omega)]
  rw [show ((((decide ((sz : Int) ≥ 1)) && (decide ((sz : Int) ≤ 4))) && (decide ((at_ : Int) ≥ 0))) && (decide ((at_ : Int) ≤ 128 - (sz : Int)))) = true by simp; omega]
  rw [show decide ((n : Int) < 0) = false by simp]
  simp only [Bool.not_true, Bool.or_false, Bool.false_or, Bool.not_false, gO, cond_true]
  rw [shr_nat n sz h2]
  simp only [Option.bind_some]
  rw [show n / 256 ^ sz = 0 from Nat.div_eq_of_lt hn]
  simp only [show (((0 : Nat) : Int) != 0) = false from rfl, cond_false]
  have h := loop_run (step := fun s : Int × List UInt8 => pack_Put_L1 (at_ : Int) (sz : Int) (n : Int) s.1 s.2) (fun k => ((k : Int), setR (fullP b) at_ n k)) sz (setR (fullP b) at_ n sz) (by unfold FUEL; omega)
    (fun k hk => by
      show pack_Put_L1 _ _ _ _ _ = _
      unfold pack_Put_L1
      rw [decide_eq_true (show (k : Int) < (sz : Int) by omega), shr_nat n k (by omega), wI_succ (by omega)]
      simp only [cond_true, Option.bind_some]
      rw [wI_id (by omega) (by omega), show ((at_ : Int) + (k : Int)) = ((at_ + k : Nat) : Int) by omega, bnd_nat (by omega)]
      simp only [Option.bind_some]
      rw [scB_nat]; rfl)
    (by
      show pack_Put_L1 _ _ _ _ _ = _
      unfold pack_Put_L1
      rw [decide_eq_false (by omega)]; rfl)
  have h : loopM (fun s : Int × List UInt8 => pack_Put_L1 (at_ : Int) (sz : Int) (n : Int) s.1 s.2) FUEL ((0 : Int), fullP b) = some (setR (fullP b) at_ n sz) := h
  rw [h]; rfl

/-- What stands in a block behind some fields. -/
structure NField where
  n : Nat
  at_ : Nat
  size : Nat
def NField.f (x : NField) : Field := ⟨(x.n : Int), (x.at_ : Int), (x.size : Int)⟩
def NField.ok (x : NField) : Prop := 1 ≤ x.size ∧ x.size ≤ 4 ∧ x.at_ + x.size ≤ 128 ∧ x.n < 256 ^ x.size
def putF (b : List UInt8) (x : NField) : List UInt8 := setR (fullP b) x.at_ x.n x.size
theorem putFs_len : ∀ (fs : List NField) (b : List UInt8), (b.length = 0 ∨ b.length = 128) → ((fs.foldl putF b).length = 0 ∨ (fs.foldl putF b).length = 128)
  | [], _, h => h
  | x :: fs, b, h => putFs_len fs (putF b x) (by unfold putF; rw [setR_len, fullP_len h]; exact .inr rfl)
theorem fields_loop (fs : List NField) (hf : ∀ x ∈ fs, x.ok) (hl : fs.length < 4294967296) :
    loopM (fun s : (List UInt8) × Int => label_Write_L1 (fs.map NField.f) s.1 s.2) FUEL (([] : List UInt8), (0 : Int)) = some (Sum.inl (fs.foldl putF [])) := by
  have h := loop_run (step := fun s : (List UInt8) × Int => label_Write_L1 (fs.map NField.f) s.1 s.2) (fun k => ((fs.take k).foldl putF [], (k : Int))) fs.length (Sum.inl (fs.foldl putF [])) (by unfold FUEL; omega)
    (fun k hk => by
      show label_Write_L1 _ _ _ = _
      unfold label_Write_L1
      rw [List.length_map, decide_eq_true (show (k : Int) < (fs.length : Int) by omega), idx_nat, List.getElem?_map, List.getElem?_eq_getElem hk, wI_succ (by omega)]
      simp only [cond_true, Option.bind_some, Option.map_some, NField.f]
      obtain ⟨h1, h2, h3, h4⟩ := hf fs[k] (List.getElem_mem hk)
      rw [put_eq (putFs_len (fs.take k) [] (.inl rfl)) h1 h2 h3 h4, take_succ_get fs k fs[k] (List.getElem?_eq_getElem hk), List.foldl_append]
      rfl)
    (by
      show label_Write_L1 _ _ _ = _
      unfold label_Write_L1
      rw [List.length_map, decide_eq_false (by omega), List.take_length]; rfl)
  exact h

def lostN (l : Label) : Nat := if l.Lost = -1 then 255 else l.Lost.toNat
/-- A label's numbers are small. -/
structure OkLab (l : Label) : Prop where
  ev : l.Events.toNat ≤ 2147483648
  mem : 3 ≤ l.Members ∧ l.Members ≤ 16
  ch : 1 ≤ l.Chunk ∧ l.Chunk ≤ 8
  rows : 1 ≤ l.Rows ∧ l.Rows ≤ 8
  log : (l.Members + 1) * 3 ≤ l.Log ∧ l.Log ≤ 255
  me : 0 ≤ l.Me ∧ l.Me < l.Members
  done : 0 ≤ l.Done ∧ l.Done ≤ l.Chunk * l.Rows
  lost : -1 ≤ l.Lost ∧ l.Lost < l.Members
  none : ¬ (l.Lost = -1 ∧ 0 < l.Done)
theorem OkLab.done64 {l : Label} (h : OkLab l) : l.Done ≤ 64 := by
  have h1 := h.done.2
  have h2 : l.Chunk * l.Rows ≤ 8 * l.Rows := Int.mul_le_mul_of_nonneg_right h.ch.2 (by have := h.rows; omega)
  have := h.rows
  omega
def fieldsN (l : Label) : List NField := [⟨76, 0, 1⟩, ⟨l.Id.toNat, 1, 4⟩, ⟨l.Events.toNat, 5, 4⟩, ⟨l.Members.toNat, 9, 1⟩, ⟨l.Chunk.toNat, 10, 1⟩, ⟨l.Rows.toNat, 11, 1⟩, ⟨l.Log.toNat, 12, 1⟩, ⟨l.Me.toNat, 13, 1⟩, ⟨lostN l, 14, 1⟩, ⟨l.Done.toNat, 15, 1⟩, ⟨(bif l.Open then 1 else 0), 16, 1⟩]
theorem fieldsN_ok {l : Label} (h : OkLab l) : ∀ x ∈ fieldsN l, x.ok := by
  have h1 := h.mem
  have h2 := h.ch
  have h3 := h.rows
  have h4 := h.log
  have h5 := h.me
  have h6 := h.done
  have h7 := h.lost
  have h8 := h.done64
  have h9 := h.ev
  have hi := l.Id.toNat_lt
  have hl : lostN l < 256 := by unfold lostN; split <;> omega
  have ho : (bif l.Open then 1 else 0) < 256 := by cases l.Open <;> decide
  intro x hx
  simp only [fieldsN, List.mem_cons, List.not_mem_nil, or_false] at hx
  rcases hx with rfl | rfl | rfl | rfl | rfl | rfl | rfl | rfl | rfl | rfl | rfl <;> refine ⟨?_, ?_, ?_, ?_⟩ <;> simp <;> omega
theorem fields_eq {l : Label} (h1 : 0 ≤ l.Members) (h2 : 0 ≤ l.Chunk) (h3 : 0 ≤ l.Rows) (h4 : 0 ≤ l.Log) (h5 : 0 ≤ l.Me) (h6 : 0 ≤ l.Done) (h7 : -1 ≤ l.Lost) : label_fields l = some ((fieldsN l).map NField.f) := by
  have hi : l.Id.toNat < 4294967296 := l.Id.toNat_lt
  have he : l.Events.toNat < 4294967296 := l.Events.toNat_lt
  have e1 : wI (l.Id.toNat : Int) = (l.Id.toNat : Int) := wI_id (by omega) (by omega)
  have e2 : wI (l.Events.toNat : Int) = (l.Events.toNat : Int) := wI_id (by omega) (by omega)
  have key : ∀ (j1 j2 : Int), label_fields_J2 l j1 j2 = some [⟨76, 0, 1⟩, ⟨(l.Id.toNat : Int), 1, 4⟩, ⟨(l.Events.toNat : Int), 5, 4⟩, ⟨l.Members, 9, 1⟩, ⟨l.Chunk, 10, 1⟩, ⟨l.Rows, 11, 1⟩, ⟨l.Log, 12, 1⟩, ⟨l.Me, 13, 1⟩, ⟨j1, 14, 1⟩, ⟨l.Done, 15, 1⟩, ⟨j2, 16, 1⟩] := by
    intro j1 j2
    unfold label_fields_J2
    rw [e1, e2]
    rfl
  have hm : (fieldsN l).map NField.f = [⟨76, 0, 1⟩, ⟨(l.Id.toNat : Int), 1, 4⟩, ⟨(l.Events.toNat : Int), 5, 4⟩, ⟨l.Members, 9, 1⟩, ⟨l.Chunk, 10, 1⟩, ⟨l.Rows, 11, 1⟩, ⟨l.Log, 12, 1⟩, ⟨l.Me, 13, 1⟩, ⟨(lostN l : Int), 14, 1⟩, ⟨l.Done, 15, 1⟩, ⟨((bif l.Open then 1 else 0 : Nat) : Int), 16, 1⟩] := by
    simp only [fieldsN, List.map_cons, List.map_nil, NField.f, Int.toNat_of_nonneg h1, Int.toNat_of_nonneg h2, Int.toNat_of_nonneg h3, Int.toNat_of_nonneg h4, Int.toNat_of_nonneg h5, Int.toNat_of_nonneg h6]
    rfl
  rw [hm]
  unfold label_fields label_fields_J1 lostN
  rw [key, key, key, key]
  by_cases hL : l.Lost = -1
  · rw [show (l.Lost == -1) = true by simpa using hL, if_pos hL]
    cases l.Open <;> rfl
  · rw [show (l.Lost == -1) = false by simpa using hL, if_neg hL, Int.toNat_of_nonneg (by omega)]
    cases l.Open <;> rfl
/-- The seventeen bytes. -/
def headB (l : Label) : List UInt8 := [76, byt l.Id.toNat 0, byt l.Id.toNat 1, byt l.Id.toNat 2, byt l.Id.toNat 3, byt l.Events.toNat 0, byt l.Events.toNat 1, byt l.Events.toNat 2, byt l.Events.toNat 3, byt l.Members.toNat 0, byt l.Chunk.toNat 0, byt l.Rows.toNat 0, byt l.Log.toNat 0, byt l.Me.toNat 0, byt (lostN l) 0, byt l.Done.toNat 0, byt (bif l.Open then 1 else 0) 0]
def bodyB (l : Label) : List UInt8 := headB l ++ List.replicate 111 0
theorem bodyB_len (l : Label) : (bodyB l).length = 128 := by unfold bodyB headB; simp
def numB (n k : Nat) : List UInt8 := (List.range k).map (byt n)
theorem numB_len (n k : Nat) : (numB n k).length = k := by unfold numB; simp
theorem setR_app (h : List UInt8) (n : Nat) : ∀ (k m : Nat), k ≤ m → setR (h ++ List.replicate m 0) h.length n k = h ++ numB n k ++ List.replicate (m - k) 0
  | 0, m, _ => by simp [setR, numB]
  | k + 1, m, hk => by
    rw [setR, setR_app h n k m (by omega)]
    obtain ⟨j, hj⟩ : ∃ j, m - k = j + 1 := ⟨m - k - 1, by omega⟩
    rw [hj, List.replicate_succ, show m - (k + 1) = j by omega]
    rw [List.set_append_right _ _ (by rw [List.length_append, numB_len]; omega)]
    rw [List.length_append, numB_len, Nat.sub_self, List.set_cons_zero]
    rw [show numB n (k + 1) = numB n k ++ [byt n k] by unfold numB; rw [List.range_succ, List.map_append]; rfl]
    simp
def chainF (k : Nat) : List NField → Bool
  | [] => true
  | x :: fs => Nat.beq x.at_ k && chainF (k + x.size) fs
def sumF : List NField → Nat
  | [] => 0
  | x :: fs => x.size + sumF fs
theorem putFs_app : ∀ (fs : List NField) (h : List UInt8) (m : Nat), h.length + m = 128 → chainF h.length fs = true → sumF fs ≤ m →
    fs.foldl putF (h ++ List.replicate m 0) = h ++ (fs.flatMap fun x => numB x.n x.size) ++ List.replicate (m - sumF fs) 0
  | [], h, m, _, _, _ => by simp [sumF]
  | x :: fs, h, m, hm, hc, hs => by
    simp only [chainF, Bool.and_eq_true] at hc
    have h1 : x.at_ = h.length := Nat.eq_of_beq_eq_true hc.1
    have h2 : x.size + sumF fs ≤ m := hs
    rw [List.foldl_cons]
    have e : putF (h ++ List.replicate m 0) x = (h ++ numB x.n x.size) ++ List.replicate (m - x.size) 0 := by
      unfold putF fullP
      rw [if_neg (by rw [List.length_append, List.length_replicate]; omega), h1, setR_app h x.n x.size m (by omega)]
    rw [e, putFs_app fs (h ++ numB x.n x.size) (m - x.size) (by rw [List.length_append, numB_len]; omega) (by rw [List.length_append, numB_len]; exact hc.2) (by omega)]
    rw [List.flatMap_cons, show m - x.size - sumF fs = m - sumF (x :: fs) by show _ = m - (x.size + sumF fs); omega]
    simp
theorem putF_nil (x : NField) : putF [] x = putF ([] ++ List.replicate 128 0) x := by
  unfold putF fullP
  rw [List.nil_append, if_pos (by rfl), if_neg (by simp)]
theorem putFs_eq (l : Label) : (fieldsN l).foldl putF [] = bodyB l := by
  have h := putFs_app (fieldsN l) [] 128 rfl rfl (by show 17 ≤ 128; omega)
  have e : (fieldsN l).foldl putF [] = (fieldsN l).foldl putF ([] ++ List.replicate 128 0) := by
    rw [show fieldsN l = ⟨76, 0, 1⟩ :: (fieldsN l).tail from rfl, List.foldl_cons, List.foldl_cons, putF_nil]
  rw [e, h]
  rfl
/-- A label's block. -/
def blkL (l : Label) : List UInt8 := setR (bodyB l) 124 (crc ((bodyB l).take 124)).toNat 4
theorem blkL_len (l : Label) : (blkL l).length = 128 := by unfold blkL; rw [setR_len, bodyB_len]
theorem mayC_lab {l : Label} : mayC ⟨l.Id, l.Members, l.Chunk, l.Rows, l.Log, 2⟩ = decide ((3 ≤ l.Members ∧ l.Members ≤ 16) ∧ (1 ≤ l.Chunk ∧ l.Chunk ≤ 8) ∧ (1 ≤ l.Rows ∧ l.Rows ≤ 8) ∧ ((l.Members + 1) * 3 ≤ l.Log ∧ l.Log ≤ 255)) := by
  rw [Bool.eq_iff_iff, mayC_iff, decide_eq_true_eq]
  unfold MayC
  simp
theorem lcheck_eq (l : Label) : label_Check l = some (bif mayC ⟨l.Id, l.Members, l.Chunk, l.Rows, l.Log, 2⟩ && decide (l.Events.toNat ≤ 2147483648 ∧ 0 ≤ l.Me ∧ l.Me < l.Members ∧ 0 ≤ l.Done ∧ l.Done ≤ l.Chunk * l.Rows ∧ -1 ≤ l.Lost ∧ l.Lost < l.Members ∧ ¬ (l.Lost = -1 ∧ 0 < l.Done)) then 0 else 8) := by
  unfold label_Check
  rw [stripes_eq]
  cases hc : mayC ⟨l.Id, l.Members, l.Chunk, l.Rows, l.Log, 2⟩ with
  | false => rfl
  | true =>
    simp only [cond_true, Option.bind_some, Bool.true_and, show ((0 : Int) != 0) = false from rfl, Bool.false_or, show ((2147483648 : UInt32).toNat : Int) = 2147483648 from rfl]
    by_cases hd : (l.Events.toNat ≤ 2147483648 ∧ 0 ≤ l.Me ∧ l.Me < l.Members ∧ 0 ≤ l.Done ∧ l.Done ≤ l.Chunk * l.Rows ∧ -1 ≤ l.Lost ∧ l.Lost < l.Members ∧ ¬ (l.Lost = -1 ∧ 0 < l.Done))
    · rw [decide_eq_true hd]
      rw [show (((((((decide ((l.Events.toNat : Int) > 2147483648) || decide (l.Me < 0)) || decide (l.Me ≥ l.Members)) || decide (l.Done < 0)) || decide (l.Done > l.Chunk * l.Rows)) || decide (l.Lost < -1)) || decide (l.Lost ≥ l.Members)) || (l.Lost == -1 && decide (l.Done > 0))) = false by simp; omega]
      rfl
    · rw [decide_eq_false hd]
      rw [show (((((((decide ((l.Events.toNat : Int) > 2147483648) || decide (l.Me < 0)) || decide (l.Me ≥ l.Members)) || decide (l.Done < 0)) || decide (l.Done > l.Chunk * l.Rows)) || decide (l.Lost < -1)) || decide (l.Lost ≥ l.Members)) || (l.Lost == -1 && decide (l.Done > 0))) = true by simp; omega]
      rfl
theorem lcheck_ok {l : Label} (h : OkLab l) : label_Check l = some 0 := by
  rw [lcheck_eq, mayC_lab, decide_eq_true ⟨h.mem, h.ch, h.rows, h.log⟩, decide_eq_true ⟨h.ev, h.me.1, h.me.2, h.done.1, h.done.2, h.lost.1, h.lost.2, h.none⟩]; rfl
theorem slc_pre {α : Type} (l : List α) (n : Nat) (h : n ≤ l.length) : slc l 0 (n : Int) = some (l.take n) := by
  unfold slc; rw [if_pos (by omega)]; simp
theorem write_of {l : Label} (h : label_Check l = some 0) (hf : label_fields l = some ((fieldsN l).map NField.f)) (hok : ∀ x ∈ fieldsN l, x.ok) : label_Write l = some (blkL l, 0) := by
  have hl := bodyB_len l
  have hc : (crc ((bodyB l).take 124)).toNat < 4294967296 := (crc ((bodyB l).take 124)).toNat_lt
  have e1 : slc (bodyB l) 0 (124 : Int) = some ((bodyB l).take 124) := slc_pre _ 124 (by omega)
  have e2 : pack_Put (bodyB l) (124 : Int) (4 : Int) (wI ((crc ((bodyB l).take 124)).toNat : Int)) = some (setR (fullP (bodyB l)) 124 (crc ((bodyB l).take 124)).toNat 4, 0) := by
    rw [wI_id (by omega) (by omega)]
    exact put_eq (at_ := 124) (sz := 4) (.inr hl) (by omega) (by omega) (by omega) hc
  have e3 : fullP (bodyB l) = bodyB l := by unfold fullP; rw [if_neg (by omega)]
  rw [e3] at e2
  unfold label_Write
  rw [h, hf, Option.bind_some, show ((0 : Int) != 0) = false from rfl, cond_false, Option.bind_some, fields_loop (fieldsN l) hok (by simp [fieldsN]), putFs_eq, Option.bind_some, Sum.elim_inl, e1, Option.bind_some, psum_eq _ (by rw [List.length_take]; omega), Option.bind_some, e2, Option.bind_some]
  rfl
theorem write_eq {l : Label} (h : OkLab l) : label_Write l = some (blkL l, 0) :=
  write_of (lcheck_ok h) (fields_eq (by have := h.mem; omega) (by have := h.ch; omega) (by have := h.rows; omega) (by have := h.log; have := h.mem; omega) h.me.1 h.done.1 h.lost.1) (fieldsN_ok h)
/- Plain law: losses. -/

def okL (c : Config) (l : Loss) : Bool :=
  decide ((l.Events.toNat : Int) ≤ 2147483648 ∧ -1 ≤ l.Lost ∧ l.Lost < c.Members ∧ 0 ≤ l.Done ∧ l.Done ≤ l.Pos ∧ l.Pos ≤ c.Chunk * c.Rows ∧ ¬ (l.Spare = true ∧ l.Lost = -1) ∧ (l.Spare = true ∨ l.Pos ≤ 0))
def chk (c : Config) (l : Loss) : Int := bif mayC c && okL c l then 0 else 8
theorem chk_1 (c : Config) (l : Loss) : loss_Check c l = some (chk c l) := by
  unfold loss_Check chk
  rw [stripes_eq]
  cases hc : mayC c with
  | false => simp
  | true =>
    simp only [cond_true, Option.bind_some, Bool.true_and, show ((0 : Int) != 0) = false from rfl, Bool.false_or, show ((2147483648 : UInt32).toNat : Int) = 2147483648 from rfl]
    cases ho : okL c l with
    | true =>
      simp only [okL, decide_eq_true_eq] at ho
      obtain ⟨h1, h2, h3, h4, h5, h6, h7, h8⟩ := ho
      have e1 : (((((decide ((l.Events.toNat : Int) > 2147483648) || decide (l.Lost < -1)) || decide (l.Lost ≥ c.Members)) || decide (l.Done < 0)) || decide (l.Done > l.Pos)) || decide (l.Pos > c.Chunk * c.Rows)) = false := by simp; omega
      have e2 : ((l.Spare && (l.Lost == -1)) || (!l.Spare && decide (l.Pos > 0))) = false := by
        cases hs : l.Spare <;> simp [hs] at h7 h8 ⊢ <;> omega
      rw [e1, e2]; rfl
    | false =>
      simp only [okL, decide_eq_false_iff_not] at ho
      cases e1 : (((((decide ((l.Events.toNat : Int) > 2147483648) || decide (l.Lost < -1)) || decide (l.Lost ≥ c.Members)) || decide (l.Done < 0)) || decide (l.Done > l.Pos)) || decide (l.Pos > c.Chunk * c.Rows)) with
      | true => rfl
      | false =>
        have e2 : ((l.Spare && (l.Lost == -1)) || (!l.Spare && decide (l.Pos > 0))) = true := by
          simp at e1
          cases hs : l.Spare <;> simp [hs] at ho ⊢ <;> omega
        rw [e2]; rfl
theorem chk_cases (c : Config) (l : Loss) : chk c l = 8 ∨ (chk c l = 0 ∧ MayC c ∧ okL c l = true) := by
  unfold chk
  cases h1 : mayC c with
  | false => exact .inl rfl
  | true => cases h2 : okL c l with
    | false => exact .inl rfl
    | true => exact .inr ⟨rfl, (mayC_iff c).1 h1, rfl⟩

theorem stripes_may {c : Config} (h : MayC c) : shape_Stripes c = some (c.Chunk * c.Rows, 0) := by rw [stripes_eq, (mayC_iff c).2 h]; rfl

/- Plain law: the document's label block; losses told by labels. -/

theorem rem256 (n : Nat) : remI (n : Int) (256 : Int) = some ((n % 256 : Nat) : Int) := by
  unfold remI
  rw [if_neg (by omega)]
  rfl
theorem quo256 (n : Nat) (h : n < 9223372036854775807) : quoI (n : Int) (256 : Int) = some ((n / 256 : Nat) : Int) := by
  unfold quoI
  rw [if_neg (by omega)]
  have : (n : Int).tdiv 256 = ((n / 256 : Nat) : Int) := rfl
  rw [this, wI_id (by omega) (by omega)]
theorem scB_byt {x : Int} (h : 0 ≤ x) : scB.of x = byt x.toNat 0 := by
  obtain ⟨n, rfl⟩ := Int.eq_ofNat_of_zero_le h
  rw [scB_nat]
  unfold byt
  show UInt8.ofNat (n % 256) = UInt8.ofNat (n / 1 % 256)
  rw [Nat.div_one]
/-- The label that is told of a member. -/
def labO (c : Config) (l : Loss) (o : Bool) (i : Int) : Label := ⟨c.Id, l.Events, c.Members, c.Chunk, c.Rows, c.Log, i, l.Lost, l.Done, o⟩
def skipM (l : Loss) (i : Int) : Bool := (i == l.Lost) && !l.Spare
def actsT (c : Config) (l : Loss) (o : Bool) : Nat → List Act58
  | 0 => []
  | k + 1 => bif skipM l (k : Int) then actsT c l o k else actsT c l o k ++ [⟨(k : Int), 2, 0, blkL (labO c l o (k : Int))⟩]
theorem actsT_succ (c : Config) (l : Loss) (o : Bool) (k : Nat) : actsT c l o (k + 1) = bif skipM l (k : Int) then actsT c l o k else actsT c l o k ++ [⟨(k : Int), 2, 0, blkL (labO c l o (k : Int))⟩] := rfl
theorem actsT_len (c : Config) (l : Loss) (o : Bool) : ∀ k, (actsT c l o k).length ≤ k
  | 0 => Nat.le_refl _
  | k + 1 => by
    have := actsT_len c l o k
    unfold actsT
    cases skipM l (k : Int) <;> simp <;> omega
def upL (l : Loss) : Loss := ⟨scW.of ((l.Events.toNat : Int) + ((1 : UInt32).toNat : Int)), l.Lost, l.Spare, l.Pos, l.Done, l.NoLog, l.Broken⟩
theorem upL_ev {l : Loss} (h : l.Events.toNat < 2147483648) : (upL l).Events.toNat = l.Events.toNat + 1 := by
  show (scW.of ((l.Events.toNat : Int) + 1)).toNat = _
  unfold scW.of
  rw [show (((l.Events.toNat : Int) + 1) % 4294967296).toNat = l.Events.toNat + 1 by omega]
  rw [UInt32.toNat_ofNat_of_lt' (show l.Events.toNat + 1 < UInt32.size by show _ < 4294967296; omega)]
theorem okLab_of {c : Config} {l : Loss} (hc : MayC c) (hl : okL c l = true) (he : l.Events.toNat < 2147483648) (o : Bool) {k : Nat} (hk : (k : Int) < c.Members) : OkLab (labO c (upL l) o (k : Int)) := by
  simp only [okL, decide_eq_true_eq] at hl
  obtain ⟨h1, h2, h3, h4, h5, h6, h7, h8⟩ := hl
  obtain ⟨c1, c2, c3, c4, c5, c6⟩ := hc
  have h9 : (c.Members + 1) * 3 ≤ (c.Members + 1) * (c.Heads + 1) := Int.mul_le_mul_of_nonneg_left (by omega) (by omega)
  refine ⟨?_, c1, c2, c3, ⟨by show (c.Members + 1) * 3 ≤ c.Log; omega, c6⟩, ⟨Int.natCast_nonneg k, hk⟩, ⟨h4, by show l.Done ≤ c.Chunk * c.Rows; omega⟩, ⟨h2, h3⟩, ?_⟩
  · show (upL l).Events.toNat ≤ _
    rw [upL_ev he]; omega
  · rintro ⟨e1, e2⟩
    have e1 : l.Lost = -1 := e1
    have e2 : 0 < l.Done := e2
    cases hs : l.Spare with
    | true => exact h7 ⟨hs, e1⟩
    | false => rcases h8 with h | h
               · rw [hs] at h; cases h
               · omega
theorem labels_loop {c : Config} {l : Loss} (hc : MayC c) (hl : okL c l = true) (he : l.Events.toNat < 2147483648) (o : Bool) :
    loopM (fun s : (List Act58) × Int => loss_Labels_L1 c l o s.1 s.2) FUEL (([] : List Act58), (0 : Int)) = some (Sum.inl (actsT c (upL l) o c.Members.toNat)) := by
  have hm : c.Members = (c.Members.toNat : Int) := by have := hc.1; omega
  have hm2 : c.Members.toNat ≤ 16 := by have := hc.1; omega
  have h := loop_run (step := fun s : (List Act58) × Int => loss_Labels_L1 c l o s.1 s.2) (fun k => (actsT c (upL l) o k, (k : Int))) c.Members.toNat (Sum.inl (actsT c (upL l) o c.Members.toNat)) (by unfold FUEL; omega)
    (fun k hk => by
      show loss_Labels_L1 _ _ _ _ _ = _
      unfold loss_Labels_L1 loss_Labels_J2
      have hk' : (k : Int) < c.Members := by omega
      have hw : label_Write (Label.mk c.Id (scW.of ((l.Events.toNat : Int) + ((1 : UInt32).toNat : Int))) c.Members c.Chunk c.Rows c.Log (k : Int) l.Lost l.Done o) = some (blkL (labO c (upL l) o (k : Int)), 0) := write_eq (okLab_of hc hl he o hk')
      rw [decide_eq_true hk', cond_true, wI_succ (by omega), hw, Option.bind_some]
      rw [actsT_succ, show (((k : Int) == l.Lost) && (!l.Spare)) = skipM (upL l) (k : Int) from rfl]
      cases skipM (upL l) (k : Int) with
      | true => rfl
      | false =>
        rw [cond_false, cond_false, show ((0 : Int) != 0) = false from rfl, cond_false]
        have := actsT_len c (upL l) o k
        rw [app_some _ _ (by simp; omega), Option.bind_some])
    (by
      show loss_Labels_L1 _ _ _ _ _ = _
      unfold loss_Labels_L1
      rw [decide_eq_false (by omega), cond_false])
  exact h
def noL : Loss := ⟨0, 0, false, 0, 0, false, false⟩
/-- What Labels answers. -/
def labelsR (c : Config) (l : Loss) (o : Bool) : Loss × List Act58 × Int :=
  bif !(mayC c && okL c l) then (noL, [], 8) else bif l.Broken then (noL, [], 230) else bif decide (2147483648 ≤ l.Events.toNat) then (noL, [], 9) else (upL l, actsT c (upL l) o c.Members.toNat, 0)
theorem labels_eq (c : Config) (l : Loss) (o : Bool) : loss_Labels c l o = some (labelsR c l o) := by
  unfold loss_Labels labelsR
  rw [chk_1, Option.bind_some]
  rcases chk_cases c l with h | ⟨h, hc, ho⟩
  · rw [h]
    have : (mayC c && okL c l) = false := by
      unfold chk at h
      cases hq : (mayC c && okL c l) with
      | true => rw [hq] at h; cases h
      | false => rfl
    rw [this]; rfl
  · have hq : (mayC c && okL c l) = true := by rw [(mayC_iff c).2 hc, ho]; rfl
    rw [h, hq, show ((0 : Int) != 0) = false from rfl, cond_false, Bool.not_true, cond_false]
    cases hbk : l.Broken with
    | true => rfl
    | false =>
      have hup : Loss.mk (scW.of ((l.Events.toNat : Int) + ((1 : UInt32).toNat : Int))) l.Lost l.Spare l.Pos l.Done l.NoLog false = upL l := by unfold upL; rw [hbk]
      rw [cond_false, cond_false]
      have hev : (l.Events.toNat : Int) ≤ 2147483648 := by simp only [okL, decide_eq_true_eq] at ho; exact ho.1
      have e1 : ((l.Events.toNat : Int) == ((2147483648 : UInt32).toNat : Int)) = decide (2147483648 ≤ l.Events.toNat) := by
        rw [Bool.eq_iff_iff]
        simp only [beq_iff_eq, decide_eq_true_eq, show ((2147483648 : UInt32).toNat : Int) = 2147483648 from rfl]
        omega
      rw [e1]
      by_cases hb : 2147483648 ≤ l.Events.toNat
      · rw [decide_eq_true hb]; rfl
      · rw [decide_eq_false hb, cond_false, cond_false, labels_loop hc ho (by omega) o, Option.bind_some, Sum.elim_inl, hup]
/- Plain law: a label's block, read. -/

/-- The number that stands in a block. -/
def numR (b : List UInt8) (at_ : Nat) : Nat → Nat
  | 0 => 0
  | k + 1 => 256 ^ k * (b.getD (at_ + k) 0).toNat + numR b at_ k
theorem numR_lt (b : List UInt8) (at_ : Nat) : ∀ k, numR b at_ k < 256 ^ k
  | 0 => Nat.one_pos
  | k + 1 => by
    have h := numR_lt b at_ k
    have hx : (b.getD (at_ + k) 0).toNat < 256 := (b.getD (at_ + k) 0).toNat_lt
    have h2 : 256 ^ k * (b.getD (at_ + k) 0).toNat ≤ 256 ^ k * 255 := Nat.mul_le_mul_left _ (by omega)
    rw [numR, Nat.pow_succ]
    omega
theorem pow_le4 : ∀ k : Nat, k ≤ 4 → 256 ^ k ≤ 4294967296
  | 0, _ => by decide
  | 1, _ => by decide
  | 2, _ => by decide
  | 3, _ => by decide
  | 4, _ => by decide
  | k + 5, h => absurd h (by omega)
theorem bv64 {n : Nat} (h : n < 18446744073709551616) : BitVec.ofInt 64 (n : Int) = BitVec.ofNat 64 n := by
  apply BitVec.eq_of_toNat_eq
  simp [BitVec.ofInt_natCast]
theorem or_num (k x s : Nat) (hk : k ≤ 3) (hx : x < 256) (hs : s < 256 ^ k) : orI (s : Int) ((256 ^ k * x : Nat) : Int) = ((256 ^ k * x + s : Nat) : Int) := by
  have hp : 256 ^ k ≤ 16777216 := by
    match k, hk with
    | 0, _ => decide
    | 1, _ => decide
    | 2, _ => decide
    | 3, _ => decide
  have hm : 256 ^ k * x ≤ 16777216 * 255 := Nat.mul_le_mul hp (by omega)
  unfold orI
  rw [bv64 (by omega), bv64 (by omega), BitVec.toNat_or, BitVec.toNat_ofNat, BitVec.toNat_ofNat, Nat.mod_eq_of_lt (by omega), Nat.mod_eq_of_lt (by omega)]
  have e : 256 ^ k = 2 ^ (8 * k) := by rw [Nat.pow_mul]
  have h1 : s ||| 256 ^ k * x = 256 ^ k * x + s := by
    rw [Nat.or_comm, e, Nat.two_pow_add_eq_or_of_lt (by rw [← e]; exact hs)]
  rw [h1, wI_id (by omega) (by omega)]
theorem shl_num (k x : Nat) (hk : k ≤ 3) (hx : x < 256) : shlI (x : Int) (wI ((8 : Int) * (k : Int))) = some ((256 ^ k * x : Nat) : Int) := by
  rw [wI_id (by omega) (by omega)]
  unfold shlI
  rw [if_neg (by omega), pow8 k (by omega)]
  have hp : 256 ^ k ≤ 16777216 := by
    match k, hk with
    | 0, _ => decide
    | 1, _ => decide
    | 2, _ => decide
    | 3, _ => decide
  have hm : 256 ^ k * x ≤ 16777216 * 255 := Nat.mul_le_mul hp (by omega)
  have e : (x : Int) * ((256 ^ k : Nat) : Int) = ((256 ^ k * x : Nat) : Int) := by rw [Int.mul_comm]; exact (Int.natCast_mul _ _).symm
  rw [e, wI_id (by omega) (by omega)]
theorem take_eq {b : List UInt8} {at_ sz : Nat} (hb : b.length = 128) (h1 : 1 ≤ sz) (h2 : sz ≤ 4) (h3 : at_ + sz ≤ 128) : pack_Take b (at_ : Int) (sz : Int) = some ((numR b at_ sz : Int), 0) := by
  unfold pack_Take pack_fits
  have hf : fullP b = b := by unfold fullP; rw [if_neg (by omega)]
  rw [whole_eq (.inr hb), hf, Option.bind_some, show ((0 : Int) != 0) = false from rfl, cond_false, wI_id (by omega) (by omega)]
  rw [show ((((decide ((sz : Int) ≥ 1)) && (decide ((sz : Int) ≤ 4))) && (decide ((at_ : Int) ≥ 0))) && (decide ((at_ : Int) ≤ 128 - (sz : Int)))) = true by simp; omega]
  rw [Option.bind_some, Bool.not_true, cond_false]
  have h := loop_run (step := fun s : Int × Int => pack_Take_L1 (at_ : Int) (sz : Int) (ArrV.mk b, 0) s.1 s.2) (fun k => ((numR b at_ k : Int), (k : Int))) sz (numR b at_ sz : Int) (by unfold FUEL; omega)
    (fun k hk => by
      show pack_Take_L1 _ _ _ _ _ = _
      unfold pack_Take_L1
      rw [decide_eq_true (show (k : Int) < (sz : Int) by omega), wI_succ (by omega), cond_true]
      rw [wI_id (by omega) (by omega), show ((at_ : Int) + (k : Int)) = ((at_ + k : Nat) : Int) by omega, bnd_nat (by omega), Option.bind_some]
      have hg : b[at_ + k]? = some (b.getD (at_ + k) 0) := by rw [List.getD_eq_getElem?_getD, List.getElem?_eq_getElem (show at_ + k < b.length by omega)]; rfl
      have hx : (b.getD (at_ + k) 0).toNat < 256 := (b.getD (at_ + k) 0).toNat_lt
      show Option.bind (b[at_ + k]?) _ = _
      rw [hg, Option.bind_some, wI_id (by omega) (by omega), shl_num k _ (by omega) hx, Option.bind_some, or_num k _ _ (by omega) hx (numR_lt b at_ k)]
      rfl)
    (by
      show pack_Take_L1 _ _ _ _ _ = _
      unfold pack_Take_L1
      rw [decide_eq_false (by omega), cond_false])
  have h : loopM (fun s : Int × Int => pack_Take_L1 (at_ : Int) (sz : Int) (ArrV.mk b, 0) s.1 s.2) FUEL ((0 : Int), (0 : Int)) = some (numR b at_ sz : Int) := h
  rw [h, Option.bind_some]

theorem read_loop (b : List UInt8) (hb : b.length = 128) (fs : List NField) (hf : ∀ x ∈ fs, 1 ≤ x.size ∧ x.size ≤ 4 ∧ x.at_ + x.size ≤ 128) (hl : fs.length < 4294967296) :
    loopM (fun s : (List Int) × Int => label_Read_L1 b (fs.map NField.f) s.1 s.2) FUEL (([] : List Int), (0 : Int)) = some (Sum.inl (fs.map fun x => (numR b x.at_ x.size : Int))) := by
  have h := loop_run (step := fun s : (List Int) × Int => label_Read_L1 b (fs.map NField.f) s.1 s.2) (fun k => ((fs.take k).map fun x => (numR b x.at_ x.size : Int), (k : Int))) fs.length (Sum.inl (fs.map fun x => (numR b x.at_ x.size : Int))) (by unfold FUEL; omega)
    (fun k hk => by
      show label_Read_L1 _ _ _ _ = _
      unfold label_Read_L1
      rw [List.length_map, decide_eq_true (show (k : Int) < (fs.length : Int) by omega), idx_nat, List.getElem?_map, List.getElem?_eq_getElem hk, wI_succ (by omega), cond_true, Option.map_some, Option.bind_some]
      obtain ⟨h1, h2, h3⟩ := hf fs[k] (List.getElem_mem hk)
      show Option.bind (pack_Take b ((fs[k]).at_ : Int) ((fs[k]).size : Int)) _ = _
      rw [take_eq hb h1 h2 h3, Option.bind_some, show ((0 : Int) != 0) = false from rfl, cond_false]
      rw [app_some _ _ (by simp; omega), Option.bind_some, take_succ_get fs k fs[k] (List.getElem?_eq_getElem hk), List.map_append]
      rfl)
    (by
      show label_Read_L1 _ _ _ _ = _
      unfold label_Read_L1
      rw [List.length_map, decide_eq_false (by omega), List.take_length, cond_false])
  exact h
def zeroLab : Label := ⟨0, 0, 0, 0, 0, 0, 0, 0, 0, false⟩
theorem setR_low (b : List UInt8) (at_ n i : Nat) (h : i < at_) : ∀ k, (setR b at_ n k).getD i 0 = b.getD i 0
  | 0 => rfl
  | k + 1 => by
    rw [setR, List.getD_eq_getElem?_getD, List.getElem?_set_ne (by omega), ← List.getD_eq_getElem?_getD, setR_low b at_ n i h k]
theorem blk_head (l : Label) (i : Nat) (h : i < 17) : (blkL l).getD i 0 = (headB l).getD i 0 := by
  unfold blkL
  rw [setR_low _ _ _ _ (by omega)]
  unfold bodyB
  rw [List.getD_eq_getElem?_getD, List.getElem?_append_left (by show i < 17; exact h), ← List.getD_eq_getElem?_getD]
theorem num1 (b : List UInt8) (at_ n : Nat) (h : b.getD at_ 0 = byt n 0) (hn : n < 256) : numR b at_ 1 = n := by
  show 256 ^ 0 * (b.getD (at_ + 0) 0).toNat + 0 = n
  rw [Nat.add_zero at_, h]
  unfold byt
  simp
  omega
theorem byt_nat (n i : Nat) : (byt n i).toNat = n / 256 ^ i % 256 := by unfold byt; simp
theorem num4 (b : List UInt8) (at_ n : Nat) (h0 : b.getD at_ 0 = byt n 0) (h1 : b.getD (at_ + 1) 0 = byt n 1) (h2 : b.getD (at_ + 2) 0 = byt n 2) (h3 : b.getD (at_ + 3) 0 = byt n 3) (hn : n < 4294967296) : numR b at_ 4 = n := by
  show 256 ^ 3 * (b.getD (at_ + 3) 0).toNat + (256 ^ 2 * (b.getD (at_ + 2) 0).toNat + (256 ^ 1 * (b.getD (at_ + 1) 0).toNat + (256 ^ 0 * (b.getD (at_ + 0) 0).toNat + 0))) = n
  rw [Nat.add_zero at_, h0, h1, h2, h3, byt_nat, byt_nat, byt_nat, byt_nat]
  have e1 : n / 256 ^ 1 = n / 256 := rfl
  have e2 : n / 256 ^ 2 = n / 65536 := rfl
  have e3 : n / 256 ^ 3 = n / 16777216 := rfl
  have e0 : n / 256 ^ 0 = n := Nat.div_one n
  rw [e0, e1, e2, e3]
  omega
theorem nums_eq {l : Label} (h : OkLab l) : ((fieldsN zeroLab).map fun x => (numR (blkL l) x.at_ x.size : Int)) = [76, (l.Id.toNat : Int), (l.Events.toNat : Int), l.Members, l.Chunk, l.Rows, l.Log, l.Me, (lostN l : Int), l.Done, ((bif l.Open then 1 else 0 : Nat) : Int)] := by
  have h1 := h.mem
  have h2 := h.ch
  have h3 := h.rows
  have h4 := h.log
  have h5 := h.me
  have h6 := h.done
  have h7 := h.lost
  have h8 := h.done64
  have h9 := h.ev
  have hl : lostN l < 256 := by unfold lostN; split <;> omega
  have ho : (bif l.Open then 1 else 0) < 256 := by cases l.Open <;> decide
  have g : ∀ i, i < 17 → (blkL l).getD i 0 = (headB l).getD i 0 := blk_head l
  show [(numR (blkL l) 0 1 : Int), (numR (blkL l) 1 4 : Int), (numR (blkL l) 5 4 : Int), (numR (blkL l) 9 1 : Int), (numR (blkL l) 10 1 : Int), (numR (blkL l) 11 1 : Int), (numR (blkL l) 12 1 : Int), (numR (blkL l) 13 1 : Int), (numR (blkL l) 14 1 : Int), (numR (blkL l) 15 1 : Int), (numR (blkL l) 16 1 : Int)] = _
  rw [num1 (blkL l) 0 76 (g 0 (by omega)) (by omega), num4 (blkL l) 1 l.Id.toNat (g 1 (by omega)) (g 2 (by omega)) (g 3 (by omega)) (g 4 (by omega)) l.Id.toNat_lt, num4 (blkL l) 5 l.Events.toNat (g 5 (by omega)) (g 6 (by omega)) (g 7 (by omega)) (g 8 (by omega)) l.Events.toNat_lt,
    num1 (blkL l) 9 l.Members.toNat (g 9 (by omega)) (by omega), num1 (blkL l) 10 l.Chunk.toNat (g 10 (by omega)) (by omega), num1 (blkL l) 11 l.Rows.toNat (g 11 (by omega)) (by omega), num1 (blkL l) 12 l.Log.toNat (g 12 (by omega)) (by omega), num1 (blkL l) 13 l.Me.toNat (g 13 (by omega)) (by omega),
    num1 (blkL l) 14 (lostN l) (g 14 (by omega)) hl, num1 (blkL l) 15 l.Done.toNat (g 15 (by omega)) (by omega), num1 (blkL l) 16 (bif l.Open then 1 else 0) (g 16 (by omega)) ho]
  rw [Int.toNat_of_nonneg (show 0 ≤ l.Members by omega), Int.toNat_of_nonneg (show 0 ≤ l.Chunk by omega), Int.toNat_of_nonneg (show 0 ≤ l.Rows by omega), Int.toNat_of_nonneg (show 0 ≤ l.Log by omega), Int.toNat_of_nonneg h5.1, Int.toNat_of_nonneg h6.1]
  rfl
theorem beq_bytes (b : List UInt8) : bytes_Equal b b = some true := by
  unfold bytes_Equal
  rw [str_eq, decide_eq_true rfl]
theorem scW_id (a : UInt32) : scW.of (a.toNat : Int) = a := by
  have h : a.toNat < 4294967296 := a.toNat_lt
  unfold scW.of
  rw [show ((a.toNat : Int) % 4294967296).toNat = a.toNat by omega]
  exact UInt32.ofNat_toNat
theorem lread_eq {l : Label} (h : OkLab l) : label_Read (blkL l) = some (l, 0) := by
  unfold label_Read
  have e1 : label_fields (Label.mk (0 : UInt32) (0 : UInt32) (0 : Int) (0 : Int) (0 : Int) (0 : Int) (0 : Int) (0 : Int) (0 : Int) false) = some ((fieldsN zeroLab).map NField.f) := fields_eq (l := zeroLab) (Int.le_refl 0) (Int.le_refl 0) (Int.le_refl 0) (Int.le_refl 0) (Int.le_refl 0) (Int.le_refl 0) (by decide)
  rw [e1, Option.bind_some, read_loop (blkL l) (blkL_len l) (fieldsN zeroLab) (by
    intro x hx
    simp only [fieldsN, List.mem_cons, List.not_mem_nil, or_false] at hx
    rcases hx with rfl | rfl | rfl | rfl | rfl | rfl | rfl | rfl | rfl | rfl | rfl <;> refine ⟨?_, ?_, ?_⟩ <;> simp) (by simp [fieldsN]), nums_eq h, Option.bind_some, Sum.elim_inl]
  have key : ∀ j : Int, j = l.Lost → label_Read_J2 (blkL l) (l.Id.toNat : Int) (l.Events.toNat : Int) l.Members l.Chunk l.Rows l.Log l.Me l.Done ((bif l.Open then 1 else 0 : Nat) : Int) j = some (l, 0) := by
    rintro j rfl
    unfold label_Read_J2
    rw [scW_id, scW_id]
    have eo : (((bif l.Open then 1 else 0 : Nat) : Int) == 1) = l.Open := by cases l.Open <;> rfl
    rw [eo]
    have el : Label.mk l.Id l.Events l.Members l.Chunk l.Rows l.Log l.Me l.Lost l.Done l.Open = l := rfl
    rw [el, write_eq h, Option.bind_some, show ((0 : Int) != 0) = false from rfl]
    show Option.bind (gO true (bytes_Equal (blkL l) (blkL l))) _ = _
    rw [beq_bytes]
    rfl
  show (bif ((lostN l : Int) == 255) then label_Read_J2 (blkL l) (l.Id.toNat : Int) (l.Events.toNat : Int) l.Members l.Chunk l.Rows l.Log l.Me l.Done ((bif l.Open then 1 else 0 : Nat) : Int) (-1) else label_Read_J2 (blkL l) (l.Id.toNat : Int) (l.Events.toNat : Int) l.Members l.Chunk l.Rows l.Log l.Me l.Done ((bif l.Open then 1 else 0 : Nat) : Int) (lostN l : Int)) = _
  have h7 := h.lost
  have h1 := h.mem
  unfold lostN
  by_cases hl : l.Lost = -1
  · rw [if_pos hl]
    show label_Read_J2 (blkL l) (l.Id.toNat : Int) (l.Events.toNat : Int) l.Members l.Chunk l.Rows l.Log l.Me l.Done ((bif l.Open then 1 else 0 : Nat) : Int) (-1) = _
    exact key _ hl.symm
  · rw [if_neg hl, show ((l.Lost.toNat : Int) == 255) = false by simp; omega, cond_false]
    exact key _ (by omega)
/- Plain law: devices: which may be, copies, blocks. -/

theorem fuel_ltD {n : Nat} (h : n < 4294967296) : n < FUEL := by unfold FUEL; omega
theorem loop_anyD {α B : Type} (l : List α) (p : α → Bool) {step : Int → Option (Ctl Int B)} (yes no : B) (hl : l.length < 4294967296)
    (h1 : ∀ k (hk : k < l.length), step (k : Int) = some (bif p l[k] then .brk yes else .next ((k + 1 : Nat) : Int))) (h2 : step (l.length : Int) = some (.brk no)) :
    loopM step FUEL (0 : Int) = some (bif l.any p then yes else no) := by
  have := loop_any (step := step) (fun k => (k : Int)) l.length (fun k => (l[k]?.map p).getD false) yes no (fuel_ltD hl) (fun k hk => by
    rw [h1 k hk]; simp [hk]) h2
  rw [any_range l p _ (fun k hk => by simp [hk])] at this
  simpa using this
/-- The same for two lists of one length. -/
theorem loop_any2 {α β B : Type} (l : List α) (m : List β) (p : α → β → Bool) {step : Int → Option (Ctl Int B)} (yes no : B) (hl : l.length < 4294967296) (hm : l.length = m.length)
    (h1 : ∀ k (hk : k < l.length) (hk' : k < m.length), step (k : Int) = some (bif p l[k] m[k] then .brk yes else .next ((k + 1 : Nat) : Int))) (h2 : step (l.length : Int) = some (.brk no)) :
    loopM step FUEL (0 : Int) = some (bif (l.zip m).any (fun x => p x.1 x.2) then yes else no) := by
  have hz : (l.zip m).length = l.length := by simp; omega
  have := loop_anyD (l.zip m) (fun x => p x.1 x.2) (step := step) yes no (by omega) (fun k hk => by
    rw [h1 k (by omega) (by omega)]; simp) (by rw [hz]; exact h2)
  exact this
theorem zip_any_ne {α γ : Type} [DecidableEq γ] (f : α → γ) : ∀ (l m : List α), l.length = m.length → ((l.zip m).any (fun x => !decide (f x.1 = f x.2))) = !decide (l.map f = m.map f)
  | [], [], _ => by simp
  | [], _ :: _, h => by simp at h
  | _ :: _, [], h => by simp at h
  | a :: l, b :: m, h => by
    simp only [List.zip_cons_cons, List.any_cons, List.map_cons, zip_any_ne f l m (by simpa using h)]
    rw [Bool.eq_iff_iff]
    simp only [Bool.or_eq_true, Bool.not_eq_true', decide_eq_false_iff_not, List.cons.injEq]
    by_cases h1 : f a = f b <;> by_cases h2 : l.map f = m.map f <;> simp [h1, h2]

def fullB (b : List UInt8) : List UInt8 := if b.length = 0 then List.replicate 128 0 else b
def szB (b : List UInt8) : Bool := b.length == 0 || b.length == 128
theorem fullB_len {b : List UInt8} (h : szB b = true) : (fullB b).length = 128 := by
  unfold szB at h; unfold fullB
  simp at h
  split
  · simp
  · rcases h with h | h
    · subst h; simp at *
    · exact h
theorem fullB_ne (b : List UInt8) : (fullB b).length ≠ 0 := by
  unfold fullB
  split
  · rw [List.length_replicate]; omega
  · assumption
theorem fullB_full (b : List UInt8) : fullB (fullB b) = fullB b := by
  rw [show fullB (fullB b) = if (fullB b).length = 0 then List.replicate 128 0 else fullB b from rfl, if_neg (fullB_ne b)]
theorem szB_full {b : List UInt8} (h : szB b = true) : szB (fullB b) = true := by
  have := fullB_len h
  unfold szB; rw [this]; rfl

theorem pblock_eq {b : List UInt8} (h : b.length < 4294967296) : disk_block b = some (fullB b) := by
  unfold disk_block slices_Clone_byte_byte fullB
  by_cases h0 : b.length = 0
  · rw [if_pos h0, show (((b.length : Nat) : Int) == 0) = true by simp [h0]]
    rw [show (128 : Int) = ((128 : Nat) : Int) from rfl, makeL_some _ _ (by omega)]; rfl
  · rw [if_neg h0, show (((b.length : Nat) : Int) == 0) = false by simp; intro hb; apply h0; simp [hb]]
    rw [app_some _ _ (by simpa using h)]; rfl
theorem podd_eq (b : List UInt8) : disk_odd b = some (!szB b) := by
  unfold disk_odd szB
  congr 1
  rw [Bool.eq_iff_iff]; simp only [Bool.and_eq_true, bne_iff_ne, ne_eq, Bool.not_eq_true', Bool.or_eq_false_iff, beq_eq_false_iff_ne]; omega
/-- Devices of sizes that are gone through. -/
structure SmallD (d : Disk) : Prop where
  nb : d.Blocks.length ≤ 100000
  nw : d.Wait.length ≤ 100000
  lb : ∀ b ∈ d.Blocks, b.length ≤ 1000000
  lw : ∀ w ∈ d.Wait, w.Data.length ≤ 1000000

theorem sum_loop {α : Type} (l : List α) (len : α → Nat) (m : Nat) (hm : m ≤ 2000) {step : Int × Int → Option (Ctl (Int × Int) Int)} (n0 : Int) (h0 : 0 ≤ n0) (h0' : n0 ≤ 1000000000)
    (h1 : ∀ k (hk : k < l.length) (n : Int), k < m → step (n, (k : Int)) = some (.next (wI (n + wI (8 + min ((len l[k] : Nat) : Int) 100000)), wI ((k : Int) + 1))))
    (h2 : ∀ (n : Int) (k : Nat), ¬(k < l.length ∧ k < m) → step (n, (k : Int)) = some (.brk n)) :
    ∃ b, loopM step FUEL (n0, (0 : Int)) = some b ∧ n0 ≤ b ∧ b ≤ n0 + 200000 * m ∧ ∀ j (hj : j < l.length), j < m → min ((len l[j] : Nat) : Int) 100000 ≤ b := by
  refine loop_inv (step := step) (min l.length m)
    (fun k s => s.2 = (k : Int) ∧ n0 ≤ s.1 ∧ s.1 ≤ n0 + 200000 * (k : Int) ∧ ∀ j (hj : j < l.length), j < k → min ((len l[j] : Nat) : Int) 100000 ≤ s.1) _ (fun k s hk hI => ?_) FUEL 0 (n0, 0) (Nat.zero_le _) (by unfold FUEL; omega) ⟨rfl, by simp, by simp, fun j _ hj => by omega⟩
  obtain ⟨s1, s2⟩ := s
  obtain ⟨e1, e2, e3, e4⟩ := hI
  simp only at e1 e2 e3 e4
  subst e1
  by_cases hlt : k < l.length ∧ k < m
  · refine .inl ⟨_, h1 k hlt.1 s1 hlt.2, by omega, ?_⟩
    rw [wI_id (x := 8 + min ((len l[k] : Nat) : Int) 100000) (by omega) (by omega), wI_id (by omega) (by omega), wI_succ (by omega)]
    refine ⟨rfl, by simp only; omega, by simp only; omega, fun j hj hjk => ?_⟩
    simp only
    by_cases hjk' : j = k
    · subst hjk'; omega
    · have := e4 j hj (by omega); omega
  · exact .inr ⟨s1, h2 s1 k hlt, e2, by omega, fun j hj hjm => e4 j hj (by omega)⟩

theorem dgreat_eq (d : Disk) : ∃ g, ref04_Great d = some g ∧ (g = false → SmallD d ∧ d.Blocks.length ≤ 300 ∧ d.Wait.length ≤ 1100) := by
  unfold ref04_Great
  obtain ⟨b5, hb, h1, h2, h3⟩ := sum_loop d.Blocks List.length 400 (by omega) (step := fun s : Int × Int => ref04_Great_L1 d s.1 s.2) 0 (by omega) (by omega) (fun k hk n hm => by
      show ref04_Great_L1 d n (k : Int) = _
      unfold ref04_Great_L1
      rw [show (decide ((k : Int) < (d.Blocks.length : Int)) && decide ((k : Int) < (400 : Int))) = true by simp; omega, idx_nat, List.getElem?_eq_getElem hk]; rfl) (fun n k hk => by
      show ref04_Great_L1 d n (k : Int) = _
      unfold ref04_Great_L1
      rw [show (decide ((k : Int) < (d.Blocks.length : Int)) && decide ((k : Int) < (400 : Int))) = false by simp; omega]; rfl)
  rw [hb]
  simp only [Option.bind_some]
  obtain ⟨b6, hc, k1, k2, k3⟩ := sum_loop d.Wait (fun w => w.Data.length) 1200 (by omega) (step := fun s : Int × Int => ref04_Great_L2 d s.1 s.2) b5 (by omega) (by omega) (fun k hk n hm => by
      show ref04_Great_L2 d n (k : Int) = _
      unfold ref04_Great_L2
      rw [show (decide ((k : Int) < (d.Wait.length : Int)) && decide ((k : Int) < (1200 : Int))) = true by simp; omega, idx_nat, List.getElem?_eq_getElem hk]; rfl) (fun n k hk => by
      show ref04_Great_L2 d n (k : Int) = _
      unfold ref04_Great_L2
      rw [show (decide ((k : Int) < (d.Wait.length : Int)) && decide ((k : Int) < (1200 : Int))) = false by simp; omega]; rfl)
  rw [hc]
  simp only [Option.bind_some]
  refine ⟨_, rfl, fun hg => ?_⟩
  simp only [Bool.or_eq_false_iff, decide_eq_false_iff_not, Int.not_lt] at hg
  obtain ⟨⟨g1, g2⟩, g3⟩ := hg
  refine ⟨⟨by omega, by omega, fun b hb => ?_, fun w hw => ?_⟩, by omega, by omega⟩
  · obtain ⟨j, hj, rfl⟩ := List.getElem_of_mem hb
    have := h3 j hj (by omega); omega
  · obtain ⟨j, hj, rfl⟩ := List.getElem_of_mem hw
    have := k3 j hj (by omega); omega

theorem ptwin_eq {d : Disk} (h : SmallD d) : disk_Twin d = some d := by
  have hnb := h.nb
  have hnw := h.nw
  unfold disk_Twin
  have t1 := loop_run (step := fun s : Int × (List (List UInt8)) => disk_Twin_L1 d s.1 s.2) (fun k => ((k : Int), d.Blocks.take k)) d.Blocks.length d.Blocks (fuel_ltD (by omega)) (fun k hk => by
    obtain ⟨x, hx⟩ : ∃ x, d.Blocks[k]? = some x := ⟨_, List.getElem?_eq_getElem hk⟩
    have hxl := h.lb x (List.mem_of_getElem? hx)
    unfold disk_Twin_L1 slices_Clone_byte_byte
    simp only [decide_eq_true (show (k : Int) < (d.Blocks.length : Int) by omega), cond_true, idx_nat, hx, Option.bind_some, wI_succ (show k < 9223372036854775807 by omega)]
    rw [app_some _ _ (by simp; omega)]
    simp only [Option.bind_some, List.nil_append]
    rw [app_some _ _ (by simp; omega), take_succ_get _ _ _ hx]
    rfl) (by
    unfold disk_Twin_L1
    rw [decide_eq_false (by omega), List.take_length]; rfl)
  have h0 : ((0 : Int), ([] : List (List UInt8))) = (fun k : Nat => ((k : Int), d.Blocks.take k)) 0 := by simp
  rw [h0, t1]
  simp only [Option.bind_some]
  have t2 := loop_run (step := fun s : Int × (List Write) => disk_Twin_L2 d s.1 s.2) (fun k => ((k : Int), d.Wait.take k)) d.Wait.length d.Wait (fuel_ltD (by omega)) (fun k hk => by
    obtain ⟨x, hx⟩ : ∃ x, d.Wait[k]? = some x := ⟨_, List.getElem?_eq_getElem hk⟩
    have hxl := h.lw x (List.mem_of_getElem? hx)
    unfold disk_Twin_L2 slices_Clone_byte_byte
    simp only [decide_eq_true (show (k : Int) < (d.Wait.length : Int) by omega), cond_true, idx_nat, hx, Option.bind_some, wI_succ (show k < 9223372036854775807 by omega)]
    rw [app_some _ _ (by simp; omega)]
    simp only [Option.bind_some, List.nil_append]
    rw [app_some _ _ (by simp; omega), take_succ_get _ _ _ hx]
    rfl) (by
    unfold disk_Twin_L2
    rw [decide_eq_false (by omega), List.take_length]; rfl)
  have h1 : ((0 : Int), ([] : List Write)) = (fun k : Nat => ((k : Int), d.Wait.take k)) 0 := by simp
  rw [h1, t2]; rfl

/-! ### which devices may be -/
def badW (n : Nat) (w : Write) : Bool := decide (w.At < 0) || (decide (w.At ≥ (n : Int)) || !szB w.Data)
def mayD (d : Disk) : Bool :=
  decide (1 ≤ d.Blocks.length) && (decide (d.Blocks.length ≤ 256) && (decide (d.Wait.length ≤ 1024) && (!(d.Dead && decide (0 < d.Wait.length)) && (!(d.Blocks.any fun b => !szB b || (d.Dead && decide (0 < b.length))) && !(d.Wait.any (badW d.Blocks.length))))))
structure MayD (d : Disk) : Prop where
  n1 : 1 ≤ d.Blocks.length
  n2 : d.Blocks.length ≤ 256
  nw : d.Wait.length ≤ 1024
  dw : d.Dead = true → d.Wait = []
  db : d.Dead = true → ∀ b ∈ d.Blocks, b = []
  sz : ∀ b ∈ d.Blocks, szB b = true
  wt : ∀ w ∈ d.Wait, 0 ≤ w.At ∧ w.At < (d.Blocks.length : Int) ∧ szB w.Data = true
theorem mayD_iff (d : Disk) : mayD d = true ↔ MayD d := by
  unfold mayD
  simp only [Bool.and_eq_true, decide_eq_true_eq, Bool.not_eq_true', List.any_eq_false, Bool.or_eq_true, not_or, Bool.and_eq_false_iff, decide_eq_false_iff_not, badW, not_and]
  constructor
  · rintro ⟨h1, h2, h3, h4, h5, h6⟩
    refine ⟨h1, h2, h3, fun hd => ?_, fun hd b hb => ?_, fun b hb => ?_, fun w hw => ?_⟩
    · rcases h4 with h4 | h4
      · rw [hd] at h4; cases h4
      · exact List.eq_nil_of_length_eq_zero (by omega)
    · have := (h5 b hb).2 hd
      exact List.eq_nil_of_length_eq_zero (by omega)
    · have := (h5 b hb).1
      simpa using this
    · obtain ⟨k1, k2, k3⟩ := h6 w hw
      exact ⟨by omega, by omega, by simpa using k3⟩
  · rintro ⟨h1, h2, h3, h4, h5, h6, h7⟩
    refine ⟨h1, h2, h3, ?_, fun b hb => ⟨by rw [h6 b hb]; simp, fun hd => by rw [h5 hd b hb]; simp⟩, fun w hw => ?_⟩
    · cases hd : d.Dead with
      | false => exact .inl rfl
      | true => right; rw [h4 hd]; simp
    · obtain ⟨k1, k2, k3⟩ := h7 w hw
      exact ⟨by omega, by omega, by rw [k3]; simp⟩
theorem MayD.small {d : Disk} (h : MayD d) : SmallD d :=
  ⟨by have := h.n2; omega, by have := h.nw; omega, fun b hb => by have := h.sz b hb; unfold szB at this; simp at this; rcases this with e | e <;> simp_all,
    fun w hw => by have := (h.wt w hw).2.2; unfold szB at this; simp at this; rcases this with e | e <;> simp_all⟩

/-- A loop that looks for the first element with p. -/
theorem loop_first {α B : Type} (l : List α) (p : α → Bool) {step : Int → Option (Ctl Int B)} (yes : Nat → B) (no : B) (hl : l.length < 4294967296)
    (h1 : ∀ k (hk : k < l.length), step (k : Int) = some (bif p l[k] then .brk (yes k) else .next ((k + 1 : Nat) : Int))) (h2 : step (l.length : Int) = some (.brk no)) :
    ∃ b, loopM step FUEL (0 : Int) = some b ∧ ((∃ k, b = yes k ∧ ∃ hk : k < l.length, p l[k] = true ∧ ∀ j (hj : j < l.length), j < k → p l[j] = false) ∨ (b = no ∧ ∀ x ∈ l, p x = false)) := by
  refine loop_inv (step := step) l.length (fun k s => s = (k : Int) ∧ ∀ j (hj : j < l.length), j < k → p l[j] = false) _ (fun k s hk hI => ?_) FUEL 0 0 (Nat.zero_le _) (by have := fuel_ltD hl; omega) ⟨rfl, fun j _ hj => by omega⟩
  obtain ⟨rfl, hI⟩ := hI
  by_cases hlt : k < l.length
  · rw [h1 k hlt]
    cases hp : p l[k] with
    | true => exact .inr ⟨_, rfl, .inl ⟨k, rfl, hlt, hp, hI⟩⟩
    | false =>
      refine .inl ⟨_, rfl, hlt, rfl, fun j hj hjk => ?_⟩
      by_cases he : j = k
      · subst he; exact hp
      · exact hI j hj (by omega)
  · obtain rfl : k = l.length := by omega
    refine .inr ⟨_, h2, .inr ⟨rfl, fun x hx => ?_⟩⟩
    obtain ⟨j, hj, rfl⟩ := List.getElem_of_mem hx
    exact hI j hj hj
theorem contB_eq (l : List (List UInt8)) (f : List UInt8 → Option Bool) (p : List UInt8 → Bool) (hl : l.length < 4294967296) (hf : ∀ x ∈ l, f x = some (p x)) : slices_ContainsFunc_byte_byte l f = some (l.any p) := by
  unfold slices_ContainsFunc_byte_byte slices_IndexFunc_byte_byte
  obtain ⟨b, hb, hq⟩ := loop_first l p (step := fun s : Int => slices_IndexFunc_byte_byte_L1 l f s) (fun k => Sum.inr (k : Int)) (Sum.inl ()) hl (fun k hk => by
      unfold slices_IndexFunc_byte_byte_L1
      rw [decide_eq_true (show (k : Int) < (l.length : Int) by omega), idx_nat, List.getElem?_eq_getElem hk, wI_succ (by omega)]
      simp only [cond_true, Option.bind_some, hf l[k] (List.getElem_mem _)]
      cases p l[k] <;> rfl) (by
      unfold slices_IndexFunc_byte_byte_L1
      rw [decide_eq_false (show ¬(l.length : Int) < (l.length : Int) by omega)]; rfl)
  rw [hb]
  rcases hq with ⟨k, rfl, hk, hp, _⟩ | ⟨rfl, hn⟩
  · rw [List.any_eq_true.2 ⟨l[k], List.getElem_mem _, hp⟩]; simp
  · rw [List.any_eq_false.2 (fun x hx => by rw [hn x hx]; simp)]; rfl
theorem indexW_eq (l : List Write) (f : Write → Option Bool) (p : Write → Bool) (hl : l.length < 4294967296) (hf : ∀ x ∈ l, f x = some (p x)) :
    ∃ i, slices_IndexFunc_api_Write_api_Write l f = some i ∧ ((∃ k : Nat, i = (k : Int) ∧ ∃ hk : k < l.length, p l[k] = true ∧ ∀ j (hj : j < l.length), j < k → p l[j] = false) ∨ (i = -1 ∧ ∀ x ∈ l, p x = false)) := by
  unfold slices_IndexFunc_api_Write_api_Write
  obtain ⟨b, hb, hq⟩ := loop_first l p (step := fun s : Int => slices_IndexFunc_api_Write_api_Write_L1 l f s) (fun k => Sum.inr (k : Int)) (Sum.inl ()) hl (fun k hk => by
      unfold slices_IndexFunc_api_Write_api_Write_L1
      rw [decide_eq_true (show (k : Int) < (l.length : Int) by omega), idx_nat, List.getElem?_eq_getElem hk, wI_succ (by omega)]
      simp only [cond_true, Option.bind_some, hf l[k] (List.getElem_mem _)]
      cases p l[k] <;> rfl) (by
      unfold slices_IndexFunc_api_Write_api_Write_L1
      rw [decide_eq_false (show ¬(l.length : Int) < (l.length : Int) by omega)]; rfl)
  rw [hb]
  rcases hq with ⟨k, rfl, hk, hp, hm⟩ | ⟨rfl, hn⟩
  · exact ⟨_, rfl, .inl ⟨k, rfl, hk, hp, hm⟩⟩
  · exact ⟨_, rfl, .inr ⟨rfl, hn⟩⟩
theorem contW_eq (l : List Write) (f : Write → Option Bool) (p : Write → Bool) (hl : l.length < 4294967296) (hf : ∀ x ∈ l, f x = some (p x)) : slices_ContainsFunc_api_Write_api_Write l f = some (l.any p) := by
  unfold slices_ContainsFunc_api_Write_api_Write
  obtain ⟨i, hi, hq⟩ := indexW_eq l f p hl hf
  rw [hi]
  rcases hq with ⟨k, rfl, hk, hp, _⟩ | ⟨rfl, hn⟩
  · rw [List.any_eq_true.2 ⟨l[k], List.getElem_mem _, hp⟩]; simp
  · rw [List.any_eq_false.2 (fun x hx => by rw [hn x hx]; simp)]; rfl

theorem any_orD {α : Type} (l : List α) (p q : α → Bool) : (l.any fun x => p x || q x) = (l.any p || l.any q) := by
  induction l with
  | nil => rfl
  | cons a l ih => simp only [List.any_cons, ih]; cases p a <;> cases q a <;> cases l.any p <;> rfl

theorem pcheck_eq (d : Disk) : disk_Check d = some (bif mayD d then 0 else 8) := by
  unfold disk_Check mayD
  by_cases h1 : 1 ≤ d.Blocks.length
  case neg =>
    rw [decide_eq_true (show ((d.Blocks.length : Nat) : Int) < 1 by omega), decide_eq_false h1]; rfl
  by_cases h2 : d.Blocks.length ≤ 256
  case neg =>
    rw [decide_eq_true (show ((d.Blocks.length : Nat) : Int) > 256 by omega), decide_eq_false h2]; simp [gO]
  by_cases h3 : d.Wait.length ≤ 1024
  case neg =>
    rw [decide_eq_true (show ((d.Wait.length : Nat) : Int) > 1024 by omega), decide_eq_false h3]; simp [gO]
  rw [decide_eq_false (show ¬((d.Blocks.length : Nat) : Int) < 1 by omega), decide_eq_false (show ¬((d.Blocks.length : Nat) : Int) > 256 by omega), decide_eq_false (show ¬((d.Wait.length : Nat) : Int) > 1024 by omega)]
  rw [decide_eq_true h1, decide_eq_true h2, decide_eq_true h3]
  simp only [Bool.or_self, Bool.not_false, gO, cond_true, Bool.false_or, Bool.true_and]
  rw [contB_eq d.Blocks _ (fun b => !szB b) (by omega) (fun x _ => podd_eq x)]
  simp only [Option.bind_some]
  rw [any_orD]
  cases hs : (d.Blocks.any fun b => !szB b) with
  | true => simp
  | false =>
  simp only [cond_false, Bool.false_or]
  rw [contW_eq d.Wait _ (badW d.Blocks.length) (by omega) (fun w _ => by
    unfold disk_Check_1 badW
    rw [podd_eq]
    cases decide (w.At < 0) <;> cases decide (w.At ≥ ((d.Blocks.length : Nat) : Int)) <;> simp [gO])]
  simp only [Option.bind_some]
  cases hw : d.Wait.any (badW d.Blocks.length) with
  | true => simp
  | false =>
  simp only [cond_false, Bool.not_false, Bool.and_true]
  rw [contB_eq d.Blocks _ (fun b => decide (0 < b.length)) (by omega) (fun x _ => by
    unfold disk_Check_2; congr 1; exact decide_eq_decide.2 (by omega))]
  rw [show decide (((d.Wait.length : Nat) : Int) > 0) = decide (0 < d.Wait.length) from decide_eq_decide.2 (by omega)]
  cases hd : d.Dead with
  | false =>
    have hf : (d.Blocks.any fun b => (false && decide (0 < b.length))) = false := List.any_eq_false.2 (fun _ _ => by simp)
    simp only [Bool.false_and, cond_false, Option.bind_some, Bool.not_false, Bool.true_and] at hf ⊢
    rw [hf]; rfl
  | true =>
    cases hn : decide (0 < d.Wait.length) with
    | true => simp
    | false =>
      simp only [Bool.true_and, Bool.not_false, cond_true, Option.bind_some, Bool.false_or]
      cases d.Blocks.any (fun b => decide (0 < b.length)) <;> rfl

/- Plain law: devices: comparing, reading, writing. -/

def viewW (w : Write) : Int × List UInt8 := (w.At, fullB w.Data)
def viewD (d : Disk) : List (List UInt8) × List (Int × List UInt8) × Bool := (d.Blocks.map fullB, d.Wait.map viewW, d.Dead)

theorem beqL (a b : List UInt8) : (a == b) = decide (a = b) := by rw [Bool.eq_iff_iff]; simp

/-! ### reading -/
def liesD (d : Disk) (at_ : Nat) : List UInt8 := fullB (d.Blocks.getD at_ [])
def overW (at_ : Int) (acc : List UInt8) (w : Write) : List UInt8 := if w.At = at_ then fullB w.Data else acc
def seenD (d : Disk) (at_ : Nat) : List UInt8 := d.Wait.foldl (overW (at_ : Int)) (liesD d at_)
def askD (d : Disk) (at_ : Int) : Int := bif mayD d then (bif decide (at_ < 0) || decide (at_ ≥ (d.Blocks.length : Int)) then 2 else 0) else 8

theorem over_none (at_ : Int) : ∀ (l : List Write) (acc : List UInt8), (∀ w ∈ l, w.At ≠ at_) → l.foldl (overW at_) acc = acc
  | [], _, _ => rfl
  | w :: l, acc, h => by
    rw [List.foldl_cons, show overW at_ acc w = acc from if_neg (h w (by simp))]
    exact over_none at_ l acc (fun x hx => h x (by simp [hx]))
theorem over_last (at_ : Int) (l : List Write) (acc : List UInt8) (i : Nat) (hi : i < l.length) (h1 : l[i].At = at_) (h2 : ∀ j (hj : j < l.length), i < j → l[j].At ≠ at_) : l.foldl (overW at_) acc = fullB l[i].Data := by
  have hsplit : l = l.take i ++ (l[i] :: l.drop (i + 1)) := by rw [List.getElem_cons_drop, List.take_append_drop]
  rw [show l.foldl (overW at_) acc = (l.take i ++ (l[i] :: l.drop (i + 1))).foldl (overW at_) acc by rw [← hsplit]]
  rw [List.foldl_append, List.foldl_cons, show overW at_ ((l.take i).foldl (overW at_) acc) l[i] = fullB l[i].Data from if_pos h1]
  refine over_none at_ _ _ (fun w hw => ?_)
  obtain ⟨j, hj, rfl⟩ := List.getElem_of_mem hw
  rw [List.getElem_drop]
  exact h2 _ _ (by omega)

theorem pplace_eq (d : Disk) (at_ : Int) : disk_place d at_ = some (askD d at_) := by
  unfold disk_place askD
  rw [pcheck_eq]
  simp only [Option.bind_some]
  cases mayD d with
  | false => rfl
  | true => cases (decide (at_ < 0) || decide (at_ ≥ (d.Blocks.length : Int))) <;> rfl
theorem askD_ok {d : Disk} {at_ : Int} (h : askD d at_ = 0) : MayD d ∧ ∃ k : Nat, at_ = (k : Int) ∧ k < d.Blocks.length := by
  unfold askD at h
  cases hm : mayD d with
  | false => rw [hm] at h; simp at h
  | true =>
    rw [hm] at h
    simp only [cond_true] at h
    cases hc : (decide (at_ < 0) || decide (at_ ≥ (d.Blocks.length : Int))) with
    | true => rw [hc] at h; simp at h
    | false =>
      simp only [Bool.or_eq_false_iff, decide_eq_false_iff_not] at hc
      exact ⟨(mayD_iff d).1 hm, at_.toNat, by omega, by omega⟩

def lastD (d : Disk) (at_ : Int) : List UInt8 × Int := bif (askD d at_ != 0) then ([], askD d at_) else bif d.Dead then ([], 40) else (liesD d at_.toNat, 0)
def readD (d : Disk) (at_ : Int) : List UInt8 × Int := bif (askD d at_ != 0) then ([], askD d at_) else bif d.Dead then ([], 40) else (seenD d at_.toNat, 0)
theorem plast_eq (d : Disk) (at_ : Int) : disk_Lasting d at_ = some (lastD d at_) := by
  unfold disk_Lasting lastD
  rw [pplace_eq]
  simp only [Option.bind_some]
  cases h : (askD d at_ != 0) with
  | true => rfl
  | false =>
    obtain ⟨hm, k, rfl, hk⟩ := askD_ok (by simpa using h)
    cases d.Dead with
    | true => rfl
    | false =>
      have := hm.small.lb _ (List.getElem_mem hk)
      simp only [cond_false, idx_nat, List.getElem?_eq_getElem hk, Option.bind_some]
      rw [pblock_eq (by omega)]
      simp [liesD, hk]
theorem pread_eq (d : Disk) (at_ : Int) : disk_Read d at_ = some (readD d at_) := by
  unfold disk_Read
  rw [plast_eq]
  simp only [Option.bind_some]
  unfold lastD readD
  cases h : (askD d at_ != 0) with
  | true => simp only [cond_true, h]
  | false =>
    obtain ⟨hm, k, rfl, hk⟩ := askD_ok (by simpa using h)
    cases d.Dead with
    | true => rfl
    | false =>
      simp only [cond_false, bne_self_eq_false, Int.toNat_natCast]
      unfold disk_Read_J1
      have hw := hm.small.nw
      obtain ⟨b, hb, hq⟩ := loop_inv (step := fun s : Int => disk_Read_L2 d (k : Int) s) d.Wait.length (fun i s => s = (d.Wait.length : Int) - 1 - (i : Int) ∧ ∀ j (hj : j < d.Wait.length), d.Wait.length - i ≤ j → d.Wait[j].At ≠ (k : Int))
        (fun b => (b = Sum.inl () ∧ seenD d k = liesD d k) ∨ b = Sum.inr (seenD d k)) (fun i s hi hI => by
        obtain ⟨rfl, hI⟩ := hI
        unfold disk_Read_L2
        by_cases hlt : i < d.Wait.length
        · have hj : d.Wait.length - 1 - i < d.Wait.length := by omega
          have hd := hm.small.lw _ (List.getElem_mem hj)
          rw [decide_eq_true (by omega), show (d.Wait.length : Int) - 1 - (i : Int) = ((d.Wait.length - 1 - i : Nat) : Int) by omega, idx_nat, List.getElem?_eq_getElem hj]
          simp only [cond_true, Option.bind_some]
          by_cases hat : d.Wait[d.Wait.length - 1 - i].At = (k : Int)
          · rw [show (d.Wait[d.Wait.length - 1 - i].At == (k : Int)) = true by simpa using hat, pblock_eq (by omega)]
            refine .inr ⟨_, rfl, .inr ?_⟩
            unfold seenD
            rw [over_last (k : Int) d.Wait _ _ hj hat (fun j hj' hlt' => hI j hj' (by omega))]
          · rw [show (d.Wait[d.Wait.length - 1 - i].At == (k : Int)) = false by simpa using hat, wI_id (by omega) (by omega)]
            refine .inl ⟨_, rfl, hlt, by omega, fun j hj' hle => ?_⟩
            by_cases he : j = d.Wait.length - 1 - i
            · subst he; exact hat
            · exact hI j hj' (by omega)
        · rw [decide_eq_false (by omega)]
          refine .inr ⟨_, rfl, .inl ⟨rfl, ?_⟩⟩
          unfold seenD
          refine over_none _ _ _ (fun w hw => ?_)
          obtain ⟨j, hj, rfl⟩ := List.getElem_of_mem hw
          exact hI j hj (by omega)) FUEL 0 ((d.Wait.length : Int) - 1) (Nat.zero_le _) (by have := fuel_ltD (show d.Wait.length < 4294967296 by omega); omega) ⟨by simp, fun j hj h => by omega⟩
      rw [wI_id (by omega) (by omega), hb]
      rcases hq with ⟨rfl, h1⟩ | rfl
      · rw [h1]; rfl
      · rfl
/- Plain law: devices: writes, flushes, deaths. -/

def noD : Disk := Disk.mk [] [] false
def errD (d : Disk) (at_ : Int) (data : List UInt8) : Int := bif (askD d at_ != 0) then askD d at_ else bif !szB data then 3 else bif d.Dead then 40 else 0
theorem askD_cases (d : Disk) (at_ : Int) : askD d at_ = 8 ∨ askD d at_ = 2 ∨ askD d at_ = 0 := by
  unfold askD
  cases mayD d with
  | false => exact .inl rfl
  | true => cases (decide (at_ < 0) || decide (at_ ≥ (d.Blocks.length : Int))) <;> simp
theorem pwerr_eq (d : Disk) (at_ : Int) (data : List UInt8) : disk_write d at_ data = some (errD d at_ data) := by
  unfold disk_write errD
  rw [pplace_eq]
  simp only [Option.bind_some]
  cases (askD d at_ != 0) with
  | true => rfl
  | false => rw [podd_eq]; simp only [cond_false, Option.bind_some]; cases szB data <;> cases d.Dead <;> rfl
theorem errD_ok {d : Disk} {at_ : Int} {data : List UInt8} (h : errD d at_ data = 0) : MayD d ∧ d.Dead = false ∧ szB data = true ∧ ∃ k : Nat, at_ = (k : Int) ∧ k < d.Blocks.length := by
  unfold errD at h
  rcases askD_cases d at_ with e | e | e
  · rw [e] at h; simp at h
  · rw [e] at h; simp at h
  · obtain ⟨h1, h2⟩ := askD_ok e
    rw [e] at h
    simp only [bne_self_eq_false, cond_false] at h
    cases hs : szB data with
    | false => rw [hs] at h; simp at h
    | true =>
      cases hd : d.Dead with
      | true => rw [hs, hd] at h; simp at h
      | false => exact ⟨h1, rfl, rfl, h2⟩
theorem szB_len {b : List UInt8} (h : szB b = true) : b.length < 4294967296 := by unfold szB at h; simp at h; rcases h with h | h <;> simp_all

def putD (d : Disk) (at_ : Int) (data : List UInt8) : Disk := { d with Wait := d.Wait ++ [⟨at_, fullB data⟩] }
def writeD (d : Disk) (at_ : Int) (data : List UInt8) : Disk × Int := bif (errD d at_ data != 0) then (noD, errD d at_ data) else bif decide (1024 ≤ d.Wait.length) then (noD, 9) else (putD d at_ data, 0)
theorem pwrite_eq (d : Disk) (at_ : Int) (data : List UInt8) : disk_Write d at_ data = some (writeD d at_ data) := by
  unfold disk_Write writeD
  rw [pwerr_eq]
  simp only [Option.bind_some]
  cases h : (errD d at_ data != 0) with
  | true => rfl
  | false =>
    obtain ⟨hm, hd, hs, k, rfl, hk⟩ := errD_ok (by simpa using h)
    have hw := hm.nw
    simp only [cond_false]
    rw [show (((d.Wait.length : Nat) : Int) == 1024) = decide (1024 ≤ d.Wait.length) by rw [Bool.eq_iff_iff]; simp; omega]
    cases hf : decide (1024 ≤ d.Wait.length) with
    | true => rfl
    | false =>
      have hf' := of_decide_eq_false hf
      rw [ptwin_eq hm.small, pblock_eq (szB_len hs)]
      simp only [cond_false, Option.bind_some]
      rw [app_some _ _ (by simp; omega)]; rfl
def keepW (at_ : Int) (w : Write) : Bool := !(w.At == at_)
theorem del_loop (at_ : Int) (l : List Write) (i0 : Nat) (hi : i0 < l.length) (hl : l.length ≤ 100000) (h0 : ∀ j (hj : j < l.length), j < i0 → (l[j].At == at_) = false) (h1 : (l[i0].At == at_) = true) :
    ∃ s : List Write, loopM (fun s : (List Write) × Int × Int => disk_Fua_L2 at_ s.1 s.2.1 s.2.2) FUEL (l, ((i0 : Nat) : Int), (((i0 + 1 : Nat)) : Int)) = some (s, (((l.filter (keepW at_)).length : Nat) : Int)) ∧
      s.length = l.length ∧ s.take (l.filter (keepW at_)).length = l.filter (keepW at_) := by
  have hf0 : (l.take (i0 + 1)).filter (keepW at_) = l.take i0 := by
    rw [take_succ_get _ _ _ (List.getElem?_eq_getElem hi), List.filter_append]
    have ha : (l.take i0).filter (keepW at_) = l.take i0 := by
      rw [List.filter_eq_self]
      intro w hw
      obtain ⟨j, hj, rfl⟩ := List.getElem_of_mem hw
      rw [List.getElem_take]
      unfold keepW
      rw [h0 j (by simp at hj; omega) (by simp at hj; omega)]; rfl
    rw [ha]
    simp [keepW, h1]
  obtain ⟨b, hb, hq⟩ := loop_inv (step := fun s : (List Write) × Int × Int => disk_Fua_L2 at_ s.1 s.2.1 s.2.2) l.length
    (fun k s => s.1.length = l.length ∧ s.2.1 = ((((l.take k).filter (keepW at_)).length : Nat) : Int) ∧ s.2.2 = (k : Int) ∧ i0 + 1 ≤ k ∧ ((l.take k).filter (keepW at_)).length < k ∧ s.1.take ((l.take k).filter (keepW at_)).length = (l.take k).filter (keepW at_) ∧ s.1.drop k = l.drop k)
    (fun b => b.2 = (((l.filter (keepW at_)).length : Nat) : Int) ∧ b.1.length = l.length ∧ b.1.take (l.filter (keepW at_)).length = l.filter (keepW at_))
    (fun k s hk hI => by
      obtain ⟨s1, s2, s3⟩ := s
      obtain ⟨e1, e2, e3, e4, e5, e6, e7⟩ := hI
      simp only at e1 e2 e3 e4 e5 e6 e7
      subst e2; subst e3
      show (∃ s', disk_Fua_L2 at_ s1 _ (k : Int) = some (.next s') ∧ _) ∨ ∃ b, disk_Fua_L2 at_ s1 _ (k : Int) = some (.brk b) ∧ _
      unfold disk_Fua_L2 disk_Fua_J4 disk_Fua_J3
      by_cases hlt : k < l.length
      · have hget : s1[k]? = some l[k] := by
          have := congrArg (fun x => x[0]?) e7
          simpa [hlt] using this
        rw [decide_eq_true (by omega), idx_nat, hget]
        simp only [cond_true, Option.bind_some]
        rw [wI_succ (show k < 9223372036854775807 by omega)]
        have htk : l.take (k + 1) = l.take k ++ [l[k]] := take_succ_get _ _ _ (List.getElem?_eq_getElem hlt)
        refine .inl ?_
        cases hat : (l[k].At == at_) with
        | true =>
          have hkp : (l.take (k + 1)).filter (keepW at_) = (l.take k).filter (keepW at_) := by rw [htk, List.filter_append]; simp [keepW, hat]
          refine ⟨_, rfl, hlt, e1, ?_, rfl, by omega, ?_, ?_, ?_⟩
          · rw [hkp]
          · rw [hkp]; omega
          · rw [hkp]; exact e6
          · simp only
            rw [← List.drop_drop, ← List.drop_drop, e7]
        | false =>
          have hkp : (l.take (k + 1)).filter (keepW at_) = (l.take k).filter (keepW at_) ++ [l[k]] := by rw [htk, List.filter_append]; simp [keepW, hat]
          have hcl : ((l.take k).filter (keepW at_)).length < s1.length := by omega
          rw [bnd_nat hcl, wI_succ (show ((l.take k).filter (keepW at_)).length < 9223372036854775807 by omega)]
          refine ⟨_, rfl, hlt, by simpa using e1, ?_, rfl, by omega, ?_, ?_, ?_⟩
          · rw [hkp, List.length_append]; rfl
          · rw [hkp, List.length_append]; simp; omega
          · rw [hkp, List.length_append]
            simp only [List.length_singleton]
            rw [take_succ_get _ _ l[k] (by rw [List.getElem?_set]; simp [hcl]), List.take_set_of_le (Nat.le_refl _), e6]
          · simp only
            rw [List.drop_set_of_lt (by omega), ← List.drop_drop, ← List.drop_drop, e7]
      · obtain rfl : k = l.length := by omega
        rw [decide_eq_false (by omega)]
        rw [List.take_length] at e6 ⊢
        exact .inr ⟨_, rfl, rfl, e1, e6⟩)
    FUEL (i0 + 1) (l, (i0 : Int), ((i0 + 1 : Nat) : Int)) (by omega) (by have := fuel_ltD (show l.length < 4294967296 by omega); omega)
    ⟨rfl, by rw [hf0]; simp; omega, rfl, Nat.le_refl _, by rw [hf0]; simp; omega, by rw [hf0]; simp, rfl⟩
  exact ⟨b.1, by rw [hb, ← hq.1], hq.2.1, hq.2.2⟩

def pfuaD (d : Disk) (k : Nat) (data : List UInt8) : Disk := ⟨d.Blocks.set k (fullB data), d.Wait.filter (keepW (k : Int)), d.Dead⟩
def rfuaD (d : Disk) (k : Nat) (data : List UInt8) : Disk := ⟨d.Blocks.set k (fullB data), (d.Wait.filter (keepW (k : Int))).map fun w => ⟨w.At, fullB w.Data⟩, d.Dead⟩
theorem fua_view (d : Disk) (k : Nat) (data : List UInt8) : viewD (pfuaD d k data) = viewD (rfuaD d k data) := by
  unfold viewD pfuaD rfuaD
  simp only [List.map_map]
  congr 2
  refine List.map_congr_left (fun w _ => ?_)
  show viewW w = viewW ⟨w.At, fullB w.Data⟩
  unfold viewW
  rw [fullB_full]
theorem pfua_eq (d : Disk) (at_ : Int) (data : List UInt8) : disk_Fua d at_ data = some (bif (errD d at_ data != 0) then (noD, errD d at_ data) else (pfuaD d at_.toNat data, 0)) := by
  unfold disk_Fua
  rw [pwerr_eq]
  simp only [Option.bind_some]
  cases h : (errD d at_ data != 0) with
  | true => rfl
  | false =>
    obtain ⟨hm, hd, hs, k, rfl, hk⟩ := errD_ok (by simpa using h)
    have hw := hm.small.nw
    simp only [cond_false, Int.toNat_natCast]
    rw [ptwin_eq hm.small, pblock_eq (szB_len hs)]
    simp only [Option.bind_some]
    rw [bnd_nat hk]
    simp only [Option.bind_some]
    obtain ⟨i, hi, hq⟩ := indexW_eq d.Wait (fun y => disk_Fua_1 y (k : Int)) (fun w => w.At == (k : Int)) (by omega) (fun w _ => rfl)
    rw [hi]
    simp only [Option.bind_some]
    unfold disk_Fua_J1 pfuaD
    rcases hq with ⟨i0, rfl, hi0, h1, h0⟩ | ⟨rfl, hn⟩
    · rw [show (((i0 : Nat) : Int) == -1) = false from beq_eq_false_iff_ne.2 (by omega)]
      simp only [cond_false]
      rw [wI_succ (by omega)]
      obtain ⟨s, hs1, hs2, hs3⟩ := del_loop (k : Int) d.Wait i0 hi0 hw h0 h1
      rw [hs1]
      simp only [Option.bind_some, Int.toNat_natCast]
      have hfl : (d.Wait.filter (keepW (k : Int))).length ≤ d.Wait.length := List.length_filter_le _ _
      unfold slc
      rw [if_pos (by omega)]
      simp only [Option.bind_some]
      rw [if_pos (by simp; omega)]
      simp only [Option.bind_some, Int.toNat_natCast]
      rw [show List.drop (Int.toNat 0) (List.take (d.Wait.filter (keepW (k : Int))).length (List.take (d.Wait.filter (keepW (k : Int))).length s ++ List.replicate (s.length - (d.Wait.filter (keepW (k : Int))).length) ⟨0, []⟩)) = d.Wait.filter (keepW (k : Int)) by
        rw [List.take_append_of_le_length (by rw [List.length_take]; omega), List.take_take, Nat.min_self, hs3]; simp]
    · rw [show ((-1 : Int) == -1) = true from rfl]
      simp only [cond_true]
      rw [List.filter_eq_self.2 (fun w hw => by unfold keepW; rw [hn w hw]; rfl)]
/-! ### flushes -/
def setW (bs : List (List UInt8)) (w : Write) : List (List UInt8) := bs.set w.At.toNat w.Data
def pflushD (d : Disk) : Disk := ⟨d.Wait.foldl setW d.Blocks, [], d.Dead⟩
def rflushD (d : Disk) : Disk := ⟨(List.range d.Blocks.length).map (seenD d), [], d.Dead⟩
theorem setW_len : ∀ (l : List Write) (bs : List (List UInt8)), (l.foldl setW bs).length = bs.length
  | [], _ => rfl
  | w :: l, bs => by rw [List.foldl_cons, setW_len l]; simp [setW]
theorem setW_mem : ∀ (l : List Write) (bs : List (List UInt8)), ∀ b ∈ l.foldl setW bs, b ∈ bs ∨ ∃ w ∈ l, b = w.Data
  | [], _, b, h => .inl h
  | w :: l, bs, b, h => by
    rw [List.foldl_cons] at h
    rcases setW_mem l _ b h with h | ⟨x, hx, rfl⟩
    · rcases List.mem_or_eq_of_mem_set h with h | h
      · exact .inl h
      · exact .inr ⟨w, by simp, h⟩
    · exact .inr ⟨x, by simp [hx], rfl⟩
theorem setW_get (k : Nat) : ∀ (l : List Write) (bs : List (List UInt8)), k < bs.length → (∀ w ∈ l, 0 ≤ w.At) → fullB ((l.foldl setW bs).getD k []) = l.foldl (overW (k : Int)) (fullB (bs.getD k []))
  | [], _, _, _ => rfl
  | w :: l, bs, hk, h => by
    rw [List.foldl_cons, List.foldl_cons, setW_get k l _ (by simpa [setW] using hk) (fun x hx => h x (by simp [hx]))]
    congr 1
    have hw := h w (by simp)
    unfold setW overW
    by_cases he : w.At = (k : Int)
    · rw [if_pos he, he]; simp [hk]
    · rw [if_neg he, List.getD_eq_getElem?_getD, List.getElem?_set_ne (by omega), ← List.getD_eq_getElem?_getD]
theorem flush_view {d : Disk} (h : MayD d) : viewD (pflushD d) = viewD (rflushD d) := by
  unfold viewD pflushD rflushD
  have : (d.Wait.foldl setW d.Blocks).map fullB = ((List.range d.Blocks.length).map (seenD d)).map fullB := by
    apply List.ext_getElem
    · simp [setW_len]
    · intro k h1 h2
      simp only [List.length_map, setW_len] at h1
      have hk2 : k < (d.Wait.foldl setW d.Blocks).length := by rw [setW_len]; exact h1
      have := setW_get k d.Wait d.Blocks h1 (fun w hw => (h.wt w hw).1)
      rw [List.getD_eq_getElem?_getD, List.getElem?_eq_getElem (by rw [setW_len]; exact h1)] at this
      simp only [List.getElem_map, List.getElem_range]
      rw [show (some (d.Wait.foldl setW d.Blocks)[k]).getD [] = (d.Wait.foldl setW d.Blocks)[k] from rfl] at this
      rw [this]
      show seenD d k = fullB (seenD d k)
      have : ∀ (l : List Write) (acc : List UInt8), fullB acc = acc → fullB (l.foldl (overW (k : Int)) acc) = l.foldl (overW (k : Int)) acc := by
        intro l
        induction l with
        | nil => intro acc h; exact h
        | cons w l ih =>
          intro acc h
          rw [List.foldl_cons]
          refine ih _ ?_
          unfold overW
          split
          · exact fullB_full _
          · exact h
      exact (this d.Wait (liesD d k) (fullB_full _)).symm
  rw [this]
theorem pflush_may {d : Disk} (h : MayD d) (hd : d.Dead = false) : MayD (pflushD d) := by
  have hdd : (pflushD d).Dead = false := hd
  refine ⟨by unfold pflushD; simp only [setW_len]; exact h.n1, by unfold pflushD; simp only [setW_len]; exact h.n2, by unfold pflushD; simp, fun _ => rfl, fun h2 => (by rw [hdd] at h2; cases h2), fun b hb => ?_, fun w hw => by unfold pflushD at hw; simp at hw⟩
  rcases setW_mem d.Wait d.Blocks b hb with hb | ⟨w, hw, rfl⟩
  · exact h.sz b hb
  · exact (h.wt w hw).2.2
theorem pflush_eq (d : Disk) : disk_Flush d = some (bif !mayD d then (noD, 8) else bif d.Dead then (noD, 40) else (pflushD d, 0)) := by
  unfold disk_Flush
  rw [pcheck_eq]
  simp only [Option.bind_some]
  cases hmd : mayD d with
  | false => rfl
  | true =>
    have hm := (mayD_iff d).1 hmd
    simp only [cond_true, bne_self_eq_false, cond_false, Bool.not_true]
    cases hd : d.Dead with
    | true => rfl
    | false =>
      have hw := hm.small.nw
      rw [ptwin_eq hm.small]
      simp only [cond_false, Option.bind_some]
      have := loop_run (step := fun s : Int × (List (List UInt8)) => disk_Flush_L1 d s.1 s.2) (fun i => ((i : Int), (d.Wait.take i).foldl setW d.Blocks)) d.Wait.length (d.Wait.foldl setW d.Blocks) (fuel_ltD (by omega)) (fun i hi => by
        obtain ⟨g1, g2, g3⟩ := hm.wt _ (List.getElem_mem hi)
        unfold disk_Flush_L1
        simp only [decide_eq_true (show (i : Int) < (d.Wait.length : Int) by omega), cond_true, idx_nat, List.getElem?_eq_getElem hi, Option.bind_some]
        rw [take_succ_get _ _ _ (List.getElem?_eq_getElem hi), List.foldl_append, wI_succ (by omega)]
        obtain ⟨k, hk⟩ : ∃ k : Nat, d.Wait[i].At = (k : Int) := ⟨d.Wait[i].At.toNat, by omega⟩
        rw [hk, bnd_nat (by rw [setW_len]; omega)]
        simp [setW, hk]) (by
        unfold disk_Flush_L1
        rw [decide_eq_false (by omega), List.take_length]; rfl)
      have h0 : ((0 : Int), d.Blocks) = (fun i : Nat => ((i : Int), (d.Wait.take i).foldl setW d.Blocks)) 0 := by simp
      rw [h0, this]
      simp only [Option.bind_some]
      have hp := ptwin_eq (pflush_may hm hd).small
      unfold pflushD at hp
      rw [hp]; rfl
def killD (d : Disk) : Disk × Int := bif !mayD d then (noD, 8) else (⟨List.replicate d.Blocks.length [], [], true⟩, 0)
theorem makeL_len {α β : Type} (z : α) (l : List β) (h : l.length ≤ 256) : makeL z ((l.length : Nat) : Int) = some (List.replicate l.length z) := by
  have h2 : l.length < 4294967296 := by omega
  exact makeL_some z l.length h2
def newD (n : Int) : Disk × Int := bif decide (n < 1) || decide (n > 256) then (noD, 2) else (⟨List.replicate n.toNat [], [], false⟩, 0)
theorem makeL_ok {α : Type} (z : α) (n : Int) (h : (decide (n < 1) || decide (n > 256)) = false) : makeL z n = some (List.replicate n.toNat z) := by
  simp only [Bool.or_eq_false_iff, decide_eq_false_iff_not] at h
  unfold makeL
  have h1 : 0 ≤ n := by omega
  have h2 : n < 4294967296 := by omega
  simp only [h1, h2, and_self, if_true]
/- Plain law: devices: the laws that ask no reference. -/

theorem pflush_eqD (d : Disk) : disk_Flush d = some (bif !mayD d then (noD, 8) else bif d.Dead then (noD, 40) else (pflushD d, 0)) := pflush_eq d
theorem beqS (a b : List UInt8) : ((Str.mk a).s == (Str.mk b).s) = decide (a = b) := str_eq a b

theorem ask_may {d e : Disk} (h1 : mayD e = mayD d) (h2 : e.Blocks.length = d.Blocks.length) (at_ : Int) : askD e at_ = askD d at_ := by unfold askD; rw [h1, h2]
/-- Reads of a place at which two devices are alike. -/
theorem read_like {d e : Disk} (h1 : mayD e = mayD d) (h2 : e.Blocks.length = d.Blocks.length) (h3 : e.Dead = d.Dead) (at_ : Int) (h4 : ∀ k : Nat, at_ = (k : Int) → k < d.Blocks.length → seenD e k = seenD d k) : readD e at_ = readD d at_ := by
  unfold readD
  rw [ask_may h1 h2, h3]
  cases h : (askD d at_ != 0) with
  | true => rfl
  | false =>
    obtain ⟨hm, k, rfl, hk⟩ := askD_ok (by simpa using h)
    simp only [Int.toNat_natCast]
    rw [h4 k rfl hk]
theorem last_like {d e : Disk} (h1 : mayD e = mayD d) (h2 : e.Blocks.length = d.Blocks.length) (h3 : e.Dead = d.Dead) (at_ : Int) (h4 : ∀ k : Nat, at_ = (k : Int) → k < d.Blocks.length → liesD e k = liesD d k) : lastD e at_ = lastD d at_ := by
  unfold lastD
  rw [ask_may h1 h2, h3]
  cases h : (askD d at_ != 0) with
  | true => rfl
  | false =>
    obtain ⟨hm, k, rfl, hk⟩ := askD_ok (by simpa using h)
    simp only [Int.toNat_natCast]
    rw [h4 k rfl hk]

theorem put_may {d : Disk} {k : Nat} {data : List UInt8} (hm : MayD d) (hd : d.Dead = false) (hs : szB data = true) (hk : k < d.Blocks.length) (hf : ¬ 1024 ≤ d.Wait.length) : MayD (putD d (k : Int) data) := by
  refine ⟨hm.n1, hm.n2, by simp [putD]; omega, fun h => ?_, fun h => ?_, hm.sz, fun w hw => ?_⟩
  · have h : d.Dead = true := h
    rw [hd] at h; cases h
  · have h : d.Dead = true := h
    rw [hd] at h; cases h
  · simp only [putD, List.mem_append, List.mem_singleton] at hw
    rcases hw with hw | rfl
    · exact hm.wt w hw
    · exact ⟨by simp, by simpa [putD] using hk, szB_full hs⟩
theorem fua_may {d : Disk} {k : Nat} {data : List UInt8} (hm : MayD d) (hd : d.Dead = false) (hs : szB data = true) : MayD (pfuaD d k data) := by
  have hl : (pfuaD d k data).Blocks.length = d.Blocks.length := by simp [pfuaD]
  refine ⟨by rw [hl]; exact hm.n1, by rw [hl]; exact hm.n2, Nat.le_trans (List.length_filter_le _ _) hm.nw, fun h => ?_, fun h => ?_, fun b hb => ?_, fun w hw => ?_⟩
  · have h : d.Dead = true := h
    rw [hd] at h; cases h
  · have h : d.Dead = true := h
    rw [hd] at h; cases h
  · rcases List.mem_or_eq_of_mem_set hb with hb | rfl
    · exact hm.sz b hb
    · exact szB_full hs
  · rw [hl]; exact hm.wt w (List.mem_filter.1 hw).1
theorem may_t {d : Disk} (h : MayD d) : mayD d = true := (mayD_iff d).2 h

theorem put_seen (d : Disk) (k j : Nat) (data : List UInt8) (h : k ≠ j) : seenD (putD d (k : Int) data) j = seenD d j := by
  unfold seenD putD liesD
  rw [List.foldl_append]
  simp only [List.foldl_cons, List.foldl_nil]
  unfold overW
  rw [if_neg (by simp only; omega)]
theorem over_filter (k j : Nat) (h : k ≠ j) : ∀ (l : List Write) (acc : List UInt8), (l.filter (keepW (k : Int))).foldl (overW (j : Int)) acc = l.foldl (overW (j : Int)) acc
  | [], _ => rfl
  | w :: l, acc => by
    rw [List.filter_cons]
    cases hk : keepW (k : Int) w with
    | true => simp only [if_true, List.foldl_cons]; exact over_filter k j h l _
    | false =>
      have : w.At = (k : Int) := by unfold keepW at hk; simpa using hk
      simp only [Bool.false_eq_true, if_false, List.foldl_cons]
      rw [show overW (j : Int) acc w = acc from if_neg (by omega)]
      exact over_filter k j h l acc
theorem fua_lies (d : Disk) (k j : Nat) (data : List UInt8) (h : k ≠ j) : liesD (pfuaD d k data) j = liesD d j := by
  unfold liesD pfuaD
  rw [List.getD_eq_getElem?_getD, List.getElem?_set_ne h, ← List.getD_eq_getElem?_getD]
theorem fua_seen (d : Disk) (k j : Nat) (data : List UInt8) (h : k ≠ j) : seenD (pfuaD d k data) j = seenD d j := by
  unfold seenD
  rw [fua_lies d k j data h]
  exact over_filter k j h d.Wait _

theorem pflush_lies (d : Disk) (hm : MayD d) {k : Nat} (hk : k < d.Blocks.length) : liesD (pflushD d) k = seenD d k := by
  have := congrArg (fun v => v.1) (flush_view hm)
  simp only [viewD] at this
  have h2 := congrArg (fun l => l[k]?) this
  simp only [List.getElem?_map] at h2
  have hk2 : k < (pflushD d).Blocks.length := by unfold pflushD; simp only [setW_len]; exact hk
  rw [List.getElem?_eq_getElem hk2] at h2
  unfold liesD
  rw [List.getD_eq_getElem?_getD, List.getElem?_eq_getElem hk2]
  simp only [Option.map_some, rflushD, List.getElem?_map, List.getElem?_range hk] at h2
  have h3 := Option.some.inj h2
  simp only [Option.getD_some]
  rw [h3]
  have : ∀ (l : List Write) (acc : List UInt8), fullB acc = acc → fullB (l.foldl (overW (k : Int)) acc) = l.foldl (overW (k : Int)) acc := by
    intro l
    induction l with
    | nil => intro acc h; exact h
    | cons w l ih =>
      intro acc h
      rw [List.foldl_cons]
      refine ih _ ?_
      unfold overW
      split
      · exact fullB_full _
      · exact h
  exact this d.Wait (liesD d k) (fullB_full _)
/- Plain law: lists of devices: sizes, copies, comparing. -/

theorem sum_loop2 {α : Type} (l : List α) (len : α → Nat) (hl : l.length ≤ 100000) (hlen : ∀ x ∈ l, len x ≤ 1000000) {step : Int × Int → Option (Ctl (Int × Int) Int)} (n0 : Int) (h0 : 0 ≤ n0) (h0' : n0 ≤ 1000000000000)
    (h1 : ∀ k (hk : k < l.length) (n : Int), step (n, (k : Int)) = some (.next (wI (n + wI (8 + ((len l[k] : Nat) : Int))), wI ((k : Int) + 1))))
    (h2 : ∀ (n : Int), step (n, (l.length : Int)) = some (.brk n)) :
    ∃ b, loopM step FUEL (n0, (0 : Int)) = some b ∧ n0 ≤ b ∧ b ≤ n0 + 2000000 * (l.length : Int) := by
  refine loop_inv (step := step) l.length
    (fun k s => s.2 = (k : Int) ∧ n0 ≤ s.1 ∧ s.1 ≤ n0 + 2000000 * (k : Int)) _ (fun k s hk hI => ?_) FUEL 0 (n0, 0) (Nat.zero_le _) (by unfold FUEL; omega) ⟨rfl, by simp, by simp⟩
  obtain ⟨s1, s2⟩ := s
  obtain ⟨e1, e2, e3⟩ := hI
  simp only at e1 e2 e3
  subst e1
  by_cases hlt : k < l.length
  · have hb := hlen _ (List.getElem_mem hlt)
    refine .inl ⟨_, h1 k hlt s1, hlt, ?_⟩
    rw [wI_id (x := 8 + ((len l[k] : Nat) : Int)) (by omega) (by omega), wI_id (by omega) (by omega), wI_succ (by omega)]
    exact ⟨rfl, by simp only; omega, by simp only; omega⟩
  · obtain rfl : k = l.length := by omega
    exact .inr ⟨s1, h2 s1, e2, e3⟩

theorem agreat_eq (ds : List Disk) : ∃ g, ref05_Great ds = some g ∧ (g = false → ds.length ≤ 30 ∧ ∀ d ∈ ds, SmallD d) := by
  unfold ref05_Great
  obtain ⟨b, hb, hq⟩ := loop_inv (step := fun s : Int × Int => ref05_Great_L1 ds s.1 s.2) (min ds.length 30)
    (fun k s => s.2 = (k : Int) ∧ 0 ≤ s.1 ∧ s.1 ≤ 60000 ∧ ∀ j (hj : j < ds.length), j < k → SmallD ds[j])
    (fun b => b = Sum.inr () ∨ (b = Sum.inl () ∧ (ds.length ≤ 30 → ∀ d ∈ ds, SmallD d))) (fun k s hk hI => by
    obtain ⟨s1, s2⟩ := s
    obtain ⟨e1, e2, e3, e4⟩ := hI
    simp only at e1 e2 e3 e4
    subst e1
    show (∃ s', ref05_Great_L1 ds s1 (k : Int) = some (.next s') ∧ _) ∨ ∃ b, ref05_Great_L1 ds s1 (k : Int) = some (.brk b) ∧ _
    unfold ref05_Great_L1
    by_cases hlt : k < ds.length ∧ k < 30
    · rw [show (decide ((k : Int) < (ds.length : Int)) && decide ((k : Int) < (30 : Int))) = true by simp; omega, idx_nat, List.getElem?_eq_getElem hlt.1]
      simp only [cond_true, Option.bind_some]
      obtain ⟨g, hg, hs⟩ := dgreat_eq ds[k]
      rw [hg]
      simp only [Option.bind_some]
      cases g with
      | true => exact .inr ⟨_, rfl, .inl rfl⟩
      | false =>
        obtain ⟨hs, _, _⟩ := hs rfl
        simp only [cond_false]
        obtain ⟨b1, hb1, q1, q2⟩ := sum_loop2 ds[k].Blocks List.length hs.nb hs.lb (step := fun s : Int × Int => ref05_Great_L2 ds (k : Int) s.1 s.2) s1 e2 (by omega) (fun j hj n => by
          show ref05_Great_L2 ds (k : Int) n (j : Int) = _
          unfold ref05_Great_L2
          rw [idx_nat, List.getElem?_eq_getElem hlt.1]
          simp only [Option.bind_some]
          rw [decide_eq_true (by omega), idx_nat, List.getElem?_eq_getElem hj]; rfl) (fun n => by
          show ref05_Great_L2 ds (k : Int) n _ = _
          unfold ref05_Great_L2
          rw [idx_nat, List.getElem?_eq_getElem hlt.1]
          simp only [Option.bind_some]
          rw [decide_eq_false (by omega)]; rfl)
        rw [hb1]
        simp only [Option.bind_some]
        have hnb := hs.nb
        have hnw := hs.nw
        obtain ⟨b2, hb2, q3, q4⟩ := sum_loop2 ds[k].Wait (fun w => w.Data.length) hs.nw hs.lw (step := fun s : Int × Int => ref05_Great_L3 ds (k : Int) s.1 s.2) b1 (by omega) (by omega) (fun j hj n => by
          show ref05_Great_L3 ds (k : Int) n (j : Int) = _
          unfold ref05_Great_L3
          rw [idx_nat, List.getElem?_eq_getElem hlt.1]
          simp only [Option.bind_some]
          rw [decide_eq_true (by omega), idx_nat, List.getElem?_eq_getElem hj]; rfl) (fun n => by
          show ref05_Great_L3 ds (k : Int) n _ = _
          unfold ref05_Great_L3
          rw [idx_nat, List.getElem?_eq_getElem hlt.1]
          simp only [Option.bind_some]
          rw [decide_eq_false (by omega)]; rfl)
        rw [hb2]
        simp only [Option.bind_some]
        by_cases hbig : b2 > 60000
        · rw [decide_eq_true hbig]; exact .inr ⟨_, rfl, .inl rfl⟩
        · rw [decide_eq_false hbig, wI_succ (by omega)]
          refine .inl ⟨_, rfl, by omega, rfl, by simp only; omega, by simp only; omega, fun j hj hjk => ?_⟩
          by_cases he : j = k
          · subst he; exact hs
          · exact e4 j hj (by omega)
    · rw [show (decide ((k : Int) < (ds.length : Int)) && decide ((k : Int) < (30 : Int))) = false by simp; omega]
      refine .inr ⟨_, rfl, .inr ⟨rfl, fun hle d hd => ?_⟩⟩
      obtain ⟨j, hj, rfl⟩ := List.getElem_of_mem hd
      exact e4 j hj (by omega)) FUEL 0 (0, 0) (Nat.zero_le _) (by unfold FUEL; omega) ⟨rfl, by simp, by simp, fun j _ hj => by omega⟩
  rw [hb]
  rcases hq with rfl | ⟨rfl, h⟩
  · exact ⟨_, rfl, fun h => by cases h⟩
  · refine ⟨_, rfl, fun hg => ?_⟩
    have := of_decide_eq_false hg
    exact ⟨by omega, h (by omega)⟩

/- Plain law: acts on devices: which may be done, and what they do. -/

theorem contDs_eq (l : List Disk) (f : Disk → Option Bool) (p : Disk → Bool) (hl : l.length < 4294967296) (hf : ∀ x ∈ l, f x = some (p x)) : slices_ContainsFunc_api_Disk_api_Disk l f = some (l.any p) := by
  unfold slices_ContainsFunc_api_Disk_api_Disk slices_IndexFunc_api_Disk_api_Disk
  obtain ⟨b, hb, hq⟩ := loop_first l p (step := fun s : Int => slices_IndexFunc_api_Disk_api_Disk_L1 l f s) (fun k => Sum.inr (k : Int)) (Sum.inl ()) hl (fun k hk => by
      unfold slices_IndexFunc_api_Disk_api_Disk_L1
      rw [decide_eq_true (show (k : Int) < (l.length : Int) by omega), idx_nat, List.getElem?_eq_getElem hk, wI_succ (by omega)]
      simp only [cond_true, Option.bind_some, hf l[k] (List.getElem_mem _)]
      cases p l[k] <;> rfl) (by
      unfold slices_IndexFunc_api_Disk_api_Disk_L1
      rw [decide_eq_false (show ¬(l.length : Int) < (l.length : Int) by omega)]; rfl)
  rw [hb]
  rcases hq with ⟨k, rfl, hk, hp, _⟩ | ⟨rfl, hn⟩
  · rw [List.any_eq_true.2 ⟨l[k], List.getElem_mem _, hp⟩]; simp
  · rw [List.any_eq_false.2 (fun x hx => by rw [hn x hx]; simp)]; rfl

def mayDs (ds : List Disk) : Bool := decide (1 ≤ ds.length) && (decide (ds.length ≤ 17) && !(ds.any fun d => !mayD d))
structure MayDs (ds : List Disk) : Prop where
  n1 : 1 ≤ ds.length
  n2 : ds.length ≤ 17
  m : ∀ d ∈ ds, MayD d
theorem mayDs_ok {ds : List Disk} (h : mayDs ds = true) : MayDs ds := by
  unfold mayDs at h
  simp only [Bool.and_eq_true, decide_eq_true_eq, Bool.not_eq_true', List.any_eq_false] at h
  exact ⟨h.1, h.2.1, fun d hd => (mayD_iff d).1 (by simpa using h.2.2 d hd)⟩
theorem MayDs.t {ds : List Disk} (h : MayDs ds) : mayDs ds = true := by
  unfold mayDs
  simp only [Bool.and_eq_true, decide_eq_true_eq, Bool.not_eq_true', List.any_eq_false]
  exact ⟨h.n1, h.n2, fun d hd => by rw [(mayD_iff d).2 (h.m d hd)]; simp⟩
theorem MayDs.small {ds : List Disk} (h : MayDs ds) : ∀ d ∈ ds, SmallD d := fun d hd => (h.m d hd).small
theorem pdevs_eq (ds : List Disk) : acts_devices ds = some (bif mayDs ds then 0 else 8) := by
  unfold acts_devices mayDs
  by_cases h1 : 1 ≤ ds.length
  case neg => rw [decide_eq_true (show (ds.length : Int) < 1 by omega), decide_eq_false h1]; simp [gO]
  by_cases h2 : ds.length ≤ 17
  case neg => rw [decide_eq_true (show (ds.length : Int) > 17 by omega), decide_eq_false h2]; simp [gO]
  rw [decide_eq_false (show ¬(ds.length : Int) < 1 by omega), decide_eq_false (show ¬(ds.length : Int) > 17 by omega), decide_eq_true h1, decide_eq_true h2,
    contDs_eq ds _ (fun d => !mayD d) (by omega) (fun d _ => by
      unfold acts_devices_1
      rw [pcheck_eq]
      cases mayD d <;> rfl)]
  cases ds.any (fun d => !mayD d) <;> rfl
def lensD (ds : List Disk) : List Nat := ds.map fun d => d.Blocks.length
def outA (a : Act58) (n : Nat) : Bool := decide (a.Disk < 0) || decide (a.Disk ≥ (n : Int))
def mayAct (a : Act58) (ns : List Nat) : Bool :=
  !outA a ns.length && (bif a.Kind == 3 then (a.At == 0) && decide (a.Data.length = 0) else (a.Kind == 1 || a.Kind == 2) && (decide (0 ≤ a.At) && (decide (a.At < ((ns.getD a.Disk.toNat 0 : Nat) : Int)) && szB a.Data)))
def OkAct (a : Act58) (nb : Nat) : Prop := (a.Kind = 3 ∧ a.At = 0 ∧ a.Data = []) ∨ ((a.Kind = 1 ∨ a.Kind = 2) ∧ szB a.Data = true ∧ ∃ k : Nat, a.At = (k : Int) ∧ k < nb)
theorem outA_ok {a : Act58} {n : Nat} (h : outA a n = false) : ∃ i : Nat, a.Disk = (i : Int) ∧ i < n := by
  unfold outA at h
  simp only [Bool.or_eq_false_iff, decide_eq_false_iff_not] at h
  exact ⟨a.Disk.toNat, by omega, by omega⟩
theorem mayAct_ok {a : Act58} {ns : List Nat} (h : mayAct a ns = true) : ∃ (i : Nat) (hi : i < ns.length), a.Disk = (i : Int) ∧ OkAct a ns[i] := by
  unfold mayAct at h
  simp only [Bool.and_eq_true, Bool.not_eq_true'] at h
  obtain ⟨h1, h2⟩ := h
  obtain ⟨i, e, hi⟩ := outA_ok h1
  refine ⟨i, hi, e, ?_⟩
  rw [e, Int.toNat_natCast, List.getD_eq_getElem?_getD, List.getElem?_eq_getElem hi] at h2
  by_cases hk : a.Kind = 3
  · rw [show (a.Kind == 3) = true by simpa using hk] at h2
    simp only [cond_true, Bool.and_eq_true, decide_eq_true_eq] at h2
    exact .inl ⟨hk, by simpa using h2.1, List.eq_nil_of_length_eq_zero h2.2⟩
  · rw [show (a.Kind == 3) = false by simpa using hk] at h2
    simp only [cond_false, Bool.and_eq_true, decide_eq_true_eq, Bool.or_eq_true, beq_iff_eq, Option.getD_some] at h2
    exact .inr ⟨h2.1, h2.2.2.2, a.At.toNat, by omega, by omega⟩

theorem does_eq (k : UInt8) : acts_does k = some (if k = 1 then ⟨1⟩ else if k = 2 then ⟨2⟩ else if k = 3 then ⟨3⟩ else ⟨0⟩) := by
  by_cases h0 : k = 0
  · subst h0; rfl
  by_cases h1 : k = 1
  · subst h1; rfl
  by_cases h2 : k = 2
  · subst h2; rfl
  by_cases h3 : k = 3
  · subst h3; rfl
  rw [if_neg h1, if_neg h2, if_neg h3]
  unfold acts_does
  have e0 : k.toNat ≠ 0 := fun e => h0 (UInt8.toNat_inj.1 (by rw [e]; rfl))
  have e1 : k.toNat ≠ 1 := fun e => h1 (UInt8.toNat_inj.1 (by rw [e]; rfl))
  have e2 : k.toNat ≠ 2 := fun e => h2 (UInt8.toNat_inj.1 (by rw [e]; rfl))
  have e3 : k.toNat ≠ 3 := fun e => h3 (UInt8.toNat_inj.1 (by rw [e]; rfl))
  have h4 : k.toNat < 256 := k.toNat_lt
  rw [wI_id (by omega) (by omega), decide_eq_true (by omega)]; rfl
theorem pmayAct_eq (a : Act58) (ds : List Disk) : acts_act_may a ds = some (mayAct a (lensD ds)) := by
  unfold acts_act_may mayAct
  rw [show (decide (a.Disk < 0) || decide (a.Disk ≥ ((ds.length : Nat) : Int))) = outA a (lensD ds).length by unfold outA lensD; rw [List.length_map]]
  cases ho : outA a (lensD ds).length with
  | true => rfl
  | false =>
    obtain ⟨i, e, hi⟩ := outA_ok ho
    have hi' : i < ds.length := by simpa [lensD] using hi
    have hg : (lensD ds).getD a.Disk.toNat 0 = ds[i].Blocks.length := by
      rw [e, Int.toNat_natCast, List.getD_eq_getElem?_getD, List.getElem?_eq_getElem hi]
      simp [lensD]
    rw [hg, does_eq, e, idx_nat, List.getElem?_eq_getElem hi']
    simp only [gO, Bool.not_false, cond_true, Option.bind_some, Bool.false_or, Bool.true_and]
    by_cases h3 : a.Kind = 3
    · rw [h3]
      simp only [if_neg (show ¬(3 : UInt8) = 1 by decide), if_neg (show ¬(3 : UInt8) = 2 by decide), if_pos, beq_self_eq_true, cond_true]
      rw [show (((a.Data.length : Nat) : Int) == 0) = decide (a.Data.length = 0) by rw [Bool.eq_iff_iff]; simp]
      rfl
    · rw [show (a.Kind == 3) = false by simpa using h3]
      have hsz : ((((a.Data.length : Nat) : Int) == 0) || (((a.Data.length : Nat) : Int) == 128)) = szB a.Data := by unfold szB; rw [Bool.eq_iff_iff]; simp only [Bool.or_eq_true, beq_iff_eq]; omega
      rw [hsz]
      simp only [cond_false, if_neg h3]
      by_cases h1 : a.Kind = 1
      · rw [h1]
        simp only [if_pos, beq_self_eq_true, Bool.true_or, Bool.true_and]
        rw [show (fnAt [63, 64, 65] 1).isNone = false from rfl]
        by_cases hat : 0 ≤ a.At
        · rw [decide_eq_true hat]; simp
        · rw [decide_eq_false hat]; rfl
      · simp only [if_neg h1, show (a.Kind == 1) = false by simpa using h1, Bool.false_or]
        by_cases h2 : a.Kind = 2
        · rw [h2]
          simp only [if_pos, beq_self_eq_true, Bool.true_and]
          rw [show (fnAt [63, 64, 65] 2).isNone = false from rfl]
          by_cases hat : 0 ≤ a.At
          · rw [decide_eq_true hat]; simp
          · rw [decide_eq_false hat]; rfl
        · simp only [if_neg h2, show (a.Kind == 2) = false by simpa using h2]
          rw [show (fnAt [63, 64, 65] 0).isNone = true from rfl]; rfl
def checkActs (l : List Act58) (ds : List Disk) : Int := bif mayDs ds then (bif decide (1024 < l.length) then 4 else bif l.any (fun a => !mayAct a (lensD ds)) then 2 else 0) else 8
theorem pcheckActs_eq (l : List Act58) (ds : List Disk) : acts_Check l ds = some (checkActs l ds) := by
  unfold acts_Check checkActs
  rw [pdevs_eq]
  simp only [Option.bind_some]
  cases mayDs ds with
  | false => rfl
  | true =>
    simp only [cond_true, bne_self_eq_false, cond_false]
    by_cases hl : 1024 < l.length
    · rw [decide_eq_true hl, decide_eq_true (by omega)]; rfl
    · rw [decide_eq_false hl, decide_eq_false (by omega)]
      simp only [cond_false]
      rw [loop_anyD l (fun a => !mayAct a (lensD ds)) (step := fun s : Int => acts_Check_L1 l ds s) (Sum.inr ()) (Sum.inl ()) (by omega) (fun k hk => by
        unfold acts_Check_L1
        rw [decide_eq_true (show (k : Int) < (l.length : Int) by omega), idx_nat, List.getElem?_eq_getElem hk, wI_succ (by omega)]
        simp only [cond_true, Option.bind_some, pmayAct_eq]
        cases mayAct l[k] (lensD ds) <;> rfl) (by
        unfold acts_Check_L1
        rw [decide_eq_false (by omega)]; rfl)]
      cases l.any (fun a => !mayAct a (lensD ds)) <;> rfl
theorem checkActs_ok {l : List Act58} {ds : List Disk} (h : checkActs l ds = 0) : MayDs ds ∧ l.length ≤ 1024 ∧ ∀ a ∈ l, mayAct a (lensD ds) = true := by
  unfold checkActs at h
  cases hm : mayDs ds with
  | false => rw [hm] at h; simp at h
  | true =>
    rw [hm] at h
    simp only [cond_true] at h
    by_cases hl : 1024 < l.length
    · rw [decide_eq_true hl] at h; simp at h
    · rw [decide_eq_false hl] at h
      simp only [cond_false] at h
      cases ha : l.any (fun a => !mayAct a (lensD ds)) with
      | true => rw [ha] at h; simp at h
      | false =>
        refine ⟨mayDs_ok hm, by omega, fun a h2 => ?_⟩
        have := List.any_eq_false.1 ha a h2
        simpa using this

/-! ### what acts do -/
def fullA (d : Disk) (a : Act58) : Bool := !d.Dead && ((a.Kind == 1) && decide (1024 ≤ d.Wait.length))
def stepP (d : Disk) (a : Act58) : Disk := bif d.Dead then d else bif a.Kind == 1 then putD d a.At a.Data else bif a.Kind == 2 then pfuaD d a.At.toNat a.Data else pflushD d
def stepR (d : Disk) (a : Act58) : Disk := bif d.Dead then d else bif a.Kind == 1 then putD d a.At a.Data else bif a.Kind == 2 then rfuaD d a.At.toNat a.Data else rflushD d
def runA (stp : Disk → Act58 → Disk) : List Act58 → List Disk → Option (List Disk)
  | [], ds => some ds
  | a :: l, ds => bif fullA (ds.getD a.Disk.toNat noD) a then none else runA stp l (ds.set a.Disk.toNat (stp (ds.getD a.Disk.toNat noD) a))
theorem errD_zero {d : Disk} {k : Nat} {data : List UInt8} (h : MayD d) (hd : d.Dead = false) (hs : szB data = true) (hk : k < d.Blocks.length) : errD d (k : Int) data = 0 := by
  unfold errD askD
  rw [may_t h, hd, hs, decide_eq_false (show ¬(k : Int) < 0 by omega), decide_eq_false (show ¬(k : Int) ≥ (d.Blocks.length : Int) by omega)]; rfl
theorem pact_eq {d : Disk} {a : Act58} (h : MayD d) (hd : d.Dead = false) (ha : OkAct a d.Blocks.length) :
    ∃ m, acts_does a.Kind = some m ∧ fncall95 m a d = some (bif fullA d a then (noD, 9) else (stepP d a, 0)) := by
  rw [does_eq]
  unfold fullA stepP
  rw [hd]
  rcases ha with ⟨hk, _, _⟩ | ⟨hk, hs, k, e, hkn⟩
  · rw [hk]
    refine ⟨⟨3⟩, rfl, ?_⟩
    show acts_act_flush a d = _
    unfold acts_act_flush
    rw [pflush_eq, may_t h, hd]; rfl
  · rcases hk with hk | hk
    · rw [hk]
      refine ⟨⟨1⟩, rfl, ?_⟩
      show acts_act_write a d = _
      unfold acts_act_write
      rw [pwrite_eq, e]
      unfold writeD
      rw [errD_zero h hd hs hkn]
      cases decide (1024 ≤ d.Wait.length) <;> rfl
    · rw [hk]
      refine ⟨⟨2⟩, rfl, ?_⟩
      show acts_act_fua a d = _
      unfold acts_act_fua
      rw [pfua_eq, e, errD_zero h hd hs hkn]; rfl
theorem rfua_may {d : Disk} {k : Nat} {data : List UInt8} (hm : MayD d) (hd : d.Dead = false) (hs : szB data = true) : MayD (rfuaD d k data) := by
  have hl : (rfuaD d k data).Blocks.length = d.Blocks.length := by simp [rfuaD]
  refine ⟨by rw [hl]; exact hm.n1, by rw [hl]; exact hm.n2, by unfold rfuaD; simp only [List.length_map]; exact Nat.le_trans (List.length_filter_le _ _) hm.nw, fun h => ?_, fun h => ?_, fun b hb => ?_, fun w hw => ?_⟩
  · have h : d.Dead = true := h
    rw [hd] at h; cases h
  · have h : d.Dead = true := h
    rw [hd] at h; cases h
  · rcases List.mem_or_eq_of_mem_set hb with hb | rfl
    · exact hm.sz b hb
    · exact szB_full hs
  · rw [hl]
    obtain ⟨x, hx, rfl⟩ := List.mem_map.1 hw
    obtain ⟨h1, h2, h3⟩ := hm.wt x (List.mem_filter.1 hx).1
    exact ⟨h1, h2, szB_full h3⟩
theorem seen_sz {d : Disk} (h : MayD d) (k : Nat) : szB (seenD d k) = true := by
  unfold seenD
  have h0 : szB (liesD d k) = true := by
    unfold liesD
    refine szB_full ?_
    rw [List.getD_eq_getElem?_getD]
    by_cases hk : k < d.Blocks.length
    · rw [List.getElem?_eq_getElem hk]; exact h.sz _ (List.getElem_mem hk)
    · rw [List.getElem?_eq_none (by omega)]; rfl
  have : ∀ (l : List Write) (acc : List UInt8), (∀ w ∈ l, szB w.Data = true) → szB acc = true → szB (l.foldl (overW (k : Int)) acc) = true := by
    intro l
    induction l with
    | nil => intro acc _ h; exact h
    | cons w l ih =>
      intro acc hl ha
      rw [List.foldl_cons]
      refine ih _ (fun x hx => hl x (by simp [hx])) ?_
      unfold overW
      split
      · exact szB_full (hl w (by simp))
      · exact ha
  exact this d.Wait _ (fun w hw => (h.wt w hw).2.2) h0
theorem rflush_may {d : Disk} (h : MayD d) (hd : d.Dead = false) : MayD (rflushD d) := by
  have hdd : (rflushD d).Dead = false := hd
  refine ⟨by unfold rflushD; simp; exact h.n1, by unfold rflushD; simp; exact h.n2, by unfold rflushD; simp, fun _ => rfl, fun h2 => (by rw [hdd] at h2; cases h2), fun b hb => ?_, fun w hw => by unfold rflushD at hw; simp at hw⟩
  unfold rflushD at hb
  obtain ⟨k, _, rfl⟩ := List.mem_map.1 hb
  exact seen_sz h k
theorem stepP_may {d : Disk} {a : Act58} (h : MayD d) (ha : OkAct a d.Blocks.length) (hf : fullA d a = false) : MayD (stepP d a) ∧ (stepP d a).Blocks.length = d.Blocks.length := by
  unfold fullA at hf
  unfold stepP
  cases hd : d.Dead with
  | true => exact ⟨h, rfl⟩
  | false =>
    rw [hd] at hf
    rcases ha with ⟨hk, _, _⟩ | ⟨hk, hs, k, e, hkn⟩
    · rw [hk]; exact ⟨pflush_may h hd, by show (pflushD d).Blocks.length = _; unfold pflushD; simp only [setW_len]⟩
    · rcases hk with hk | hk
      · rw [hk] at hf ⊢
        have hw : ¬ 1024 ≤ d.Wait.length := by simpa using hf
        rw [e]; exact ⟨put_may h hd hs hkn hw, rfl⟩
      · rw [hk, e]; exact ⟨fua_may h hd hs, by show (pfuaD d _ _).Blocks.length = _; simp [pfuaD]⟩
theorem stepR_may {d : Disk} {a : Act58} (h : MayD d) (ha : OkAct a d.Blocks.length) (hf : fullA d a = false) : MayD (stepR d a) ∧ (stepR d a).Blocks.length = d.Blocks.length := by
  unfold fullA at hf
  unfold stepR
  cases hd : d.Dead with
  | true => exact ⟨h, rfl⟩
  | false =>
    rw [hd] at hf
    rcases ha with ⟨hk, _, _⟩ | ⟨hk, hs, k, e, hkn⟩
    · rw [hk]; exact ⟨rflush_may h hd, by show (rflushD d).Blocks.length = _; unfold rflushD; simp⟩
    · rcases hk with hk | hk
      · rw [hk] at hf ⊢
        have hw : ¬ 1024 ≤ d.Wait.length := by simpa using hf
        rw [e]; exact ⟨put_may h hd hs hkn hw, rfl⟩
      · rw [hk, e]; exact ⟨rfua_may h hd hs, by show (rfuaD d _ _).Blocks.length = _; simp [rfuaD]⟩
/- Plain law: acts.Run and the document's answer. -/

theorem ptwins_eq {ds : List Disk} (hl : ds.length ≤ 100000) (h : ∀ d ∈ ds, SmallD d) : acts_twins ds = some ds := by
  unfold acts_twins
  have := loop_run (step := fun s : (List Disk) × Int => acts_twins_L1 ds s.1 s.2) (fun k => (ds.take k, (k : Int))) ds.length ds (fuel_ltD (by omega)) (fun k hk => by
    unfold acts_twins_L1
    simp only
    rw [decide_eq_true (by omega), idx_nat, List.getElem?_eq_getElem hk]
    simp only [cond_true, Option.bind_some]
    rw [ptwin_eq (h _ (List.getElem_mem hk)), wI_succ (by omega)]
    simp only [Option.bind_some]
    rw [app_some _ _ (by simp; omega), take_succ_get _ _ _ (List.getElem?_eq_getElem hk)]; rfl) (by
    unfold acts_twins_L1
    simp only
    rw [decide_eq_false (by omega), List.take_length]; rfl)
  have h0 : (([] : List Disk), (0 : Int)) = (fun k : Nat => (ds.take k, (k : Int))) 0 := by simp
  rw [h0, this]; rfl

theorem runA_cons (stp : Disk → Act58 → Disk) (a : Act58) (l : List Act58) (ds : List Disk) : runA stp (a :: l) ds = bif fullA (ds.getD a.Disk.toNat noD) a then none else runA stp l (ds.set a.Disk.toNat (stp (ds.getD a.Disk.toNat noD) a)) := rfl
/-- Devices that may be, of given sizes. -/
def LikeDs (ns : List Nat) (ds : List Disk) : Prop := MayDs ds ∧ lensD ds = ns
theorem like_at {ns : List Nat} {ds : List Disk} (h : LikeDs ns ds) {a : Act58} (ha : mayAct a ns = true) :
    ∃ (i : Nat) (hi : i < ds.length), a.Disk = (i : Int) ∧ ds.getD a.Disk.toNat noD = ds[i] ∧ MayD ds[i] ∧ OkAct a ds[i].Blocks.length := by
  obtain ⟨hm, rfl⟩ := h
  obtain ⟨i, hi, e, hok⟩ := mayAct_ok ha
  have hi' : i < ds.length := by simpa [lensD] using hi
  refine ⟨i, hi', e, ?_, hm.m _ (List.getElem_mem hi'), ?_⟩
  · rw [e, Int.toNat_natCast, List.getD_eq_getElem?_getD, List.getElem?_eq_getElem hi']; rfl
  · simpa [lensD] using hok
theorem like_set {ns : List Nat} {ds : List Disk} (h : LikeDs ns ds) {i : Nat} (hi : i < ds.length) {d : Disk} (hd : MayD d) (hl : d.Blocks.length = ds[i].Blocks.length) : LikeDs ns (ds.set i d) := by
  obtain ⟨hm, rfl⟩ := h
  refine ⟨⟨by simpa using hm.n1, by simpa using hm.n2, fun e he => ?_⟩, ?_⟩
  · rcases List.mem_or_eq_of_mem_set he with he | rfl
    · exact hm.m e he
    · exact hd
  · unfold lensD
    rw [List.map_set, hl]
    have : (ds.map fun d => d.Blocks.length)[i]? = some ds[i].Blocks.length := by simp [hi]
    exact List.ext_getElem? fun j => by
      rw [List.getElem?_set]
      split
      · next h => subst h; rw [this]; simp [hi]
      · rfl

theorem loop_acts {B : Type} {step : List Disk × Int → Option (Ctl (List Disk × Int) B)} (stp : Disk → Act58 → Disk) (l : List Act58) (Inv : List Disk → Prop) (yes : List Disk → B) (no : B) (hl : l.length < 4294967296)
    (h1 : ∀ k (hk : k < l.length) ds, Inv ds → (fullA (ds.getD l[k].Disk.toNat noD) l[k] = true ∧ step (ds, (k : Int)) = some (.brk no)) ∨
      (fullA (ds.getD l[k].Disk.toNat noD) l[k] = false ∧ step (ds, (k : Int)) = some (.next (ds.set l[k].Disk.toNat (stp (ds.getD l[k].Disk.toNat noD) l[k]), ((k + 1 : Nat) : Int))) ∧ Inv (ds.set l[k].Disk.toNat (stp (ds.getD l[k].Disk.toNat noD) l[k]))))
    (h2 : ∀ ds, step (ds, (l.length : Int)) = some (.brk (yes ds))) (ds0 : List Disk) (h0 : Inv ds0) :
    ∃ b, loopM step FUEL (ds0, (0 : Int)) = some b ∧ ((∃ o, runA stp l ds0 = some o ∧ Inv o ∧ b = yes o) ∨ (runA stp l ds0 = none ∧ b = no)) := by
  refine loop_inv (step := step) l.length (fun k s => s.2 = (k : Int) ∧ Inv s.1 ∧ runA stp (l.drop k) s.1 = runA stp l ds0) _ (fun k s hk hI => ?_) FUEL 0 (ds0, 0) (Nat.zero_le _) (by have := fuel_ltD hl; omega) ⟨rfl, h0, by simp⟩
  obtain ⟨ds, s2⟩ := s
  obtain ⟨e1, e2, e3⟩ := hI
  simp only at e1 e2 e3
  subst e1
  by_cases hlt : k < l.length
  · rw [List.drop_eq_getElem_cons hlt] at e3
    rw [runA_cons] at e3
    rcases h1 k hlt ds e2 with ⟨hf, hs⟩ | ⟨hf, hs, hi⟩
    · rw [hf] at e3
      exact .inr ⟨_, hs, .inr ⟨e3.symm, rfl⟩⟩
    · rw [hf] at e3
      exact .inl ⟨_, hs, hlt, rfl, hi, e3⟩
  · obtain rfl : k = l.length := by omega
    rw [List.drop_length] at e3
    exact .inr ⟨_, h2 ds, .inl ⟨ds, e3.symm, e2, rfl⟩⟩

def runD (stp : Disk → Act58 → Disk) (ds : List Disk) (l : List Act58) (n : Int) : List Disk × Int :=
  bif (checkActs l ds != 0) then ([], checkActs l ds) else bif decide (n < 0) || decide (n > (l.length : Int)) then ([], 2) else ((runA stp (l.take n.toNat) ds).elim ([], 9) fun o => (o, 0))
theorem slc_take {α : Type} (l : List α) {n : Int} (h : (decide (n < 0) || decide (n > (l.length : Int))) = false) : slc l 0 n = some (l.take n.toNat) := by
  simp only [Bool.or_eq_false_iff, decide_eq_false_iff_not] at h
  unfold slc
  rw [if_pos (by omega)]
  simp
theorem prun_eq (ds : List Disk) (l : List Act58) (n : Int) : acts_Run ds l n = some (runD stepP ds l n) ∧ ∀ o, runA stepP (l.take n.toNat) ds = some o → checkActs l ds = 0 → LikeDs (lensD ds) o := by
  unfold acts_Run runD
  rw [pcheckActs_eq]
  simp only [Option.bind_some]
  cases hc : (checkActs l ds != 0) with
  | true => exact ⟨rfl, fun o _ h => by rw [h] at hc; cases hc⟩
  | false =>
    obtain ⟨hm, hl, ha⟩ := checkActs_ok (l := l) (ds := ds) (by simpa using hc)
    have hmem : ∀ k (hk : k < (l.take n.toNat).length), mayAct (l.take n.toNat)[k] (lensD ds) = true := fun k hk => ha _ (List.mem_of_mem_take (List.getElem_mem hk))
    obtain ⟨b, hb, hq⟩ := loop_acts (step := fun s : (List Disk) × Int => acts_Run_L1 (l.take n.toNat) s.1 s.2) stepP (l.take n.toNat) (LikeDs (lensD ds)) Sum.inl (Sum.inr 9) (by simp; omega) (fun k hk es hI => by
      obtain ⟨i, hi, e, hg, hmay, hok⟩ := like_at hI (hmem k hk)
      rw [hg, e, Int.toNat_natCast]
      show (_ ∧ acts_Run_L1 (l.take n.toNat) es (k : Int) = _) ∨ (_ ∧ acts_Run_L1 (l.take n.toNat) es (k : Int) = _ ∧ _)
      have hstep : acts_Run_L1 (l.take n.toNat) es (k : Int) = some (bif fullA es[i] (l.take n.toNat)[k] then .brk (.inr 9) else .next (es.set i (stepP es[i] (l.take n.toNat)[k]), ((k + 1 : Nat) : Int))) := by
        unfold acts_Run_L1 acts_Run_J2
        rw [decide_eq_true (by omega), idx_nat, List.getElem?_eq_getElem hk, wI_succ (by simp at hk; omega)]
        simp only [cond_true, Option.bind_some]
        rw [e, idx_nat, List.getElem?_eq_getElem hi]
        simp only [Option.bind_some]
        cases hd : es[i].Dead with
        | true =>
          simp only [cond_true]
          rw [show fullA es[i] (l.take n.toNat)[k] = false by unfold fullA; rw [hd]; rfl, show stepP es[i] (l.take n.toNat)[k] = es[i] by unfold stepP; rw [hd]; rfl]
          simp
        | false =>
          obtain ⟨m, hm1, hm2⟩ := pact_eq hmay hd hok
          rw [hm1]
          simp only [cond_false, Option.bind_some]
          rw [hm2]
          simp only [Option.bind_some]
          cases fullA es[i] (l.take n.toNat)[k] with
          | true => rfl
          | false =>
            simp only [cond_false, bne_self_eq_false]
            rw [bnd_nat hi]; rfl
      rw [hstep]
      cases hf : fullA es[i] (l.take n.toNat)[k] with
      | true => exact .inl ⟨rfl, rfl⟩
      | false =>
        obtain ⟨h1, h2⟩ := stepP_may hmay hok hf
        exact .inr ⟨rfl, rfl, like_set hI hi h1 h2⟩) (fun es => by
      show acts_Run_L1 (l.take n.toNat) es _ = _
      unfold acts_Run_L1
      rw [decide_eq_false (by omega)]; rfl) ds ⟨hm, rfl⟩
    refine ⟨?_, fun o ho _ => ?_⟩
    · simp only [cond_false]
      cases hn : (decide (n < 0) || decide (n > (l.length : Int))) with
      | true => rfl
      | false =>
        simp only [cond_false]
        rw [ptwins_eq (by have := hm.n2; omega) hm.small, slc_take l hn]
        simp only [Option.bind_some]
        rw [hb]
        rcases hq with ⟨o, ho, _, rfl⟩ | ⟨ho, rfl⟩
        · rw [ho]; rfl
        · rw [ho]; rfl
    · rcases hq with ⟨o', ho', hL, _⟩ | ⟨ho', _⟩
      · rw [ho'] at ho; cases ho; exact hL
      · rw [ho'] at ho; cases ho
/-! ### what is seen of devices -/
theorem view_len {d e : Disk} (h : viewD d = viewD e) : d.Blocks.length = e.Blocks.length := by
  have := congrArg (fun v => v.1.length) h
  simpa [viewD] using this
theorem view_wait {d e : Disk} (h : viewD d = viewD e) : d.Wait.length = e.Wait.length := by
  have := congrArg (fun v => v.2.1.length) h
  simpa [viewD] using this
theorem view_dead {d e : Disk} (h : viewD d = viewD e) : d.Dead = e.Dead := congrArg (fun v => v.2.2) h
theorem view_blocks {d e : Disk} (h : viewD d = viewD e) : d.Blocks.map fullB = e.Blocks.map fullB := congrArg (fun v => v.1) h
theorem view_waits {d e : Disk} (h : viewD d = viewD e) : d.Wait.map viewW = e.Wait.map viewW := congrArg (fun v => v.2.1) h
theorem view_full {d e : Disk} (h : viewD d = viewD e) (a : Act58) : fullA d a = fullA e a := by
  unfold fullA
  rw [view_wait h, view_dead h]
theorem view_put {d e : Disk} (h : viewD d = viewD e) (at_ : Int) (data : List UInt8) : viewD (putD d at_ data) = viewD (putD e at_ data) := by
  have h1 := view_blocks h
  have h2 := view_waits h
  have h3 := view_dead h
  unfold viewD putD
  simp only [List.map_append, h1, h2, h3]
theorem view_filter (k : Int) (l : List Write) : (l.filter (keepW k)).map viewW = (l.map viewW).filter fun v => !(v.1 == k) := by
  rw [List.filter_map]; rfl
theorem view_fua {d e : Disk} (h : viewD d = viewD e) (k : Nat) (data : List UInt8) : viewD (pfuaD d k data) = viewD (pfuaD e k data) := by
  have h1 := view_blocks h
  have h2 := view_waits h
  have h3 := view_dead h
  unfold viewD pfuaD
  simp only [List.map_set, view_filter, h1, h2, h3]
theorem view_over (k : Int) : ∀ (l : List Write) (acc : List UInt8), l.foldl (overW k) acc = (l.map viewW).foldl (fun acc v => if v.1 = k then v.2 else acc) acc
  | [], _ => rfl
  | w :: l, acc => by rw [List.foldl_cons, view_over k l]; rfl
theorem view_lies {d e : Disk} (h : viewD d = viewD e) (k : Nat) : liesD d k = liesD e k := by
  have : ∀ f : Disk, liesD f k = ((f.Blocks.map fullB)[k]?).getD (fullB []) := fun f => by
    unfold liesD
    rw [List.getD_eq_getElem?_getD, List.getElem?_map]
    cases f.Blocks[k]? <;> rfl
  rw [this, this, view_blocks h]
theorem view_seen {d e : Disk} (h : viewD d = viewD e) (k : Nat) : seenD d k = seenD e k := by
  unfold seenD
  rw [view_over, view_over, view_waits h, view_lies h]
theorem view_rflush {d e : Disk} (h : viewD d = viewD e) : viewD (rflushD d) = viewD (rflushD e) := by
  unfold rflushD
  rw [view_len h, view_dead h, show seenD d = seenD e from funext fun k => view_seen h k]
theorem view_step {d e : Disk} (h : viewD d = viewD e) (hm : MayD d) (a : Act58) : viewD (stepP d a) = viewD (stepR e a) := by
  unfold stepP stepR
  rw [← view_dead h]
  cases d.Dead with
  | true => exact h
  | false =>
    simp only [cond_false]
    cases (a.Kind == 1) with
    | true => exact view_put h _ _
    | false =>
      cases (a.Kind == 2) with
      | true => simp only [cond_true, cond_false]; rw [view_fua h]; exact fua_view _ _ _
      | false => simp only [cond_false]; rw [flush_view hm]; exact view_rflush h
theorem view_stepP {d e : Disk} (h : viewD d = viewD e) (hm : MayD d) (hm' : MayD e) (a : Act58) : viewD (stepP d a) = viewD (stepP e a) := by
  rw [view_step h hm a, view_step rfl hm' a]
theorem views_lens {ds es : List Disk} (h : ds.map viewD = es.map viewD) : lensD ds = lensD es := by
  have := congrArg (List.map fun v : List (List UInt8) × List (Int × List UInt8) × Bool => v.1.length) h
  simp only [List.map_map] at this
  have hf : ((fun v : List (List UInt8) × List (Int × List UInt8) × Bool => v.1.length) ∘ viewD) = fun d : Disk => d.Blocks.length := by funext d; simp [viewD]
  rw [hf] at this
  exact this
theorem view_run {p q : Disk → Act58 → Disk} (hpq : ∀ d e a, viewD d = viewD e → MayD d → MayD e → viewD (p d a) = viewD (q e a))
    (hp : ∀ d a, MayD d → OkAct a d.Blocks.length → fullA d a = false → MayD (p d a) ∧ (p d a).Blocks.length = d.Blocks.length)
    (hq : ∀ d a, MayD d → OkAct a d.Blocks.length → fullA d a = false → MayD (q d a) ∧ (q d a).Blocks.length = d.Blocks.length) (ns : List Nat) :
    ∀ (l : List Act58) (ds es : List Disk), ds.map viewD = es.map viewD → LikeDs ns ds → LikeDs ns es → (∀ a ∈ l, mayAct a ns = true) → (runA p l ds).map (List.map viewD) = (runA q l es).map (List.map viewD)
  | [], ds, es, h, _, _, _ => congrArg some h
  | a :: l, ds, es, h, hd, he, ha => by
    obtain ⟨i, hi, e, hg, hmay, hok⟩ := like_at hd (ha a (by simp))
    obtain ⟨j, hj, e', hg', hmay', hok'⟩ := like_at he (ha a (by simp))
    obtain rfl : i = j := by omega
    have hv : viewD ds[i] = viewD es[i] := by
      have := congrArg (fun l => l[i]?) h
      simpa [hi, hj] using this
    rw [runA_cons, runA_cons, hg, hg', view_full hv]
    cases hf : fullA es[i] a with
    | true => rfl
    | false =>
      simp only [cond_false]
      rw [e, Int.toNat_natCast]
      obtain ⟨h1, h2⟩ := hp _ _ hmay hok (by rw [view_full hv]; exact hf)
      obtain ⟨h3, h4⟩ := hq _ _ hmay' hok' hf
      refine view_run hpq hp hq ns l _ _ ?_ (like_set hd hi h1 h2) (like_set he hj h3 h4) (fun b hb => ha b (by simp [hb]))
      rw [List.map_set, List.map_set, h, hpq _ _ a hv hmay hmay']
/-- What acts.Run answers is seen as the document's answer. -/
theorem run_same (ds : List Disk) (l : List Act58) (n : Int) : (runD stepP ds l n).1.map viewD = (runD stepR ds l n).1.map viewD ∧ (runD stepP ds l n).2 = (runD stepR ds l n).2 := by
  unfold runD
  cases hc : (checkActs l ds != 0) with
  | true => exact ⟨rfl, rfl⟩
  | false =>
    obtain ⟨hm, _, ha⟩ := checkActs_ok (l := l) (ds := ds) (by simpa using hc)
    have := view_run (p := stepP) (q := stepR) (fun d e a h h1 _ => view_step h h1 a) (fun d a h h1 h2 => stepP_may h h1 h2) (fun d a h h1 h2 => stepR_may h h1 h2) (lensD ds) (l.take n.toNat) ds ds rfl ⟨hm, rfl⟩ ⟨hm, rfl⟩ (fun a h => ha a (List.mem_of_mem_take h))
    simp only [cond_false]
    cases (decide (n < 0) || decide (n > (l.length : Int))) with
    | true => exact ⟨rfl, rfl⟩
    | false =>
      simp only [cond_false]
      cases h1 : runA stepP (l.take n.toNat) ds with
      | none =>
        rw [h1] at this
        cases h2 : runA stepR (l.take n.toNat) ds with
        | none => exact ⟨rfl, rfl⟩
        | some o => rw [h2] at this; cases this
      | some o =>
        rw [h1] at this
        cases h2 : runA stepR (l.take n.toNat) ds with
        | none => rw [h2] at this; cases this
        | some o' => rw [h2] at this; exact ⟨Option.some.inj this, rfl⟩
theorem runD_small {stp : Disk → Act58 → Disk} {ds : List Disk} {l : List Act58} {n : Int} (h : ∀ o, runA stp (l.take n.toNat) ds = some o → checkActs l ds = 0 → LikeDs (lensD ds) o) : (runD stp ds l n).1.length ≤ 17 ∧ ∀ d ∈ (runD stp ds l n).1, SmallD d := by
  unfold runD
  cases hc : (checkActs l ds != 0) with
  | true => simp
  | false =>
    simp only [cond_false]
    cases (decide (n < 0) || decide (n > (l.length : Int))) with
    | true => simp
    | false =>
      simp only [cond_false]
      cases h1 : runA stp (l.take n.toNat) ds with
      | none => simp
      | some o =>
        have := (h o h1 (by simpa using hc)).1
        exact ⟨this.n2, this.small⟩
/- Plain law: behind the first so many label acts each label is the old one, or tells the new state. -/

theorem fua_lies_zero (d : Disk) (k : Nat) (data : List UInt8) (hk : k < d.Blocks.length) : liesD (pfuaD d k data) k = fullB data := by
  unfold liesD pfuaD
  rw [List.getD_eq_getElem?_getD, List.getElem?_set]
  simp [hk, fullB_full]
theorem fua_seen_zero (d : Disk) (k : Nat) (data : List UInt8) (hk : k < d.Blocks.length) : seenD (pfuaD d k data) k = fullB data := by
  unfold seenD
  rw [over_none _ _ _ (fun w hw => by
    have := (List.mem_filter.1 (show w ∈ d.Wait.filter (keepW (k : Int)) from hw)).2
    simpa [keepW] using this), fua_lies_zero d k data hk]
theorem alive23 : law23_alive = some true := by kernel_rfl
theorem runA_other (i : Nat) : ∀ (l : List Act58) (ds o : List Disk), runA stepP l ds = some o → (∀ a ∈ l, a.Disk.toNat ≠ i) → o.getD i noD = ds.getD i noD
  | [], ds, o, h, _ => by cases h; rfl
  | a :: l, ds, o, h, hn => by
    rw [runA_cons] at h
    cases hf : fullA (ds.getD a.Disk.toNat noD) a with
    | true => rw [hf] at h; cases h
    | false =>
      rw [hf, cond_false] at h
      rw [runA_other i l _ o h (fun b hb => hn b (List.mem_cons_of_mem _ hb))]
      rw [List.getD_eq_getElem?_getD, List.getElem?_set_ne (hn a (List.mem_cons_self ..)), ← List.getD_eq_getElem?_getD]
theorem runA_one (i : Nat) (a : Act58) (hai : a.Disk.toNat = i) : ∀ (l : List Act58) (ds o : List Disk), runA stepP l ds = some o → l.Pairwise (fun x y => x.Disk.toNat ≠ y.Disk.toNat) → a ∈ l → i < ds.length → o.getD i noD = stepP (ds.getD i noD) a
  | [], _, _, _, _, hm, _ => by cases hm
  | b :: l, ds, o, h, hp, hm, hi => by
    rw [runA_cons] at h
    rw [List.pairwise_cons] at hp
    cases hf : fullA (ds.getD b.Disk.toNat noD) b with
    | true => rw [hf] at h; cases h
    | false =>
      rw [hf, cond_false] at h
      rcases List.mem_cons.1 hm with rfl | hm
      · rw [runA_other i l _ o h (fun x hx => by have := hp.1 x hx; rw [← hai]; exact fun e => this e.symm)]
        rw [hai, List.getD_eq_getElem?_getD, List.getElem?_set_self hi]; rfl
      · rw [runA_one i a hai l _ o h hp.2 hm (by rw [List.length_set]; exact hi)]
        have : b.Disk.toNat ≠ i := by rw [← hai]; exact hp.1 a hm
        rw [List.getD_eq_getElem?_getD, List.getElem?_set_ne this, ← List.getD_eq_getElem?_getD]
theorem actsT_mem (c : Config) (l : Loss) (o : Bool) : ∀ k, ∀ a ∈ actsT c l o k, ∃ j, j < k ∧ a = ⟨(j : Int), 2, 0, blkL (labO c l o (j : Int))⟩
  | 0, a, h => by simp [actsT] at h
  | k + 1, a, h => by
    rw [actsT_succ] at h
    have go : a ∈ actsT c l o k → ∃ j, j < k + 1 ∧ a = ⟨(j : Int), 2, 0, blkL (labO c l o (j : Int))⟩ := fun h => by
      obtain ⟨j, h1, h2⟩ := actsT_mem c l o k a h
      exact ⟨j, by omega, h2⟩
    cases hs : skipM l (k : Int) with
    | true => rw [hs, cond_true] at h; exact go h
    | false =>
      rw [hs, cond_false] at h
      rcases List.mem_append.1 h with h | h
      · exact go h
      · exact ⟨k, by omega, List.mem_singleton.1 h⟩
theorem actsT_pair (c : Config) (l : Loss) (o : Bool) : ∀ k, (actsT c l o k).Pairwise (fun x y => x.Disk.toNat ≠ y.Disk.toNat)
  | 0 => List.Pairwise.nil
  | k + 1 => by
    rw [actsT_succ]
    cases skipM l (k : Int) with
    | true => exact actsT_pair c l o k
    | false =>
      rw [cond_false, List.pairwise_append]
      refine ⟨actsT_pair c l o k, List.pairwise_singleton _ _, fun a ha b hb => ?_⟩
      obtain ⟨j, h1, rfl⟩ := actsT_mem c l o k a ha
      rw [List.mem_singleton.1 hb]
      show ((j : Int)).toNat ≠ ((k : Int)).toNat
      omega
theorem read_of {d : Disk} (h : MayD d) (hd : d.Dead = false) {k : Nat} (hk : k < d.Blocks.length) : disk_Read d (k : Int) = some (seenD d k, 0) := by
  rw [pread_eq]
  unfold readD askD
  rw [may_t h, hd, decide_eq_false (show ¬(k : Int) < 0 by omega), decide_eq_false (show ¬(k : Int) ≥ (d.Blocks.length : Int) by omega)]
  rfl
theorem fullB_blk (l : Label) : fullB (blkL l) = blkL l := by
  have := blkL_len l
  unfold fullB
  rw [if_neg (by omega)]
theorem done_loop (acts : List Act58) (x : Loss × (List Act58) × Int) (hx : x.2.1 = acts) (n : Nat) (hn : n ≤ acts.length) (hl : acts.length < 4294967296) (i : Int) :
    loopM (fun s : Bool × Int => law23_LossTold_L3 (n : Int) x i s.1 s.2) FUEL (false, (0 : Int)) = some ((acts.take n).any fun a => a.Disk == i) := by
  have h := loop_run (step := fun s : Bool × Int => law23_LossTold_L3 (n : Int) x i s.1 s.2) (fun k => ((acts.take k).any (fun a => a.Disk == i), (k : Int))) n ((acts.take n).any fun a => a.Disk == i) (by unfold FUEL; omega)
    (fun k hk => by
      show law23_LossTold_L3 _ _ _ _ _ = _
      unfold law23_LossTold_L3
      have hk' : k < acts.length := by omega
      rw [decide_eq_true (show (k : Int) < (n : Int) by omega), hx, idx_nat, List.getElem?_eq_getElem hk', wI_succ (by omega), cond_true, take_succ_get acts k acts[k] (List.getElem?_eq_getElem hk'), List.any_append]
      cases (acts.take k).any (fun a => a.Disk == i) with
      | true => rfl
      | false => simp [gO])
    (by
      show law23_LossTold_L3 _ _ _ _ _ = _
      unfold law23_LossTold_L3
      rw [decide_eq_false (by omega), cond_false])
  exact h
theorem blocks_loop {c : Config} {ds os : List Disk} {l : Loss} {o : Bool} {e : Int} {i : Nat} {dn : Bool} {d f : Disk} (hd : ds[i]? = some d) (hf : os[i]? = some f) (hmd : MayD d) (hmf : MayD f) (hdd : d.Dead = false) (hdf : f.Dead = false) (hl : f.Blocks.length = d.Blocks.length)
    (h0 : dn = true → 0 < d.Blocks.length → label_Read (seenD f 0) = some (labO c (upL l) o (i : Int), 0))
    (h1 : ∀ k, k < d.Blocks.length → ¬ (k = 0 ∧ dn = true) → seenD f k = seenD d k) :
    loopM (fun s : Int => law23_LossTold_L4 c ds l o (os, e) (i : Int) dn s) FUEL (0 : Int) = some (Sum.inl ()) := by
  have hb : d.Blocks.length ≤ 256 := hmd.n2
  have h := loop_run (step := fun s : Int => law23_LossTold_L4 c ds l o (os, e) (i : Int) dn s) (fun k => (k : Int)) d.Blocks.length (Sum.inl ()) (by unfold FUEL; omega)
    (fun k hk => by
      show law23_LossTold_L4 _ _ _ _ _ _ _ _ = _
      unfold law23_LossTold_L4 law23_LossTold_J5
      rw [idx_nat, hd, Option.bind_some, decide_eq_true (show (k : Int) < (d.Blocks.length : Int) by omega), cond_true, Option.bind_some, read_of hmd hdd hk, Option.bind_some]
      show Option.bind (idx os (i : Int)) _ = _
      rw [idx_nat, hf, Option.bind_some, read_of hmf hdf (by omega), Option.bind_some, show (((0 : Int) != 0) || ((0 : Int) != 0)) = false from rfl, cond_false, wI_succ (by omega)]
      cases hz : (((k : Int) == 0) && dn) with
      | true =>
        rw [Bool.and_eq_true] at hz
        have hk0 : k = 0 := by have := hz.1; simp at this; omega
        subst hk0
        rw [cond_true, h0 hz.2 hk, Option.bind_some]
        have e : Label.mk c.Id (scW.of ((l.Events.toNat : Int) + ((1 : UInt32).toNat : Int))) c.Members c.Chunk c.Rows c.Log (i : Int) l.Lost l.Done o = labO c (upL l) o (i : Int) := rfl
        rw [e, decide_eq_true rfl]; rfl
      | false =>
        rw [cond_false, h1 k hk (fun ⟨e1, e2⟩ => by rw [e1, e2] at hz; cases hz), str_eq, decide_eq_true rfl]; rfl)
    (by
      show law23_LossTold_L4 _ _ _ _ _ _ _ _ = _
      unfold law23_LossTold_L4
      rw [idx_nat, hd, Option.bind_some, decide_eq_false (by omega), cond_false])
  exact h
theorem chk_up {c : Config} {l : Loss} (hc : MayC c) (ho : okL c l = true) (he : l.Events.toNat < 2147483648) : loss_Check c (upL l) = some 0 := by
  rw [chk_1]
  unfold chk
  have : okL c (upL l) = true := by
    simp only [okL, decide_eq_true_eq] at ho ⊢
    obtain ⟨h1, h2, h3, h4, h5, h6, h7, h8⟩ := ho
    exact ⟨by rw [upL_ev he]; omega, h2, h3, h4, h5, h6, h7, h8⟩
  rw [(mayC_iff c).2 hc, this]; rfl
theorem told_true (c : Config) (ds : List Disk) (l : Loss) (o : Bool) (n : Int) : law23_LossTold c ds l o n = some true := by
  unfold law23_LossTold
  obtain ⟨g, hg, hg2⟩ := agreat_eq ds
  rw [alive23, labels_eq, hg, Option.bind_some, Option.bind_some, Option.bind_some]
  cases hgo : ((g || ((labelsR c l o).2.2 != 0)) || !true) with
  | true => rfl
  | false =>
    rw [cond_false]
    simp only [Bool.or_eq_false_iff] at hgo
    obtain ⟨⟨hgf, hz⟩, _⟩ := hgo
    have hz : (labelsR c l o).2.2 = 0 := by simpa using hz
    -- what Labels answered
    obtain ⟨hc, ho, he, hR⟩ : MayC c ∧ okL c l = true ∧ l.Events.toNat < 2147483648 ∧ labelsR c l o = (upL l, actsT c (upL l) o c.Members.toNat, 0) := by
      unfold labelsR at hz ⊢
      cases h : (mayC c && okL c l) with
      | false => rw [h] at hz; cases hz
      | true =>
        rw [h] at hz
        rw [Bool.and_eq_true] at h
        cases hb : l.Broken with
        | true => rw [hb] at hz; cases hz
        | false =>
          rw [hb] at hz
          by_cases he : 2147483648 ≤ l.Events.toNat
          · rw [decide_eq_true he] at hz; cases hz
          · rw [decide_eq_false he]
            exact ⟨(mayC_iff c).1 h.1, h.2, by omega, rfl⟩
    rw [hR]
    have hal : (actsT c (upL l) o c.Members.toNat).length ≤ 16 := by
      have := actsT_len c (upL l) o c.Members.toNat
      have hm := hc.1
      omega
    have hap := actsT_pair c (upL l) o c.Members.toNat
    have ham := actsT_mem c (upL l) o c.Members.toNat
    generalize hA : actsT c (upL l) o c.Members.toNat = A at hal hap ham
    obtain ⟨h1, h2⟩ := prun_eq ds A n
    rw [h1, Option.bind_some]
    cases hr : (((runD stepP ds A n).2 != 0) || decide ((ds.length : Int) < c.Members)) with
    | true => rfl
    | false =>
      rw [cond_false]
      simp only [Bool.or_eq_false_iff, decide_eq_false_iff_not] at hr
      obtain ⟨hr1, hr2⟩ := hr
      have hr1 : (runD stepP ds A n).2 = 0 := by simpa using hr1
      obtain ⟨os, hck, hn0, hn1, hrun, hD⟩ : ∃ os, checkActs A ds = 0 ∧ 0 ≤ n ∧ n ≤ A.length ∧ runA stepP (A.take n.toNat) ds = some os ∧ runD stepP ds A n = (os, 0) := by
        unfold runD at hr1 ⊢
        cases hq : (checkActs A ds != 0) with
        | true => rw [hq, cond_true] at hr1; have : checkActs A ds ≠ 0 := by simpa using hq
                  exact absurd hr1 this
        | false =>
          rw [hq, cond_false] at hr1
          have hq' : checkActs A ds = 0 := by simpa using hq
          cases hn : (decide (n < 0) || decide (n > (A.length : Int))) with
          | true => rw [hn] at hr1; cases hr1
          | false =>
            rw [hn, cond_false] at hr1
            simp only [Bool.or_eq_false_iff, decide_eq_false_iff_not] at hn
            cases hx : runA stepP (A.take n.toNat) ds with
            | none => rw [hx] at hr1; cases hr1
            | some os => exact ⟨os, hq', by omega, by omega, rfl, rfl⟩
      obtain ⟨m, rfl⟩ := Int.eq_ofNat_of_zero_le hn0
      have hLk := h2 os hrun hck
      rw [Int.toNat_natCast] at hrun
      rw [hD]
      obtain ⟨hM, hlen⟩ := hLk
      obtain ⟨hMd, _, _⟩ := checkActs_ok hck
      have hol : os.length = ds.length := by have := congrArg List.length hlen; simpa [lensD] using this
      have hl17 := hMd.n2
      have hm : m ≤ A.length := by omega
      have hloop := loop_run (step := fun s : Int => law23_LossTold_L1 c ds l o (m : Int) (upL l, A, 0) (os, 0) s) (fun k => (k : Int)) ds.length (Sum.inl ()) (by unfold FUEL; omega)
        (fun i hi => by
          show law23_LossTold_L1 _ _ _ _ _ _ _ _ = _
          unfold law23_LossTold_L1 law23_LossTold_J2
          have hio : i < os.length := by omega
          have hd : ds[i]? = some ds[i] := List.getElem?_eq_getElem hi
          have hf : os[i]? = some os[i] := List.getElem?_eq_getElem hio
          have gd : ds.getD i noD = ds[i] := by rw [List.getD_eq_getElem?_getD, hd]; rfl
          have gf : os.getD i noD = os[i] := by rw [List.getD_eq_getElem?_getD, hf]; rfl
          rw [decide_eq_true (show (i : Int) < (ds.length : Int) by omega), cond_true, idx_nat, hd, Option.bind_some, wI_succ (by omega)]
          have hmd : MayD ds[i] := hMd.m _ (List.getElem_mem hi)
          have hmf : MayD os[i] := hM.m _ (List.getElem_mem hio)
          have hbl : os[i].Blocks.length = ds[i].Blocks.length := by
            have := congrArg (fun q => q[i]?) hlen
            simp only [lensD, List.getElem?_map, hd, hf, Option.map_some, Option.some.injEq] at this
            exact this
          -- who was written
          have hstep : (∀ a ∈ A.take m, a.Disk.toNat ≠ i) ∧ os[i] = ds[i] ∧ ((A.take m).any fun a => a.Disk == (i : Int)) = false ∨ ((A.take m).any fun a => a.Disk == (i : Int)) = true ∧ (i : Int) < c.Members ∧ os[i] = stepP ds[i] ⟨(i : Int), 2, 0, blkL (labO c (upL l) o (i : Int))⟩ := by
            cases hany : ((A.take m).any fun a => a.Disk == (i : Int)) with
            | false =>
              left
              have hno : ∀ a ∈ A.take m, a.Disk.toNat ≠ i := fun a ha hq => by
                obtain ⟨j, _, rfl⟩ := ham a (List.mem_of_mem_take ha)
                have := List.any_eq_false.1 hany _ ha
                have hq : ((j : Int)).toNat = i := hq
                apply this
                simp only [beq_iff_eq]; omega
              refine ⟨hno, ?_, rfl⟩
              rw [← gf, ← gd]
              exact runA_other i _ ds os hrun hno
            | true =>
              right
              obtain ⟨a, ha, hq⟩ := List.any_eq_true.1 hany
              obtain ⟨j, hj, rfl⟩ := ham a (List.mem_of_mem_take ha)
              have hq : (j : Int) = (i : Int) := by simpa using hq
              obtain rfl : j = i := by omega
              refine ⟨rfl, by omega, ?_⟩
              rw [← gf, ← gd]
              exact runA_one j _ rfl _ ds os hrun (hap.sublist (List.take_sublist _ _)) ha hi
          cases hdead : ds[i].Dead with
          | true =>
            rw [cond_true]
            show Option.bind (idx os (i : Int)) _ = _
            rw [idx_nat, hf, Option.bind_some]
            have : os[i].Dead = true := by
              rcases hstep with ⟨_, e, _⟩ | ⟨_, _, e⟩
              · rw [e]; exact hdead
              · rw [e]; unfold stepP; rw [hdead]; exact hdead
            rw [this]; rfl
          | false =>
            rw [cond_false, done_loop A (upL l, A, 0) rfl m hm (by omega) (i : Int), Option.bind_some]
            rcases hstep with ⟨_, e, hdn⟩ | ⟨hdn, hic, e⟩
            · rw [hdn, blocks_loop hd hf hmd hmf hdead (by rw [e]; exact hdead) hbl (fun h => by cases h) (fun k _ _ => by rw [e])]
              rfl
            · have e2 : os[i] = pfuaD ds[i] 0 (blkL (labO c (upL l) o (i : Int))) := by rw [e]; unfold stepP; rw [hdead]; rfl
              rw [hdn, blocks_loop (c := c) (l := l) (o := o) hd hf hmd hmf hdead (by rw [e2]; exact hdead) hbl (fun _ hk => by
                rw [e2, fua_seen_zero _ 0 _ hk, fullB_blk]
                exact lread_eq (okLab_of hc ho he o hic)) (fun k hk hn => by
                rw [e2]
                exact fua_seen ds[i] 0 k _ (fun q => hn ⟨q.symm, rfl⟩))]
              rfl)
        (by
          show law23_LossTold_L1 _ _ _ _ _ _ _ _ = _
          unfold law23_LossTold_L1
          rw [decide_eq_false (by omega), cond_false])
      have hloop : loopM (fun s : Int => law23_LossTold_L1 c ds l o (m : Int) (upL l, A, 0) (os, 0) s) FUEL (0 : Int) = some (Sum.inl ()) := hloop
      rw [hloop, Option.bind_some, Sum.elim_inl]
      have e9 : (((upL l).Events.toNat : Int) == ((scW.of ((l.Events.toNat : Int) + ((1 : UInt32).toNat : Int))).toNat : Int)) = true := beq_iff_eq.2 rfl
      show Option.bind (gO (((upL l).Events.toNat : Int) == ((scW.of ((l.Events.toNat : Int) + ((1 : UInt32).toNat : Int))).toNat : Int)) (loss_Check c (upL l))) (fun x27 => some ((((upL l).Events.toNat : Int) == ((scW.of ((l.Events.toNat : Int) + ((1 : UInt32).toNat : Int))).toNat : Int)) && (x27 == 0))) = some true
      rw [e9, chk_up hc ho he]
      rfl
end Go.Proofs.Ytgjibgklailenaa
