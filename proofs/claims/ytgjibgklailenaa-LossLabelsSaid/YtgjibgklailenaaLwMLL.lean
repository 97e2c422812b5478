/- Plain laws, in one text. -/
import Derived.Test.YtgjibgklailenaaGll2
set_option linter.unusedVariables false
set_option linter.unusedSimpArgs false
set_option linter.unnecessarySimpa false
namespace Go.Proofs.Ytgjibgklailenaa
open Go GL
/- Plain law: configs. -/

theorem fuel_lt {n : Nat} (h : n < 4294967296) : n < FUEL := by unfold FUEL; omega

/-- A loop over a list, that leaves where an element has p. -/
theorem loop_any_list {α B : Type} (l : List α) (p : α → Bool) {step : Int → Option (Ctl Int B)} (yes no : B) (hl : l.length < 4294967296)
    (h1 : ∀ k (hk : k < l.length), step (k : Int) = some (bif p l[k] then .brk yes else .next ((k + 1 : Nat) : Int))) (h2 : step (l.length : Int) = some (.brk no)) :
    loopM step FUEL (0 : Int) = some (bif l.any p then yes else no) := by
  have := loop_any (step := step) (fun k => (k : Int)) l.length (fun k => (l[k]?.map p).getD false) yes no (fuel_lt hl) (fun k hk => by
    rw [h1 k hk]; simp [hk]) h2
  rw [any_range l p _ (fun k hk => by simp [hk])] at this
  simpa using this

def outB (r : Arr3_Int) : Bool := decide (r.e0 < r.e1) || decide (r.e0 > r.e2)
theorem bounds_eq (l : List Arr3_Int) (hl : l.length < 4294967296) : shape_bounds l = some (!(l.any outB)) := by
  unfold shape_bounds
  rw [loop_any_list l outB (Sum.inr ()) (Sum.inl ()) hl]
  · cases h : l.any outB <;> simp
  · intro k hk
    unfold shape_bounds_L1
    rw [show decide ((k : Int) < (l.length : Int)) = true by simp; omega, idx_nat, List.getElem?_eq_getElem hk, wI_succ (by omega)]
    simp only [cond_true, Option.bind_some, outB]
    cases (decide (l[k].e0 < l[k].e1) || decide (l[k].e0 > l[k].e2)) <;> rfl
  · unfold shape_bounds_L1
    simp

/-- Configs that may be. -/
def MayC (c : Config) : Prop := (3 ≤ c.Members ∧ c.Members ≤ 16) ∧ (1 ≤ c.Chunk ∧ c.Chunk ≤ 8) ∧ (1 ≤ c.Rows ∧ c.Rows ≤ 8) ∧ (2 ≤ c.Heads ∧ c.Heads ≤ 8) ∧ (c.Members + 1) * (c.Heads + 1) ≤ c.Log ∧ c.Log ≤ 255
def mayC (c : Config) : Bool := ((decide (3 ≤ c.Members) && decide (c.Members ≤ 16)) && (decide (1 ≤ c.Chunk) && decide (c.Chunk ≤ 8))) && ((decide (1 ≤ c.Rows) && decide (c.Rows ≤ 8)) && ((decide (2 ≤ c.Heads) && decide (c.Heads ≤ 8)) && (decide ((c.Members + 1) * (c.Heads + 1) ≤ c.Log) && decide (c.Log ≤ 255))))
theorem mayC_iff (c : Config) : mayC c = true ↔ MayC c := by simp [mayC, MayC, and_assoc]
theorem mayC_f {c : Config} (h : ¬ MayC c) : mayC c = false := by rw [← mayC_iff] at h; simpa using h

theorem wI_need {c : Config} (h1 : 3 ≤ c.Members ∧ c.Members ≤ 16) (h2 : 2 ≤ c.Heads ∧ c.Heads ≤ 8) : wI ((wI (c.Members + 1)) * (wI (c.Heads + 1))) = (c.Members + 1) * (c.Heads + 1) := by
  rw [wI_id (x := c.Members + 1) (by omega) (by omega), wI_id (x := c.Heads + 1) (by omega) (by omega)]
  have h3 : (c.Members + 1) * (c.Heads + 1) ≤ 17 * 9 := Int.mul_le_mul (by omega) (by omega) (by omega) (by omega)
  have h4 : 0 ≤ (c.Members + 1) * (c.Heads + 1) := Int.mul_nonneg (by omega) (by omega)
  exact wI_id (by omega) (by omega)
theorem check_eq (c : Config) : shape_Check c = some (bif mayC c then 0 else 8) := by
  unfold shape_Check
  rw [bounds_eq _ (by simp)]
  simp only [Option.bind_some, List.any_cons, List.any_nil, Bool.or_false, outB]
  by_cases h : (3 ≤ c.Members ∧ c.Members ≤ 16) ∧ (1 ≤ c.Chunk ∧ c.Chunk ≤ 8) ∧ (1 ≤ c.Rows ∧ c.Rows ≤ 8) ∧ (2 ≤ c.Heads ∧ c.Heads ≤ 8)
  · obtain ⟨h1, h2, h3, h4⟩ := h
    have hb : (decide (c.Members < 3) || decide (c.Members > 16) || ((decide (c.Chunk < 1) || decide (c.Chunk > 8)) || ((decide (c.Rows < 1) || decide (c.Rows > 8)) || (decide (c.Heads < 2) || decide (c.Heads > 8))))) = false := by simp; omega
    rw [hb]
    simp only [gO, Bool.not_false, Bool.not_true, Bool.false_or, cond_true]
    rw [bounds_eq _ (by simp)]
    simp only [Option.bind_some, List.any_cons, List.any_nil, Bool.or_false, outB, wI_need h1 h4]
    by_cases h5 : (c.Members + 1) * (c.Heads + 1) ≤ c.Log ∧ c.Log ≤ 255
    · rw [(mayC_iff c).2 ⟨h1, h2, h3, h4, h5⟩]
      have : (decide (c.Log < (c.Members + 1) * (c.Heads + 1)) || decide (c.Log > 255)) = false := by simp; omega
      rw [this]; rfl
    · rw [mayC_f (fun h => h5 h.2.2.2.2)]
      have : (decide (c.Log < (c.Members + 1) * (c.Heads + 1)) || decide (c.Log > 255)) = true := by simp; omega
      rw [this]; rfl
  · have hb : (decide (c.Members < 3) || decide (c.Members > 16) || ((decide (c.Chunk < 1) || decide (c.Chunk > 8)) || ((decide (c.Rows < 1) || decide (c.Rows > 8)) || (decide (c.Heads < 2) || decide (c.Heads > 8))))) = true := by simp; omega
    rw [hb, mayC_f (fun hm => h ⟨hm.1, hm.2.1, hm.2.2.1, hm.2.2.2.1⟩)]
    rfl
theorem may_eq (c : Config) : ref06_May c = some (mayC c) := by
  unfold ref06_May ref06_in ref06_Need
  simp only [Option.bind_some, gO]
  by_cases h1 : 3 ≤ c.Members ∧ c.Members ≤ 16
  case neg =>
    have hb : (decide (c.Members ≥ 3) && decide (c.Members ≤ 16)) = false := by simp; omega
    rw [mayC_f (fun h => h1 h.1)]; simp [hb]
  by_cases h2 : 1 ≤ c.Chunk ∧ c.Chunk ≤ 8
  case neg =>
    have hb : (decide (c.Members ≥ 3) && decide (c.Members ≤ 16)) = true := by simp; omega
    have hb2 : (decide (c.Chunk ≥ 1) && decide (c.Chunk ≤ 8)) = false := by simp; omega
    rw [mayC_f (fun h => h2 h.2.1)]; simp [hb, hb2]
  by_cases h3 : 1 ≤ c.Rows ∧ c.Rows ≤ 8
  case neg =>
    have hb : (decide (c.Members ≥ 3) && decide (c.Members ≤ 16)) = true := by simp; omega
    have hb2 : (decide (c.Chunk ≥ 1) && decide (c.Chunk ≤ 8)) = true := by simp; omega
    have hb3 : (decide (c.Rows ≥ 1) && decide (c.Rows ≤ 8)) = false := by simp; omega
    rw [mayC_f (fun h => h3 h.2.2.1)]; simp [hb, hb2, hb3]
  by_cases h4 : 2 ≤ c.Heads ∧ c.Heads ≤ 8
  case neg =>
    have hb : (decide (c.Members ≥ 3) && decide (c.Members ≤ 16)) = true := by simp; omega
    have hb2 : (decide (c.Chunk ≥ 1) && decide (c.Chunk ≤ 8)) = true := by simp; omega
    have hb3 : (decide (c.Rows ≥ 1) && decide (c.Rows ≤ 8)) = true := by simp; omega
    have hb4 : (decide (c.Heads ≥ 2) && decide (c.Heads ≤ 8)) = false := by simp; omega
    rw [mayC_f (fun h => h4 h.2.2.2.1)]; simp [hb, hb2, hb3, hb4]
  have hb : (decide (c.Members ≥ 3) && decide (c.Members ≤ 16)) = true := by simp; omega
  have hb2 : (decide (c.Chunk ≥ 1) && decide (c.Chunk ≤ 8)) = true := by simp; omega
  have hb3 : (decide (c.Rows ≥ 1) && decide (c.Rows ≤ 8)) = true := by simp; omega
  have hb4 : (decide (c.Heads ≥ 2) && decide (c.Heads ≤ 8)) = true := by simp; omega
  simp only [hb, hb2, hb3, hb4, Bool.not_true, Bool.not_false, Bool.false_or, Bool.or_false, cond_true, cond_false, Option.bind_some, wI_need h1 h4]
  simp [mayC, h1, h2, h3, h4]

theorem wI_str {c : Config} (h : MayC c) : wI (c.Chunk * c.Rows) = c.Chunk * c.Rows ∧ 1 ≤ c.Chunk * c.Rows ∧ c.Chunk * c.Rows ≤ 64 := by
  obtain ⟨_, h2, h3, _⟩ := h
  have h4 : c.Chunk * c.Rows ≤ 8 * 8 := Int.mul_le_mul (by omega) (by omega) (by omega) (by omega)
  have h5 : 1 * 1 ≤ c.Chunk * c.Rows := Int.mul_le_mul (by omega) (by omega) (by omega) (by omega)
  exact ⟨wI_id (by omega) (by omega), by omega, by omega⟩
theorem stripes_eq (c : Config) : shape_Stripes c = some (bif mayC c then (c.Chunk * c.Rows, 0) else (0, 8)) := by
  unfold shape_Stripes shape_told
  rw [check_eq]
  cases h : mayC c with
  | true => simp [(wI_str ((mayC_iff c).1 h)).1]
  | false => simp
theorem rstripes_eq {c : Config} (h : MayC c) : ref06_Stripes c = some (c.Chunk * c.Rows) := by
  unfold ref06_Stripes; rw [(wI_str h).1]
/- Plain law: sums by a table are sums bit by bit. -/

def sB (n : BitVec 32) : BitVec 32 := bif n.getLsbD 0 then (n >>> 1) ^^^ 2197175160#32 else n >>> 1
theorem sB_xor (a b : BitVec 32) : sB (a ^^^ b) = sB a ^^^ sB b := by
  unfold sB
  rw [BitVec.getLsbD_xor, BitVec.ushiftRight_xor_distrib]
  cases a.getLsbD 0 <;> cases b.getLsbD 0 <;> simp only [cond_true, cond_false, Bool.xor_false, Bool.xor_true, Bool.not_true, Bool.not_false]
  · rw [BitVec.xor_assoc]
  · rw [BitVec.xor_assoc, BitVec.xor_assoc, BitVec.xor_comm (b >>> 1)]
  · rw [BitVec.xor_assoc, BitVec.xor_comm (2197175160#32) (b >>> 1 ^^^ 2197175160#32), BitVec.xor_assoc (b >>> 1), BitVec.xor_self, BitVec.xor_zero]
theorem sB_even {a : BitVec 32} (h : a.getLsbD 0 = false) : sB a = a >>> 1 := by unfold sB; rw [h]; rfl
theorem bv_nib (n : BitVec 32) : n = ((n >>> 4) <<< 4) ^^^ (n &&& 15#32) := by
  apply BitVec.eq_of_getLsbD_eq
  intro i hi
  have h15 : (15#32).getLsbD i = decide (i < 4) := by
    rw [BitVec.getLsbD_ofNat, show (15 : Nat) = 2 ^ 4 - 1 from rfl, Nat.testBit_two_pow_sub_one]
    by_cases h : i < 4 <;> simp [h]; omega
  simp only [BitVec.getLsbD_xor, BitVec.getLsbD_and, h15, BitVec.getLsbD_shiftLeft, BitVec.getLsbD_ushiftRight]
  by_cases h : i < 4
  · simp [h, hi]
  · rw [show 4 + (i - 4) = i by omega]; simp [h, hi]
theorem sB_hi (n : BitVec 32) : sB (sB (sB (sB ((n >>> 4) <<< 4)))) = n >>> 4 := by
  have g : ∀ i j, i + j < 4 → ((((n >>> 4) <<< 4) >>> i).getLsbD j) = false := fun i j h => by
    rw [BitVec.getLsbD_ushiftRight, BitVec.getLsbD_shiftLeft]
    simp [h]
  have e1 : sB ((n >>> 4) <<< 4) = ((n >>> 4) <<< 4) >>> 1 := sB_even (by simp)
  have e2 : sB (((n >>> 4) <<< 4) >>> 1) = ((n >>> 4) <<< 4) >>> 2 := by rw [sB_even (g 1 0 (by omega)), ← BitVec.shiftRight_add]
  have e3 : sB (((n >>> 4) <<< 4) >>> 2) = ((n >>> 4) <<< 4) >>> 3 := by rw [sB_even (g 2 0 (by omega)), ← BitVec.shiftRight_add]
  have e4 : sB (((n >>> 4) <<< 4) >>> 3) = ((n >>> 4) <<< 4) >>> 4 := by rw [sB_even (g 3 0 (by omega)), ← BitVec.shiftRight_add]
  rw [e1, e2, e3, e4]
  apply BitVec.eq_of_getLsbD_eq
  intro i hi
  rw [BitVec.getLsbD_ushiftRight, BitVec.getLsbD_shiftLeft, show 4 + i - 4 = i by omega]
  by_cases h : 4 + i < 32
  · simp [h]
  · have : (n >>> 4).getLsbD i = false := by rw [BitVec.getLsbD_ushiftRight]; exact BitVec.getLsbD_of_ge _ _ (by omega)
    rw [this]; simp
def wordsL : List UInt32 := [(0 : UInt32), (274646895 : UInt32), (549293790 : UInt32), (820201905 : UInt32), (1098587580 : UInt32), (1361435347 : UInt32), (1640403810 : UInt32), (1905808397 : UInt32), (2197175160 : UInt32), (2460548119 : UInt32), (2722870694 : UInt32), (2987750089 : UInt32), (3280807620 : UInt32), (3553878443 : UInt32), (3811616794 : UInt32), (4084100981 : UInt32)]
theorem sB_lo : ∀ k : Fin 16, sB (sB (sB (sB (BitVec.ofNat 32 k.val)))) = (wordsL.getD k.val 0).toBitVec := by decide
theorem and15 (n : BitVec 32) : (n &&& 15#32).toNat < 16 := by
  rw [BitVec.toNat_and]
  exact Nat.lt_of_le_of_lt Nat.and_le_right (by decide)
theorem sB_nib (n : BitVec 32) : sB (sB (sB (sB n))) = (n >>> 4) ^^^ (wordsL.getD (n &&& 15#32).toNat 0).toBitVec := by
  have h := sB_lo ⟨(n &&& 15#32).toNat, and15 n⟩
  simp only [BitVec.ofNat_toNat, BitVec.setWidth_eq] at h
  rw [← h]
  have e := bv_nib n
  calc sB (sB (sB (sB n))) = sB (sB (sB (sB (((n >>> 4) <<< 4) ^^^ (n &&& 15#32))))) := by rw [← e]
    _ = _ := by rw [sB_xor, sB_xor, sB_xor, sB_xor, sB_hi]

/-- One step on whole numbers. -/
def f1 (n : UInt32) : UInt32 := ⟨sB n.toBitVec⟩
theorem f1_eq (n : UInt32) : f1 n = bif ((n % 2).toNat : Int) == ((1 : UInt32).toNat : Int) then (n / 2) ^^^ 2197175160 else n / 2 := by
  have h2 : (n / 2).toBitVec = n.toBitVec >>> 1 := by
    apply BitVec.eq_of_toNat_eq
    show (n.toBitVec / 2#32).toNat = _
    rw [BitVec.toNat_udiv, BitVec.toNat_ushiftRight, Nat.shiftRight_eq_div_pow]; rfl
  have h3 : n.toBitVec.getLsbD 0 = (((n % 2).toNat : Int) == ((1 : UInt32).toNat : Int)) := by
    rw [UInt32.toNat_mod]
    show n.toBitVec.toNat.testBit 0 = _
    rw [Nat.testBit_zero, Bool.eq_iff_iff]
    simp
    show n.toNat % 2 = 1 ↔ _
    omega
  unfold f1 sB
  rw [h3]
  cases (((n % 2).toNat : Int) == ((1 : UInt32).toNat : Int)) with
  | true => apply UInt32.toBitVec_inj.1; simp only [cond_true]; rw [UInt32.toBitVec_xor, h2]; rfl
  | false => apply UInt32.toBitVec_inj.1; simp only [cond_false]; exact h2.symm
theorem shrW4 (n : UInt32) : (shrW n 4).toBitVec = n.toBitVec >>> 4 := by
  apply BitVec.eq_of_toNat_eq
  rw [BitVec.toNat_ushiftRight, Nat.shiftRight_eq_div_pow]
  unfold shrW
  have : n.toNat < 4294967296 := n.toNat_lt
  show (UInt32.ofNat (n.toNat / 2 ^ min 4 32)).toNat = _
  rw [UInt32.toNat_ofNat_of_lt' (show n.toNat / 2 ^ min 4 32 < UInt32.size from Nat.lt_of_le_of_lt (Nat.div_le_self _ _) this)]
  rfl
theorem nib_lt (n : UInt32) : (n &&& 15).toNat < 16 := by
  have := and15 n.toBitVec
  exact this
theorem nib_get (n : UInt32) : wordsL[(n &&& 15).toNat]? = some (wordsL.getD (n &&& 15).toNat 0) := by
  rw [List.getD_eq_getElem?_getD, List.getElem?_eq_getElem (show (n &&& 15).toNat < wordsL.length from nib_lt n)]; rfl
theorem nib_eq (n : UInt32) : shrW n 4 ^^^ wordsL.getD (n &&& 15).toNat 0 = f1 (f1 (f1 (f1 n))) := by
  apply UInt32.toBitVec_inj.1
  rw [UInt32.toBitVec_xor, shrW4]
  exact (sB_nib n.toBitVec).symm

/-- A byte more. -/
def ov (s : UInt32) (x : UInt8) : UInt32 := f1 (f1 (f1 (f1 (f1 (f1 (f1 (f1 (s ^^^ scW.of (x.toNat : Int)))))))))
theorem bnd_u {n : Nat} (u : UInt32) (h : u.toNat < n) : bnd n (u.toNat : Int) = some u.toNat := bnd_nat h
theorem over_step (l : List UInt8) (s : UInt32) (k : Nat) (hk : k < l.length) (hl : l.length < 4294967296) : poly_Over_L1 l (ArrV.mk wordsL) s (k : Int) = some (Ctl.next (ov s l[k], ((k + 1 : Nat) : Int))) := by
  unfold poly_Over_L1
  rw [decide_eq_true (show (k : Int) < (l.length : Int) by omega), idx_nat, List.getElem?_eq_getElem hk, wI_succ (by omega)]
  simp only [cond_true, Option.bind_some]
  rw [bnd_u _ (nib_lt _)]
  simp only [Option.bind_some]
  rw [nib_get]
  simp only [Option.bind_some]
  rw [nib_eq, bnd_u _ (nib_lt _)]
  simp only [Option.bind_some]
  rw [nib_get]
  simp only [Option.bind_some]
  rw [nib_eq]
  rfl
def crcF (s : UInt32) (l : List UInt8) : UInt32 := l.foldl ov s
theorem crcF_snoc (s : UInt32) (l : List UInt8) (k : Nat) (hk : k < l.length) : crcF s (l.take (k + 1)) = ov (crcF s (l.take k)) l[k] := by
  unfold crcF
  rw [take_succ_get l k l[k] (List.getElem?_eq_getElem hk), List.foldl_append]; rfl
def crc (l : List UInt8) : UInt32 := 4294967295 ^^^ crcF 4294967295 l
theorem psum_eq (l : List UInt8) (hl : l.length < 4294967296) : poly_Sum l = some (crc l) := by
  unfold poly_Sum poly_Over poly_words
  simp only [Option.bind_some]
  have h := loop_run (step := fun s : UInt32 × Int => poly_Over_L1 l (ArrV.mk wordsL) s.1 s.2) (fun k => (crcF 4294967295 (l.take k), (k : Int))) l.length (crcF 4294967295 l) (by unfold FUEL; omega)
    (fun k hk => by
      show poly_Over_L1 l (ArrV.mk wordsL) _ _ = _
      rw [over_step l _ k hk hl, crcF_snoc _ _ _ hk])
    (by
      show poly_Over_L1 l (ArrV.mk wordsL) _ _ = _
      unfold poly_Over_L1
      rw [decide_eq_false (by omega), List.take_length]; rfl)
  have h0 : ((4294967295 : UInt32) ^^^ 0) = 4294967295 := by decide
  rw [h0]
  have h : loopM (fun s : UInt32 × Int => poly_Over_L1 l (ArrV.mk wordsL) s.1 s.2) FUEL (4294967295, 0) = some (crcF 4294967295 l) := h
  show Option.bind (Option.bind (loopM (fun s : UInt32 × Int => poly_Over_L1 l (ArrV.mk wordsL) s.1 s.2) FUEL (4294967295, 0)) _) _ = _
  rw [h]
  rfl
theorem scW_not (a : UInt32) : scW.of (((4294967295 : UInt32).toNat : Int) - (a.toNat : Int)) = 4294967295 ^^^ a := by
  have h : a.toNat < 4294967296 := a.toNat_lt
  have e1 : ((4294967295 : UInt32).toNat : Int) = 4294967295 := rfl
  have e2 : scW.of (((4294967295 : UInt32).toNat : Int) - (a.toNat : Int)) = UInt32.ofNat (4294967295 - a.toNat) := by
    unfold scW.of
    rw [e1]
    congr 1
    omega
  rw [e2]
  apply UInt32.toBitVec_inj.1
  rw [UInt32.toBitVec_xor]
  apply BitVec.eq_of_getLsbD_eq
  intro i hi
  have e3 : (UInt32.ofNat (4294967295 - a.toNat)).toBitVec = ~~~ a.toBitVec := by
    apply BitVec.eq_of_toNat_eq
    show (UInt32.ofNat (4294967295 - a.toNat)).toNat = _
    rw [UInt32.toNat_ofNat_of_lt' (show 4294967295 - a.toNat < UInt32.size by show _ < 4294967296; omega), BitVec.toNat_not]
    rfl
  rw [e3]
  have e4 : (4294967295 : UInt32).toBitVec = BitVec.allOnes 32 := by decide
  rw [e4, BitVec.getLsbD_xor, BitVec.getLsbD_not, BitVec.getLsbD_allOnes]
  simp [hi]
theorem not_not32 (a : UInt32) : (4294967295 : UInt32) ^^^ (4294967295 ^^^ a) = a := by rw [← UInt32.xor_assoc, UInt32.xor_self, UInt32.zero_xor]
theorem bit_step (n : UInt32) (k : Nat) (hk : k < 8) : ref01_With_L1 n (k : Int) = some (Ctl.next (f1 n, ((k + 1 : Nat) : Int))) := by
  unfold ref01_With_L1 ref01_With_J2
  rw [decide_eq_true (show (k : Int) < 8 by omega), wI_succ (by omega), f1_eq]
  simp only [cond_true, show remW n 2 = some (n % 2) from rfl, show quoW n 2 = some (n / 2) from rfl, Option.bind_some]
  cases (((n % 2).toNat : Int) == ((1 : UInt32).toNat : Int)) <;> rfl
def fk : Nat → UInt32 → UInt32
  | 0, n => n
  | k + 1, n => f1 (fk k n)
theorem with_eq (s : UInt32) (x : UInt8) : ref01_With (4294967295 ^^^ s) x = some (4294967295 ^^^ ov s x) := by
  unfold ref01_With
  rw [scW_not, not_not32]
  have h := loop_run (step := fun s : UInt32 × Int => ref01_With_L1 s.1 s.2) (fun k => (fk k (s ^^^ scW.of (x.toNat : Int)), (k : Int))) 8 (ov s x) (by unfold FUEL; omega)
    (fun k hk => by
      show ref01_With_L1 _ _ = _
      rw [bit_step _ k hk]; rfl)
    (by
      show ref01_With_L1 _ _ = _
      unfold ref01_With_L1
      rw [decide_eq_false (by omega)]; rfl)
  have h : loopM (fun s : UInt32 × Int => ref01_With_L1 s.1 s.2) FUEL (s ^^^ scW.of (x.toNat : Int), 0) = some (ov s x) := h
  rw [h]
  simp only [Option.bind_some]
  rw [scW_not]
theorem rsum_eq (l : List UInt8) (hl : l.length < 4294967296) : ref01_Sum l = some (crc l) := by
  unfold ref01_Sum ref01_Over
  have h := loop_run (step := fun s : UInt32 × Int => ref01_Over_L1 l s.1 s.2) (fun k => (4294967295 ^^^ crcF 4294967295 (l.take k), (k : Int))) l.length (crc l) (by unfold FUEL; omega)
    (fun k hk => by
      show ref01_Over_L1 l _ _ = _
      unfold ref01_Over_L1
      rw [decide_eq_true (show (k : Int) < (l.length : Int) by omega), idx_nat, List.getElem?_eq_getElem hk, wI_succ (by omega)]
      simp only [cond_true, Option.bind_some]
      rw [with_eq, crcF_snoc _ _ _ hk]; rfl)
    (by
      show ref01_Over_L1 l _ _ = _
      unfold ref01_Over_L1
      rw [decide_eq_false (by omega), List.take_length]; rfl)
  have h0 : ((4294967295 : UInt32) ^^^ 4294967295) = 0 := by decide
  have h : loopM (fun s : UInt32 × Int => ref01_Over_L1 l s.1 s.2) FUEL (4294967295 ^^^ 4294967295, 0) = some (crc l) := h
  rw [h0] at h
  rw [h]
  rfl
/- Plain law: numbers in a block; a label's block. -/

/-- A number's byte. -/
def byt (n i : Nat) : UInt8 := UInt8.ofNat (n / 256 ^ i % 256)
/-- A block behind the first so many bytes of a number. -/
def setR (b : List UInt8) (at_ n : Nat) : Nat → List UInt8
  | 0 => b
  | k + 1 => (setR b at_ n k).set (at_ + k) (byt n k)
theorem setR_len (b : List UInt8) (at_ n : Nat) : ∀ k, (setR b at_ n k).length = b.length
  | 0 => rfl
  | k + 1 => by rw [setR, List.length_set, setR_len b at_ n k]
theorem scB_nat (m : Nat) : scB.of (m : Int) = UInt8.ofNat (m % 256) := by
  unfold scB.of; congr 1
theorem pow8 : ∀ i : Nat, i ≤ 4 → (2 : Int) ^ (min ((8 * (i : Int)).toNat) 64) = ((256 ^ i : Nat) : Int)
  | 0, _ => rfl
  | 1, _ => rfl
  | 2, _ => rfl
  | 3, _ => rfl
  | 4, _ => rfl
  | i + 5, h => absurd h (by omega)
theorem shr_nat (n i : Nat) (h : i ≤ 4) : shrI (n : Int) (wI ((8 : Int) * (i : Int))) = some ((n / 256 ^ i : Nat) : Int) := by
  rw [wI_id (by omega) (by omega)]
  unfold shrI
  rw [if_neg (by omega), pow8 i h]
  congr 1
  rw [Int.fdiv_eq_ediv_of_nonneg _ (Int.natCast_nonneg _)]
  rfl
def fullP (b : List UInt8) : List UInt8 := if b.length = 0 then List.replicate 128 0 else b
theorem fullP_len {b : List UInt8} (h : b.length = 0 ∨ b.length = 128) : (fullP b).length = 128 := by
  unfold fullP
  split
  · simp
  · omega
theorem whole_eq {b : List UInt8} (h : b.length = 0 ∨ b.length = 128) : pack_whole b = some (ArrV.mk (fullP b), 0) := by
  unfold pack_whole fullP
  rcases h with h | h
  · rw [if_pos h]
    have : b = [] := List.eq_nil_of_length_eq_zero h
    subst this
    rw [show ((([] : List UInt8).length : Int) != 0 && (([] : List UInt8).length : Int) != 128) = false from rfl]
    simp only [cond_false]
    refine congrArg some (Prod.ext (congrArg ArrV.mk ?_) rfl)
    unfold cpyA
    simp
  · rw [if_neg (by omega), h]
    rw [show (((128 : Nat) : Int) != 0 && ((128 : Nat) : Int) != 128) = false from rfl]
    simp only [cond_false]
    refine congrArg some (Prod.ext (congrArg ArrV.mk ?_) rfl)
    unfold cpyA
    rw [List.length_replicate, ← h, List.take_length, h]
    simp
theorem whole_bad {b : List UInt8} (h : ¬ (b.length = 0 ∨ b.length = 128)) : pack_whole b = some (ArrV.mk (List.replicate 128 0), 3) := by
  unfold pack_whole
  rw [show ((((b).length : Int) != (0 : Int)) && (((b).length : Int) != (128 : Int))) = true by rw [Bool.and_eq_true, bne_iff_ne, bne_iff_ne]; omega]
  simp only [cond_true]
theorem put_eq {b : List UInt8} {at_ sz n : Nat} (hb : b.length = 0 ∨ b.length = 128) (h1 : 1 ≤ sz) (h2 : sz ≤ 4) (h3 : at_ + sz ≤ 128) (hn : n < 256 ^ sz) :
    pack_Put b (at_ : Int) (sz : Int) (n : Int) = some (setR (fullP b) at_ n sz, 0) := by
  unfold pack_Put pack_fits
  rw [whole_eq hb]
  simp only [Option.bind_some, show ((0 : Int) != 0) = false from rfl, cond_false]
  rw [wI_id (by omega) (by omega)]
  rw [show ((((decide ((sz : Int) ≥ 1)) && (decide ((sz : Int) ≤ 4))) && (decide ((at_ : Int) ≥ 0))) && (decide ((at_ : Int) ≤ 128 - (sz : Int)))) = true by simp; omega]
  rw [show decide ((n : Int) < 0) = false by simp]
  simp only [Bool.not_true, Bool.or_false, Bool.false_or, Bool.not_false, gO, cond_true]
  rw [shr_nat n sz h2]
  simp only [Option.bind_some]
  rw [show n / 256 ^ sz = 0 from Nat.div_eq_of_lt hn]
  simp only [show (((0 : Nat) : Int) != 0) = false from rfl, cond_false]
  have h := loop_run (step := fun s : Int × List UInt8 => pack_Put_L1 (at_ : Int) (sz : Int) (n : Int) s.1 s.2) (fun k => ((k : Int), setR (fullP b) at_ n k)) sz (setR (fullP b) at_ n sz) (by unfold FUEL; omega)
    (fun k hk => by
      show pack_Put_L1 _ _ _ _ _ = _
      unfold pack_Put_L1
      rw [decide_eq_true (show (k : Int) < (sz : Int) by omega), shr_nat n k (by omega), wI_succ (by omega)]
      simp only [cond_true, Option.bind_some]
      rw [wI_id (by omega) (by omega), show ((at_ : Int) + (k : Int)) = ((at_ + k : Nat) : Int) by omega, bnd_nat (by omega)]
      simp only [Option.bind_some]
      rw [scB_nat]; rfl)
    (by
      show pack_Put_L1 _ _ _ _ _ = _
      unfold pack_Put_L1
      rw [decide_eq_false (by omega)]; rfl)
  have h : loopM (fun s : Int × List UInt8 => pack_Put_L1 (at_ : Int) (sz : Int) (n : Int) s.1 s.2) FUEL ((0 : Int), fullP b) = some (setR (fullP b) at_ n sz) := h
  rw [h]; rfl

/-- What stands in a block behind some fields. -/
structure NField where
  n : Nat
  at_ : Nat
  size : Nat
def NField.f (x : NField) : Field := ⟨(x.n : Int), (x.at_ : Int), (x.size : Int)⟩
def NField.ok (x : NField) : Prop := 1 ≤ x.size ∧ x.size ≤ 4 ∧ x.at_ + x.size ≤ 128 ∧ x.n < 256 ^ x.size
def putF (b : List UInt8) (x : NField) : List UInt8 := setR (fullP b) x.at_ x.n x.size
theorem putFs_len : ∀ (fs : List NField) (b : List UInt8), (b.length = 0 ∨ b.length = 128) → ((fs.foldl putF b).length = 0 ∨ (fs.foldl putF b).length = 128)
  | [], _, h => h
  | x :: fs, b, h => putFs_len fs (putF b x) (by unfold putF; rw [setR_len, fullP_len h]; exact .inr rfl)
theorem fields_loop (fs : List NField) (hf : ∀ x ∈ fs, x.ok) (hl : fs.length < 4294967296) :
    loopM (fun s : (List UInt8) × Int => label_Write_L1 (fs.map NField.f) s.1 s.2) FUEL (([] : List UInt8), (0 : Int)) = some (Sum.inl (fs.foldl putF [])) := by
  have h := loop_run (step := fun s : (List UInt8) × Int => label_Write_L1 (fs.map NField.f) s.1 s.2) (fun k => ((fs.take k).foldl putF [], (k : Int))) fs.length (Sum.inl (fs.foldl putF [])) (by unfold FUEL; omega)
    (fun k hk => by
      show label_Write_L1 _ _ _ = _
      unfold label_Write_L1
      rw [List.length_map, decide_eq_true (show (k : Int) < (fs.length : Int) by omega), idx_nat, List.getElem?_map, List.getElem?_eq_getElem hk, wI_succ (by omega)]
      simp only [cond_true, Option.bind_some, Option.map_some, NField.f]
      obtain ⟨h1, h2, h3, h4⟩ := hf fs[k] (List.getElem_mem hk)
      rw [put_eq (putFs_len (fs.take k) [] (.inl rfl)) h1 h2 h3 h4, take_succ_get fs k fs[k] (List.getElem?_eq_getElem hk), List.foldl_append]
      rfl)
    (by
      show label_Write_L1 _ _ _ = _
      unfold label_Write_L1
      rw [List.length_map, decide_eq_false (by omega), List.take_length]; rfl)
  exact h

def lostN (l : Label) : Nat := if l.Lost = -1 then 255 else l.Lost.toNat
/-- A label's numbers are small. -/
structure OkLab (l : Label) : Prop where
  ev : l.Events.toNat ≤ 2147483648
  mem : 3 ≤ l.Members ∧ l.Members ≤ 16
  ch : 1 ≤ l.Chunk ∧ l.Chunk ≤ 8
  rows : 1 ≤ l.Rows ∧ l.Rows ≤ 8
  log : (l.Members + 1) * 3 ≤ l.Log ∧ l.Log ≤ 255
  me : 0 ≤ l.Me ∧ l.Me < l.Members
  done : 0 ≤ l.Done ∧ l.Done ≤ l.Chunk * l.Rows
  lost : -1 ≤ l.Lost ∧ l.Lost < l.Members
  none : ¬ (l.Lost = -1 ∧ 0 < l.Done)
theorem OkLab.done64 {l : Label} (h : OkLab l) : l.Done ≤ 64 := by
  have h1 := h.done.2
  have h2 : l.Chunk * l.Rows ≤ 8 * l.Rows := Int.mul_le_mul_of_nonneg_right h.ch.2 (by have := h.rows; omega)
  have := h.rows
  omega
def fieldsN (l : Label) : List NField := [⟨76, 0, 1⟩, ⟨l.Id.toNat, 1, 4⟩, ⟨l.Events.toNat, 5, 4⟩, ⟨l.Members.toNat, 9, 1⟩, ⟨l.Chunk.toNat, 10, 1⟩, ⟨l.Rows.toNat, 11, 1⟩, ⟨l.Log.toNat, 12, 1⟩, ⟨l.Me.toNat, 13, 1⟩, ⟨lostN l, 14, 1⟩, ⟨l.Done.toNat, 15, 1⟩, ⟨(bif l.Open then 1 else 0), 16, 1⟩]
theorem fieldsN_ok {l : Label} (h : OkLab l) : ∀ x ∈ fieldsN l, x.ok := by
  have h1 := h.mem
  have h2 := h.ch
  have h3 := h.rows
  have h4 := h.log
  have h5 := h.me
  have h6 := h.done
  have h7 := h.lost
  have h8 := h.done64
  have h9 := h.ev
  have hi := l.Id.toNat_lt
  have hl : lostN l < 256 := by unfold lostN; split <;> omega
  have ho : (bif l.Open then 1 else 0) < 256 := by cases l.Open <;> decide
  intro x hx
  simp only [fieldsN, List.mem_cons, List.not_mem_nil, or_false] at hx
  rcases hx with rfl | rfl | rfl | rfl | rfl | rfl | rfl | rfl | rfl | rfl | rfl <;> refine ⟨?_, ?_, ?_, ?_⟩ <;> simp <;> omega
theorem fields_eq {l : Label} (h1 : 0 ≤ l.Members) (h2 : 0 ≤ l.Chunk) (h3 : 0 ≤ l.Rows) (h4 : 0 ≤ l.Log) (h5 : 0 ≤ l.Me) (h6 : 0 ≤ l.Done) (h7 : -1 ≤ l.Lost) : label_fields l = some ((fieldsN l).map NField.f) := by
  have hi : l.Id.toNat < 4294967296 := l.Id.toNat_lt
  have he : l.Events.toNat < 4294967296 := l.Events.toNat_lt
  have e1 : wI (l.Id.toNat : Int) = (l.Id.toNat : Int) := wI_id (by omega) (by omega)
  have e2 : wI (l.Events.toNat : Int) = (l.Events.toNat : Int) := wI_id (by omega) (by omega)
  have key : ∀ (j1 j2 : Int), label_fields_J2 l j1 j2 = some [⟨76, 0, 1⟩, ⟨(l.Id.toNat : Int), 1, 4⟩, ⟨(l.Events.toNat : Int), 5, 4⟩, ⟨l.Members, 9, 1⟩, ⟨l.Chunk, 10, 1⟩, ⟨l.Rows, 11, 1⟩, ⟨l.Log, 12, 1⟩, ⟨l.Me, 13, 1⟩, ⟨j1, 14, 1⟩, ⟨l.Done, 15, 1⟩, ⟨j2, 16, 1⟩] := by
    intro j1 j2
    unfold label_fields_J2
    rw [e1, e2]
    rfl
  have hm : (fieldsN l).map NField.f = [⟨76, 0, 1⟩, ⟨(l.Id.toNat : Int), 1, 4⟩, ⟨(l.Events.toNat : Int), 5, 4⟩, ⟨l.Members, 9, 1⟩, ⟨l.Chunk, 10, 1⟩, ⟨l.Rows, 11, 1⟩, ⟨l.Log, 12, 1⟩, ⟨l.Me, 13, 1⟩, ⟨(lostN l : Int), 14, 1⟩, ⟨l.Done, 15, 1⟩, ⟨((bif l.Open then 1 else 0 : Nat) : Int), 16, 1⟩] := by
    simp only [fieldsN, List.map_cons, List.map_nil, NField.f, Int.toNat_of_nonneg h1, Int.toNat_of_nonneg h2, Int.toNat_of_nonneg h3, Int.toNat_of_nonneg h4, Int.toNat_of_nonneg h5, Int.toNat_of_nonneg h6]
    rfl
  rw [hm]
  unfold label_fields label_fields_J1 lostN
  rw [key, key, key, key]
  by_cases hL : l.Lost = -1
  · rw [show (l.Lost == -1) = true by simpa using hL, if_pos hL]
    cases l.Open <;> rfl
  · rw [show (l.Lost == -1) = false by simpa using hL, if_neg hL, Int.toNat_of_nonneg (by omega)]
    cases l.Open <;> rfl
/-- The seventeen bytes. -/
def headB (l : Label) : List UInt8 := [76, byt l.Id.toNat 0, byt l.Id.toNat 1, byt l.Id.toNat 2, byt l.Id.toNat 3, byt l.Events.toNat 0, byt l.Events.toNat 1, byt l.Events.toNat 2, byt l.Events.toNat 3, byt l.Members.toNat 0, byt l.Chunk.toNat 0, byt l.Rows.toNat 0, byt l.Log.toNat 0, byt l.Me.toNat 0, byt (lostN l) 0, byt l.Done.toNat 0, byt (bif l.Open then 1 else 0) 0]
def bodyB (l : Label) : List UInt8 := headB l ++ List.replicate 111 0
theorem bodyB_len (l : Label) : (bodyB l).length = 128 := by unfold bodyB headB; simp
def numB (n k : Nat) : List UInt8 := (List.range k).map (byt n)
theorem numB_len (n k : Nat) : (numB n k).length = k := by unfold numB; simp
theorem setR_app (h : List UInt8) (n : Nat) : ∀ (k m : Nat), k ≤ m → setR (h ++ List.replicate m 0) h.length n k = h ++ numB n k ++ List.replicate (m - k) 0
  | 0, m, _ => by simp [setR, numB]
  | k + 1, m, hk => by
    rw [setR, setR_app h n k m (by omega)]
    obtain ⟨j, hj⟩ : ∃ j, m - k = j + 1 := ⟨m - k - 1, by omega⟩
    rw [hj, List.replicate_succ, show m - (k + 1) = j by omega]
    rw [List.set_append_right _ _ (by rw [List.length_append, numB_len]; omega)]
    rw [List.length_append, numB_len, Nat.sub_self, List.set_cons_zero]
    rw [show numB n (k + 1) = numB n k ++ [byt n k] by unfold numB; rw [List.range_succ, List.map_append]; rfl]
    simp
def chainF (k : Nat) : List NField → Bool
  | [] => true
  | x :: fs => Nat.beq x.at_ k && chainF (k + x.size) fs
def sumF : List NField → Nat
  | [] => 0
  | x :: fs => x.size + sumF fs
theorem putFs_app : ∀ (fs : List NField) (h : List UInt8) (m : Nat), h.length + m = 128 → chainF h.length fs = true → sumF fs ≤ m →
    fs.foldl putF (h ++ List.replicate m 0) = h ++ (fs.flatMap fun x => numB x.n x.size) ++ List.replicate (m - sumF fs) 0
  | [], h, m, _, _, _ => by simp [sumF]
  | x :: fs, h, m, hm, hc, hs => by
    simp only [chainF, Bool.and_eq_true] at hc
    have h1 : x.at_ = h.length := Nat.eq_of_beq_eq_true hc.1
    have h2 : x.size + sumF fs ≤ m := hs
    rw [List.foldl_cons]
    have e : putF (h ++ List.replicate m 0) x = (h ++ numB x.n x.size) ++ List.replicate (m - x.size) 0 := by
      unfold putF fullP
      rw [if_neg (by rw [List.length_append, List.length_replicate]; omega), h1, setR_app h x.n x.size m (by omega)]
    rw [e, putFs_app fs (h ++ numB x.n x.size) (m - x.size) (by rw [List.length_append, numB_len]; omega) (by rw [List.length_append, numB_len]; exact hc.2) (by omega)]
    rw [List.flatMap_cons, show m - x.size - sumF fs = m - sumF (x :: fs) by show _ = m - (x.size + sumF fs); omega]
    simp
theorem putF_nil (x : NField) : putF [] x = putF ([] ++ List.replicate 128 0) x := by
  unfold putF fullP
  rw [List.nil_append, if_pos (by rfl), if_neg (by simp)]
theorem putFs_eq (l : Label) : (fieldsN l).foldl putF [] = bodyB l := by
  have h := putFs_app (fieldsN l) [] 128 rfl rfl (by show 17 ≤ 128; omega)
  have e : (fieldsN l).foldl putF [] = (fieldsN l).foldl putF ([] ++ List.replicate 128 0) := by
    rw [show fieldsN l = ⟨76, 0, 1⟩ :: (fieldsN l).tail from rfl, List.foldl_cons, List.foldl_cons, putF_nil]
  rw [e, h]
  rfl
/-- A label's block. -/
def blkL (l : Label) : List UInt8 := setR (bodyB l) 124 (crc ((bodyB l).take 124)).toNat 4
theorem blkL_len (l : Label) : (blkL l).length = 128 := by unfold blkL; rw [setR_len, bodyB_len]
theorem mayC_lab {l : Label} : mayC ⟨l.Id, l.Members, l.Chunk, l.Rows, l.Log, 2⟩ = decide ((3 ≤ l.Members ∧ l.Members ≤ 16) ∧ (1 ≤ l.Chunk ∧ l.Chunk ≤ 8) ∧ (1 ≤ l.Rows ∧ l.Rows ≤ 8) ∧ ((l.Members + 1) * 3 ≤ l.Log ∧ l.Log ≤ 255)) := by
  rw [Bool.eq_iff_iff, mayC_iff, decide_eq_true_eq]
  unfold MayC
  simp
theorem lcheck_eq (l : Label) : label_Check l = some (bif mayC ⟨l.Id, l.Members, l.Chunk, l.Rows, l.Log, 2⟩ && decide (l.Events.toNat ≤ 2147483648 ∧ 0 ≤ l.Me ∧ l.Me < l.Members ∧ 0 ≤ l.Done ∧ l.Done ≤ l.Chunk * l.Rows ∧ -1 ≤ l.Lost ∧ l.Lost < l.Members ∧ ¬ (l.Lost = -1 ∧ 0 < l.Done)) then 0 else 8) := by
  unfold label_Check
  rw [stripes_eq]
  cases hc : mayC ⟨l.Id, l.Members, l.Chunk, l.Rows, l.Log, 2⟩ with
  | false => rfl
  | true =>
    simp only [cond_true, Option.bind_some, Bool.true_and, show ((0 : Int) != 0) = false from rfl, Bool.false_or, show ((2147483648 : UInt32).toNat : Int) = 2147483648 from rfl]
    by_cases hd : (l.Events.toNat ≤ 2147483648 ∧ 0 ≤ l.Me ∧ l.Me < l.Members ∧ 0 ≤ l.Done ∧ l.Done ≤ l.Chunk * l.Rows ∧ -1 ≤ l.Lost ∧ l.Lost < l.Members ∧ ¬ (l.Lost = -1 ∧ 0 < l.Done))
    · rw [decide_eq_true hd]
      rw [show (((((((decide ((l.Events.toNat : Int) > 2147483648) || decide (l.Me < 0)) || decide (l.Me ≥ l.Members)) || decide (l.Done < 0)) || decide (l.Done > l.Chunk * l.Rows)) || decide (l.Lost < -1)) || decide (l.Lost ≥ l.Members)) || (l.Lost == -1 && decide (l.Done > 0))) = false by simp; omega]
      rfl
    · rw [decide_eq_false hd]
      rw [show (((((((decide ((l.Events.toNat : Int) > 2147483648) || decide (l.Me < 0)) || decide (l.Me ≥ l.Members)) || decide (l.Done < 0)) || decide (l.Done > l.Chunk * l.Rows)) || decide (l.Lost < -1)) || decide (l.Lost ≥ l.Members)) || (l.Lost == -1 && decide (l.Done > 0))) = true by simp; omega]
      rfl
theorem lcheck_ok {l : Label} (h : OkLab l) : label_Check l = some 0 := by
  rw [lcheck_eq, mayC_lab, decide_eq_true ⟨h.mem, h.ch, h.rows, h.log⟩, decide_eq_true ⟨h.ev, h.me.1, h.me.2, h.done.1, h.done.2, h.lost.1, h.lost.2, h.none⟩]; rfl
theorem slc_take {α : Type} (l : List α) (n : Nat) (h : n ≤ l.length) : slc l 0 (n : Int) = some (l.take n) := by
  unfold slc; rw [if_pos (by omega)]; simp
theorem write_of {l : Label} (h : label_Check l = some 0) (hf : label_fields l = some ((fieldsN l).map NField.f)) (hok : ∀ x ∈ fieldsN l, x.ok) : label_Write l = some (blkL l, 0) := by
  have hl := bodyB_len l
  have hc : (crc ((bodyB l).take 124)).toNat < 4294967296 := (crc ((bodyB l).take 124)).toNat_lt
  have e1 : slc (bodyB l) 0 (124 : Int) = some ((bodyB l).take 124) := slc_take _ 124 (by omega)
  have e2 : pack_Put (bodyB l) (124 : Int) (4 : Int) (wI ((crc ((bodyB l).take 124)).toNat : Int)) = some (setR (fullP (bodyB l)) 124 (crc ((bodyB l).take 124)).toNat 4, 0) := by
    rw [wI_id (by omega) (by omega)]
    exact put_eq (at_ := 124) (sz := 4) (.inr hl) (by omega) (by omega) (by omega) hc
  have e3 : fullP (bodyB l) = bodyB l := by unfold fullP; rw [if_neg (by omega)]
  rw [e3] at e2
  unfold label_Write
  rw [h, hf, Option.bind_some, show ((0 : Int) != 0) = false from rfl, cond_false, Option.bind_some, fields_loop (fieldsN l) hok (by simp [fieldsN]), putFs_eq, Option.bind_some, Sum.elim_inl, e1, Option.bind_some, psum_eq _ (by rw [List.length_take]; omega), Option.bind_some, e2, Option.bind_some]
  rfl
theorem write_eq {l : Label} (h : OkLab l) : label_Write l = some (blkL l, 0) :=
  write_of (lcheck_ok h) (fields_eq (by have := h.mem; omega) (by have := h.ch; omega) (by have := h.rows; omega) (by have := h.log; have := h.mem; omega) h.me.1 h.done.1 h.lost.1) (fieldsN_ok h)
/- Plain law: losses. -/

def okL (c : Config) (l : Loss) : Bool :=
  decide ((l.Events.toNat : Int) ≤ 2147483648 ∧ -1 ≤ l.Lost ∧ l.Lost < c.Members ∧ 0 ≤ l.Done ∧ l.Done ≤ l.Pos ∧ l.Pos ≤ c.Chunk * c.Rows ∧ ¬ (l.Spare = true ∧ l.Lost = -1) ∧ (l.Spare = true ∨ l.Pos ≤ 0))
def chk (c : Config) (l : Loss) : Int := bif mayC c && okL c l then 0 else 8
theorem chk_1 (c : Config) (l : Loss) : loss_Check c l = some (chk c l) := by
  unfold loss_Check chk
  rw [stripes_eq]
  cases hc : mayC c with
  | false => simp
  | true =>
    simp only [cond_true, Option.bind_some, Bool.true_and, show ((0 : Int) != 0) = false from rfl, Bool.false_or, show ((2147483648 : UInt32).toNat : Int) = 2147483648 from rfl]
    cases ho : okL c l with
    | true =>
      simp only [okL, decide_eq_true_eq] at ho
      obtain ⟨h1, h2, h3, h4, h5, h6, h7, h8⟩ := ho
      have e1 : (((((decide ((l.Events.toNat : Int) > 2147483648) || decide (l.Lost < -1)) || decide (l.Lost ≥ c.Members)) || decide (l.Done < 0)) || decide (l.Done > l.Pos)) || decide (l.Pos > c.Chunk * c.Rows)) = false := by simp; omega
      have e2 : ((l.Spare && (l.Lost == -1)) || (!l.Spare && decide (l.Pos > 0))) = false := by
        cases hs : l.Spare <;> simp [hs] at h7 h8 ⊢ <;> omega
      rw [e1, e2]; rfl
    | false =>
      simp only [okL, decide_eq_false_iff_not] at ho
      cases e1 : (((((decide ((l.Events.toNat : Int) > 2147483648) || decide (l.Lost < -1)) || decide (l.Lost ≥ c.Members)) || decide (l.Done < 0)) || decide (l.Done > l.Pos)) || decide (l.Pos > c.Chunk * c.Rows)) with
      | true => rfl
      | false =>
        have e2 : ((l.Spare && (l.Lost == -1)) || (!l.Spare && decide (l.Pos > 0))) = true := by
          simp at e1
          cases hs : l.Spare <;> simp [hs] at ho ⊢ <;> omega
        rw [e2]; rfl
theorem chk_2 (c : Config) (l : Loss) : ref23_Check c l = some (chk c l) := by
  unfold ref23_Check chk
  rw [may_eq]
  cases hc : mayC c with
  | false => simp [gO]
  | true =>
    simp only [gO, Bool.not_true, Bool.not_false, cond_true, Option.bind_some, Bool.true_and, Bool.false_or]
    have hS := (wI_str ((mayC_iff c).1 hc)).2.1
    have hm : ref23_May c l = some (okL c l) := by
      unfold ref23_May
      rw [rstripes_eq ((mayC_iff c).1 hc)]
      simp only [show ((2147483648 : UInt32).toNat : Int) = 2147483648 from rfl, gO]
      cases e1 : ((((decide ((l.Events.toNat : Int) > 2147483648)) || (decide (l.Lost < (-1 : Int)))) || (decide (l.Lost ≥ c.Members))) || (l.Spare && (decide (l.Lost < (0 : Int))))) with
      | true =>
        have : okL c l = false := by
          simp only [okL, decide_eq_false_iff_not]
          cases hs : l.Spare <;> simp [hs] at e1 ⊢ <;> omega
        rw [this]; rfl
      | false =>
        cases hs : l.Spare with
        | false =>
          simp only [cond_false, Bool.not_false, cond_true]
          congr 1
          simp [hs] at e1
          simp only [okL, hs]
          rw [Bool.eq_iff_iff]; simp; omega
        | true =>
          simp only [cond_false, Bool.not_true]
          simp [hs] at e1
          cases e2 : (decide (l.Done ≥ 0) && decide (l.Done ≤ l.Pos)) with
          | false =>
            simp at e2
            simp only [cond_false, Option.bind_some, Bool.false_and]
            congr 1
            simp only [okL, hs]; symm
            simp; omega
          | true =>
            simp at e2
            simp only [cond_true, Option.bind_some, Bool.true_and]
            congr 1
            simp only [okL, hs]
            rw [Bool.eq_iff_iff]; simp; omega
    rw [hm]
    cases okL c l <;> rfl

theorem chk_cases (c : Config) (l : Loss) : chk c l = 8 ∨ (chk c l = 0 ∧ MayC c ∧ okL c l = true) := by
  unfold chk
  cases h1 : mayC c with
  | false => exact .inl rfl
  | true => cases h2 : okL c l with
    | false => exact .inl rfl
    | true => exact .inr ⟨rfl, (mayC_iff c).1 h1, rfl⟩

theorem stripes_may {c : Config} (h : MayC c) : shape_Stripes c = some (c.Chunk * c.Rows, 0) := by rw [stripes_eq, (mayC_iff c).2 h]; rfl

/- Plain law: the document's label block; losses told by labels. -/

theorem rwhole_eq {b : List UInt8} (h : b.length ≤ 128) : ref02_Whole b = some (b ++ List.replicate (128 - b.length) 0) := by
  unfold ref02_Whole
  rw [show (128 : Int) = ((128 : Nat) : Int) from rfl, makeL_some _ 128 (by omega), Option.bind_some]
  have hr : (b ++ List.replicate (128 - b.length) (0 : UInt8)).length = (List.replicate 128 (0 : UInt8)).length := by rw [List.length_append, List.length_replicate, List.length_replicate]; omega
  rw [loop_map (step := fun s : Int × List UInt8 => ref02_Whole_L1 b s.1 s.2) (b ++ List.replicate (128 - b.length) 0) (List.replicate 128 0) b.length (b ++ List.replicate (128 - b.length) 0) (by unfold FUEL; omega) (fun k hk => by
    show ref02_Whole_L1 _ _ _ = _
    unfold ref02_Whole_L1
    rw [decide_eq_true (show (k : Int) < (b.length : Int) by omega), idx_nat, List.getElem?_eq_getElem hk, wI_succ (by omega), cond_true, Option.bind_some]
    rw [mix_len _ _ _ hr, List.length_replicate, bnd_nat (by omega), Option.bind_some]
    rw [mix_set _ _ k hr b[k] (by rw [List.getElem?_append_left hk, List.getElem?_eq_getElem hk])]) (by
    show ref02_Whole_L1 _ _ _ = _
    unfold ref02_Whole_L1
    rw [decide_eq_false (by omega), cond_false]
    congr 2
    rw [List.take_left, List.drop_replicate])]
  rfl
theorem rem256 (n : Nat) : remI (n : Int) (256 : Int) = some ((n % 256 : Nat) : Int) := by
  unfold remI
  rw [if_neg (by omega)]
  rfl
theorem quo256 (n : Nat) (h : n < 9223372036854775807) : quoI (n : Int) (256 : Int) = some ((n / 256 : Nat) : Int) := by
  unfold quoI
  rw [if_neg (by omega)]
  have : (n : Int).tdiv 256 = ((n / 256 : Nat) : Int) := rfl
  rw [this, wI_id (by omega) (by omega)]
theorem rwith_eq {w : List UInt8} {at_ m n : Nat} (hw : w.length = 128) (h : at_ + m ≤ 128) (hn : n < 9223372036854775807) : ref02_With w (at_ : Int) (m : Int) (n : Int) = some (setR w at_ n m) := by
  unfold ref02_With
  rw [rwhole_eq (by omega), Option.bind_some]
  have e : w ++ List.replicate (128 - w.length) 0 = w := by rw [hw]; simp
  rw [e]
  have hh := loop_run (step := fun s : Int × (List UInt8) × Int => ref02_With_L1 (at_ : Int) (m : Int) s.1 s.2.1 s.2.2) (fun k => (((n / 256 ^ k : Nat) : Int), setR w at_ n k, (k : Int))) m (setR w at_ n m) (by unfold FUEL; omega)
    (fun k hk => by
      show ref02_With_L1 (at_ : Int) (m : Int) ((n / 256 ^ k : Nat) : Int) (setR w at_ n k) (k : Int) = _
      unfold ref02_With_L1
      have hd : n / 256 ^ k ≤ n := Nat.div_le_self _ _
      rw [decide_eq_true (show (k : Int) < (m : Int) by omega), rem256, quo256 _ (by omega), wI_succ (by omega), cond_true, Option.bind_some]
      rw [wI_id (by omega) (by omega), show ((at_ : Int) + (k : Int)) = ((at_ + k : Nat) : Int) by omega, bnd_nat (by rw [setR_len]; omega), Option.bind_some, Option.bind_some]
      rw [scB_nat, Nat.mod_mod, Nat.div_div_eq_div_mul, ← Nat.pow_succ]
      rfl)
    (by
      show ref02_With_L1 (at_ : Int) (m : Int) ((n / 256 ^ m : Nat) : Int) (setR w at_ n m) (m : Int) = _
      unfold ref02_With_L1
      rw [decide_eq_false (by omega), cond_false])
  have hh : loopM (fun s : Int × (List UInt8) × Int => ref02_With_L1 (at_ : Int) (m : Int) s.1 s.2.1 s.2.2) FUEL (((n / 256 ^ 0 : Nat) : Int), w, (0 : Int)) = some (setR w at_ n m) := hh
  rw [show n / 256 ^ 0 = n from Nat.div_one n] at hh
  rw [hh, Option.bind_some]
theorem four_eq (a : UInt32) : ref09_Four a = some [byt a.toNat 0, byt a.toNat 1, byt a.toNat 2, byt a.toNat 3] := by
  unfold ref09_Four
  rw [show remW a 256 = some (a % 256) from rfl, show quoW a 256 = some (a / 256) from rfl, Option.bind_some, Option.bind_some]
  rw [show remW (a / 256) 256 = some (a / 256 % 256) from rfl, show quoW a 65536 = some (a / 65536) from rfl, Option.bind_some, Option.bind_some]
  rw [show remW (a / 65536) 256 = some (a / 65536 % 256) from rfl, show quoW a 16777216 = some (a / 16777216) from rfl, Option.bind_some, Option.bind_some]
  rw [scB_nat, scB_nat, scB_nat, scB_nat]
  unfold byt
  have e1 : (a % 256).toNat % 256 = a.toNat / 256 ^ 0 % 256 := by rw [UInt32.toNat_mod]; show a.toNat % 256 % 256 = a.toNat / 1 % 256; omega
  have e2 : (a / 256 % 256).toNat % 256 = a.toNat / 256 ^ 1 % 256 := by rw [UInt32.toNat_mod, UInt32.toNat_div]; show a.toNat / 256 % 256 % 256 = a.toNat / 256 % 256; omega
  have e3 : (a / 65536 % 256).toNat % 256 = a.toNat / 256 ^ 2 % 256 := by rw [UInt32.toNat_mod, UInt32.toNat_div]; show a.toNat / 65536 % 256 % 256 = a.toNat / 65536 % 256; omega
  have e4 : (a / 16777216).toNat % 256 = a.toNat / 256 ^ 3 % 256 := by rw [UInt32.toNat_div]; rfl
  rw [e1, e2, e3, e4]
theorem scB_byt {x : Int} (h : 0 ≤ x) : scB.of x = byt x.toNat 0 := by
  obtain ⟨n, rfl⟩ := Int.eq_ofNat_of_zero_le h
  rw [scB_nat]
  unfold byt
  show UInt8.ofNat (n % 256) = UInt8.ofNat (n / 1 % 256)
  rw [Nat.div_one]
theorem sealed_eq {b : List UInt8} (h : b.length ≤ 124) : ref09_Sealed b = some (setR (b ++ List.replicate (128 - b.length) 0) 124 (crc ((b ++ List.replicate (128 - b.length) 0).take 124)).toNat 4) := by
  unfold ref09_Sealed
  have hl : (b ++ List.replicate (128 - b.length) (0 : UInt8)).length = 128 := by rw [List.length_append, List.length_replicate]; omega
  have hc : (crc ((b ++ List.replicate (128 - b.length) (0 : UInt8)).take 124)).toNat < 4294967296 := (crc ((b ++ List.replicate (128 - b.length) (0 : UInt8)).take 124)).toNat_lt
  have e1 : slc (b ++ List.replicate (128 - b.length) (0 : UInt8)) 0 (124 : Int) = some ((b ++ List.replicate (128 - b.length) (0 : UInt8)).take 124) := slc_take _ 124 (by omega)
  rw [rwhole_eq (by omega), Option.bind_some, e1, Option.bind_some, rsum_eq _ (by rw [List.length_take]; omega), Option.bind_some, wI_id (by omega) (by omega)]
  have e2 := rwith_eq (at_ := 124) (m := 4) (n := (crc ((b ++ List.replicate (128 - b.length) (0 : UInt8)).take 124)).toNat) hl (by omega) (by omega)
  have e2 : ref02_With (b ++ List.replicate (128 - b.length) (0 : UInt8)) (124 : Int) (4 : Int) ((crc ((b ++ List.replicate (128 - b.length) (0 : UInt8)).take 124)).toNat : Int) = _ := e2
  rw [e2, Option.bind_some]
theorem block_eq {l : Label} (h : OkLab l) : ref09_Block l = some (blkL l) := by
  have h1 := h.mem
  have h2 := h.ch
  have h3 := h.rows
  have h4 := h.log
  have h5 := h.me
  have h6 := h.done
  have h7 := h.lost
  unfold ref09_Block
  rw [four_eq, Option.bind_some, app_some _ _ (by simp), Option.bind_some, four_eq, Option.bind_some, app_some _ _ (by simp), Option.bind_some]
  have key : ∀ j1 j2 : Int, j1 = (lostN l : Int) → j2 = ((bif l.Open then 1 else 0 : Nat) : Int) → ref09_Block_J2 l ([76] ++ [byt l.Id.toNat 0, byt l.Id.toNat 1, byt l.Id.toNat 2, byt l.Id.toNat 3] ++ [byt l.Events.toNat 0, byt l.Events.toNat 1, byt l.Events.toNat 2, byt l.Events.toNat 3]) j1 j2 = some (blkL l) := by
    rintro j1 j2 rfl rfl
    unfold ref09_Block_J2
    rw [app_some _ _ (by simp), Option.bind_some, scB_byt (show 0 ≤ l.Members by omega), scB_byt (show 0 ≤ l.Chunk by omega), scB_byt (show 0 ≤ l.Rows by omega), scB_byt (show 0 ≤ l.Log by omega), scB_byt (show 0 ≤ l.Me by omega), scB_byt (show 0 ≤ l.Done by omega), scB_byt (Int.natCast_nonneg _), scB_byt (Int.natCast_nonneg _)]
    have e := sealed_eq (b := headB l) (by show 17 ≤ 124; omega)
    have e : ref09_Sealed (headB l) = some (blkL l) := e
    rw [Int.toNat_natCast, Int.toNat_natCast]
    have e4 : ([76] ++ [byt l.Id.toNat 0, byt l.Id.toNat 1, byt l.Id.toNat 2, byt l.Id.toNat 3] ++ [byt l.Events.toNat 0, byt l.Events.toNat 1, byt l.Events.toNat 2, byt l.Events.toNat 3] ++ [byt l.Members.toNat 0, byt l.Chunk.toNat 0, byt l.Rows.toNat 0, byt l.Log.toNat 0, byt l.Me.toNat 0, byt (lostN l) 0, byt l.Done.toNat 0, byt (bif l.Open then 1 else 0) 0]) = headB l := rfl
    rw [e4, e, Option.bind_some]
  unfold ref09_Block_J1
  have hL : (bif decide (l.Lost ≥ 0) then l.Lost else 255) = (lostN l : Int) := by
    unfold lostN
    by_cases hl : l.Lost = -1
    · rw [if_pos hl, decide_eq_false (by omega)]; rfl
    · rw [if_neg hl, decide_eq_true (by omega), cond_true, Int.toNat_of_nonneg (by omega)]
  cases hd : decide (l.Lost ≥ 0) with
  | true =>
    rw [hd, cond_true] at hL
    rw [cond_true]
    cases ho : l.Open with
    | true => rw [cond_true]; exact key _ _ hL (by rw [ho]; rfl)
    | false => rw [cond_false]; exact key _ _ hL (by rw [ho]; rfl)
  | false =>
    rw [hd, cond_false] at hL
    rw [cond_false]
    cases ho : l.Open with
    | true => rw [cond_true]; exact key _ _ hL (by rw [ho]; rfl)
    | false => rw [cond_false]; exact key _ _ hL (by rw [ho]; rfl)

/-- The label that is told of a member. -/
def labO (c : Config) (l : Loss) (o : Bool) (i : Int) : Label := ⟨c.Id, l.Events, c.Members, c.Chunk, c.Rows, c.Log, i, l.Lost, l.Done, o⟩
def skipM (l : Loss) (i : Int) : Bool := (i == l.Lost) && !l.Spare
def actsT (c : Config) (l : Loss) (o : Bool) : Nat → List Act58
  | 0 => []
  | k + 1 => bif skipM l (k : Int) then actsT c l o k else actsT c l o k ++ [⟨(k : Int), 2, 0, blkL (labO c l o (k : Int))⟩]
theorem actsT_succ (c : Config) (l : Loss) (o : Bool) (k : Nat) : actsT c l o (k + 1) = bif skipM l (k : Int) then actsT c l o k else actsT c l o k ++ [⟨(k : Int), 2, 0, blkL (labO c l o (k : Int))⟩] := rfl
theorem actsT_len (c : Config) (l : Loss) (o : Bool) : ∀ k, (actsT c l o k).length ≤ k
  | 0 => Nat.le_refl _
  | k + 1 => by
    have := actsT_len c l o k
    unfold actsT
    cases skipM l (k : Int) <;> simp <;> omega
def upL (l : Loss) : Loss := ⟨scW.of ((l.Events.toNat : Int) + ((1 : UInt32).toNat : Int)), l.Lost, l.Spare, l.Pos, l.Done, l.NoLog, l.Broken⟩
theorem upL_ev {l : Loss} (h : l.Events.toNat < 2147483648) : (upL l).Events.toNat = l.Events.toNat + 1 := by
  show (scW.of ((l.Events.toNat : Int) + 1)).toNat = _
  unfold scW.of
  rw [show (((l.Events.toNat : Int) + 1) % 4294967296).toNat = l.Events.toNat + 1 by omega]
  rw [UInt32.toNat_ofNat_of_lt' (show l.Events.toNat + 1 < UInt32.size by show _ < 4294967296; omega)]
theorem okLab_of {c : Config} {l : Loss} (hc : MayC c) (hl : okL c l = true) (he : l.Events.toNat < 2147483648) (o : Bool) {k : Nat} (hk : (k : Int) < c.Members) : OkLab (labO c (upL l) o (k : Int)) := by
  simp only [okL, decide_eq_true_eq] at hl
  obtain ⟨h1, h2, h3, h4, h5, h6, h7, h8⟩ := hl
  obtain ⟨c1, c2, c3, c4, c5, c6⟩ := hc
  have h9 : (c.Members + 1) * 3 ≤ (c.Members + 1) * (c.Heads + 1) := Int.mul_le_mul_of_nonneg_left (by omega) (by omega)
  refine ⟨?_, c1, c2, c3, ⟨by show (c.Members + 1) * 3 ≤ c.Log; omega, c6⟩, ⟨Int.natCast_nonneg k, hk⟩, ⟨h4, by show l.Done ≤ c.Chunk * c.Rows; omega⟩, ⟨h2, h3⟩, ?_⟩
  · show (upL l).Events.toNat ≤ _
    rw [upL_ev he]; omega
  · rintro ⟨e1, e2⟩
    have e1 : l.Lost = -1 := e1
    have e2 : 0 < l.Done := e2
    cases hs : l.Spare with
    | true => exact h7 ⟨hs, e1⟩
    | false => rcases h8 with h | h
               · rw [hs] at h; cases h
               · omega
theorem labels_loop {c : Config} {l : Loss} (hc : MayC c) (hl : okL c l = true) (he : l.Events.toNat < 2147483648) (o : Bool) :
    loopM (fun s : (List Act58) × Int => loss_Labels_L1 c l o s.1 s.2) FUEL (([] : List Act58), (0 : Int)) = some (Sum.inl (actsT c (upL l) o c.Members.toNat)) := by
  have hm : c.Members = (c.Members.toNat : Int) := by have := hc.1; omega
  have hm2 : c.Members.toNat ≤ 16 := by have := hc.1; omega
  have h := loop_run (step := fun s : (List Act58) × Int => loss_Labels_L1 c l o s.1 s.2) (fun k => (actsT c (upL l) o k, (k : Int))) c.Members.toNat (Sum.inl (actsT c (upL l) o c.Members.toNat)) (by unfold FUEL; omega)
    (fun k hk => by
      show loss_Labels_L1 _ _ _ _ _ = _
      unfold loss_Labels_L1 loss_Labels_J2
      have hk' : (k : Int) < c.Members := by omega
      have hw : label_Write (Label.mk c.Id (scW.of ((l.Events.toNat : Int) + ((1 : UInt32).toNat : Int))) c.Members c.Chunk c.Rows c.Log (k : Int) l.Lost l.Done o) = some (blkL (labO c (upL l) o (k : Int)), 0) := write_eq (okLab_of hc hl he o hk')
      rw [decide_eq_true hk', cond_true, wI_succ (by omega), hw, Option.bind_some]
      rw [actsT_succ, show (((k : Int) == l.Lost) && (!l.Spare)) = skipM (upL l) (k : Int) from rfl]
      cases skipM (upL l) (k : Int) with
      | true => rfl
      | false =>
        rw [cond_false, cond_false, show ((0 : Int) != 0) = false from rfl, cond_false]
        have := actsT_len c (upL l) o k
        rw [app_some _ _ (by simp; omega), Option.bind_some])
    (by
      show loss_Labels_L1 _ _ _ _ _ = _
      unfold loss_Labels_L1
      rw [decide_eq_false (by omega), cond_false])
  exact h
theorem told_eq {c : Config} {l : Loss} (hc : MayC c) (hl : okL c l = true) (he : l.Events.toNat < 2147483648) (o : Bool) : ref23_Told c (upL l) o = some (actsT c (upL l) o c.Members.toNat) := by
  unfold ref23_Told
  have hm : c.Members = (c.Members.toNat : Int) := by have := hc.1; omega
  have hm2 : c.Members.toNat ≤ 16 := by have := hc.1; omega
  have h := loop_run (step := fun s : (List Act58) × Int => ref23_Told_L1 c (upL l) o s.1 s.2) (fun k => (actsT c (upL l) o k, (k : Int))) c.Members.toNat (actsT c (upL l) o c.Members.toNat) (by unfold FUEL; omega)
    (fun k hk => by
      show ref23_Told_L1 _ _ _ _ _ = _
      unfold ref23_Told_L1 ref23_Told_J2
      have hk' : (k : Int) < c.Members := by omega
      have hw : ref09_Block (Label.mk c.Id (upL l).Events c.Members c.Chunk c.Rows c.Log (k : Int) (upL l).Lost (upL l).Done o) = some (blkL (labO c (upL l) o (k : Int))) := block_eq (okLab_of hc hl he o hk')
      rw [decide_eq_true hk', cond_true, wI_succ (by omega), hw, Option.bind_some]
      rw [actsT_succ, show (((k : Int) == (upL l).Lost) && (!(upL l).Spare)) = skipM (upL l) (k : Int) from rfl]
      cases skipM (upL l) (k : Int) with
      | true => rfl
      | false =>
        rw [cond_false, cond_false]
        have := actsT_len c (upL l) o k
        rw [app_some _ _ (by simp; omega), Option.bind_some])
    (by
      show ref23_Told_L1 _ _ _ _ _ = _
      unfold ref23_Told_L1
      rw [decide_eq_false (by omega), cond_false])
  have h : loopM (fun s : (List Act58) × Int => ref23_Told_L1 c (upL l) o s.1 s.2) FUEL (([] : List Act58), (0 : Int)) = some (actsT c (upL l) o c.Members.toNat) := h
  rw [h, Option.bind_some]
def noL : Loss := ⟨0, 0, false, 0, 0, false, false⟩
/-- What Labels answers. -/
def labelsR (c : Config) (l : Loss) (o : Bool) : Loss × List Act58 × Int :=
  bif !(mayC c && okL c l) then (noL, [], 8) else bif l.Broken then (noL, [], 230) else bif decide (2147483648 ≤ l.Events.toNat) then (noL, [], 9) else (upL l, actsT c (upL l) o c.Members.toNat, 0)
theorem labels_eq (c : Config) (l : Loss) (o : Bool) : loss_Labels c l o = some (labelsR c l o) := by
  unfold loss_Labels labelsR
  rw [chk_1, Option.bind_some]
  rcases chk_cases c l with h | ⟨h, hc, ho⟩
  · rw [h]
    have : (mayC c && okL c l) = false := by
      unfold chk at h
      cases hq : (mayC c && okL c l) with
      | true => rw [hq] at h; cases h
      | false => rfl
    rw [this]; rfl
  · have hq : (mayC c && okL c l) = true := by rw [(mayC_iff c).2 hc, ho]; rfl
    rw [h, hq, show ((0 : Int) != 0) = false from rfl, cond_false, Bool.not_true, cond_false]
    cases hbk : l.Broken with
    | true => rfl
    | false =>
      have hup : Loss.mk (scW.of ((l.Events.toNat : Int) + ((1 : UInt32).toNat : Int))) l.Lost l.Spare l.Pos l.Done l.NoLog false = upL l := by unfold upL; rw [hbk]
      rw [cond_false, cond_false]
      have hev : (l.Events.toNat : Int) ≤ 2147483648 := by simp only [okL, decide_eq_true_eq] at ho; exact ho.1
      have e1 : ((l.Events.toNat : Int) == ((2147483648 : UInt32).toNat : Int)) = decide (2147483648 ≤ l.Events.toNat) := by
        rw [Bool.eq_iff_iff]
        simp only [beq_iff_eq, decide_eq_true_eq, show ((2147483648 : UInt32).toNat : Int) = 2147483648 from rfl]
        omega
      rw [e1]
      by_cases hb : 2147483648 ≤ l.Events.toNat
      · rw [decide_eq_true hb]; rfl
      · rw [decide_eq_false hb, cond_false, cond_false, labels_loop hc ho (by omega) o, Option.bind_some, Sum.elim_inl, hup]
theorem rlabels_eq (c : Config) (l : Loss) (o : Bool) : ref23_Labels c l o = some (labelsR c l o) := by
  unfold ref23_Labels labelsR ref23_Labels_J1 ref23_Labels_J2
  rw [chk_2, Option.bind_some]
  rcases chk_cases c l with h | ⟨h, hc, ho⟩
  · rw [h]
    have : (mayC c && okL c l) = false := by
      unfold chk at h
      cases hq : (mayC c && okL c l) with
      | true => rw [hq] at h; cases h
      | false => rfl
    rw [this]; rfl
  · have hq : (mayC c && okL c l) = true := by rw [(mayC_iff c).2 hc, ho]; rfl
    rw [h, hq, Bool.not_true, cond_false, show ((0 : Int) == 0) = true from rfl, Bool.true_and]
    cases hbk : l.Broken with
    | true => rfl
    | false =>
      have hup : Loss.mk (scW.of ((l.Events.toNat : Int) + ((1 : UInt32).toNat : Int))) l.Lost l.Spare l.Pos l.Done l.NoLog false = upL l := by unfold upL; rw [hbk]
      rw [cond_false, cond_false, Bool.true_and]
      have e1 : decide ((l.Events.toNat : Int) ≥ ((2147483648 : UInt32).toNat : Int)) = decide (2147483648 ≤ l.Events.toNat) := by
        rw [Bool.eq_iff_iff]
        simp only [decide_eq_true_eq, show ((2147483648 : UInt32).toNat : Int) = 2147483648 from rfl]
        omega
      rw [e1]
      by_cases hb : 2147483648 ≤ l.Events.toNat
      · rw [decide_eq_true hb]; rfl
      · rw [decide_eq_false hb, cond_false, cond_false, show ((0 : Int) != 0) = false from rfl, cond_false]
        rw [hup, told_eq hc ho (by omega) o, Option.bind_some]
/- Plain law: the acts that tell a loss are the document's. -/

theorem sameA_refl (a : List Act58) (hl : a.length ≤ 100000) : ref05_Same a a = some true := by
  unfold ref05_Same
  rw [show (((a.length : Nat) : Int) != ((a.length : Nat) : Int)) = false by simp, cond_false]
  have h := loop_run (step := fun s : Int => ref05_Same_L1 a a s) (fun k => (k : Int)) a.length (Sum.inl ()) (by unfold FUEL; omega) (fun k hk => by
    show ref05_Same_L1 _ _ _ = _
    unfold ref05_Same_L1
    rw [decide_eq_true (show (k : Int) < (a.length : Int) by omega), idx_nat, List.getElem?_eq_getElem hk, wI_succ (by omega)]
    simp [gO]) (by
    show ref05_Same_L1 _ _ _ = _
    unfold ref05_Same_L1
    rw [decide_eq_false (by omega)]; rfl)
  have h : loopM (fun s : Int => ref05_Same_L1 a a s) FUEL (0 : Int) = some (Sum.inl ()) := h
  rw [h]; rfl
theorem turn_in (x : Loss × (List Act58) × Int) (k : Nat) (hk : k < x.2.1.length) (hd : (x.2.1[k]).Data.length ≤ 100000) : loopM (fun s : Int => law23_LossLabels_L2 x (k : Int) s) FUEL (0 : Int) = some () := by
  have h := loop_run (step := fun s : Int => law23_LossLabels_L2 x (k : Int) s) (fun j => (j : Int)) (x.2.1[k]).Data.length () (by unfold FUEL; omega) (fun j hj => by
    show law23_LossLabels_L2 _ _ _ = _
    unfold law23_LossLabels_L2
    rw [idx_nat, List.getElem?_eq_getElem hk, Option.bind_some, decide_eq_true (show (j : Int) < ((x.2.1[k]).Data.length : Int) by omega), cond_true, Option.bind_some, idx_nat, List.getElem?_eq_getElem hj, Option.bind_some, Option.bind_some, wI_succ (by omega)]) (by
    show law23_LossLabels_L2 _ _ _ = _
    unfold law23_LossLabels_L2
    rw [idx_nat, List.getElem?_eq_getElem hk, Option.bind_some, decide_eq_false (by omega), cond_false])
  exact h
theorem turn_all (x : Loss × (List Act58) × Int) (hl : x.2.1.length ≤ 100000) (hd : ∀ a ∈ x.2.1, a.Data.length ≤ 100000) : loopM (fun s : Int => law23_LossLabels_L1 x s) FUEL (0 : Int) = some () := by
  have h := loop_run (step := fun s : Int => law23_LossLabels_L1 x s) (fun k => (k : Int)) x.2.1.length () (by unfold FUEL; omega) (fun k hk => by
    show law23_LossLabels_L1 _ _ = _
    unfold law23_LossLabels_L1
    rw [decide_eq_true (show (k : Int) < ((x.2.1).length : Int) by omega), cond_true, turn_in x k hk (hd _ (List.getElem_mem hk)), Option.bind_some, wI_succ (by omega)]) (by
    show law23_LossLabels_L1 _ _ = _
    unfold law23_LossLabels_L1
    rw [decide_eq_false (by omega), cond_false])
  exact h
theorem actsT_data (c : Config) (l : Loss) (o : Bool) : ∀ k, ∀ a ∈ actsT c l o k, a.Data.length = 128
  | 0, a, h => by simp [actsT] at h
  | k + 1, a, h => by
    rw [actsT_succ] at h
    cases hs : skipM l (k : Int) with
    | true => rw [hs, cond_true] at h; exact actsT_data c l o k a h
    | false =>
      rw [hs, cond_false] at h
      rcases List.mem_append.1 h with h | h
      · exact actsT_data c l o k a h
      · rw [List.mem_singleton.1 h]; exact blkL_len _
theorem labelsR_acts (c : Config) (l : Loss) (o : Bool) : (labelsR c l o).2.1.length ≤ 16 ∧ ∀ a ∈ (labelsR c l o).2.1, a.Data.length = 128 := by
  unfold labelsR
  cases h : (mayC c && okL c l) with
  | false => exact ⟨by simp, by simp⟩
  | true =>
    have hc : MayC c := (mayC_iff c).1 (by rw [Bool.and_eq_true] at h; exact h.1)
    cases l.Broken with
    | true => exact ⟨by simp, by simp⟩
    | false => cases decide (2147483648 ≤ l.Events.toNat) with
      | true => exact ⟨by simp, by simp⟩
      | false =>
        have := actsT_len c (upL l) o c.Members.toNat
        have hm := hc.1
        exact ⟨by show (actsT c (upL l) o c.Members.toNat).length ≤ 16; omega, actsT_data c (upL l) o c.Members.toNat⟩
theorem losslabels_true (c : Config) (l : Loss) (o : Bool) : law23_LossLabels c l o = some true := by
  unfold law23_LossLabels
  obtain ⟨h1, h2⟩ := labelsR_acts c l o
  rw [labels_eq, rlabels_eq, Option.bind_some, Option.bind_some, decide_eq_true rfl, sameA_refl _ (by omega)]
  rw [show gO (!!true) (some true) = some true from rfl, Option.bind_some]
  rw [show (((!true) || (!true)) || ((labelsR c l o).2.2 != (labelsR c l o).2.2)) = false by simp, cond_false]
  rw [turn_all _ (by omega) (fun a ha => by rw [h2 a ha]; omega), Option.bind_some, Option.bind_some, sameA_refl _ (by omega), Option.bind_some]
end Go.Proofs.Ytgjibgklailenaa
