/- Plain laws, in one text. -/
import Derived.Test.YtmlmlfghogoadaaGrt3
import Derived.Test.YtmlmlfghogoadaaCoreMB
set_option linter.unusedVariables false
set_option linter.unusedSimpArgs false
set_option linter.unnecessarySimpa false
namespace Go.Proofs.Ytmlmlfghogoadaa
open Go GL
/- Plain law: configs. -/

theorem fuel_lt {n : Nat} (h : n < 4294967296) : n < FUEL := by unfold FUEL; omega

/-- A loop over a list, that leaves where an element has p. -/
theorem loop_any_list {α B : Type} (l : List α) (p : α → Bool) {step : Int → Option (Ctl Int B)} (yes no : B) (hl : l.length < 4294967296)
    (h1 : ∀ k (hk : k < l.length), step (k : Int) = some (bif p l[k] then .brk yes else .next ((k + 1 : Nat) : Int))) (h2 : step (l.length : Int) = some (.brk no)) :
    loopM step FUEL (0 : Int) = some (bif l.any p then yes else no) := by
  have := loop_any (step := step) (fun k => (k : Int)) l.length (fun k => (l[k]?.map p).getD false) yes no (fuel_lt hl) (fun k hk => by
    rw [h1 k hk]; simp [hk]) h2
  rw [any_range l p _ (fun k hk => by simp [hk])] at this
  simpa using this

def outB (r : Arr3_Int) : Bool := decide (r.e0 < r.e1) || decide (r.e0 > r.e2)
theorem bounds_eq (l : List Arr3_Int) (hl : l.length < 4294967296) : shape_bounds l = some (!(l.any outB)) := by
  unfold shape_bounds
  rw [loop_any_list l outB (Sum.inr ()) (Sum.inl ()) hl]
  · cases h : l.any outB <;> simp
  · intro k hk
    unfold shape_bounds_L1
    rw [show decide ((k : Int) < (l.length : Int)) = true by simp; omega, idx_nat, List.getElem?_eq_getElem hk, wI_succ (by omega)]
    simp only [cond_true, Option.bind_some, outB]
    cases (decide (l[k].e0 < l[k].e1) || decide (l[k].e0 > l[k].e2)) <;> rfl
  · unfold shape_bounds_L1
    simp

/-- Configs that may be. -/
def MayC (c : Config) : Prop := (3 ≤ c.Members ∧ c.Members ≤ 16) ∧ (1 ≤ c.Chunk ∧ c.Chunk ≤ 8) ∧ (1 ≤ c.Rows ∧ c.Rows ≤ 8) ∧ (2 ≤ c.Heads ∧ c.Heads ≤ 8) ∧ (c.Members + 1) * (c.Heads + 1) ≤ c.Log ∧ c.Log ≤ 255
def mayC (c : Config) : Bool := ((decide (3 ≤ c.Members) && decide (c.Members ≤ 16)) && (decide (1 ≤ c.Chunk) && decide (c.Chunk ≤ 8))) && ((decide (1 ≤ c.Rows) && decide (c.Rows ≤ 8)) && ((decide (2 ≤ c.Heads) && decide (c.Heads ≤ 8)) && (decide ((c.Members + 1) * (c.Heads + 1) ≤ c.Log) && decide (c.Log ≤ 255))))
theorem mayC_iff (c : Config) : mayC c = true ↔ MayC c := by simp [mayC, MayC, and_assoc]
theorem mayC_f {c : Config} (h : ¬ MayC c) : mayC c = false := by rw [← mayC_iff] at h; simpa using h

theorem wI_need {c : Config} (h1 : 3 ≤ c.Members ∧ c.Members ≤ 16) (h2 : 2 ≤ c.Heads ∧ c.Heads ≤ 8) : wI ((wI (c.Members + 1)) * (wI (c.Heads + 1))) = (c.Members + 1) * (c.Heads + 1) := by
  rw [wI_id (x := c.Members + 1) (by omega) (by omega), wI_id (x := c.Heads + 1) (by omega) (by omega)]
  have h3 : (c.Members + 1) * (c.Heads + 1) ≤ 17 * 9 := Int.mul_le_mul (by omega) (by omega) (by omega) (by omega)
  have h4 : 0 ≤ (c.Members + 1) * (c.Heads + 1) := Int.mul_nonneg (by omega) (by omega)
  exact wI_id (by omega) (by omega)
theorem check_eq (c : Config) : shape_Check c = some (bif mayC c then 0 else 8) := by
  unfold shape_Check
  rw [bounds_eq _ (by simp)]
  simp only [Option.bind_some, List.any_cons, List.any_nil, Bool.or_false, outB]
  by_cases h : (3 ≤ c.Members ∧ c.Members ≤ 16) ∧ (1 ≤ c.Chunk ∧ c.Chunk ≤ 8) ∧ (1 ≤ c.Rows ∧ c.Rows ≤ 8) ∧ (2 ≤ c.Heads ∧ c.Heads ≤ 8)
  · obtain ⟨h1, h2, h3, h4⟩ := h
    have hb : (decide (c.Members < 3) || decide (c.Members > 16) || ((decide (c.Chunk < 1) || decide (c.Chunk > 8)) || ((decide (c.Rows < 1) || decide (c.Rows > 8)) || (decide (c.Heads < 2) || decide (c.Heads > 8))))) = false := by simp; omega
    rw [hb]
    simp only [gO, Bool.not_false, Bool.not_true, Bool.false_or, cond_true]
    rw [bounds_eq _ (by simp)]
    simp only [Option.bind_some, List.any_cons, List.any_nil, Bool.or_false, outB, wI_need h1 h4]
    by_cases h5 : (c.Members + 1) * (c.Heads + 1) ≤ c.Log ∧ c.Log ≤ 255
    · rw [(mayC_iff c).2 ⟨h1, h2, h3, h4, h5⟩]
      have : (decide (c.Log < (c.Members + 1) * (c.Heads + 1)) || decide (c.Log > 255)) = false := by simp; omega
      rw [this]; rfl
    · rw [mayC_f (fun h => h5 h.2.2.2.2)]
      have : (decide (c.Log < (c.Members + 1) * (c.Heads + 1)) || decide (c.Log > 255)) = true := by simp; omega
      rw [this]; rfl
  · have hb : (decide (c.Members < 3) || decide (c.Members > 16) || ((decide (c.Chunk < 1) || decide (c.Chunk > 8)) || ((decide (c.Rows < 1) || decide (c.Rows > 8)) || (decide (c.Heads < 2) || decide (c.Heads > 8))))) = true := by simp; omega
    rw [hb, mayC_f (fun hm => h ⟨hm.1, hm.2.1, hm.2.2.1, hm.2.2.2.1⟩)]
    rfl
theorem wI_str {c : Config} (h : MayC c) : wI (c.Chunk * c.Rows) = c.Chunk * c.Rows ∧ 1 ≤ c.Chunk * c.Rows ∧ c.Chunk * c.Rows ≤ 64 := by
  obtain ⟨_, h2, h3, _⟩ := h
  have h4 : c.Chunk * c.Rows ≤ 8 * 8 := Int.mul_le_mul (by omega) (by omega) (by omega) (by omega)
  have h5 : 1 * 1 ≤ c.Chunk * c.Rows := Int.mul_le_mul (by omega) (by omega) (by omega) (by omega)
  exact ⟨wI_id (by omega) (by omega), by omega, by omega⟩
theorem stripes_eq (c : Config) : shape_Stripes c = some (bif mayC c then (c.Chunk * c.Rows, 0) else (0, 8)) := by
  unfold shape_Stripes shape_told
  rw [check_eq]
  cases h : mayC c with
  | true => simp [(wI_str ((mayC_iff c).1 h)).1]
  | false => simp
/- Plain law: devices: which may be, copies, blocks. -/

theorem fuel_ltD {n : Nat} (h : n < 4294967296) : n < FUEL := by unfold FUEL; omega
theorem loop_anyD {α B : Type} (l : List α) (p : α → Bool) {step : Int → Option (Ctl Int B)} (yes no : B) (hl : l.length < 4294967296)
    (h1 : ∀ k (hk : k < l.length), step (k : Int) = some (bif p l[k] then .brk yes else .next ((k + 1 : Nat) : Int))) (h2 : step (l.length : Int) = some (.brk no)) :
    loopM step FUEL (0 : Int) = some (bif l.any p then yes else no) := by
  have := loop_any (step := step) (fun k => (k : Int)) l.length (fun k => (l[k]?.map p).getD false) yes no (fuel_ltD hl) (fun k hk => by
    rw [h1 k hk]; simp [hk]) h2
  rw [any_range l p _ (fun k hk => by simp [hk])] at this
  simpa using this
/-- The same for two lists of one length. -/
theorem loop_any2 {α β B : Type} (l : List α) (m : List β) (p : α → β → Bool) {step : Int → Option (Ctl Int B)} (yes no : B) (hl : l.length < 4294967296) (hm : l.length = m.length)
    (h1 : ∀ k (hk : k < l.length) (hk' : k < m.length), step (k : Int) = some (bif p l[k] m[k] then .brk yes else .next ((k + 1 : Nat) : Int))) (h2 : step (l.length : Int) = some (.brk no)) :
    loopM step FUEL (0 : Int) = some (bif (l.zip m).any (fun x => p x.1 x.2) then yes else no) := by
  have hz : (l.zip m).length = l.length := by simp; omega
  have := loop_anyD (l.zip m) (fun x => p x.1 x.2) (step := step) yes no (by omega) (fun k hk => by
    rw [h1 k (by omega) (by omega)]; simp) (by rw [hz]; exact h2)
  exact this
theorem zip_any_ne {α γ : Type} [DecidableEq γ] (f : α → γ) : ∀ (l m : List α), l.length = m.length → ((l.zip m).any (fun x => !decide (f x.1 = f x.2))) = !decide (l.map f = m.map f)
  | [], [], _ => by simp
  | [], _ :: _, h => by simp at h
  | _ :: _, [], h => by simp at h
  | a :: l, b :: m, h => by
    simp only [List.zip_cons_cons, List.any_cons, List.map_cons, zip_any_ne f l m (by simpa using h)]
    rw [Bool.eq_iff_iff]
    simp only [Bool.or_eq_true, Bool.not_eq_true', decide_eq_false_iff_not, List.cons.injEq]
    by_cases h1 : f a = f b <;> by_cases h2 : l.map f = m.map f <;> simp [h1, h2]

def fullB (b : List UInt8) : List UInt8 := if b.length = 0 then List.replicate 128 0 else b
def szB (b : List UInt8) : Bool := b.length == 0 || b.length == 128
theorem fullB_len {b : List UInt8} (h : szB b = true) : (fullB b).length = 128 := by
  unfold szB at h; unfold fullB
  simp at h
  split
  · simp
  · rcases h with h | h
    · subst h; simp at *
    · exact h
theorem fullB_ne (b : List UInt8) : (fullB b).length ≠ 0 := by
  unfold fullB
  split
  · rw [List.length_replicate]; omega
  · assumption
theorem fullB_full (b : List UInt8) : fullB (fullB b) = fullB b := by
  rw [show fullB (fullB b) = if (fullB b).length = 0 then List.replicate 128 0 else fullB b from rfl, if_neg (fullB_ne b)]
theorem szB_full {b : List UInt8} (h : szB b = true) : szB (fullB b) = true := by
  have := fullB_len h
  unfold szB; rw [this]; rfl

theorem rfull_eq {b : List UInt8} (h : b.length < 4294967296) : ref04_Full b = some (fullB b) := by
  unfold ref04_Full fullB
  by_cases h0 : b.length = 0
  · rw [if_pos h0, show (((b.length : Nat) : Int) == 0) = true by simp [h0]]
    rw [show (128 : Int) = ((128 : Nat) : Int) from rfl, makeL_some _ _ (by omega)]; rfl
  · rw [if_neg h0, show (((b.length : Nat) : Int) == 0) = false by simp; intro hb; apply h0; simp [hb]]
    rw [app_some _ _ (by simpa using h)]; rfl
theorem pblock_eq {b : List UInt8} (h : b.length < 4294967296) : disk_block b = some (fullB b) := by
  unfold disk_block slices_Clone_byte_byte fullB
  by_cases h0 : b.length = 0
  · rw [if_pos h0, show (((b.length : Nat) : Int) == 0) = true by simp [h0]]
    rw [show (128 : Int) = ((128 : Nat) : Int) from rfl, makeL_some _ _ (by omega)]; rfl
  · rw [if_neg h0, show (((b.length : Nat) : Int) == 0) = false by simp; intro hb; apply h0; simp [hb]]
    rw [app_some _ _ (by simpa using h)]; rfl
theorem podd_eq (b : List UInt8) : disk_odd b = some (!szB b) := by
  unfold disk_odd szB
  congr 1
  rw [Bool.eq_iff_iff]; simp only [Bool.and_eq_true, bne_iff_ne, ne_eq, Bool.not_eq_true', Bool.or_eq_false_iff, beq_eq_false_iff_ne]; omega
/-- Devices of sizes that are gone through. -/
structure SmallD (d : Disk) : Prop where
  nb : d.Blocks.length ≤ 100000
  nw : d.Wait.length ≤ 100000
  lb : ∀ b ∈ d.Blocks, b.length ≤ 1000000
  lw : ∀ w ∈ d.Wait, w.Data.length ≤ 1000000

theorem sum_loop {α : Type} (l : List α) (len : α → Nat) (m : Nat) (hm : m ≤ 2000) {step : Int × Int → Option (Ctl (Int × Int) Int)} (n0 : Int) (h0 : 0 ≤ n0) (h0' : n0 ≤ 1000000000)
    (h1 : ∀ k (hk : k < l.length) (n : Int), k < m → step (n, (k : Int)) = some (.next (wI (n + wI (8 + min ((len l[k] : Nat) : Int) 100000)), wI ((k : Int) + 1))))
    (h2 : ∀ (n : Int) (k : Nat), ¬(k < l.length ∧ k < m) → step (n, (k : Int)) = some (.brk n)) :
    ∃ b, loopM step FUEL (n0, (0 : Int)) = some b ∧ n0 ≤ b ∧ b ≤ n0 + 200000 * m ∧ ∀ j (hj : j < l.length), j < m → min ((len l[j] : Nat) : Int) 100000 ≤ b := by
  refine loop_inv (step := step) (min l.length m)
    (fun k s => s.2 = (k : Int) ∧ n0 ≤ s.1 ∧ s.1 ≤ n0 + 200000 * (k : Int) ∧ ∀ j (hj : j < l.length), j < k → min ((len l[j] : Nat) : Int) 100000 ≤ s.1) _ (fun k s hk hI => ?_) FUEL 0 (n0, 0) (Nat.zero_le _) (by unfold FUEL; omega) ⟨rfl, by simp, by simp, fun j _ hj => by omega⟩
  obtain ⟨s1, s2⟩ := s
  obtain ⟨e1, e2, e3, e4⟩ := hI
  simp only at e1 e2 e3 e4
  subst e1
  by_cases hlt : k < l.length ∧ k < m
  · refine .inl ⟨_, h1 k hlt.1 s1 hlt.2, by omega, ?_⟩
    rw [wI_id (x := 8 + min ((len l[k] : Nat) : Int) 100000) (by omega) (by omega), wI_id (by omega) (by omega), wI_succ (by omega)]
    refine ⟨rfl, by simp only; omega, by simp only; omega, fun j hj hjk => ?_⟩
    simp only
    by_cases hjk' : j = k
    · subst hjk'; omega
    · have := e4 j hj (by omega); omega
  · exact .inr ⟨s1, h2 s1 k hlt, e2, by omega, fun j hj hjm => e4 j hj (by omega)⟩

theorem dgreat_eq (d : Disk) : ∃ g, ref04_Great d = some g ∧ (g = false → SmallD d ∧ d.Blocks.length ≤ 300 ∧ d.Wait.length ≤ 1100) := by
  unfold ref04_Great
  obtain ⟨b5, hb, h1, h2, h3⟩ := sum_loop d.Blocks List.length 400 (by omega) (step := fun s : Int × Int => ref04_Great_L1 d s.1 s.2) 0 (by omega) (by omega) (fun k hk n hm => by
      show ref04_Great_L1 d n (k : Int) = _
      unfold ref04_Great_L1
      rw [show (decide ((k : Int) < (d.Blocks.length : Int)) && decide ((k : Int) < (400 : Int))) = true by simp; omega, idx_nat, List.getElem?_eq_getElem hk]; rfl) (fun n k hk => by
      show ref04_Great_L1 d n (k : Int) = _
      unfold ref04_Great_L1
      rw [show (decide ((k : Int) < (d.Blocks.length : Int)) && decide ((k : Int) < (400 : Int))) = false by simp; omega]; rfl)
  rw [hb]
  simp only [Option.bind_some]
  obtain ⟨b6, hc, k1, k2, k3⟩ := sum_loop d.Wait (fun w => w.Data.length) 1200 (by omega) (step := fun s : Int × Int => ref04_Great_L2 d s.1 s.2) b5 (by omega) (by omega) (fun k hk n hm => by
      show ref04_Great_L2 d n (k : Int) = _
      unfold ref04_Great_L2
      rw [show (decide ((k : Int) < (d.Wait.length : Int)) && decide ((k : Int) < (1200 : Int))) = true by simp; omega, idx_nat, List.getElem?_eq_getElem hk]; rfl) (fun n k hk => by
      show ref04_Great_L2 d n (k : Int) = _
      unfold ref04_Great_L2
      rw [show (decide ((k : Int) < (d.Wait.length : Int)) && decide ((k : Int) < (1200 : Int))) = false by simp; omega]; rfl)
  rw [hc]
  simp only [Option.bind_some]
  refine ⟨_, rfl, fun hg => ?_⟩
  simp only [Bool.or_eq_false_iff, decide_eq_false_iff_not, Int.not_lt] at hg
  obtain ⟨⟨g1, g2⟩, g3⟩ := hg
  refine ⟨⟨by omega, by omega, fun b hb => ?_, fun w hw => ?_⟩, by omega, by omega⟩
  · obtain ⟨j, hj, rfl⟩ := List.getElem_of_mem hb
    have := h3 j hj (by omega); omega
  · obtain ⟨j, hj, rfl⟩ := List.getElem_of_mem hw
    have := k3 j hj (by omega); omega

theorem ptwin_eq {d : Disk} (h : SmallD d) : disk_Twin d = some d := by
  have hnb := h.nb
  have hnw := h.nw
  unfold disk_Twin
  have t1 := loop_run (step := fun s : Int × (List (List UInt8)) => disk_Twin_L1 d s.1 s.2) (fun k => ((k : Int), d.Blocks.take k)) d.Blocks.length d.Blocks (fuel_ltD (by omega)) (fun k hk => by
    obtain ⟨x, hx⟩ : ∃ x, d.Blocks[k]? = some x := ⟨_, List.getElem?_eq_getElem hk⟩
    have hxl := h.lb x (List.mem_of_getElem? hx)
    unfold disk_Twin_L1 slices_Clone_byte_byte
    simp only [decide_eq_true (show (k : Int) < (d.Blocks.length : Int) by omega), cond_true, idx_nat, hx, Option.bind_some, wI_succ (show k < 9223372036854775807 by omega)]
    rw [app_some _ _ (by simp; omega)]
    simp only [Option.bind_some, List.nil_append]
    rw [app_some _ _ (by simp; omega), take_succ_get _ _ _ hx]
    rfl) (by
    unfold disk_Twin_L1
    rw [decide_eq_false (by omega), List.take_length]; rfl)
  have h0 : ((0 : Int), ([] : List (List UInt8))) = (fun k : Nat => ((k : Int), d.Blocks.take k)) 0 := by simp
  rw [h0, t1]
  simp only [Option.bind_some]
  have t2 := loop_run (step := fun s : Int × (List Write) => disk_Twin_L2 d s.1 s.2) (fun k => ((k : Int), d.Wait.take k)) d.Wait.length d.Wait (fuel_ltD (by omega)) (fun k hk => by
    obtain ⟨x, hx⟩ : ∃ x, d.Wait[k]? = some x := ⟨_, List.getElem?_eq_getElem hk⟩
    have hxl := h.lw x (List.mem_of_getElem? hx)
    unfold disk_Twin_L2 slices_Clone_byte_byte
    simp only [decide_eq_true (show (k : Int) < (d.Wait.length : Int) by omega), cond_true, idx_nat, hx, Option.bind_some, wI_succ (show k < 9223372036854775807 by omega)]
    rw [app_some _ _ (by simp; omega)]
    simp only [Option.bind_some, List.nil_append]
    rw [app_some _ _ (by simp; omega), take_succ_get _ _ _ hx]
    rfl) (by
    unfold disk_Twin_L2
    rw [decide_eq_false (by omega), List.take_length]; rfl)
  have h1 : ((0 : Int), ([] : List Write)) = (fun k : Nat => ((k : Int), d.Wait.take k)) 0 := by simp
  rw [h1, t2]; rfl

/-! ### which devices may be -/
def badW (n : Nat) (w : Write) : Bool := decide (w.At < 0) || (decide (w.At ≥ (n : Int)) || !szB w.Data)
def mayD (d : Disk) : Bool :=
  decide (1 ≤ d.Blocks.length) && (decide (d.Blocks.length ≤ 256) && (decide (d.Wait.length ≤ 1024) && (!(d.Dead && decide (0 < d.Wait.length)) && (!(d.Blocks.any fun b => !szB b || (d.Dead && decide (0 < b.length))) && !(d.Wait.any (badW d.Blocks.length))))))
structure MayD (d : Disk) : Prop where
  n1 : 1 ≤ d.Blocks.length
  n2 : d.Blocks.length ≤ 256
  nw : d.Wait.length ≤ 1024
  dw : d.Dead = true → d.Wait = []
  db : d.Dead = true → ∀ b ∈ d.Blocks, b = []
  sz : ∀ b ∈ d.Blocks, szB b = true
  wt : ∀ w ∈ d.Wait, 0 ≤ w.At ∧ w.At < (d.Blocks.length : Int) ∧ szB w.Data = true
theorem mayD_iff (d : Disk) : mayD d = true ↔ MayD d := by
  unfold mayD
  simp only [Bool.and_eq_true, decide_eq_true_eq, Bool.not_eq_true', List.any_eq_false, Bool.or_eq_true, not_or, Bool.and_eq_false_iff, decide_eq_false_iff_not, badW, not_and]
  constructor
  · rintro ⟨h1, h2, h3, h4, h5, h6⟩
    refine ⟨h1, h2, h3, fun hd => ?_, fun hd b hb => ?_, fun b hb => ?_, fun w hw => ?_⟩
    · rcases h4 with h4 | h4
      · rw [hd] at h4; cases h4
      · exact List.eq_nil_of_length_eq_zero (by omega)
    · have := (h5 b hb).2 hd
      exact List.eq_nil_of_length_eq_zero (by omega)
    · have := (h5 b hb).1
      simpa using this
    · obtain ⟨k1, k2, k3⟩ := h6 w hw
      exact ⟨by omega, by omega, by simpa using k3⟩
  · rintro ⟨h1, h2, h3, h4, h5, h6, h7⟩
    refine ⟨h1, h2, h3, ?_, fun b hb => ⟨by rw [h6 b hb]; simp, fun hd => by rw [h5 hd b hb]; simp⟩, fun w hw => ?_⟩
    · cases hd : d.Dead with
      | false => exact .inl rfl
      | true => right; rw [h4 hd]; simp
    · obtain ⟨k1, k2, k3⟩ := h7 w hw
      exact ⟨by omega, by omega, by rw [k3]; simp⟩
theorem MayD.small {d : Disk} (h : MayD d) : SmallD d :=
  ⟨by have := h.n2; omega, by have := h.nw; omega, fun b hb => by have := h.sz b hb; unfold szB at this; simp at this; rcases this with e | e <;> simp_all,
    fun w hw => by have := (h.wt w hw).2.2; unfold szB at this; simp at this; rcases this with e | e <;> simp_all⟩

/-- A loop that looks for the first element with p. -/
theorem loop_first {α B : Type} (l : List α) (p : α → Bool) {step : Int → Option (Ctl Int B)} (yes : Nat → B) (no : B) (hl : l.length < 4294967296)
    (h1 : ∀ k (hk : k < l.length), step (k : Int) = some (bif p l[k] then .brk (yes k) else .next ((k + 1 : Nat) : Int))) (h2 : step (l.length : Int) = some (.brk no)) :
    ∃ b, loopM step FUEL (0 : Int) = some b ∧ ((∃ k, b = yes k ∧ ∃ hk : k < l.length, p l[k] = true ∧ ∀ j (hj : j < l.length), j < k → p l[j] = false) ∨ (b = no ∧ ∀ x ∈ l, p x = false)) := by
  refine loop_inv (step := step) l.length (fun k s => s = (k : Int) ∧ ∀ j (hj : j < l.length), j < k → p l[j] = false) _ (fun k s hk hI => ?_) FUEL 0 0 (Nat.zero_le _) (by have := fuel_ltD hl; omega) ⟨rfl, fun j _ hj => by omega⟩
  obtain ⟨rfl, hI⟩ := hI
  by_cases hlt : k < l.length
  · rw [h1 k hlt]
    cases hp : p l[k] with
    | true => exact .inr ⟨_, rfl, .inl ⟨k, rfl, hlt, hp, hI⟩⟩
    | false =>
      refine .inl ⟨_, rfl, hlt, rfl, fun j hj hjk => ?_⟩
      by_cases he : j = k
      · subst he; exact hp
      · exact hI j hj (by omega)
  · obtain rfl : k = l.length := by omega
    refine .inr ⟨_, h2, .inr ⟨rfl, fun x hx => ?_⟩⟩
    obtain ⟨j, hj, rfl⟩ := List.getElem_of_mem hx
    exact hI j hj hj
theorem contB_eq (l : List (List UInt8)) (f : List UInt8 → Option Bool) (p : List UInt8 → Bool) (hl : l.length < 4294967296) (hf : ∀ x ∈ l, f x = some (p x)) : slices_ContainsFunc_byte_byte l f = some (l.any p) := by
  unfold slices_ContainsFunc_byte_byte slices_IndexFunc_byte_byte
  obtain ⟨b, hb, hq⟩ := loop_first l p (step := fun s : Int => slices_IndexFunc_byte_byte_L1 l f s) (fun k => Sum.inr (k : Int)) (Sum.inl ()) hl (fun k hk => by
      unfold slices_IndexFunc_byte_byte_L1
      rw [decide_eq_true (show (k : Int) < (l.length : Int) by omega), idx_nat, List.getElem?_eq_getElem hk, wI_succ (by omega)]
      simp only [cond_true, Option.bind_some, hf l[k] (List.getElem_mem _)]
      cases p l[k] <;> rfl) (by
      unfold slices_IndexFunc_byte_byte_L1
      rw [decide_eq_false (show ¬(l.length : Int) < (l.length : Int) by omega)]; rfl)
  rw [hb]
  rcases hq with ⟨k, rfl, hk, hp, _⟩ | ⟨rfl, hn⟩
  · rw [List.any_eq_true.2 ⟨l[k], List.getElem_mem _, hp⟩]; simp
  · rw [List.any_eq_false.2 (fun x hx => by rw [hn x hx]; simp)]; rfl
theorem indexW_eq (l : List Write) (f : Write → Option Bool) (p : Write → Bool) (hl : l.length < 4294967296) (hf : ∀ x ∈ l, f x = some (p x)) :
    ∃ i, slices_IndexFunc_api_Write_api_Write l f = some i ∧ ((∃ k : Nat, i = (k : Int) ∧ ∃ hk : k < l.length, p l[k] = true ∧ ∀ j (hj : j < l.length), j < k → p l[j] = false) ∨ (i = -1 ∧ ∀ x ∈ l, p x = false)) := by
  unfold slices_IndexFunc_api_Write_api_Write
  obtain ⟨b, hb, hq⟩ := loop_first l p (step := fun s : Int => slices_IndexFunc_api_Write_api_Write_L1 l f s) (fun k => Sum.inr (k : Int)) (Sum.inl ()) hl (fun k hk => by
      unfold slices_IndexFunc_api_Write_api_Write_L1
      rw [decide_eq_true (show (k : Int) < (l.length : Int) by omega), idx_nat, List.getElem?_eq_getElem hk, wI_succ (by omega)]
      simp only [cond_true, Option.bind_some, hf l[k] (List.getElem_mem _)]
      cases p l[k] <;> rfl) (by
      unfold slices_IndexFunc_api_Write_api_Write_L1
      rw [decide_eq_false (show ¬(l.length : Int) < (l.length : Int) by omega)]; rfl)
  rw [hb]
  rcases hq with ⟨k, rfl, hk, hp, hm⟩ | ⟨rfl, hn⟩
  · exact ⟨_, rfl, .inl ⟨k, rfl, hk, hp, hm⟩⟩
  · exact ⟨_, rfl, .inr ⟨rfl, hn⟩⟩
theorem contW_eq (l : List Write) (f : Write → Option Bool) (p : Write → Bool) (hl : l.length < 4294967296) (hf : ∀ x ∈ l, f x = some (p x)) : slices_ContainsFunc_api_Write_api_Write l f = some (l.any p) := by
  unfold slices_ContainsFunc_api_Write_api_Write
  obtain ⟨i, hi, hq⟩ := indexW_eq l f p hl hf
  rw [hi]
  rcases hq with ⟨k, rfl, hk, hp, _⟩ | ⟨rfl, hn⟩
  · rw [List.any_eq_true.2 ⟨l[k], List.getElem_mem _, hp⟩]; simp
  · rw [List.any_eq_false.2 (fun x hx => by rw [hn x hx]; simp)]; rfl

theorem any_orD {α : Type} (l : List α) (p q : α → Bool) : (l.any fun x => p x || q x) = (l.any p || l.any q) := by
  induction l with
  | nil => rfl
  | cons a l ih => simp only [List.any_cons, ih]; cases p a <;> cases q a <;> cases l.any p <;> rfl

theorem pcheck_eq (d : Disk) : disk_Check d = some (bif mayD d then 0 else 8) := by
  unfold disk_Check mayD
  by_cases h1 : 1 ≤ d.Blocks.length
  case neg =>
    rw [decide_eq_true (show ((d.Blocks.length : Nat) : Int) < 1 by omega), decide_eq_false h1]; rfl
  by_cases h2 : d.Blocks.length ≤ 256
  case neg =>
    rw [decide_eq_true (show ((d.Blocks.length : Nat) : Int) > 256 by omega), decide_eq_false h2]; simp [gO]
  by_cases h3 : d.Wait.length ≤ 1024
  case neg =>
    rw [decide_eq_true (show ((d.Wait.length : Nat) : Int) > 1024 by omega), decide_eq_false h3]; simp [gO]
  rw [decide_eq_false (show ¬((d.Blocks.length : Nat) : Int) < 1 by omega), decide_eq_false (show ¬((d.Blocks.length : Nat) : Int) > 256 by omega), decide_eq_false (show ¬((d.Wait.length : Nat) : Int) > 1024 by omega)]
  rw [decide_eq_true h1, decide_eq_true h2, decide_eq_true h3]
  simp only [Bool.or_self, Bool.not_false, gO, cond_true, Bool.false_or, Bool.true_and]
  rw [contB_eq d.Blocks _ (fun b => !szB b) (by omega) (fun x _ => podd_eq x)]
  simp only [Option.bind_some]
  rw [any_orD]
  cases hs : (d.Blocks.any fun b => !szB b) with
  | true => simp
  | false =>
  simp only [cond_false, Bool.false_or]
  rw [contW_eq d.Wait _ (badW d.Blocks.length) (by omega) (fun w _ => by
    unfold disk_Check_1 badW
    rw [podd_eq]
    cases decide (w.At < 0) <;> cases decide (w.At ≥ ((d.Blocks.length : Nat) : Int)) <;> simp [gO])]
  simp only [Option.bind_some]
  cases hw : d.Wait.any (badW d.Blocks.length) with
  | true => simp
  | false =>
  simp only [cond_false, Bool.not_false, Bool.and_true]
  rw [contB_eq d.Blocks _ (fun b => decide (0 < b.length)) (by omega) (fun x _ => by
    unfold disk_Check_2; congr 1; exact decide_eq_decide.2 (by omega))]
  rw [show decide (((d.Wait.length : Nat) : Int) > 0) = decide (0 < d.Wait.length) from decide_eq_decide.2 (by omega)]
  cases hd : d.Dead with
  | false =>
    have hf : (d.Blocks.any fun b => (false && decide (0 < b.length))) = false := List.any_eq_false.2 (fun _ _ => by simp)
    simp only [Bool.false_and, cond_false, Option.bind_some, Bool.not_false, Bool.true_and] at hf ⊢
    rw [hf]; rfl
  | true =>
    cases hn : decide (0 < d.Wait.length) with
    | true => simp
    | false =>
      simp only [Bool.true_and, Bool.not_false, cond_true, Option.bind_some, Bool.false_or]
      cases d.Blocks.any (fun b => decide (0 < b.length)) <;> rfl

/- Plain law: devices: comparing, reading, writing. -/

def viewW (w : Write) : Int × List UInt8 := (w.At, fullB w.Data)
def viewD (d : Disk) : List (List UInt8) × List (Int × List UInt8) × Bool := (d.Blocks.map fullB, d.Wait.map viewW, d.Dead)

theorem beqL (a b : List UInt8) : (a == b) = decide (a = b) := by rw [Bool.eq_iff_iff]; simp

theorem rsame_eq {a b : Disk} (ha : SmallD a) (hb : SmallD b) : ref04_Same a b = some (decide (viewD a = viewD b)) := by
  have a1 := ha.nb; have a2 := ha.nw; have b1 := hb.nb; have b2 := hb.nw
  unfold ref04_Same
  by_cases h1 : a.Blocks.length = b.Blocks.length
  case neg =>
    rw [show (((a.Blocks.length : Nat) : Int) != ((b.Blocks.length : Nat) : Int)) = true by simp; omega]
    rw [decide_eq_false (fun e => h1 (by have := congrArg (fun v => v.1.length) e; simpa [viewD] using this))]; rfl
  by_cases h2 : a.Wait.length = b.Wait.length
  case neg =>
    rw [show (((a.Wait.length : Nat) : Int) != ((b.Wait.length : Nat) : Int)) = true by simp; omega]
    rw [decide_eq_false (fun e => h2 (by have := congrArg (fun v => v.2.1.length) e; simpa [viewD] using this))]; simp
  by_cases h3 : a.Dead = b.Dead
  case neg =>
    rw [show (a.Dead != b.Dead) = true by simpa using h3]
    rw [decide_eq_false (fun e => h3 (congrArg (fun v => v.2.2) e))]; simp
  rw [show (((a.Blocks.length : Nat) : Int) != ((b.Blocks.length : Nat) : Int)) = false by simp; omega, show (((a.Wait.length : Nat) : Int) != ((b.Wait.length : Nat) : Int)) = false by simp; omega, show (a.Dead != b.Dead) = false by simpa using h3]
  simp only [Bool.or_self, cond_false]
  rw [loop_any2 a.Blocks b.Blocks (fun x y => !decide (fullB x = fullB y)) (step := fun s : Int => ref04_Same_L1 a b s) (Sum.inr ()) (Sum.inl ()) (by omega) h1 (fun k hk hk' => by
    unfold ref04_Same_L1
    have k1 := ha.lb _ (List.getElem_mem hk)
    have k2 := hb.lb _ (List.getElem_mem hk')
    rw [decide_eq_true (show (k : Int) < (a.Blocks.length : Int) by omega), idx_nat, idx_nat, List.getElem?_eq_getElem hk, List.getElem?_eq_getElem hk', wI_succ (by omega)]
    simp only [cond_true, Option.bind_some]
    rw [rfull_eq (by omega), rfull_eq (by omega)]
    simp only [Option.bind_some, beqL]
    cases decide (fullB a.Blocks[k] = fullB b.Blocks[k]) <;> rfl) (by
    unfold ref04_Same_L1
    rw [decide_eq_false (by omega)]; rfl), zip_any_ne fullB _ _ h1]
  simp only [Option.bind_some]
  by_cases e1 : a.Blocks.map fullB = b.Blocks.map fullB
  case neg =>
    rw [decide_eq_false e1, decide_eq_false (fun e => e1 (congrArg (fun v => v.1) e))]; rfl
  rw [decide_eq_true e1]
  simp only [Bool.not_true, cond_false, Sum.elim_inl]
  rw [loop_any2 a.Wait b.Wait (fun x y => !decide (viewW x = viewW y)) (step := fun s : Int => ref04_Same_L2 a b s) (Sum.inr ()) (Sum.inl ()) (by omega) h2 (fun k hk hk' => by
    unfold ref04_Same_L2 viewW
    have k1 := ha.lw _ (List.getElem_mem hk)
    have k2 := hb.lw _ (List.getElem_mem hk')
    rw [decide_eq_true (show (k : Int) < (a.Wait.length : Int) by omega), idx_nat, idx_nat, List.getElem?_eq_getElem hk, List.getElem?_eq_getElem hk', wI_succ (by omega)]
    simp only [cond_true, Option.bind_some]
    by_cases hat : a.Wait[k].At = b.Wait[k].At
    · rw [show (a.Wait[k].At != b.Wait[k].At) = false by simpa using hat]
      simp only [gO, Bool.not_false, cond_true, Option.bind_some, Bool.false_or]
      rw [rfull_eq (by omega), rfull_eq (by omega)]
      simp only [Option.bind_some, beqL]
      rw [show decide ((a.Wait[k].At, fullB a.Wait[k].Data) = (b.Wait[k].At, fullB b.Wait[k].Data)) = decide (fullB a.Wait[k].Data = fullB b.Wait[k].Data) from decide_eq_decide.2 (by simp [hat])]
      cases decide (fullB a.Wait[k].Data = fullB b.Wait[k].Data) <;> rfl
    · rw [show (a.Wait[k].At != b.Wait[k].At) = true by simpa using hat]
      rw [decide_eq_false (fun e => hat (congrArg Prod.fst e))]
      simp [gO]) (by
    unfold ref04_Same_L2
    rw [decide_eq_false (by omega)]; rfl), zip_any_ne viewW _ _ h2]
  simp only [Option.bind_some]
  by_cases e2 : a.Wait.map viewW = b.Wait.map viewW
  · rw [decide_eq_true e2, decide_eq_true (by simp [viewD, e1, e2, h3])]; rfl
  · rw [decide_eq_false e2, decide_eq_false (fun e => e2 (congrArg (fun v => v.2.1) e))]; rfl

/-! ### reading -/
def liesD (d : Disk) (at_ : Nat) : List UInt8 := fullB (d.Blocks.getD at_ [])
def overW (at_ : Int) (acc : List UInt8) (w : Write) : List UInt8 := if w.At = at_ then fullB w.Data else acc
def seenD (d : Disk) (at_ : Nat) : List UInt8 := d.Wait.foldl (overW (at_ : Int)) (liesD d at_)
def askD (d : Disk) (at_ : Int) : Int := bif mayD d then (bif decide (at_ < 0) || decide (at_ ≥ (d.Blocks.length : Int)) then 2 else 0) else 8

theorem pplace_eq (d : Disk) (at_ : Int) : disk_place d at_ = some (askD d at_) := by
  unfold disk_place askD
  rw [pcheck_eq]
  simp only [Option.bind_some]
  cases mayD d with
  | false => rfl
  | true => cases (decide (at_ < 0) || decide (at_ ≥ (d.Blocks.length : Int))) <;> rfl
theorem askD_ok {d : Disk} {at_ : Int} (h : askD d at_ = 0) : MayD d ∧ ∃ k : Nat, at_ = (k : Int) ∧ k < d.Blocks.length := by
  unfold askD at h
  cases hm : mayD d with
  | false => rw [hm] at h; simp at h
  | true =>
    rw [hm] at h
    simp only [cond_true] at h
    cases hc : (decide (at_ < 0) || decide (at_ ≥ (d.Blocks.length : Int))) with
    | true => rw [hc] at h; simp at h
    | false =>
      simp only [Bool.or_eq_false_iff, decide_eq_false_iff_not] at hc
      exact ⟨(mayD_iff d).1 hm, at_.toNat, by omega, by omega⟩

/- Plain law: devices: writes, flushes, deaths. -/

def noD : Disk := Disk.mk [] [] false
def errD (d : Disk) (at_ : Int) (data : List UInt8) : Int := bif (askD d at_ != 0) then askD d at_ else bif !szB data then 3 else bif d.Dead then 40 else 0
theorem askD_cases (d : Disk) (at_ : Int) : askD d at_ = 8 ∨ askD d at_ = 2 ∨ askD d at_ = 0 := by
  unfold askD
  cases mayD d with
  | false => exact .inl rfl
  | true => cases (decide (at_ < 0) || decide (at_ ≥ (d.Blocks.length : Int))) <;> simp
theorem pwerr_eq (d : Disk) (at_ : Int) (data : List UInt8) : disk_write d at_ data = some (errD d at_ data) := by
  unfold disk_write errD
  rw [pplace_eq]
  simp only [Option.bind_some]
  cases (askD d at_ != 0) with
  | true => rfl
  | false => rw [podd_eq]; simp only [cond_false, Option.bind_some]; cases szB data <;> cases d.Dead <;> rfl
theorem errD_ok {d : Disk} {at_ : Int} {data : List UInt8} (h : errD d at_ data = 0) : MayD d ∧ d.Dead = false ∧ szB data = true ∧ ∃ k : Nat, at_ = (k : Int) ∧ k < d.Blocks.length := by
  unfold errD at h
  rcases askD_cases d at_ with e | e | e
  · rw [e] at h; simp at h
  · rw [e] at h; simp at h
  · obtain ⟨h1, h2⟩ := askD_ok e
    rw [e] at h
    simp only [bne_self_eq_false, cond_false] at h
    cases hs : szB data with
    | false => rw [hs] at h; simp at h
    | true =>
      cases hd : d.Dead with
      | true => rw [hs, hd] at h; simp at h
      | false => exact ⟨h1, rfl, rfl, h2⟩
theorem szB_len {b : List UInt8} (h : szB b = true) : b.length < 4294967296 := by unfold szB at h; simp at h; rcases h with h | h <;> simp_all

def putD (d : Disk) (at_ : Int) (data : List UInt8) : Disk := { d with Wait := d.Wait ++ [⟨at_, fullB data⟩] }
def writeD (d : Disk) (at_ : Int) (data : List UInt8) : Disk × Int := bif (errD d at_ data != 0) then (noD, errD d at_ data) else bif decide (1024 ≤ d.Wait.length) then (noD, 9) else (putD d at_ data, 0)
theorem pwrite_eq (d : Disk) (at_ : Int) (data : List UInt8) : disk_Write d at_ data = some (writeD d at_ data) := by
  unfold disk_Write writeD
  rw [pwerr_eq]
  simp only [Option.bind_some]
  cases h : (errD d at_ data != 0) with
  | true => rfl
  | false =>
    obtain ⟨hm, hd, hs, k, rfl, hk⟩ := errD_ok (by simpa using h)
    have hw := hm.nw
    simp only [cond_false]
    rw [show (((d.Wait.length : Nat) : Int) == 1024) = decide (1024 ≤ d.Wait.length) by rw [Bool.eq_iff_iff]; simp; omega]
    cases hf : decide (1024 ≤ d.Wait.length) with
    | true => rfl
    | false =>
      have hf' := of_decide_eq_false hf
      rw [ptwin_eq hm.small, pblock_eq (szB_len hs)]
      simp only [cond_false, Option.bind_some]
      rw [app_some _ _ (by simp; omega)]; rfl
def keepW (at_ : Int) (w : Write) : Bool := !(w.At == at_)
theorem del_loop (at_ : Int) (l : List Write) (i0 : Nat) (hi : i0 < l.length) (hl : l.length ≤ 100000) (h0 : ∀ j (hj : j < l.length), j < i0 → (l[j].At == at_) = false) (h1 : (l[i0].At == at_) = true) :
    ∃ s : List Write, loopM (fun s : (List Write) × Int × Int => disk_Fua_L2 at_ s.1 s.2.1 s.2.2) FUEL (l, ((i0 : Nat) : Int), (((i0 + 1 : Nat)) : Int)) = some (s, (((l.filter (keepW at_)).length : Nat) : Int)) ∧
      s.length = l.length ∧ s.take (l.filter (keepW at_)).length = l.filter (keepW at_) := by
  have hf0 : (l.take (i0 + 1)).filter (keepW at_) = l.take i0 := by
    rw [take_succ_get _ _ _ (List.getElem?_eq_getElem hi), List.filter_append]
    have ha : (l.take i0).filter (keepW at_) = l.take i0 := by
      rw [List.filter_eq_self]
      intro w hw
      obtain ⟨j, hj, rfl⟩ := List.getElem_of_mem hw
      rw [List.getElem_take]
      unfold keepW
      rw [h0 j (by simp at hj; omega) (by simp at hj; omega)]; rfl
    rw [ha]
    simp [keepW, h1]
  obtain ⟨b, hb, hq⟩ := loop_inv (step := fun s : (List Write) × Int × Int => disk_Fua_L2 at_ s.1 s.2.1 s.2.2) l.length
    (fun k s => s.1.length = l.length ∧ s.2.1 = ((((l.take k).filter (keepW at_)).length : Nat) : Int) ∧ s.2.2 = (k : Int) ∧ i0 + 1 ≤ k ∧ ((l.take k).filter (keepW at_)).length < k ∧ s.1.take ((l.take k).filter (keepW at_)).length = (l.take k).filter (keepW at_) ∧ s.1.drop k = l.drop k)
    (fun b => b.2 = (((l.filter (keepW at_)).length : Nat) : Int) ∧ b.1.length = l.length ∧ b.1.take (l.filter (keepW at_)).length = l.filter (keepW at_))
    (fun k s hk hI => by
      obtain ⟨s1, s2, s3⟩ := s
      obtain ⟨e1, e2, e3, e4, e5, e6, e7⟩ := hI
      simp only at e1 e2 e3 e4 e5 e6 e7
      subst e2; subst e3
      show (∃ s', disk_Fua_L2 at_ s1 _ (k : Int) = some (.next s') ∧ _) ∨ ∃ b, disk_Fua_L2 at_ s1 _ (k : Int) = some (.brk b) ∧ _
      unfold disk_Fua_L2 disk_Fua_J4 disk_Fua_J3
      by_cases hlt : k < l.length
      · have hget : s1[k]? = some l[k] := by
          have := congrArg (fun x => x[0]?) e7
          simpa [hlt] using this
        rw [decide_eq_true (by omega), idx_nat, hget]
        simp only [cond_true, Option.bind_some]
        rw [wI_succ (show k < 9223372036854775807 by omega)]
        have htk : l.take (k + 1) = l.take k ++ [l[k]] := take_succ_get _ _ _ (List.getElem?_eq_getElem hlt)
        refine .inl ?_
        cases hat : (l[k].At == at_) with
        | true =>
          have hkp : (l.take (k + 1)).filter (keepW at_) = (l.take k).filter (keepW at_) := by rw [htk, List.filter_append]; simp [keepW, hat]
          refine ⟨_, rfl, hlt, e1, ?_, rfl, by omega, ?_, ?_, ?_⟩
          · rw [hkp]
          · rw [hkp]; omega
          · rw [hkp]; exact e6
          · simp only
            rw [← List.drop_drop, ← List.drop_drop, e7]
        | false =>
          have hkp : (l.take (k + 1)).filter (keepW at_) = (l.take k).filter (keepW at_) ++ [l[k]] := by rw [htk, List.filter_append]; simp [keepW, hat]
          have hcl : ((l.take k).filter (keepW at_)).length < s1.length := by omega
          rw [bnd_nat hcl, wI_succ (show ((l.take k).filter (keepW at_)).length < 9223372036854775807 by omega)]
          refine ⟨_, rfl, hlt, by simpa using e1, ?_, rfl, by omega, ?_, ?_, ?_⟩
          · rw [hkp, List.length_append]; rfl
          · rw [hkp, List.length_append]; simp; omega
          · rw [hkp, List.length_append]
            simp only [List.length_singleton]
            rw [take_succ_get _ _ l[k] (by rw [List.getElem?_set]; simp [hcl]), List.take_set_of_le (Nat.le_refl _), e6]
          · simp only
            rw [List.drop_set_of_lt (by omega), ← List.drop_drop, ← List.drop_drop, e7]
      · obtain rfl : k = l.length := by omega
        rw [decide_eq_false (by omega)]
        rw [List.take_length] at e6 ⊢
        exact .inr ⟨_, rfl, rfl, e1, e6⟩)
    FUEL (i0 + 1) (l, (i0 : Int), ((i0 + 1 : Nat) : Int)) (by omega) (by have := fuel_ltD (show l.length < 4294967296 by omega); omega)
    ⟨rfl, by rw [hf0]; simp; omega, rfl, Nat.le_refl _, by rw [hf0]; simp; omega, by rw [hf0]; simp, rfl⟩
  exact ⟨b.1, by rw [hb, ← hq.1], hq.2.1, hq.2.2⟩

def pfuaD (d : Disk) (k : Nat) (data : List UInt8) : Disk := ⟨d.Blocks.set k (fullB data), d.Wait.filter (keepW (k : Int)), d.Dead⟩
theorem pfua_eq (d : Disk) (at_ : Int) (data : List UInt8) : disk_Fua d at_ data = some (bif (errD d at_ data != 0) then (noD, errD d at_ data) else (pfuaD d at_.toNat data, 0)) := by
  unfold disk_Fua
  rw [pwerr_eq]
  simp only [Option.bind_some]
  cases h : (errD d at_ data != 0) with
  | true => rfl
  | false =>
    obtain ⟨hm, hd, hs, k, rfl, hk⟩ := errD_ok (by simpa using h)
    have hw := hm.small.nw
    simp only [cond_false, Int.toNat_natCast]
    rw [ptwin_eq hm.small, pblock_eq (szB_len hs)]
    simp only [Option.bind_some]
    rw [bnd_nat hk]
    simp only [Option.bind_some]
    obtain ⟨i, hi, hq⟩ := indexW_eq d.Wait (fun y => disk_Fua_1 y (k : Int)) (fun w => w.At == (k : Int)) (by omega) (fun w _ => rfl)
    rw [hi]
    simp only [Option.bind_some]
    unfold disk_Fua_J1 pfuaD
    rcases hq with ⟨i0, rfl, hi0, h1, h0⟩ | ⟨rfl, hn⟩
    · rw [show (((i0 : Nat) : Int) == -1) = false from beq_eq_false_iff_ne.2 (by omega)]
      simp only [cond_false]
      rw [wI_succ (by omega)]
      obtain ⟨s, hs1, hs2, hs3⟩ := del_loop (k : Int) d.Wait i0 hi0 hw h0 h1
      rw [hs1]
      simp only [Option.bind_some, Int.toNat_natCast]
      have hfl : (d.Wait.filter (keepW (k : Int))).length ≤ d.Wait.length := List.length_filter_le _ _
      unfold slc
      rw [if_pos (by omega)]
      simp only [Option.bind_some]
      rw [if_pos (by simp; omega)]
      simp only [Option.bind_some, Int.toNat_natCast]
      rw [show List.drop (Int.toNat 0) (List.take (d.Wait.filter (keepW (k : Int))).length (List.take (d.Wait.filter (keepW (k : Int))).length s ++ List.replicate (s.length - (d.Wait.filter (keepW (k : Int))).length) ⟨0, []⟩)) = d.Wait.filter (keepW (k : Int)) by
        rw [List.take_append_of_le_length (by rw [List.length_take]; omega), List.take_take, Nat.min_self, hs3]; simp]
    · rw [show ((-1 : Int) == -1) = true from rfl]
      simp only [cond_true]
      rw [List.filter_eq_self.2 (fun w hw => by unfold keepW; rw [hn w hw]; rfl)]
/-! ### flushes -/
def setW (bs : List (List UInt8)) (w : Write) : List (List UInt8) := bs.set w.At.toNat w.Data
def pflushD (d : Disk) : Disk := ⟨d.Wait.foldl setW d.Blocks, [], d.Dead⟩
def rflushD (d : Disk) : Disk := ⟨(List.range d.Blocks.length).map (seenD d), [], d.Dead⟩
theorem setW_len : ∀ (l : List Write) (bs : List (List UInt8)), (l.foldl setW bs).length = bs.length
  | [], _ => rfl
  | w :: l, bs => by rw [List.foldl_cons, setW_len l]; simp [setW]
theorem setW_mem : ∀ (l : List Write) (bs : List (List UInt8)), ∀ b ∈ l.foldl setW bs, b ∈ bs ∨ ∃ w ∈ l, b = w.Data
  | [], _, b, h => .inl h
  | w :: l, bs, b, h => by
    rw [List.foldl_cons] at h
    rcases setW_mem l _ b h with h | ⟨x, hx, rfl⟩
    · rcases List.mem_or_eq_of_mem_set h with h | h
      · exact .inl h
      · exact .inr ⟨w, by simp, h⟩
    · exact .inr ⟨x, by simp [hx], rfl⟩
theorem setW_get (k : Nat) : ∀ (l : List Write) (bs : List (List UInt8)), k < bs.length → (∀ w ∈ l, 0 ≤ w.At) → fullB ((l.foldl setW bs).getD k []) = l.foldl (overW (k : Int)) (fullB (bs.getD k []))
  | [], _, _, _ => rfl
  | w :: l, bs, hk, h => by
    rw [List.foldl_cons, List.foldl_cons, setW_get k l _ (by simpa [setW] using hk) (fun x hx => h x (by simp [hx]))]
    congr 1
    have hw := h w (by simp)
    unfold setW overW
    by_cases he : w.At = (k : Int)
    · rw [if_pos he, he]; simp [hk]
    · rw [if_neg he, List.getD_eq_getElem?_getD, List.getElem?_set_ne (by omega), ← List.getD_eq_getElem?_getD]
theorem flush_view {d : Disk} (h : MayD d) : viewD (pflushD d) = viewD (rflushD d) := by
  unfold viewD pflushD rflushD
  have : (d.Wait.foldl setW d.Blocks).map fullB = ((List.range d.Blocks.length).map (seenD d)).map fullB := by
    apply List.ext_getElem
    · simp [setW_len]
    · intro k h1 h2
      simp only [List.length_map, setW_len] at h1
      have hk2 : k < (d.Wait.foldl setW d.Blocks).length := by rw [setW_len]; exact h1
      have := setW_get k d.Wait d.Blocks h1 (fun w hw => (h.wt w hw).1)
      rw [List.getD_eq_getElem?_getD, List.getElem?_eq_getElem (by rw [setW_len]; exact h1)] at this
      simp only [List.getElem_map, List.getElem_range]
      rw [show (some (d.Wait.foldl setW d.Blocks)[k]).getD [] = (d.Wait.foldl setW d.Blocks)[k] from rfl] at this
      rw [this]
      show seenD d k = fullB (seenD d k)
      have : ∀ (l : List Write) (acc : List UInt8), fullB acc = acc → fullB (l.foldl (overW (k : Int)) acc) = l.foldl (overW (k : Int)) acc := by
        intro l
        induction l with
        | nil => intro acc h; exact h
        | cons w l ih =>
          intro acc h
          rw [List.foldl_cons]
          refine ih _ ?_
          unfold overW
          split
          · exact fullB_full _
          · exact h
      exact (this d.Wait (liesD d k) (fullB_full _)).symm
  rw [this]
theorem pflush_may {d : Disk} (h : MayD d) (hd : d.Dead = false) : MayD (pflushD d) := by
  have hdd : (pflushD d).Dead = false := hd
  refine ⟨by unfold pflushD; simp only [setW_len]; exact h.n1, by unfold pflushD; simp only [setW_len]; exact h.n2, by unfold pflushD; simp, fun _ => rfl, fun h2 => (by rw [hdd] at h2; cases h2), fun b hb => ?_, fun w hw => by unfold pflushD at hw; simp at hw⟩
  rcases setW_mem d.Wait d.Blocks b hb with hb | ⟨w, hw, rfl⟩
  · exact h.sz b hb
  · exact (h.wt w hw).2.2
theorem pflush_eq (d : Disk) : disk_Flush d = some (bif !mayD d then (noD, 8) else bif d.Dead then (noD, 40) else (pflushD d, 0)) := by
  unfold disk_Flush
  rw [pcheck_eq]
  simp only [Option.bind_some]
  cases hmd : mayD d with
  | false => rfl
  | true =>
    have hm := (mayD_iff d).1 hmd
    simp only [cond_true, bne_self_eq_false, cond_false, Bool.not_true]
    cases hd : d.Dead with
    | true => rfl
    | false =>
      have hw := hm.small.nw
      rw [ptwin_eq hm.small]
      simp only [cond_false, Option.bind_some]
      have := loop_run (step := fun s : Int × (List (List UInt8)) => disk_Flush_L1 d s.1 s.2) (fun i => ((i : Int), (d.Wait.take i).foldl setW d.Blocks)) d.Wait.length (d.Wait.foldl setW d.Blocks) (fuel_ltD (by omega)) (fun i hi => by
        obtain ⟨g1, g2, g3⟩ := hm.wt _ (List.getElem_mem hi)
        unfold disk_Flush_L1
        simp only [decide_eq_true (show (i : Int) < (d.Wait.length : Int) by omega), cond_true, idx_nat, List.getElem?_eq_getElem hi, Option.bind_some]
        rw [take_succ_get _ _ _ (List.getElem?_eq_getElem hi), List.foldl_append, wI_succ (by omega)]
        obtain ⟨k, hk⟩ : ∃ k : Nat, d.Wait[i].At = (k : Int) := ⟨d.Wait[i].At.toNat, by omega⟩
        rw [hk, bnd_nat (by rw [setW_len]; omega)]
        simp [setW, hk]) (by
        unfold disk_Flush_L1
        rw [decide_eq_false (by omega), List.take_length]; rfl)
      have h0 : ((0 : Int), d.Blocks) = (fun i : Nat => ((i : Int), (d.Wait.take i).foldl setW d.Blocks)) 0 := by simp
      rw [h0, this]
      simp only [Option.bind_some]
      have hp := ptwin_eq (pflush_may hm hd).small
      unfold pflushD at hp
      rw [hp]; rfl
/- Plain law: devices: the laws that ask no reference. -/

theorem put_may {d : Disk} {k : Nat} {data : List UInt8} (hm : MayD d) (hd : d.Dead = false) (hs : szB data = true) (hk : k < d.Blocks.length) (hf : ¬ 1024 ≤ d.Wait.length) : MayD (putD d (k : Int) data) := by
  refine ⟨hm.n1, hm.n2, by simp [putD]; omega, fun h => ?_, fun h => ?_, hm.sz, fun w hw => ?_⟩
  · have h : d.Dead = true := h
    rw [hd] at h; cases h
  · have h : d.Dead = true := h
    rw [hd] at h; cases h
  · simp only [putD, List.mem_append, List.mem_singleton] at hw
    rcases hw with hw | rfl
    · exact hm.wt w hw
    · exact ⟨by simp, by simpa [putD] using hk, szB_full hs⟩
theorem fua_may {d : Disk} {k : Nat} {data : List UInt8} (hm : MayD d) (hd : d.Dead = false) (hs : szB data = true) : MayD (pfuaD d k data) := by
  have hl : (pfuaD d k data).Blocks.length = d.Blocks.length := by simp [pfuaD]
  refine ⟨by rw [hl]; exact hm.n1, by rw [hl]; exact hm.n2, Nat.le_trans (List.length_filter_le _ _) hm.nw, fun h => ?_, fun h => ?_, fun b hb => ?_, fun w hw => ?_⟩
  · have h : d.Dead = true := h
    rw [hd] at h; cases h
  · have h : d.Dead = true := h
    rw [hd] at h; cases h
  · rcases List.mem_or_eq_of_mem_set hb with hb | rfl
    · exact hm.sz b hb
    · exact szB_full hs
  · rw [hl]; exact hm.wt w (List.mem_filter.1 hw).1
theorem may_t {d : Disk} (h : MayD d) : mayD d = true := (mayD_iff d).2 h

theorem put_seen (d : Disk) (k j : Nat) (data : List UInt8) (h : k ≠ j) : seenD (putD d (k : Int) data) j = seenD d j := by
  unfold seenD putD liesD
  rw [List.foldl_append]
  simp only [List.foldl_cons, List.foldl_nil]
  unfold overW
  rw [if_neg (by simp only; omega)]
/- Plain law of the folding functions, part 1. -/

/- Plain law of the folding functions, part 2: the references and the laws. -/

/- Plain law of the folding functions, part 3: the laws. -/

/- Plain law: arrays of devices: which may be; which stripes are even. -/

theorem member_eq (c : Config) : shape_Member c = some (bif mayC c then (c.Chunk * c.Rows + 1, 0) else (0, 8)) := by
  unfold shape_Member shape_told
  rw [check_eq]
  cases h : mayC c with
  | false => rfl
  | true =>
    obtain ⟨h1, h2, h3⟩ := wI_str ((mayC_iff c).1 h)
    simp only [Option.bind_some, cond_true, bne_self_eq_false, cond_false, h1]
    rw [wI_id (by omega) (by omega)]
theorem journal_eq (c : Config) : shape_Journal c = some (bif mayC c then (c.Log + 1, 0) else (0, 8)) := by
  unfold shape_Journal shape_told
  rw [check_eq]
  cases h : mayC c with
  | false => rfl
  | true =>
    have hm := (mayC_iff c).1 h
    have h5 := hm.2.2.2.2
    have h0 : 0 ≤ (c.Members + 1) * (c.Heads + 1) := Int.mul_nonneg (by have := hm.1; omega) (by have := hm.2.2.2.1; omega)
    simp only [Option.bind_some, cond_true, bne_self_eq_false, cond_false]
    rw [wI_id (by omega) (by omega)]
def mN (c : Config) : Nat := c.Members.toNat
def sN (c : Config) : Nat := (c.Chunk * c.Rows).toNat
def wantI (c : Config) (i : Nat) : Int := if i = mN c then c.Log + 1 else c.Chunk * c.Rows + 1
def dAt (ds : List Disk) (i : Nat) : Disk := ds.getD i noD
def goodA (c : Config) (ds : List Disk) (i : Nat) : Bool := mayD (dAt ds i) && decide (((dAt ds i).Blocks.length : Int) = wantI c i)
def okA (c : Config) (ds : List Disk) : Bool := mayC c && (decide ((ds.length : Int) = c.Members + 1) && !((List.range ds.length).any fun i => !goodA c ds i))

structure OkA (c : Config) (ds : List Disk) : Prop where
  mc : MayC c
  len : ds.length = mN c + 1
  m : 3 ≤ mN c ∧ mN c ≤ 16 ∧ c.Members = (mN c : Int)
  s : 1 ≤ sN c ∧ sN c ≤ 64 ∧ c.Chunk * c.Rows = (sN c : Int)
  may : ∀ i, i < ds.length → MayD (dAt ds i)
  want : ∀ i, i < ds.length → ((dAt ds i).Blocks.length : Int) = wantI c i
theorem okA_iff (c : Config) (ds : List Disk) : okA c ds = true ↔ OkA c ds := by
  unfold okA
  simp only [Bool.and_eq_true, decide_eq_true_eq, Bool.not_eq_true', List.any_eq_false, List.mem_range, goodA, mayC_iff]
  constructor
  · rintro ⟨h1, h2, h3⟩
    obtain ⟨k1, k2, k3⟩ := wI_str h1
    have hm := h1.1
    refine ⟨h1, by unfold mN; omega, by unfold mN; omega, by unfold sN; omega, fun i hi => ?_, fun i hi => ?_⟩
    · have := h3 i hi
      simp at this; exact (mayD_iff _).1 this.1
    · have := h3 i hi; simp at this; exact this.2
  · rintro ⟨h1, h2, h3, h4, h5, h6⟩
    refine ⟨h1, by omega, fun i hi => ?_⟩
    rw [(mayD_iff _).2 (h5 i hi), decide_eq_true (h6 i hi)]; simp
theorem dAt_get {ds : List Disk} {i : Nat} (h : i < ds.length) : ds[i]? = some (dAt ds i) := by
  unfold dAt; rw [List.getD_eq_getElem?_getD, List.getElem?_eq_getElem h]; rfl

theorem pcheckA_eq (c : Config) (ds : List Disk) : eye_Check c ds = some (bif okA c ds then 0 else 8) := by
  unfold eye_Check okA
  rw [member_eq, journal_eq]
  cases hc : mayC c with
  | false => rfl
  | true =>
    have hm := (mayC_iff c).1 hc
    have hm1 := hm.1
    simp only [Option.bind_some, cond_true, bne_self_eq_false, cond_false, Bool.true_and]
    rw [wI_id (by omega) (by omega)]
    by_cases hl : (ds.length : Int) = c.Members + 1
    case neg =>
      rw [decide_eq_false hl, show ((ds.length : Int) != c.Members + 1) = true by simpa using hl]; rfl
    rw [decide_eq_true hl, show ((ds.length : Int) != c.Members + 1) = false by simpa using hl]
    simp only [cond_false, Bool.true_and]
    have := loop_any (step := fun s : Int => eye_Check_L1 c ds (c.Chunk * c.Rows + 1, 0) (c.Log + 1, 0) s) (fun k => (k : Int)) ds.length (fun i => !goodA c ds i) (Sum.inr ()) (Sum.inl ()) (fuel_ltD (by omega)) (fun k hk => by
      unfold eye_Check_L1 eye_Check_J2
      rw [decide_eq_true (by omega), idx_nat, dAt_get hk]
      simp only [cond_true, Option.bind_some, pcheck_eq]
      rw [wI_succ (by omega)]
      unfold goodA wantI mN
      by_cases he : (k : Int) = c.Members
      · rw [show ((k : Int) == c.Members) = true by simpa using he, if_pos (by omega)]
        cases mayD (dAt ds k) with
        | false => rfl
        | true =>
          by_cases hw : ((dAt ds k).Blocks.length : Int) = c.Log + 1
          · rw [decide_eq_true hw]; simp [hw]
          · rw [decide_eq_false hw]; have hw' := bne_iff_ne.2 hw; simp [hw']
      · rw [show ((k : Int) == c.Members) = false by simpa using he, if_neg (by omega)]
        cases mayD (dAt ds k) with
        | false => rfl
        | true =>
          by_cases hw : ((dAt ds k).Blocks.length : Int) = c.Chunk * c.Rows + 1
          · rw [decide_eq_true hw]; simp [hw]
          · rw [decide_eq_false hw]; have hw' := bne_iff_ne.2 hw; simp [hw']) (by
      unfold eye_Check_L1
      rw [decide_eq_false (by omega)]; rfl)
    erw [this]
    cases (List.range ds.length).any fun i => !goodA c ds i <;> rfl

/-! ### even stripes -/
/- Plain law: even stripes, by the program and by the reference. -/

/- Plain law: lists of devices: sizes, copies, comparing. -/

theorem sum_loop2 {α : Type} (l : List α) (len : α → Nat) (hl : l.length ≤ 100000) (hlen : ∀ x ∈ l, len x ≤ 1000000) {step : Int × Int → Option (Ctl (Int × Int) Int)} (n0 : Int) (h0 : 0 ≤ n0) (h0' : n0 ≤ 1000000000000)
    (h1 : ∀ k (hk : k < l.length) (n : Int), step (n, (k : Int)) = some (.next (wI (n + wI (8 + ((len l[k] : Nat) : Int))), wI ((k : Int) + 1))))
    (h2 : ∀ (n : Int), step (n, (l.length : Int)) = some (.brk n)) :
    ∃ b, loopM step FUEL (n0, (0 : Int)) = some b ∧ n0 ≤ b ∧ b ≤ n0 + 2000000 * (l.length : Int) := by
  refine loop_inv (step := step) l.length
    (fun k s => s.2 = (k : Int) ∧ n0 ≤ s.1 ∧ s.1 ≤ n0 + 2000000 * (k : Int)) _ (fun k s hk hI => ?_) FUEL 0 (n0, 0) (Nat.zero_le _) (by unfold FUEL; omega) ⟨rfl, by simp, by simp⟩
  obtain ⟨s1, s2⟩ := s
  obtain ⟨e1, e2, e3⟩ := hI
  simp only at e1 e2 e3
  subst e1
  by_cases hlt : k < l.length
  · have hb := hlen _ (List.getElem_mem hlt)
    refine .inl ⟨_, h1 k hlt s1, hlt, ?_⟩
    rw [wI_id (x := 8 + ((len l[k] : Nat) : Int)) (by omega) (by omega), wI_id (by omega) (by omega), wI_succ (by omega)]
    exact ⟨rfl, by simp only; omega, by simp only; omega⟩
  · obtain rfl : k = l.length := by omega
    exact .inr ⟨s1, h2 s1, e2, e3⟩

theorem agreat_eq (ds : List Disk) : ∃ g, ref05_Great ds = some g ∧ (g = false → ds.length ≤ 30 ∧ ∀ d ∈ ds, SmallD d) := by
  unfold ref05_Great
  obtain ⟨b, hb, hq⟩ := loop_inv (step := fun s : Int × Int => ref05_Great_L1 ds s.1 s.2) (min ds.length 30)
    (fun k s => s.2 = (k : Int) ∧ 0 ≤ s.1 ∧ s.1 ≤ 60000 ∧ ∀ j (hj : j < ds.length), j < k → SmallD ds[j])
    (fun b => b = Sum.inr () ∨ (b = Sum.inl () ∧ (ds.length ≤ 30 → ∀ d ∈ ds, SmallD d))) (fun k s hk hI => by
    obtain ⟨s1, s2⟩ := s
    obtain ⟨e1, e2, e3, e4⟩ := hI
    simp only at e1 e2 e3 e4
    subst e1
    show (∃ s', ref05_Great_L1 ds s1 (k : Int) = some (.next s') ∧ _) ∨ ∃ b, ref05_Great_L1 ds s1 (k : Int) = some (.brk b) ∧ _
    unfold ref05_Great_L1
    by_cases hlt : k < ds.length ∧ k < 30
    · rw [show (decide ((k : Int) < (ds.length : Int)) && decide ((k : Int) < (30 : Int))) = true by simp; omega, idx_nat, List.getElem?_eq_getElem hlt.1]
      simp only [cond_true, Option.bind_some]
      obtain ⟨g, hg, hs⟩ := dgreat_eq ds[k]
      rw [hg]
      simp only [Option.bind_some]
      cases g with
      | true => exact .inr ⟨_, rfl, .inl rfl⟩
      | false =>
        obtain ⟨hs, _, _⟩ := hs rfl
        simp only [cond_false]
        obtain ⟨b1, hb1, q1, q2⟩ := sum_loop2 ds[k].Blocks List.length hs.nb hs.lb (step := fun s : Int × Int => ref05_Great_L2 ds (k : Int) s.1 s.2) s1 e2 (by omega) (fun j hj n => by
          show ref05_Great_L2 ds (k : Int) n (j : Int) = _
          unfold ref05_Great_L2
          rw [idx_nat, List.getElem?_eq_getElem hlt.1]
          simp only [Option.bind_some]
          rw [decide_eq_true (by omega), idx_nat, List.getElem?_eq_getElem hj]; rfl) (fun n => by
          show ref05_Great_L2 ds (k : Int) n _ = _
          unfold ref05_Great_L2
          rw [idx_nat, List.getElem?_eq_getElem hlt.1]
          simp only [Option.bind_some]
          rw [decide_eq_false (by omega)]; rfl)
        rw [hb1]
        simp only [Option.bind_some]
        have hnb := hs.nb
        have hnw := hs.nw
        obtain ⟨b2, hb2, q3, q4⟩ := sum_loop2 ds[k].Wait (fun w => w.Data.length) hs.nw hs.lw (step := fun s : Int × Int => ref05_Great_L3 ds (k : Int) s.1 s.2) b1 (by omega) (by omega) (fun j hj n => by
          show ref05_Great_L3 ds (k : Int) n (j : Int) = _
          unfold ref05_Great_L3
          rw [idx_nat, List.getElem?_eq_getElem hlt.1]
          simp only [Option.bind_some]
          rw [decide_eq_true (by omega), idx_nat, List.getElem?_eq_getElem hj]; rfl) (fun n => by
          show ref05_Great_L3 ds (k : Int) n _ = _
          unfold ref05_Great_L3
          rw [idx_nat, List.getElem?_eq_getElem hlt.1]
          simp only [Option.bind_some]
          rw [decide_eq_false (by omega)]; rfl)
        rw [hb2]
        simp only [Option.bind_some]
        by_cases hbig : b2 > 60000
        · rw [decide_eq_true hbig]; exact .inr ⟨_, rfl, .inl rfl⟩
        · rw [decide_eq_false hbig, wI_succ (by omega)]
          refine .inl ⟨_, rfl, by omega, rfl, by simp only; omega, by simp only; omega, fun j hj hjk => ?_⟩
          by_cases he : j = k
          · subst he; exact hs
          · exact e4 j hj (by omega)
    · rw [show (decide ((k : Int) < (ds.length : Int)) && decide ((k : Int) < (30 : Int))) = false by simp; omega]
      refine .inr ⟨_, rfl, .inr ⟨rfl, fun hle d hd => ?_⟩⟩
      obtain ⟨j, hj, rfl⟩ := List.getElem_of_mem hd
      exact e4 j hj (by omega)) FUEL 0 (0, 0) (Nat.zero_le _) (by unfold FUEL; omega) ⟨rfl, by simp, by simp, fun j _ hj => by omega⟩
  rw [hb]
  rcases hq with rfl | ⟨rfl, h⟩
  · exact ⟨_, rfl, fun h => by cases h⟩
  · refine ⟨_, rfl, fun hg => ?_⟩
    have := of_decide_eq_false hg
    exact ⟨by omega, h (by omega)⟩

theorem asame_eq {a b : List Disk} (hl : a.length ≤ 100000) (ha : ∀ d ∈ a, SmallD d) (hb : ∀ d ∈ b, SmallD d) : ref05_SameDisks a b = some (decide (a.map viewD = b.map viewD)) := by
  unfold ref05_SameDisks
  by_cases h1 : a.length = b.length
  case neg =>
    rw [show (((a.length : Nat) : Int) != ((b.length : Nat) : Int)) = true by simp; omega]
    rw [decide_eq_false (fun e => h1 (by have := congrArg List.length e; simpa using this))]; rfl
  rw [show (((a.length : Nat) : Int) != ((b.length : Nat) : Int)) = false by simp; omega]
  simp only [cond_false]
  rw [loop_any2 a b (fun x y => !decide (viewD x = viewD y)) (step := fun s : Int => ref05_SameDisks_L1 a b s) (Sum.inr ()) (Sum.inl ()) (by omega) h1 (fun k hk hk' => by
    unfold ref05_SameDisks_L1
    rw [decide_eq_true (show (k : Int) < (a.length : Int) by omega), idx_nat, idx_nat, List.getElem?_eq_getElem hk, List.getElem?_eq_getElem hk', wI_succ (by omega)]
    simp only [cond_true, Option.bind_some]
    rw [rsame_eq (ha _ (List.getElem_mem hk)) (hb _ (List.getElem_mem hk'))]
    simp only [Option.bind_some]
    cases decide (viewD a[k] = viewD b[k]) <;> rfl) (by
    unfold ref05_SameDisks_L1
    rw [decide_eq_false (by omega)]; rfl), zip_any_ne viewD _ _ h1]
  simp only [Option.bind_some]
  cases decide (a.map viewD = b.map viewD) <;> rfl
/- Plain law: eyes: what holds of folds. -/

/- Plain law: blocks off devices, by the program. -/

/-! ### checks -/
/-! ### members of slots -/
theorem divideF {a b : Int} (ha : 0 ≤ a) (ha2 : a ≤ 1000000) (hb : 0 < b) : turn_divide a b = some (a / b, a % b) := by
  unfold turn_divide quoI remI
  rw [if_neg (by omega), if_neg (by omega), Int.tdiv_eq_ediv_of_nonneg ha, Int.tmod_eq_emod_of_nonneg ha]
  have h1 : 0 ≤ a / b := Int.ediv_nonneg ha (by omega)
  have h2 : a / b ≤ a := Int.ediv_le_self b ha
  rw [wI_id (by omega) (by omega)]
  rfl
def parF (c : Config) (stripe : Int) : Int := c.Members - 1 - (stripe / c.Chunk) % c.Members
def memF (c : Config) (stripe k : Int) : Int := (parF c stripe + 1 + k) % c.Members
theorem parF_in {c : Config} (hm : MayC c) (stripe : Int) : 0 ≤ parF c stripe ∧ parF c stripe < c.Members := by
  have := hm.1
  unfold parF
  have h1 := Int.emod_nonneg (stripe / c.Chunk) (show c.Members ≠ 0 by omega)
  have h2 := Int.emod_lt_of_pos (stripe / c.Chunk) (show 0 < c.Members by omega)
  omega
theorem memF_in {c : Config} (hm : MayC c) (stripe k : Int) : 0 ≤ memF c stripe k ∧ memF c stripe k < c.Members := by
  have := hm.1
  unfold memF
  exact ⟨Int.emod_nonneg _ (by omega), Int.emod_lt_of_pos _ (by omega)⟩
def askT (c : Config) (stripe k : Int) : Bool := decide (0 ≤ stripe) && (decide (stripe < c.Chunk * c.Rows) && (decide (0 ≤ k) && decide (k < c.Members)))
theorem stripesF (c : Config) : shape_Stripes c = some (bif mayC c then (c.Chunk * c.Rows, 0) else (0, 8)) := by
  unfold shape_Stripes shape_told
  rw [check_eq]
  cases h : mayC c with
  | false => rfl
  | true =>
    obtain ⟨h1, h2, h3⟩ := wI_str ((mayC_iff c).1 h)
    simp only [Option.bind_some, cond_true, bne_self_eq_false, cond_false, h1]
theorem memberF {c : Config} (hm : MayC c) (stripe k : Int) : turn_Member c stripe k = some (bif askT c stripe k then (memF c stripe k, 0) else (0, 2)) := by
  have hM := hm.1
  have hp := parF_in hm stripe
  have hs := wI_str hm
  have hc := hm.2.1
  unfold turn_Member turn_row_member turn_at askT
  rw [stripesF, (mayC_iff c).2 hm]
  simp only [cond_true, Option.bind_some, bne_self_eq_false, cond_false]
  by_cases s0 : 0 ≤ stripe
  case neg => rw [decide_eq_true (show stripe < 0 by omega), decide_eq_false s0]; rfl
  rw [decide_eq_false (show ¬ stripe < 0 by omega), decide_eq_true s0]
  by_cases s1 : stripe < c.Chunk * c.Rows
  case neg => rw [decide_eq_true (show stripe ≥ c.Chunk * c.Rows by omega), decide_eq_false s1]; rfl
  rw [decide_eq_false (show ¬ stripe ≥ c.Chunk * c.Rows by omega), decide_eq_true s1]
  by_cases h0 : 0 ≤ k
  case neg => rw [decide_eq_true (show k < 0 by omega), decide_eq_false h0]; rfl
  rw [decide_eq_false (show ¬ k < 0 by omega), decide_eq_true h0]
  by_cases h1 : k < c.Members
  case neg => rw [decide_eq_true (show k ≥ c.Members by omega), decide_eq_false h1]; rfl
  rw [decide_eq_false (show ¬ k ≥ c.Members by omega), decide_eq_true h1]
  have h1' : 0 ≤ stripe / c.Chunk := Int.ediv_nonneg s0 (by omega)
  have h2' : stripe / c.Chunk ≤ stripe := Int.ediv_le_self c.Chunk s0
  simp only [cond_false]
  unfold turn_at_J1 turn_row_parity
  rw [divideF s0 (by omega) (by omega)]
  simp only [cond_false, Option.bind_some, bne_self_eq_false]
  rw [divideF h1' (by omega) (by omega)]
  simp only [Option.bind_some]
  rw [wI_id (x := c.Members - 1) (by omega) (by omega)]
  unfold parF at hp
  rw [wI_id (x := c.Members - 1 - _) (by omega) (by omega), wI_id (x := c.Members - 1 - _ + 1) (by omega) (by omega), wI_id (by omega) (by omega), divideF (by omega) (by omega) (by omega)]
  rfl

/-! ### what is read -/
/-! ### fetching -/
/- Plain law: what is fetched of even stripes, and of lone losses. -/

/-! ### even stripes, as they are read -/
/- Plain law: acts on devices: which may be done, and what they do. -/

theorem contDs_eq (l : List Disk) (f : Disk → Option Bool) (p : Disk → Bool) (hl : l.length < 4294967296) (hf : ∀ x ∈ l, f x = some (p x)) : slices_ContainsFunc_api_Disk_api_Disk l f = some (l.any p) := by
  unfold slices_ContainsFunc_api_Disk_api_Disk slices_IndexFunc_api_Disk_api_Disk
  obtain ⟨b, hb, hq⟩ := loop_first l p (step := fun s : Int => slices_IndexFunc_api_Disk_api_Disk_L1 l f s) (fun k => Sum.inr (k : Int)) (Sum.inl ()) hl (fun k hk => by
      unfold slices_IndexFunc_api_Disk_api_Disk_L1
      rw [decide_eq_true (show (k : Int) < (l.length : Int) by omega), idx_nat, List.getElem?_eq_getElem hk, wI_succ (by omega)]
      simp only [cond_true, Option.bind_some, hf l[k] (List.getElem_mem _)]
      cases p l[k] <;> rfl) (by
      unfold slices_IndexFunc_api_Disk_api_Disk_L1
      rw [decide_eq_false (show ¬(l.length : Int) < (l.length : Int) by omega)]; rfl)
  rw [hb]
  rcases hq with ⟨k, rfl, hk, hp, _⟩ | ⟨rfl, hn⟩
  · rw [List.any_eq_true.2 ⟨l[k], List.getElem_mem _, hp⟩]; simp
  · rw [List.any_eq_false.2 (fun x hx => by rw [hn x hx]; simp)]; rfl

def mayDs (ds : List Disk) : Bool := decide (1 ≤ ds.length) && (decide (ds.length ≤ 17) && !(ds.any fun d => !mayD d))
structure MayDs (ds : List Disk) : Prop where
  n1 : 1 ≤ ds.length
  n2 : ds.length ≤ 17
  m : ∀ d ∈ ds, MayD d
theorem mayDs_ok {ds : List Disk} (h : mayDs ds = true) : MayDs ds := by
  unfold mayDs at h
  simp only [Bool.and_eq_true, decide_eq_true_eq, Bool.not_eq_true', List.any_eq_false] at h
  exact ⟨h.1, h.2.1, fun d hd => (mayD_iff d).1 (by simpa using h.2.2 d hd)⟩
theorem MayDs.t {ds : List Disk} (h : MayDs ds) : mayDs ds = true := by
  unfold mayDs
  simp only [Bool.and_eq_true, decide_eq_true_eq, Bool.not_eq_true', List.any_eq_false]
  exact ⟨h.n1, h.n2, fun d hd => by rw [(mayD_iff d).2 (h.m d hd)]; simp⟩
theorem MayDs.small {ds : List Disk} (h : MayDs ds) : ∀ d ∈ ds, SmallD d := fun d hd => (h.m d hd).small
theorem pdevs_eq (ds : List Disk) : acts_devices ds = some (bif mayDs ds then 0 else 8) := by
  unfold acts_devices mayDs
  by_cases h1 : 1 ≤ ds.length
  case neg => rw [decide_eq_true (show (ds.length : Int) < 1 by omega), decide_eq_false h1]; simp [gO]
  by_cases h2 : ds.length ≤ 17
  case neg => rw [decide_eq_true (show (ds.length : Int) > 17 by omega), decide_eq_false h2]; simp [gO]
  rw [decide_eq_false (show ¬(ds.length : Int) < 1 by omega), decide_eq_false (show ¬(ds.length : Int) > 17 by omega), decide_eq_true h1, decide_eq_true h2,
    contDs_eq ds _ (fun d => !mayD d) (by omega) (fun d _ => by
      unfold acts_devices_1
      rw [pcheck_eq]
      cases mayD d <;> rfl)]
  cases ds.any (fun d => !mayD d) <;> rfl
def lensD (ds : List Disk) : List Nat := ds.map fun d => d.Blocks.length
def outA (a : Act45) (n : Nat) : Bool := decide (a.Disk < 0) || decide (a.Disk ≥ (n : Int))
def mayAct (a : Act45) (ns : List Nat) : Bool :=
  !outA a ns.length && (bif a.Kind == 3 then (a.At == 0) && decide (a.Data.length = 0) else (a.Kind == 1 || a.Kind == 2) && (decide (0 ≤ a.At) && (decide (a.At < ((ns.getD a.Disk.toNat 0 : Nat) : Int)) && szB a.Data)))
def OkAct (a : Act45) (nb : Nat) : Prop := (a.Kind = 3 ∧ a.At = 0 ∧ a.Data = []) ∨ ((a.Kind = 1 ∨ a.Kind = 2) ∧ szB a.Data = true ∧ ∃ k : Nat, a.At = (k : Int) ∧ k < nb)
theorem outA_ok {a : Act45} {n : Nat} (h : outA a n = false) : ∃ i : Nat, a.Disk = (i : Int) ∧ i < n := by
  unfold outA at h
  simp only [Bool.or_eq_false_iff, decide_eq_false_iff_not] at h
  exact ⟨a.Disk.toNat, by omega, by omega⟩
theorem mayAct_ok {a : Act45} {ns : List Nat} (h : mayAct a ns = true) : ∃ (i : Nat) (hi : i < ns.length), a.Disk = (i : Int) ∧ OkAct a ns[i] := by
  unfold mayAct at h
  simp only [Bool.and_eq_true, Bool.not_eq_true'] at h
  obtain ⟨h1, h2⟩ := h
  obtain ⟨i, e, hi⟩ := outA_ok h1
  refine ⟨i, hi, e, ?_⟩
  rw [e, Int.toNat_natCast, List.getD_eq_getElem?_getD, List.getElem?_eq_getElem hi] at h2
  by_cases hk : a.Kind = 3
  · rw [show (a.Kind == 3) = true by simpa using hk] at h2
    simp only [cond_true, Bool.and_eq_true, decide_eq_true_eq] at h2
    exact .inl ⟨hk, by simpa using h2.1, List.eq_nil_of_length_eq_zero h2.2⟩
  · rw [show (a.Kind == 3) = false by simpa using hk] at h2
    simp only [cond_false, Bool.and_eq_true, decide_eq_true_eq, Bool.or_eq_true, beq_iff_eq, Option.getD_some] at h2
    exact .inr ⟨h2.1, h2.2.2.2, a.At.toNat, by omega, by omega⟩

theorem does_eq (k : UInt8) : acts_does k = some (if k = 1 then ⟨1⟩ else if k = 2 then ⟨2⟩ else if k = 3 then ⟨3⟩ else ⟨0⟩) := by
  by_cases h0 : k = 0
  · subst h0; rfl
  by_cases h1 : k = 1
  · subst h1; rfl
  by_cases h2 : k = 2
  · subst h2; rfl
  by_cases h3 : k = 3
  · subst h3; rfl
  rw [if_neg h1, if_neg h2, if_neg h3]
  unfold acts_does
  have e0 : k.toNat ≠ 0 := fun e => h0 (UInt8.toNat_inj.1 (by rw [e]; rfl))
  have e1 : k.toNat ≠ 1 := fun e => h1 (UInt8.toNat_inj.1 (by rw [e]; rfl))
  have e2 : k.toNat ≠ 2 := fun e => h2 (UInt8.toNat_inj.1 (by rw [e]; rfl))
  have e3 : k.toNat ≠ 3 := fun e => h3 (UInt8.toNat_inj.1 (by rw [e]; rfl))
  have h4 : k.toNat < 256 := k.toNat_lt
  rw [wI_id (by omega) (by omega), decide_eq_true (by omega)]; rfl
theorem pmayAct_eq (a : Act45) (ds : List Disk) : acts_act_may a ds = some (mayAct a (lensD ds)) := by
  unfold acts_act_may mayAct
  rw [show (decide (a.Disk < 0) || decide (a.Disk ≥ ((ds.length : Nat) : Int))) = outA a (lensD ds).length by unfold outA lensD; rw [List.length_map]]
  cases ho : outA a (lensD ds).length with
  | true => rfl
  | false =>
    obtain ⟨i, e, hi⟩ := outA_ok ho
    have hi' : i < ds.length := by simpa [lensD] using hi
    have hg : (lensD ds).getD a.Disk.toNat 0 = ds[i].Blocks.length := by
      rw [e, Int.toNat_natCast, List.getD_eq_getElem?_getD, List.getElem?_eq_getElem hi]
      simp [lensD]
    rw [hg, does_eq, e, idx_nat, List.getElem?_eq_getElem hi']
    simp only [gO, Bool.not_false, cond_true, Option.bind_some, Bool.false_or, Bool.true_and]
    by_cases h3 : a.Kind = 3
    · rw [h3]
      simp only [if_neg (show ¬(3 : UInt8) = 1 by decide), if_neg (show ¬(3 : UInt8) = 2 by decide), if_pos, beq_self_eq_true, cond_true]
      rw [show (((a.Data.length : Nat) : Int) == 0) = decide (a.Data.length = 0) by rw [Bool.eq_iff_iff]; simp]
      rfl
    · rw [show (a.Kind == 3) = false by simpa using h3]
      have hsz : ((((a.Data.length : Nat) : Int) == 0) || (((a.Data.length : Nat) : Int) == 128)) = szB a.Data := by unfold szB; rw [Bool.eq_iff_iff]; simp only [Bool.or_eq_true, beq_iff_eq]; omega
      rw [hsz]
      simp only [cond_false, if_neg h3]
      by_cases h1 : a.Kind = 1
      · rw [h1]
        simp only [if_pos, beq_self_eq_true, Bool.true_or, Bool.true_and]
        rw [show (fnAt [73, 74, 75] 1).isNone = false from rfl]
        by_cases hat : 0 ≤ a.At
        · rw [decide_eq_true hat]; simp
        · rw [decide_eq_false hat]; rfl
      · simp only [if_neg h1, show (a.Kind == 1) = false by simpa using h1, Bool.false_or]
        by_cases h2 : a.Kind = 2
        · rw [h2]
          simp only [if_pos, beq_self_eq_true, Bool.true_and]
          rw [show (fnAt [73, 74, 75] 2).isNone = false from rfl]
          by_cases hat : 0 ≤ a.At
          · rw [decide_eq_true hat]; simp
          · rw [decide_eq_false hat]; rfl
        · simp only [if_neg h2, show (a.Kind == 2) = false by simpa using h2]
          rw [show (fnAt [73, 74, 75] 0).isNone = true from rfl]; rfl
def checkActs (l : List Act45) (ds : List Disk) : Int := bif mayDs ds then (bif decide (1024 < l.length) then 4 else bif l.any (fun a => !mayAct a (lensD ds)) then 2 else 0) else 8
theorem pcheckActs_eq (l : List Act45) (ds : List Disk) : acts_Check l ds = some (checkActs l ds) := by
  unfold acts_Check checkActs
  rw [pdevs_eq]
  simp only [Option.bind_some]
  cases mayDs ds with
  | false => rfl
  | true =>
    simp only [cond_true, bne_self_eq_false, cond_false]
    by_cases hl : 1024 < l.length
    · rw [decide_eq_true hl, decide_eq_true (by omega)]; rfl
    · rw [decide_eq_false hl, decide_eq_false (by omega)]
      simp only [cond_false]
      rw [loop_anyD l (fun a => !mayAct a (lensD ds)) (step := fun s : Int => acts_Check_L1 l ds s) (Sum.inr ()) (Sum.inl ()) (by omega) (fun k hk => by
        unfold acts_Check_L1
        rw [decide_eq_true (show (k : Int) < (l.length : Int) by omega), idx_nat, List.getElem?_eq_getElem hk, wI_succ (by omega)]
        simp only [cond_true, Option.bind_some, pmayAct_eq]
        cases mayAct l[k] (lensD ds) <;> rfl) (by
        unfold acts_Check_L1
        rw [decide_eq_false (by omega)]; rfl)]
      cases l.any (fun a => !mayAct a (lensD ds)) <;> rfl
theorem checkActs_ok {l : List Act45} {ds : List Disk} (h : checkActs l ds = 0) : MayDs ds ∧ l.length ≤ 1024 ∧ ∀ a ∈ l, mayAct a (lensD ds) = true := by
  unfold checkActs at h
  cases hm : mayDs ds with
  | false => rw [hm] at h; simp at h
  | true =>
    rw [hm] at h
    simp only [cond_true] at h
    by_cases hl : 1024 < l.length
    · rw [decide_eq_true hl] at h; simp at h
    · rw [decide_eq_false hl] at h
      simp only [cond_false] at h
      cases ha : l.any (fun a => !mayAct a (lensD ds)) with
      | true => rw [ha] at h; simp at h
      | false =>
        refine ⟨mayDs_ok hm, by omega, fun a h2 => ?_⟩
        have := List.any_eq_false.1 ha a h2
        simpa using this

/-! ### what acts do -/
def fullA (d : Disk) (a : Act45) : Bool := !d.Dead && ((a.Kind == 1) && decide (1024 ≤ d.Wait.length))
def stepP (d : Disk) (a : Act45) : Disk := bif d.Dead then d else bif a.Kind == 1 then putD d a.At a.Data else bif a.Kind == 2 then pfuaD d a.At.toNat a.Data else pflushD d
def runA (stp : Disk → Act45 → Disk) : List Act45 → List Disk → Option (List Disk)
  | [], ds => some ds
  | a :: l, ds => bif fullA (ds.getD a.Disk.toNat noD) a then none else runA stp l (ds.set a.Disk.toNat (stp (ds.getD a.Disk.toNat noD) a))
theorem errD_zero {d : Disk} {k : Nat} {data : List UInt8} (h : MayD d) (hd : d.Dead = false) (hs : szB data = true) (hk : k < d.Blocks.length) : errD d (k : Int) data = 0 := by
  unfold errD askD
  rw [may_t h, hd, hs, decide_eq_false (show ¬(k : Int) < 0 by omega), decide_eq_false (show ¬(k : Int) ≥ (d.Blocks.length : Int) by omega)]; rfl
theorem pact_eq {d : Disk} {a : Act45} (h : MayD d) (hd : d.Dead = false) (ha : OkAct a d.Blocks.length) :
    ∃ m, acts_does a.Kind = some m ∧ fncall96 m a d = some (bif fullA d a then (noD, 9) else (stepP d a, 0)) := by
  rw [does_eq]
  unfold fullA stepP
  rw [hd]
  rcases ha with ⟨hk, _, _⟩ | ⟨hk, hs, k, e, hkn⟩
  · rw [hk]
    refine ⟨⟨3⟩, rfl, ?_⟩
    show acts_act_flush a d = _
    unfold acts_act_flush
    rw [pflush_eq, may_t h, hd]; rfl
  · rcases hk with hk | hk
    · rw [hk]
      refine ⟨⟨1⟩, rfl, ?_⟩
      show acts_act_write a d = _
      unfold acts_act_write
      rw [pwrite_eq, e]
      unfold writeD
      rw [errD_zero h hd hs hkn]
      cases decide (1024 ≤ d.Wait.length) <;> rfl
    · rw [hk]
      refine ⟨⟨2⟩, rfl, ?_⟩
      show acts_act_fua a d = _
      unfold acts_act_fua
      rw [pfua_eq, e, errD_zero h hd hs hkn]; rfl
theorem stepP_may {d : Disk} {a : Act45} (h : MayD d) (ha : OkAct a d.Blocks.length) (hf : fullA d a = false) : MayD (stepP d a) ∧ (stepP d a).Blocks.length = d.Blocks.length := by
  unfold fullA at hf
  unfold stepP
  cases hd : d.Dead with
  | true => exact ⟨h, rfl⟩
  | false =>
    rw [hd] at hf
    rcases ha with ⟨hk, _, _⟩ | ⟨hk, hs, k, e, hkn⟩
    · rw [hk]; exact ⟨pflush_may h hd, by show (pflushD d).Blocks.length = _; unfold pflushD; simp only [setW_len]⟩
    · rcases hk with hk | hk
      · rw [hk] at hf ⊢
        have hw : ¬ 1024 ≤ d.Wait.length := by simpa using hf
        rw [e]; exact ⟨put_may h hd hs hkn hw, rfl⟩
      · rw [hk, e]; exact ⟨fua_may h hd hs, by show (pfuaD d _ _).Blocks.length = _; simp [pfuaD]⟩
/- Plain law: acts.Run and the document's answer. -/

theorem ptwins_eq {ds : List Disk} (hl : ds.length ≤ 100000) (h : ∀ d ∈ ds, SmallD d) : acts_twins ds = some ds := by
  unfold acts_twins
  have := loop_run (step := fun s : (List Disk) × Int => acts_twins_L1 ds s.1 s.2) (fun k => (ds.take k, (k : Int))) ds.length ds (fuel_ltD (by omega)) (fun k hk => by
    unfold acts_twins_L1
    simp only
    rw [decide_eq_true (by omega), idx_nat, List.getElem?_eq_getElem hk]
    simp only [cond_true, Option.bind_some]
    rw [ptwin_eq (h _ (List.getElem_mem hk)), wI_succ (by omega)]
    simp only [Option.bind_some]
    rw [app_some _ _ (by simp; omega), take_succ_get _ _ _ (List.getElem?_eq_getElem hk)]; rfl) (by
    unfold acts_twins_L1
    simp only
    rw [decide_eq_false (by omega), List.take_length]; rfl)
  have h0 : (([] : List Disk), (0 : Int)) = (fun k : Nat => (ds.take k, (k : Int))) 0 := by simp
  rw [h0, this]; rfl

theorem runA_cons (stp : Disk → Act45 → Disk) (a : Act45) (l : List Act45) (ds : List Disk) : runA stp (a :: l) ds = bif fullA (ds.getD a.Disk.toNat noD) a then none else runA stp l (ds.set a.Disk.toNat (stp (ds.getD a.Disk.toNat noD) a)) := rfl
/-- Devices that may be, of given sizes. -/
def LikeDs (ns : List Nat) (ds : List Disk) : Prop := MayDs ds ∧ lensD ds = ns
theorem like_at {ns : List Nat} {ds : List Disk} (h : LikeDs ns ds) {a : Act45} (ha : mayAct a ns = true) :
    ∃ (i : Nat) (hi : i < ds.length), a.Disk = (i : Int) ∧ ds.getD a.Disk.toNat noD = ds[i] ∧ MayD ds[i] ∧ OkAct a ds[i].Blocks.length := by
  obtain ⟨hm, rfl⟩ := h
  obtain ⟨i, hi, e, hok⟩ := mayAct_ok ha
  have hi' : i < ds.length := by simpa [lensD] using hi
  refine ⟨i, hi', e, ?_, hm.m _ (List.getElem_mem hi'), ?_⟩
  · rw [e, Int.toNat_natCast, List.getD_eq_getElem?_getD, List.getElem?_eq_getElem hi']; rfl
  · simpa [lensD] using hok
theorem like_set {ns : List Nat} {ds : List Disk} (h : LikeDs ns ds) {i : Nat} (hi : i < ds.length) {d : Disk} (hd : MayD d) (hl : d.Blocks.length = ds[i].Blocks.length) : LikeDs ns (ds.set i d) := by
  obtain ⟨hm, rfl⟩ := h
  refine ⟨⟨by simpa using hm.n1, by simpa using hm.n2, fun e he => ?_⟩, ?_⟩
  · rcases List.mem_or_eq_of_mem_set he with he | rfl
    · exact hm.m e he
    · exact hd
  · unfold lensD
    rw [List.map_set, hl]
    have : (ds.map fun d => d.Blocks.length)[i]? = some ds[i].Blocks.length := by simp [hi]
    exact List.ext_getElem? fun j => by
      rw [List.getElem?_set]
      split
      · next h => subst h; rw [this]; simp [hi]
      · rfl

theorem loop_acts {B : Type} {step : List Disk × Int → Option (Ctl (List Disk × Int) B)} (stp : Disk → Act45 → Disk) (l : List Act45) (Inv : List Disk → Prop) (yes : List Disk → B) (no : B) (hl : l.length < 4294967296)
    (h1 : ∀ k (hk : k < l.length) ds, Inv ds → (fullA (ds.getD l[k].Disk.toNat noD) l[k] = true ∧ step (ds, (k : Int)) = some (.brk no)) ∨
      (fullA (ds.getD l[k].Disk.toNat noD) l[k] = false ∧ step (ds, (k : Int)) = some (.next (ds.set l[k].Disk.toNat (stp (ds.getD l[k].Disk.toNat noD) l[k]), ((k + 1 : Nat) : Int))) ∧ Inv (ds.set l[k].Disk.toNat (stp (ds.getD l[k].Disk.toNat noD) l[k]))))
    (h2 : ∀ ds, step (ds, (l.length : Int)) = some (.brk (yes ds))) (ds0 : List Disk) (h0 : Inv ds0) :
    ∃ b, loopM step FUEL (ds0, (0 : Int)) = some b ∧ ((∃ o, runA stp l ds0 = some o ∧ Inv o ∧ b = yes o) ∨ (runA stp l ds0 = none ∧ b = no)) := by
  refine loop_inv (step := step) l.length (fun k s => s.2 = (k : Int) ∧ Inv s.1 ∧ runA stp (l.drop k) s.1 = runA stp l ds0) _ (fun k s hk hI => ?_) FUEL 0 (ds0, 0) (Nat.zero_le _) (by have := fuel_ltD hl; omega) ⟨rfl, h0, by simp⟩
  obtain ⟨ds, s2⟩ := s
  obtain ⟨e1, e2, e3⟩ := hI
  simp only at e1 e2 e3
  subst e1
  by_cases hlt : k < l.length
  · rw [List.drop_eq_getElem_cons hlt] at e3
    rw [runA_cons] at e3
    rcases h1 k hlt ds e2 with ⟨hf, hs⟩ | ⟨hf, hs, hi⟩
    · rw [hf] at e3
      exact .inr ⟨_, hs, .inr ⟨e3.symm, rfl⟩⟩
    · rw [hf] at e3
      exact .inl ⟨_, hs, hlt, rfl, hi, e3⟩
  · obtain rfl : k = l.length := by omega
    rw [List.drop_length] at e3
    exact .inr ⟨_, h2 ds, .inl ⟨ds, e3.symm, e2, rfl⟩⟩

def runD (stp : Disk → Act45 → Disk) (ds : List Disk) (l : List Act45) (n : Int) : List Disk × Int :=
  bif (checkActs l ds != 0) then ([], checkActs l ds) else bif decide (n < 0) || decide (n > (l.length : Int)) then ([], 2) else ((runA stp (l.take n.toNat) ds).elim ([], 9) fun o => (o, 0))
theorem slc_take {α : Type} (l : List α) {n : Int} (h : (decide (n < 0) || decide (n > (l.length : Int))) = false) : slc l 0 n = some (l.take n.toNat) := by
  simp only [Bool.or_eq_false_iff, decide_eq_false_iff_not] at h
  unfold slc
  rw [if_pos (by omega)]
  simp
theorem prun_eq (ds : List Disk) (l : List Act45) (n : Int) : acts_Run ds l n = some (runD stepP ds l n) ∧ ∀ o, runA stepP (l.take n.toNat) ds = some o → checkActs l ds = 0 → LikeDs (lensD ds) o := by
  unfold acts_Run runD
  rw [pcheckActs_eq]
  simp only [Option.bind_some]
  cases hc : (checkActs l ds != 0) with
  | true => exact ⟨rfl, fun o _ h => by rw [h] at hc; cases hc⟩
  | false =>
    obtain ⟨hm, hl, ha⟩ := checkActs_ok (l := l) (ds := ds) (by simpa using hc)
    have hmem : ∀ k (hk : k < (l.take n.toNat).length), mayAct (l.take n.toNat)[k] (lensD ds) = true := fun k hk => ha _ (List.mem_of_mem_take (List.getElem_mem hk))
    obtain ⟨b, hb, hq⟩ := loop_acts (step := fun s : (List Disk) × Int => acts_Run_L1 (l.take n.toNat) s.1 s.2) stepP (l.take n.toNat) (LikeDs (lensD ds)) Sum.inl (Sum.inr 9) (by simp; omega) (fun k hk es hI => by
      obtain ⟨i, hi, e, hg, hmay, hok⟩ := like_at hI (hmem k hk)
      rw [hg, e, Int.toNat_natCast]
      show (_ ∧ acts_Run_L1 (l.take n.toNat) es (k : Int) = _) ∨ (_ ∧ acts_Run_L1 (l.take n.toNat) es (k : Int) = _ ∧ _)
      have hstep : acts_Run_L1 (l.take n.toNat) es (k : Int) = some (bif fullA es[i] (l.take n.toNat)[k] then .brk (.inr 9) else .next (es.set i (stepP es[i] (l.take n.toNat)[k]), ((k + 1 : Nat) : Int))) := by
        unfold acts_Run_L1 acts_Run_J2
        rw [decide_eq_true (by omega), idx_nat, List.getElem?_eq_getElem hk, wI_succ (by simp at hk; omega)]
        simp only [cond_true, Option.bind_some]
        rw [e, idx_nat, List.getElem?_eq_getElem hi]
        simp only [Option.bind_some]
        cases hd : es[i].Dead with
        | true =>
          simp only [cond_true]
          rw [show fullA es[i] (l.take n.toNat)[k] = false by unfold fullA; rw [hd]; rfl, show stepP es[i] (l.take n.toNat)[k] = es[i] by unfold stepP; rw [hd]; rfl]
          simp
        | false =>
          obtain ⟨m, hm1, hm2⟩ := pact_eq hmay hd hok
          rw [hm1]
          simp only [cond_false, Option.bind_some]
          rw [hm2]
          simp only [Option.bind_some]
          cases fullA es[i] (l.take n.toNat)[k] with
          | true => rfl
          | false =>
            simp only [cond_false, bne_self_eq_false]
            rw [bnd_nat hi]; rfl
      rw [hstep]
      cases hf : fullA es[i] (l.take n.toNat)[k] with
      | true => exact .inl ⟨rfl, rfl⟩
      | false =>
        obtain ⟨h1, h2⟩ := stepP_may hmay hok hf
        exact .inr ⟨rfl, rfl, like_set hI hi h1 h2⟩) (fun es => by
      show acts_Run_L1 (l.take n.toNat) es _ = _
      unfold acts_Run_L1
      rw [decide_eq_false (by omega)]; rfl) ds ⟨hm, rfl⟩
    refine ⟨?_, fun o ho _ => ?_⟩
    · simp only [cond_false]
      cases hn : (decide (n < 0) || decide (n > (l.length : Int))) with
      | true => rfl
      | false =>
        simp only [cond_false]
        rw [ptwins_eq (by have := hm.n2; omega) hm.small, slc_take l hn]
        simp only [Option.bind_some]
        rw [hb]
        rcases hq with ⟨o, ho, _, rfl⟩ | ⟨ho, rfl⟩
        · rw [ho]; rfl
        · rw [ho]; rfl
    · rcases hq with ⟨o', ho', hL, _⟩ | ⟨ho', _⟩
      · rw [ho'] at ho; cases ho; exact hL
      · rw [ho'] at ho; cases ho
/-! ### what is seen of devices -/
/- Plain law: deals written make a stripe even again. -/

/-! ### where slots lie -/
/-! ### deals that may be -/
structure OkDeal (c : Config) (d : Deal) : Prop where
  s : ∃ s : Nat, d.Stripe = (s : Int) ∧ s < sN c
  sl : ∀ x ∈ d.Slots, ∃ k : Nat, x = (k : Int) ∧ k < mN c - 1
  bl : d.Blocks.length = d.Slots.length
  n : d.Slots.length ≤ 16
  bs : ∀ b ∈ d.Blocks, szB b = true
theorem slots_eq {c : Config} (h : MayC c) (l : List Int) (hl : l.length ≤ 1000) : ∃ b, deal_slots c l = some b ∧ (b = true → l.length ≤ 16 ∧ ∀ x ∈ l, ∃ k : Nat, x = (k : Int) ∧ k < mN c - 1) := by
  have hm := h.1
  have hM : c.Members = (mN c : Int) := by unfold mN; omega
  unfold deal_slots
  obtain ⟨b, hb, hq⟩ := loop_inv (step := fun q : Int × Int => deal_slots_L1 c l q.1 q.2) l.length
    (fun k q => q.2 = (k : Int) ∧ (k : Int) - 1 ≤ q.1 ∧ (q.1 = -1 ∨ q.1 ≤ c.Members - 2) ∧ ∀ j (hj : j < l.length), j < k → ∃ k : Nat, l[j] = (k : Int) ∧ k < mN c - 1)
    (fun b => b = Sum.inr () ∨ (b = Sum.inl () ∧ l.length ≤ 16 ∧ ∀ j (hj : j < l.length), ∃ k : Nat, l[j] = (k : Int) ∧ k < mN c - 1)) (fun k q hk hI => by
    obtain ⟨q1, q2⟩ := q
    obtain ⟨e1, e2, e3, e4⟩ := hI
    simp only at e1 e2 e3 e4
    subst e1
    show (∃ s', deal_slots_L1 c l q1 (k : Int) = some (.next s') ∧ _) ∨ ∃ b, deal_slots_L1 c l q1 (k : Int) = some (.brk b) ∧ _
    unfold deal_slots_L1
    by_cases hlt : k < l.length
    · rw [decide_eq_true (by omega), idx_nat, List.getElem?_eq_getElem hlt, wI_id (x := c.Members - 2) (by omega) (by omega)]
      simp only [cond_true, Option.bind_some]
      by_cases hx : l[k] ≤ q1 ∨ l[k] > c.Members - 2
      · rw [show (decide (l[k] ≤ q1) || decide (l[k] > c.Members - 2)) = true by simpa using hx]
        exact .inr ⟨_, rfl, .inl rfl⟩
      · rw [show (decide (l[k] ≤ q1) || decide (l[k] > c.Members - 2)) = false by simp; omega, wI_succ (by omega)]
        refine .inl ⟨_, rfl, hlt, rfl, by simp only; omega, by simp only; omega, fun j hj hjk => ?_⟩
        by_cases he : j = k
        · subst he; exact ⟨l[j].toNat, by omega, by omega⟩
        · exact e4 j hj (by omega)
    · obtain rfl : k = l.length := by omega
      rw [decide_eq_false (by omega)]
      exact .inr ⟨_, rfl, .inr ⟨rfl, by omega, fun j hj => e4 j hj hj⟩⟩) FUEL 0 (-1, 0) (Nat.zero_le _) (by unfold FUEL; omega) ⟨rfl, by simp, .inl rfl, fun _ _ hj => by omega⟩
  rw [hb]
  rcases hq with rfl | ⟨rfl, hq1, hq⟩
  · exact ⟨_, rfl, fun e => by cases e⟩
  · refine ⟨_, rfl, fun _ => ⟨hq1, fun x hx => ?_⟩⟩
    obtain ⟨j, hj, rfl⟩ := List.getElem_of_mem hx
    exact hq j hj
theorem dgreat13_eq (d : Deal) : ∃ g, ref13_Great d = some g ∧ (g = false → d.Slots.length ≤ 100 ∧ d.Blocks.length ≤ 100) := by
  unfold ref13_Great
  by_cases h1 : (d.Slots.length : Int) > 100
  · rw [decide_eq_true h1]; exact ⟨_, rfl, fun e => by cases e⟩
  by_cases h2 : (d.Blocks.length : Int) > 100
  · rw [decide_eq_true h2, decide_eq_false h1]; exact ⟨_, rfl, fun e => by cases e⟩
  rw [decide_eq_false h1, decide_eq_false h2]
  cases decide (((d.Parity.length : Nat) : Int) > 1000) with
  | true => exact ⟨_, rfl, fun e => by cases e⟩
  | false =>
    simp only [Bool.or_self, cond_false]
    rw [loop_anyD d.Blocks (fun x => decide (((x.length : Nat) : Int) > 1000)) (step := fun s : Int => ref13_Great_L1 d s) (Sum.inr ()) (Sum.inl ()) (by omega) (fun k hk => by
      unfold ref13_Great_L1
      rw [decide_eq_true (by omega), idx_nat, List.getElem?_eq_getElem hk, wI_succ (by omega)]
      simp only [cond_true, Option.bind_some]
      cases decide (((d.Blocks[k].length : Nat) : Int) > 1000) <;> rfl) (by
      unfold ref13_Great_L1
      rw [decide_eq_false (by omega)]; rfl)]
    simp only [Option.bind_some]
    cases d.Blocks.any (fun x => decide (((x.length : Nat) : Int) > 1000)) with
    | true => exact ⟨_, rfl, fun e => by cases e⟩
    | false => exact ⟨_, rfl, fun _ => by omega⟩
theorem sz_ne (b : List UInt8) : ((((b.length : Nat) : Int) != 0) && (((b.length : Nat) : Int) != 128)) = !szB b := by
  unfold szB
  rw [Bool.eq_iff_iff]
  simp only [Bool.and_eq_true, bne_iff_ne, ne_eq, Bool.not_eq_true', Bool.or_eq_false_iff, beq_eq_false_iff_ne]
  omega
theorem odd13_eq (l : List (List UInt8)) (hl : l.length ≤ 1000) : slices_ContainsFunc_byte_byte l (fun y => deal_Check_1 y) = some (l.any fun b => !szB b) := by
  refine contB_eq l _ _ (by omega) (fun x _ => ?_)
  unfold deal_Check_1
  exact congrArg some (sz_ne x)
theorem dealcheck_eq {c : Config} (hc : MayC c) (d : Deal) (h1 : d.Slots.length ≤ 100) (h2 : d.Blocks.length ≤ 100) :
    ∃ e, deal_Check c d = some e ∧ (e = 0 → OkDeal c d ∧ ∀ p : List UInt8, p.length = 128 → deal_Check c ⟨d.Stripe, d.Slots, d.Blocks, p⟩ = some 0) := by
  have hs := wI_str hc
  obtain ⟨b, hb, hb2⟩ := slots_eq hc d.Slots (by omega)
  have key : ∀ p : List UInt8, deal_Check c ⟨d.Stripe, d.Slots, d.Blocks, p⟩ = some (bif (((((d.Blocks.any fun b => !szB b) || decide (d.Stripe < 0)) || decide (d.Stripe ≥ c.Chunk * c.Rows)) || !b) || (((d.Blocks.length : Nat) : Int) != ((d.Slots.length : Nat) : Int))) || !szB p then 8 else 0) := fun p => by
    unfold deal_Check
    rw [stripesF, (mayC_iff c).2 hc]
    simp only [cond_true, Option.bind_some, bne_self_eq_false, cond_false]
    rw [odd13_eq _ (by omega)]
    simp only [Option.bind_some]
    rw [sz_ne p]
    rw [hb]
    cases ((d.Blocks.any fun b => !szB b) || decide (d.Stripe < 0)) || decide (d.Stripe ≥ c.Chunk * c.Rows) with
    | true => rfl
    | false =>
      simp only [gO, Bool.not_false, cond_true, Option.bind_some, Bool.false_or]
      cases ((!b || (((d.Blocks.length : Nat) : Int) != ((d.Slots.length : Nat) : Int))) || !szB p) <;> rfl
  refine ⟨_, key d.Parity, fun e => ?_⟩
  have hz : ((((((d.Blocks.any fun b => !szB b) || decide (d.Stripe < 0)) || decide (d.Stripe ≥ c.Chunk * c.Rows)) || !b) || (((d.Blocks.length : Nat) : Int) != ((d.Slots.length : Nat) : Int))) || !szB d.Parity) = false := by
    cases hz : ((((((d.Blocks.any fun b => !szB b) || decide (d.Stripe < 0)) || decide (d.Stripe ≥ c.Chunk * c.Rows)) || !b) || (((d.Blocks.length : Nat) : Int) != ((d.Slots.length : Nat) : Int))) || !szB d.Parity) with
    | true => rw [hz] at e; cases e
    | false => rfl
  simp only [Bool.or_eq_false_iff, decide_eq_false_iff_not] at hz
  obtain ⟨⟨⟨⟨⟨z1, z2⟩, z3⟩, z4⟩, z5⟩, _⟩ := hz
  have hbt : b = true := by simpa using z4
  obtain ⟨g1, g2⟩ := hb2 hbt
  have hsn : c.Chunk * c.Rows = (sN c : Int) := by unfold sN; omega
  refine ⟨⟨⟨d.Stripe.toNat, by omega, by omega⟩, g2, by simp at z5; omega, g1, fun x hx => by
    have := List.any_eq_false.1 z1 x hx
    simpa using this⟩, fun p hp => ?_⟩
  rw [key p, z1, hbt, z5, decide_eq_false z2, decide_eq_false z3, show szB p = true by unfold szB; simp [hp]]; rfl

/-! ### what a stripe's blocks are then -/
def pairsH (d : Deal) : List (Int × List UInt8) := d.Slots.zip (d.Blocks.map fullB)
/-! ### the acts -/
def actH (c : Config) (s : Int) (p : Int × List UInt8) : Act45 := ⟨memF c s p.1, 1, s + 1, p.2⟩
/-! ### blocks written -/
theorem put_seen_same (d : Disk) (k : Nat) {data : List UInt8} (hd : data.length = 128) : seenD (putD d (k : Int) data) k = data := by
  have hf : fullB data = data := by unfold fullB; rw [if_neg (by omega)]
  unfold seenD putD
  simp only [List.foldl_append, List.foldl_cons, List.foldl_nil, overW, if_true]
  rw [fullB_full, hf]
/- Plain law: HomeEven. -/

/- Plain law: power that fails. -/

def waitsN : List Disk → Nat
  | [] => 0
  | d :: ds => d.Wait.length + waitsN ds
theorem waitsN_app : ∀ (a b : List Disk), waitsN (a ++ b) = waitsN a + waitsN b
  | [], b => by simp [waitsN]
  | d :: a, b => by simp only [List.cons_append, waitsN, waitsN_app a b]; omega
theorem waitsN_le {ds : List Disk} (h : ∀ d ∈ ds, MayD d) : waitsN ds ≤ 1024 * ds.length := by
  induction ds with
  | nil => exact Nat.le_refl _
  | cons d ds ih =>
    have h1 := (h d (by simp)).nw
    have h2 := ih (fun x hx => h x (by simp [hx]))
    simp only [waitsN, List.length_cons]; omega
theorem waitsN_take (ds : List Disk) (k : Nat) : waitsN (ds.take k) ≤ waitsN ds := by
  have := waitsN_app (ds.take k) (ds.drop k)
  rw [List.take_append_drop] at this; omega
theorem waitsN_succ {ds : List Disk} {k : Nat} (hk : k < ds.length) : waitsN (ds.take (k + 1)) = waitsN (ds.take k) + ds[k].Wait.length := by
  rw [take_succ_get _ _ _ (List.getElem?_eq_getElem hk), waitsN_app]; rfl
theorem pwaits_eq (ds : List Disk) : acts_Waits ds = some (bif mayDs ds then ((waitsN ds : Int), 0) else (0, 8)) := by
  unfold acts_Waits
  rw [pdevs_eq]
  cases hm : mayDs ds with
  | false => rfl
  | true =>
    have h := mayDs_ok hm
    have hn2 := h.n2
    have hw := waitsN_le h.m
    simp only [Option.bind_some, cond_true, bne_self_eq_false, cond_false]
    have := loop_run (step := fun s : Int × Int => acts_Waits_L1 ds s.1 s.2) (fun k => ((waitsN (ds.take k) : Int), (k : Int))) ds.length (waitsN ds : Int) (fuel_ltD (by omega)) (fun k hk => by
      have h1 := waitsN_succ hk
      have h2 := waitsN_take ds (k + 1)
      unfold acts_Waits_L1
      simp only
      rw [decide_eq_true (by omega), idx_nat, List.getElem?_eq_getElem hk, wI_succ (by omega)]
      simp only [cond_true, Option.bind_some]
      rw [wI_id (by omega) (by omega), h1]
      simp) (by
      unfold acts_Waits_L1
      simp only
      rw [decide_eq_false (by omega), List.take_length]; rfl)
    have h0 : ((0 : Int), (0 : Int)) = (fun k : Nat => ((waitsN (ds.take k) : Int), (k : Int))) 0 := by simp [waitsN]
    rw [h0, this]; rfl

/-! ### crashes -/
def setK (bs : List (List UInt8)) (p : Write × Bool) : List (List UInt8) := bif p.2 then setW bs p.1 else bs
def crashD (d : Disk) (m : List Bool) : Disk := ⟨(d.Wait.zip m).foldl setK d.Blocks, [], d.Dead⟩
def crashL : List Disk → List Bool → List Disk
  | [], _ => []
  | d :: ds, m => crashD d m :: crashL ds (m.drop d.Wait.length)
theorem crashL_len : ∀ (ds : List Disk) (m : List Bool), (crashL ds m).length = ds.length
  | [], _ => rfl
  | d :: ds, m => by simp [crashL, crashL_len ds]
theorem crashL_get : ∀ (ds : List Disk) (m : List Bool) (k : Nat) (hk : k < ds.length), (crashL ds m)[k]? = some (crashD ds[k] (m.drop (waitsN (ds.take k))))
  | [], _, k, hk => by simp at hk
  | d :: ds, m, 0, hk => by simp [crashL, waitsN]
  | d :: ds, m, k + 1, hk => by
    simp only [crashL, List.getElem?_cons_succ, List.getElem_cons_succ, List.take_succ_cons, waitsN]
    rw [crashL_get ds _ k (by simpa using hk), List.drop_drop]
theorem setK_len : ∀ (l : List (Write × Bool)) (bs : List (List UInt8)), (l.foldl setK bs).length = bs.length
  | [], _ => rfl
  | p :: l, bs => by
    rw [List.foldl_cons, setK_len l]
    unfold setK setW
    cases p.2 <;> simp
theorem setK_mem : ∀ (l : List (Write × Bool)) (bs : List (List UInt8)), ∀ b ∈ l.foldl setK bs, b ∈ bs ∨ ∃ p ∈ l, b = p.1.Data
  | [], _, b, h => .inl h
  | p :: l, bs, b, h => by
    rw [List.foldl_cons] at h
    rcases setK_mem l _ b h with h | ⟨x, hx, rfl⟩
    · unfold setK setW at h
      cases hp : p.2 with
      | false => rw [hp] at h; exact .inl h
      | true =>
        rw [hp] at h
        rcases List.mem_or_eq_of_mem_set h with h | h
        · exact .inl h
        · exact .inr ⟨p, by simp, h⟩
    · exact .inr ⟨x, by simp [hx], rfl⟩
theorem crash_may {d : Disk} (h : MayD d) (m : List Bool) : MayD (crashD d m) ∧ (crashD d m).Blocks.length = d.Blocks.length := by
  have hl : (crashD d m).Blocks.length = d.Blocks.length := setK_len _ _
  refine ⟨⟨by rw [hl]; exact h.n1, by rw [hl]; exact h.n2, by simp [crashD], fun _ => rfl, fun hd b hb => ?_, fun b hb => ?_, fun w hw => by simp [crashD] at hw⟩, hl⟩
  · have hd : d.Dead = true := hd
    have : (crashD d m).Blocks = d.Blocks := by
      unfold crashD
      rw [h.dw hd]; rfl
    rw [this] at hb
    exact h.db hd b hb
  · rcases setK_mem _ _ b hb with hb | ⟨p, hp, rfl⟩
    · exact h.sz b hb
    · have hp : (p.1, p.2) ∈ d.Wait.zip m := hp
      exact (h.wt p.1 (List.of_mem_zip hp).1).2.2
theorem crashL_may : ∀ (ds : List Disk) (m : List Bool), (∀ d ∈ ds, MayD d) → ∀ d ∈ crashL ds m, MayD d
  | [], _, _, d, hd => by simp [crashL] at hd
  | x :: ds, m, h, d, hd => by
    simp only [crashL, List.mem_cons] at hd
    rcases hd with rfl | hd
    · exact (crash_may (h x (by simp)) m).1
    · exact crashL_may ds _ (fun y hy => h y (by simp [hy])) d hd
theorem crashL_mays {ds : List Disk} (h : MayDs ds) (m : List Bool) : MayDs (crashL ds m) := ⟨by rw [crashL_len]; exact h.n1, by rw [crashL_len]; exact h.n2, crashL_may ds m h.m⟩
theorem ptwins5_eq {ds : List Disk} (hl : ds.length ≤ 100000) (h : ∀ d ∈ ds, SmallD d) : loopM (fun s : (List Disk) × Int => acts_Crash_L5 ds s.1 s.2) FUEL (([] : List Disk), (0 : Int)) = some ds := by
  have := loop_run (step := fun s : (List Disk) × Int => acts_Crash_L5 ds s.1 s.2) (fun k => (ds.take k, (k : Int))) ds.length ds (fuel_ltD (by omega)) (fun k hk => by
    unfold acts_Crash_L5
    simp only
    rw [decide_eq_true (by omega), idx_nat, List.getElem?_eq_getElem hk]
    simp only [cond_true, Option.bind_some]
    rw [ptwin_eq (h _ (List.getElem_mem hk)), wI_succ (by omega)]
    simp only [Option.bind_some]
    rw [app_some _ _ (by simp; omega), take_succ_get _ _ _ (List.getElem?_eq_getElem hk)]; rfl) (by
    unfold acts_Crash_L5
    simp only
    rw [decide_eq_false (by omega), List.take_length]; rfl)
  have h0 : (([] : List Disk), (0 : Int)) = (fun k : Nat => (ds.take k, (k : Int))) 0 := by simp
  rw [h0, this]
theorem cut_loop {d : Disk} (h : MayD d) (m : List Bool) (hm : d.Wait.length ≤ m.length) :
    loopM (fun s : Int × (List (List UInt8)) => acts_Crash_L3 m d s.1 s.2) FUEL ((0 : Int), d.Blocks) = some (crashD d m).Blocks := by
  have hw := h.nw
  have hz : (d.Wait.zip m).length = d.Wait.length := by simp; omega
  have := loop_run (step := fun s : Int × (List (List UInt8)) => acts_Crash_L3 m d s.1 s.2) (fun k => ((k : Int), ((d.Wait.zip m).take k).foldl setK d.Blocks)) d.Wait.length (crashD d m).Blocks (fuel_ltD (by omega)) (fun k hk => by
    obtain ⟨g1, g2, g3⟩ := h.wt _ (List.getElem_mem hk)
    have hkm : k < m.length := by omega
    have hzk : (d.Wait.zip m)[k]? = some (d.Wait[k], m[k]) := by
      rw [List.getElem?_eq_getElem (by omega)]
      simp
    unfold acts_Crash_L3 acts_Crash_J4
    simp only
    rw [decide_eq_true (by omega), idx_nat, List.getElem?_eq_getElem hk, idx_nat, List.getElem?_eq_getElem hkm, wI_succ (by omega)]
    simp only [cond_true, Option.bind_some]
    rw [take_succ_get _ _ _ hzk, List.foldl_append]
    simp only [List.foldl_cons, List.foldl_nil]
    unfold setK setW
    cases hmk : m[k] with
    | false => rfl
    | true =>
      simp only [cond_true]
      obtain ⟨j, hj⟩ : ∃ j : Nat, d.Wait[k].At = (j : Int) := ⟨d.Wait[k].At.toNat, by omega⟩
      have hlen := setK_len ((d.Wait.zip m).take k) d.Blocks
      unfold setK setW at hlen
      rw [hj, bnd_nat (by rw [hlen]; omega)]; rfl) (by
    unfold acts_Crash_L3
    simp only
    rw [decide_eq_false (by omega), List.take_of_length_le (by omega)]; rfl)
  have h0 : ((0 : Int), d.Blocks) = (fun k : Nat => ((k : Int), ((d.Wait.zip m).take k).foldl setK d.Blocks)) 0 := by simp
  rw [h0, this]
theorem crash_loop {ds : List Disk} (h : MayDs ds) (m : List Bool) (hm : m.length = waitsN ds) : acts_Crash_J1 m ds = some (crashL ds m, 0) := by
  have hn2 := h.n2
  have hw := waitsN_le h.m
  have hcl := crashL_len ds m
  unfold acts_Crash_J1
  have := loop_run (step := fun s : (List Bool) × (List Disk) × Int => acts_Crash_L2 ds s.1 s.2.1 s.2.2) (fun k => (m.drop (waitsN (ds.take k)), (crashL ds m).take k ++ ds.drop k, (k : Int))) ds.length (crashL ds m) (fuel_ltD (by omega)) (fun k hk => by
    have hd := h.m _ (List.getElem_mem hk)
    have h1 := waitsN_succ hk
    have h2 := waitsN_take ds (k + 1)
    have hml : ds[k].Wait.length ≤ (m.drop (waitsN (ds.take k))).length := by rw [List.length_drop, hm]; omega
    have hlen : ((crashL ds m).take k ++ ds.drop k).length = ds.length := mix_len _ _ _ hcl
    unfold acts_Crash_L2
    simp only
    rw [decide_eq_true (by omega), bnd_nat (by rw [hlen]; exact hk)]
    simp only [cond_true, Option.bind_some]
    rw [mix_get _ _ _ hcl, List.getElem?_eq_getElem hk]
    simp only [Option.bind_some]
    rw [cut_loop hd _ hml]
    simp only [Option.bind_some]
    rw [show slc (m.drop (waitsN (ds.take k))) ((ds[k].Wait.length : Nat) : Int) (((m.drop (waitsN (ds.take k))).length : Nat) : Int) = some ((m.drop (waitsN (ds.take k))).drop ds[k].Wait.length) by
      unfold slc
      rw [if_pos (by omega), Int.toNat_natCast, Int.toNat_natCast, List.take_length]]
    simp only [Option.bind_some]
    rw [show (Disk.mk (crashD ds[k] (m.drop (waitsN (ds.take k)))).Blocks ([] : List Write) ds[k].Dead) = crashD ds[k] (m.drop (waitsN (ds.take k))) from rfl, ptwin_eq (crash_may hd _).1.small, wI_succ (by omega)]
    simp only [Option.bind_some]
    rw [mix_set _ _ _ hcl _ (crashL_get ds m k hk), List.drop_drop, h1]) (by
    unfold acts_Crash_L2
    simp only
    rw [decide_eq_false (by omega), mix_end _ _ _ hcl rfl]; rfl)
  have h0 : (m, ds, (0 : Int)) = (fun k : Nat => (m.drop (waitsN (ds.take k)), (crashL ds m).take k ++ ds.drop k, (k : Int))) 0 := by simp [waitsN]
  rw [h0, this]; rfl
def marksC (ds : List Disk) (keep : List Bool) : List Bool := keep ++ List.replicate (waitsN ds - keep.length) false
def crashR (ds : List Disk) (keep : List Bool) : List Disk × Int := bif !mayDs ds then ([], 8) else bif decide (waitsN ds < keep.length) then ([], 2) else (crashL ds (marksC ds keep), 0)
theorem pcrash_eq (ds : List Disk) (keep : List Bool) : acts_Crash ds keep = some (crashR ds keep) := by
  unfold acts_Crash crashR
  rw [pwaits_eq]
  cases hm : mayDs ds with
  | false => rfl
  | true =>
    have h := mayDs_ok hm
    have hn2 := h.n2
    have hw := waitsN_le h.m
    simp only [Option.bind_some, cond_true, bne_self_eq_false, cond_false, Bool.not_true]
    by_cases hk : waitsN ds < keep.length
    · rw [decide_eq_true hk, decide_eq_true (by omega)]; rfl
    · rw [decide_eq_false hk, decide_eq_false (by omega)]
      simp only [cond_false]
      rw [show slc keep 0 ((keep.length : Nat) : Int) = some keep by unfold slc; rw [if_pos (by omega)]; simp]
      simp only [Option.bind_some]
      rw [wI_id (by omega) (by omega), show appZ false keep ((waitsN ds : Int) - (keep.length : Int)) = some (marksC ds keep) by
        unfold appZ marksC
        rw [if_pos (by omega)]
        congr 3
        omega]
      simp only [Option.bind_some]
      rw [ptwins5_eq (by omega) h.small]
      simp only [Option.bind_some]
      exact crash_loop h _ (by unfold marksC; simp; omega)
/- Plain law: ActsKept. -/

/- Plain law: a deal's acts, whoever is missing; members behind them. -/

/-! ### the acts, whoever is missing -/
def goesH (c : Config) (s missing : Int) (p : Int × List UInt8) : Bool := !(memF c s p.1 == missing)
theorem hactsM_eq {c : Config} (hmc : MayC c) {d : Deal} (ok : OkDeal c d) (hp : d.Parity.length = 128) (missing : Int) :
    home_acts c missing d = some (((pairsH d ++ [(c.Members - 1, d.Parity)]).filter (goesH c d.Stripe missing)).map (actH c d.Stripe), 0) := by
  obtain ⟨s, hs, hsn⟩ := ok.s
  have hM := hmc.1
  have hMm : c.Members = (mN c : Int) := by unfold mN; omega
  have hw := wI_str hmc
  have hsN : c.Chunk * c.Rows = (sN c : Int) := by unfold sN; omega
  have hbl := ok.bl
  have hnn := ok.n
  have hlen : (pairsH d).length = d.Slots.length := by simp [pairsH]; omega
  have hask : ∀ k : Nat, k < mN c → askT c (s : Int) (k : Int) = true := fun k hk => by
    unfold askT
    simp only [Bool.and_eq_true, decide_eq_true_eq]
    omega
  unfold home_acts
  have := loop_run (step := fun q : Int × (List Act45) => home_acts_L2 c missing d q.1 q.2) (fun k => ((k : Int), (((pairsH d).take k).filter (goesH c d.Stripe missing)).map (actH c d.Stripe))) d.Slots.length (((pairsH d).filter (goesH c d.Stripe missing)).map (actH c d.Stripe)) (fuel_ltD (by omega)) (fun k hk => by
    obtain ⟨j, hj, hjm⟩ := ok.sl _ (List.getElem_mem hk)
    have hb : k < d.Blocks.length := by omega
    have hbs := szB_len (ok.bs _ (List.getElem_mem hb))
    have hpk : (pairsH d)[k]? = some ((j : Int), fullB d.Blocks[k]) := by
      rw [List.getElem?_eq_getElem (by omega)]
      simp [pairsH, hj]
    have hfl : (((pairsH d).take k).filter (goesH c d.Stripe missing)).length ≤ k := by
      have := List.length_filter_le (goesH c d.Stripe missing) ((pairsH d).take k)
      simp at this; omega
    unfold home_acts_L2 home_acts_J4 home_acts_J3 slices_Clone_byte_byte
    simp only
    rw [decide_eq_true (by omega), idx_nat, List.getElem?_eq_getElem hk, idx_nat, List.getElem?_eq_getElem hb, hj]
    simp only [cond_true, Option.bind_some]
    rw [memberF hmc, hs, hask j (by omega)]
    simp only [cond_true, Option.bind_some]
    rw [app_some _ _ (by simp; omega), wI_succ (by omega), wI_id (x := (s : Int) + 1) (by omega) (by omega), take_succ_get _ _ _ hpk, List.filter_append, List.map_append]
    rw [show [((j : Int), fullB d.Blocks[k])].filter (goesH c (s : Int) missing) = bif memF c (s : Int) (j : Int) == missing then [] else [((j : Int), fullB d.Blocks[k])] by
      unfold goesH
      cases hg : (memF c (s : Int) (j : Int) == missing) <;> simp [List.filter, hg]]
    cases (memF c (s : Int) (j : Int) == missing) with
    | true => simp
    | false =>
      simp only [cond_false, Option.bind_some, List.nil_append]
      unfold actH fullB
      by_cases h0 : d.Blocks[k].length = 0
      · rw [show (((d.Blocks[k].length : Nat) : Int) == 0) = true by simp [h0], if_pos h0, show makeL (0 : UInt8) 128 = some (List.replicate 128 0) from makeL_some 0 128 (by omega)]
        simp only [cond_true, Option.bind_some]
        rw [hs] at hfl
        rw [app_some _ _ (by simp; omega)]; rfl
      · rw [show (((d.Blocks[k].length : Nat) : Int) == 0) = false by simpa using h0, if_neg h0]
        simp only [cond_false]
        rw [hs] at hfl
        rw [app_some _ _ (by simp; omega)]; rfl) (by
    unfold home_acts_L2
    simp only
    rw [decide_eq_false (by omega), List.take_of_length_le (by omega)]; rfl)
  have h0 : ((0 : Int), ([] : List Act45)) = (fun k : Nat => ((k : Int), (((pairsH d).take k).filter (goesH c d.Stripe missing)).map (actH c d.Stripe))) 0 := by simp
  rw [h0, this]
  have hM1 : wI (c.Members - 1) = ((mN c - 1 : Nat) : Int) := by rw [wI_id (by omega) (by omega)]; omega
  have hM' : c.Members - 1 = ((mN c - 1 : Nat) : Int) := by omega
  have hfl : ((pairsH d).filter (goesH c d.Stripe missing)).length ≤ 16 := by
    have := List.length_filter_le (goesH c d.Stripe missing) (pairsH d)
    omega
  simp only [Option.bind_some]
  rw [hM1, memberF hmc, hs, hask _ (by omega)]
  simp only [cond_true, Option.bind_some]
  unfold home_acts_J6 home_acts_J5 home_acts_J1 slices_Clone_byte_byte
  rw [app_some _ _ (by simp; omega), List.filter_append, List.map_append, hM', ← hs]
  rw [show [(((mN c - 1 : Nat) : Int), d.Parity)].filter (goesH c d.Stripe missing) = bif memF c d.Stripe ((mN c - 1 : Nat) : Int) == missing then [] else [(((mN c - 1 : Nat) : Int), d.Parity)] by
    unfold goesH
    cases hg : (memF c d.Stripe ((mN c - 1 : Nat) : Int) == missing) <;> simp [List.filter, hg]]
  cases (memF c d.Stripe ((mN c - 1 : Nat) : Int) == missing) with
  | true => simp
  | false =>
    simp only [cond_false, Option.bind_some, List.nil_append]
    rw [show (((d.Parity.length : Nat) : Int) == 0) = false from beq_eq_false_iff_ne.2 (by omega)]
    simp only [cond_false]
    rw [app_some _ _ (by simp; omega), wI_id (x := d.Stripe + 1) (by omega) (by omega)]; rfl

/-! ### writes at a place -/
theorem okA_mays {c : Config} {ds : List Disk} (h : OkA c ds) : MayDs ds := by
  have hlen := h.len
  have hM := h.m
  exact ⟨by omega, by omega, fun x hx => by
    obtain ⟨i, hi, rfl⟩ := List.getElem_of_mem hx
    have := h.may i hi
    unfold dAt at this
    rw [List.getD_eq_getElem?_getD, List.getElem?_eq_getElem hi] at this
    exact this⟩
/- Plain law: HomeAgain. -/

theorem dealcheck_par {c : Config} (hc : MayC c) (d : Deal) (h1 : d.Slots.length ≤ 100) (h2 : d.Blocks.length ≤ 100) (h : deal_Check c d = some 0) : szB d.Parity = true := by
  obtain ⟨b, hb, hb2⟩ := slots_eq hc d.Slots (by omega)
  have hs := wI_str hc
  unfold deal_Check at h
  rw [stripesF, (mayC_iff c).2 hc] at h
  simp only [cond_true, Option.bind_some, bne_self_eq_false, cond_false] at h
  rw [odd13_eq _ (by omega)] at h
  simp only [Option.bind_some] at h
  rw [sz_ne d.Parity, hb] at h
  cases hz : szB d.Parity with
  | true => rfl
  | false =>
    rw [hz] at h
    cases hq : ((d.Blocks.any fun b => !szB b) || decide (d.Stripe < 0)) || decide (d.Stripe ≥ c.Chunk * c.Rows) with
    | true => rw [hq] at h; simp [gO] at h
    | false => rw [hq] at h; simp [gO] at h

/-! ### what a member holds -/
theorem run_len {ds : List Disk} {n : Int} {l : List Act45} (hc : checkActs l ds = 0) (h0 : 0 ≤ n) (h1 : n ≤ (l.length : Int)) : runD stepP ds l n = (runA stepP (l.take n.toNat) ds).elim ([], 9) fun o => (o, 0) := by
  unfold runD
  rw [hc, decide_eq_false (show ¬ n < 0 by omega), decide_eq_false (show ¬ n > (l.length : Int) by omega)]
  rfl
theorem getD_crash {ds : List Disk} {m : List Bool} {i : Nat} (hi : i < ds.length) : dAt (crashL ds m) i = crashD (dAt ds i) (m.drop (waitsN (ds.take i))) := by
  unfold dAt
  rw [List.getD_eq_getElem?_getD, crashL_get ds m i hi, List.getD_eq_getElem?_getD, List.getElem?_eq_getElem hi]; rfl
theorem waits_zero : ∀ {ds : List Disk}, waitsN ds = 0 → ∀ d ∈ ds, d.Wait = []
  | [], _, d, hd => by simp at hd
  | x :: ds, h, d, hd => by
    simp only [waitsN] at h
    rcases List.mem_cons.1 hd with rfl | hd
    · exact List.eq_nil_of_length_eq_zero (by omega)
    · exact waits_zero (by omega) d hd
/- Plain law: losses. -/

def okL (c : Config) (l : Loss) : Bool :=
  decide ((l.Events.toNat : Int) ≤ 2147483648 ∧ -1 ≤ l.Lost ∧ l.Lost < c.Members ∧ 0 ≤ l.Done ∧ l.Done ≤ l.Pos ∧ l.Pos ≤ c.Chunk * c.Rows ∧ ¬ (l.Spare = true ∧ l.Lost = -1) ∧ (l.Spare = true ∨ l.Pos ≤ 0))
def chk (c : Config) (l : Loss) : Int := bif mayC c && okL c l then 0 else 8
theorem chk_1 (c : Config) (l : Loss) : loss_Check c l = some (chk c l) := by
  unfold loss_Check chk
  rw [stripes_eq]
  cases hc : mayC c with
  | false => simp
  | true =>
    simp only [cond_true, Option.bind_some, Bool.true_and, show ((0 : Int) != 0) = false from rfl, Bool.false_or, show ((2147483648 : UInt32).toNat : Int) = 2147483648 from rfl]
    cases ho : okL c l with
    | true =>
      simp only [okL, decide_eq_true_eq] at ho
      obtain ⟨h1, h2, h3, h4, h5, h6, h7, h8⟩ := ho
      have e1 : (((((decide ((l.Events.toNat : Int) > 2147483648) || decide (l.Lost < -1)) || decide (l.Lost ≥ c.Members)) || decide (l.Done < 0)) || decide (l.Done > l.Pos)) || decide (l.Pos > c.Chunk * c.Rows)) = false := by simp; omega
      have e2 : ((l.Spare && (l.Lost == -1)) || (!l.Spare && decide (l.Pos > 0))) = false := by
        cases hs : l.Spare <;> simp [hs] at h7 h8 ⊢ <;> omega
      rw [e1, e2]; rfl
    | false =>
      simp only [okL, decide_eq_false_iff_not] at ho
      cases e1 : (((((decide ((l.Events.toNat : Int) > 2147483648) || decide (l.Lost < -1)) || decide (l.Lost ≥ c.Members)) || decide (l.Done < 0)) || decide (l.Done > l.Pos)) || decide (l.Pos > c.Chunk * c.Rows)) with
      | true => rfl
      | false =>
        have e2 : ((l.Spare && (l.Lost == -1)) || (!l.Spare && decide (l.Pos > 0))) = true := by
          simp at e1
          cases hs : l.Spare <;> simp [hs] at ho ⊢ <;> omega
        rw [e2]; rfl
theorem chk_cases (c : Config) (l : Loss) : chk c l = 8 ∨ (chk c l = 0 ∧ MayC c ∧ okL c l = true) := by
  unfold chk
  cases h1 : mayC c with
  | false => exact .inl rfl
  | true => cases h2 : okL c l with
    | false => exact .inl rfl
    | true => exact .inr ⟨rfl, (mayC_iff c).1 h1, rfl⟩

theorem stripes_may {c : Config} (h : MayC c) : shape_Stripes c = some (c.Chunk * c.Rows, 0) := by rw [stripes_eq, (mayC_iff c).2 h]; rfl

/- Plain law: what redo.Acts answers. -/

/-! ### lists of numbers -/
theorem indexI_eq (l : List Int) (f : Int → Option Bool) (p : Int → Bool) (hl : l.length < 4294967296) (hf : ∀ x ∈ l, f x = some (p x)) :
    ∃ i, slices_IndexFunc_int_int l f = some i ∧ ((∃ k : Nat, i = (k : Int) ∧ ∃ hk : k < l.length, p l[k] = true ∧ ∀ j (hj : j < l.length), j < k → p l[j] = false) ∨ (i = -1 ∧ ∀ x ∈ l, p x = false)) := by
  unfold slices_IndexFunc_int_int
  obtain ⟨b, hb, hq⟩ := loop_first l p (step := fun s : Int => slices_IndexFunc_int_int_L1 l f s) (fun k => Sum.inr (k : Int)) (Sum.inl ()) hl (fun k hk => by
      unfold slices_IndexFunc_int_int_L1
      rw [decide_eq_true (show (k : Int) < (l.length : Int) by omega), idx_nat, List.getElem?_eq_getElem hk, wI_succ (by omega)]
      simp only [cond_true, Option.bind_some, hf l[k] (List.getElem_mem _)]
      cases p l[k] <;> rfl) (by
      unfold slices_IndexFunc_int_int_L1
      rw [decide_eq_false (show ¬(l.length : Int) < (l.length : Int) by omega)]; rfl)
  rw [hb]
  rcases hq with ⟨k, rfl, hk, hp, hm⟩ | ⟨rfl, hn⟩
  · exact ⟨_, rfl, .inl ⟨k, rfl, hk, hp, hm⟩⟩
  · exact ⟨_, rfl, .inr ⟨rfl, hn⟩⟩
def keepI (st : Int) (x : Int) : Bool := !(x == st)
theorem delI_loop (f : Found) (l : List Int) (i0 : Nat) (hi : i0 < l.length) (hl : l.length ≤ 100000) (h0 : ∀ j (hj : j < l.length), j < i0 → (l[j] == f.Deal.Stripe) = false) (h1 : (l[i0] == f.Deal.Stripe) = true) :
    ∃ s : List Int, loopM (fun s : (List Int) × Int × Int => redo_Acts_L8 f s.1 s.2.1 s.2.2) FUEL (l, ((i0 : Nat) : Int), (((i0 + 1 : Nat)) : Int)) = some (s, (((l.filter (keepI f.Deal.Stripe)).length : Nat) : Int)) ∧
      s.length = l.length ∧ s.take (l.filter (keepI f.Deal.Stripe)).length = l.filter (keepI f.Deal.Stripe) := by
  generalize hst : f.Deal.Stripe = st at h0 h1
  have hf0 : (l.take (i0 + 1)).filter (keepI st) = l.take i0 := by
    rw [take_succ_get _ _ _ (List.getElem?_eq_getElem hi), List.filter_append]
    have ha : (l.take i0).filter (keepI st) = l.take i0 := by
      rw [List.filter_eq_self]
      intro w hw
      obtain ⟨j, hj, rfl⟩ := List.getElem_of_mem hw
      rw [List.getElem_take]
      unfold keepI
      rw [h0 j (by simp at hj; omega) (by simp at hj; omega)]; rfl
    rw [ha]
    simp [keepI, h1]
  obtain ⟨b, hb, hq⟩ := loop_inv (step := fun s : (List Int) × Int × Int => redo_Acts_L8 f s.1 s.2.1 s.2.2) l.length
    (fun k s => s.1.length = l.length ∧ s.2.1 = ((((l.take k).filter (keepI st)).length : Nat) : Int) ∧ s.2.2 = (k : Int) ∧ i0 + 1 ≤ k ∧ ((l.take k).filter (keepI st)).length < k ∧ s.1.take ((l.take k).filter (keepI st)).length = (l.take k).filter (keepI st) ∧ s.1.drop k = l.drop k)
    (fun b => b.2 = (((l.filter (keepI st)).length : Nat) : Int) ∧ b.1.length = l.length ∧ b.1.take (l.filter (keepI st)).length = l.filter (keepI st))
    (fun k s hk hI => by
      obtain ⟨s1, s2, s3⟩ := s
      obtain ⟨e1, e2, e3, e4, e5, e6, e7⟩ := hI
      simp only at e1 e2 e3 e4 e5 e6 e7
      subst e2; subst e3
      show (∃ s', redo_Acts_L8 f s1 _ (k : Int) = some (.next s') ∧ _) ∨ ∃ b, redo_Acts_L8 f s1 _ (k : Int) = some (.brk b) ∧ _
      unfold redo_Acts_L8 redo_Acts_J10 redo_Acts_J9
      rw [hst]
      by_cases hlt : k < l.length
      · have hget : s1[k]? = some l[k] := by
          have := congrArg (fun x => x[0]?) e7
          simpa [hlt] using this
        rw [decide_eq_true (by omega), idx_nat, hget]
        simp only [cond_true, Option.bind_some]
        rw [wI_succ (show k < 9223372036854775807 by omega)]
        have htk : l.take (k + 1) = l.take k ++ [l[k]] := take_succ_get _ _ _ (List.getElem?_eq_getElem hlt)
        refine .inl ?_
        cases hat : (l[k] == st) with
        | true =>
          have hkp : (l.take (k + 1)).filter (keepI st) = (l.take k).filter (keepI st) := by rw [htk, List.filter_append]; simp [keepI, hat]
          refine ⟨_, rfl, hlt, e1, ?_, rfl, by omega, ?_, ?_, ?_⟩
          · rw [hkp]
          · rw [hkp]; omega
          · rw [hkp]; exact e6
          · simp only
            rw [← List.drop_drop, ← List.drop_drop, e7]
        | false =>
          have hkp : (l.take (k + 1)).filter (keepI st) = (l.take k).filter (keepI st) ++ [l[k]] := by rw [htk, List.filter_append]; simp [keepI, hat]
          have hcl : ((l.take k).filter (keepI st)).length < s1.length := by omega
          rw [bnd_nat hcl, wI_succ (show ((l.take k).filter (keepI st)).length < 9223372036854775807 by omega)]
          refine ⟨_, rfl, hlt, by simpa using e1, ?_, rfl, by omega, ?_, ?_, ?_⟩
          · rw [hkp, List.length_append]; rfl
          · rw [hkp, List.length_append]; simp; omega
          · rw [hkp, List.length_append]
            simp only [List.length_singleton]
            rw [take_succ_get _ _ l[k] (by rw [List.getElem?_set]; simp [hcl]), List.take_set_of_le (Nat.le_refl _), e6]
          · simp only
            rw [List.drop_set_of_lt (by omega), ← List.drop_drop, ← List.drop_drop, e7]
      · obtain rfl : k = l.length := by omega
        rw [decide_eq_false (by omega)]
        rw [List.take_length] at e6 ⊢
        exact .inr ⟨_, rfl, rfl, e1, e6⟩)
    FUEL (i0 + 1) (l, (i0 : Int), ((i0 + 1 : Nat) : Int)) (by omega) (by have := fuel_ltD (show l.length < 4294967296 by omega); omega)
    ⟨rfl, by rw [hf0]; simp; omega, rfl, Nat.le_refl _, by rw [hf0]; simp; omega, by rw [hf0]; simp, rfl⟩
  exact ⟨b.1, by rw [hb, ← hq.1], hq.2.1, hq.2.2⟩

/-! ### the place of a number -/
theorem half_eq {i j : Nat} (h : i + j < 9223372036854775807) : wI ((shrQ (scQ.of (wI ((i : Int) + (j : Int)))) 1).toNat : Int) = (((i + j) / 2 : Nat) : Int) := by
  rw [wI_id (x := (i : Int) + (j : Int)) (by omega) (by omega)]
  have e1 : (scQ.of ((i : Int) + (j : Int))).toNat = i + j := by
    unfold scQ.of
    rw [show (((i : Int) + (j : Int)) % 18446744073709551616).toNat = i + j by omega]
    exact UInt64.toNat_ofNat_of_lt' (show i + j < UInt64.size by show _ < 18446744073709551616; omega)
  have e2 : (shrQ (scQ.of ((i : Int) + (j : Int))) 1).toNat = (i + j) / 2 := by
    unfold shrQ
    rw [e1]
    show (UInt64.ofNat ((i + j) / 2)).toNat = _
    exact UInt64.toNat_ofNat_of_lt' (show (i + j) / 2 < UInt64.size by show _ < 18446744073709551616; omega)
  rw [e2, wI_id (by omega) (by omega)]
theorem less_eq (a b : Int) : cmp_Less_int a b = some (decide (a < b)) := by
  unfold cmp_Less_int cmp_isNaN_int
  simp [gO]
theorem bs_eq (l : List Int) (x : Int) (hl : l.length ≤ 1000000) : ∃ (i : Nat) (b : Bool), slices_BinarySearch_int_int l x = some ((i : Int), b) ∧ i ≤ l.length ∧ (b = true → i < l.length) := by
  unfold slices_BinarySearch_int_int
  obtain ⟨b, hb, i, rfl, hi⟩ := loop_inv (step := fun s : Int × Int => slices_BinarySearch_int_int_L1 l x s.1 s.2) l.length
    (fun k s => ∃ i j : Nat, s = ((i : Int), (j : Int)) ∧ i ≤ j ∧ j + k ≤ l.length + i ∧ j ≤ l.length) (fun b => ∃ i : Nat, b = (i : Int) ∧ i ≤ l.length) (fun k s hk hI => by
      obtain ⟨i, j, rfl, h1, h2, h3⟩ := hI
      show (∃ s', slices_BinarySearch_int_int_L1 l x (i : Int) (j : Int) = some (.next s') ∧ _) ∨ ∃ b, slices_BinarySearch_int_int_L1 l x (i : Int) (j : Int) = some (.brk b) ∧ _
      unfold slices_BinarySearch_int_int_L1
      rw [half_eq (by omega)]
      by_cases hlt : i < j
      · have hm : (i + j) / 2 < l.length := by omega
        rw [decide_eq_true (by omega), idx_nat, List.getElem?_eq_getElem hm, cond_true, Option.bind_some, less_eq, Option.bind_some, wI_succ (by omega)]
        refine .inl ?_
        cases decide (l[(i + j) / 2] < x) with
        | true => exact ⟨_, rfl, by omega, (i + j) / 2 + 1, j, rfl, by omega, by omega, h3⟩
        | false => exact ⟨_, rfl, by omega, i, (i + j) / 2, rfl, by omega, by omega, by omega⟩
      · rw [decide_eq_false (by omega), cond_false]
        exact .inr ⟨_, rfl, i, rfl, by omega⟩)
    FUEL 0 ((0 : Int), (l.length : Int)) (Nat.zero_le _) (by unfold FUEL; omega) ⟨0, l.length, rfl, by omega, by omega, Nat.le_refl _⟩
  rw [hb, Option.bind_some]
  by_cases hlt : i < l.length
  · rw [decide_eq_true (show (i : Int) < (l.length : Int) by omega), idx_nat, List.getElem?_eq_getElem hlt]
    simp only [gO, cond_true, Option.bind_some, Bool.true_and, slices_isNaN_int]
    cases hx : (l[i] == x) with
    | true => exact ⟨i, true, by simp, hi, fun _ => hlt⟩
    | false => exact ⟨i, false, by simp, hi, fun h => by cases h⟩
  · rw [decide_eq_false (show ¬(i : Int) < (l.length : Int) by omega)]
    exact ⟨i, false, by simp [gO], hi, fun h => by cases h⟩
theorem insAt_some {α : Type} (l : List α) (i : Nat) (y : α) (h : i ≤ l.length) (hl : l.length + 1 < 4294967296) : ∃ r, insAt l (i : Int) y = some r ∧ r.length = l.length + 1 := by
  unfold insAt
  rw [if_pos (by omega)]
  exact ⟨_, rfl, by simp; omega⟩
theorem bclone_eq {b : List UInt8} (h : b.length < 4294967296) : bytes_Clone b = some b := by
  unfold bytes_Clone
  rw [app_some _ _ (by simpa using h), Option.bind_some, List.nil_append]

/-! ### one deal taken -/
theorem slots_loop (f : Found) (hb : f.Deal.Blocks.length = f.Deal.Slots.length) (hs : f.Deal.Slots.length ≤ 16) (hsz : ∀ b ∈ f.Deal.Blocks, szB b = true) (n : Nat) (hn : n ≤ 100000) (l1 : List Int) (l2 : List (List UInt8)) (h1 : l1.length = l2.length) (h2 : l1.length ≤ n) :
    ∃ r : List Int × List (List UInt8), loopM (fun s : Int × (List Int) × (List (List UInt8)) => redo_Acts_L12 f s.1 s.2.1 s.2.2) FUEL ((0 : Int), l1, l2) = some r ∧ r.1.length = r.2.length ∧ r.1.length ≤ n + 16 := by
  obtain ⟨b, hb', hq⟩ := loop_inv (step := fun s : Int × (List Int) × (List (List UInt8)) => redo_Acts_L12 f s.1 s.2.1 s.2.2) f.Deal.Slots.length
    (fun k s => s.1 = (k : Int) ∧ s.2.1.length = s.2.2.length ∧ s.2.1.length ≤ n + k) (fun b => b.1.length = b.2.length ∧ b.1.length ≤ n + 16) (fun k s hk hI => by
      obtain ⟨s0, s1, s2⟩ := s
      obtain ⟨e1, e2, e3⟩ := hI
      simp only at e1 e2 e3
      subst e1
      show (∃ s', redo_Acts_L12 f (k : Int) s1 s2 = some (.next s') ∧ _) ∨ ∃ b, redo_Acts_L12 f (k : Int) s1 s2 = some (.brk b) ∧ _
      unfold redo_Acts_L12 redo_Acts_J13
      by_cases hlt : k < f.Deal.Slots.length
      · have hbk : k < f.Deal.Blocks.length := by omega
        have hc := szB_len (hsz _ (List.getElem_mem hbk))
        obtain ⟨i, is, hbs, hi, his⟩ := bs_eq s1 f.Deal.Slots[k] (by omega)
        rw [decide_eq_true (by omega), idx_nat, List.getElem?_eq_getElem hlt, cond_true, Option.bind_some, hbs, Option.bind_some, wI_succ (by omega)]
        refine .inl ?_
        cases is with
        | true =>
          have hil := his rfl
          refine ⟨_, by
            rw [show (!((i : Int), true).2) = false from rfl, cond_false, idx_nat, List.getElem?_eq_getElem hbk, Option.bind_some, bclone_eq hc, Option.bind_some, bnd_nat (by omega), Option.bind_some], hlt, rfl, by simp only [List.length_set]; exact e2, by simp only; omega⟩
        | false =>
          obtain ⟨r1, hr1, hl1⟩ := insAt_some s1 i f.Deal.Slots[k] hi (by omega)
          obtain ⟨r2, hr2, hl2⟩ := insAt_some s2 i ([] : List UInt8) (by omega) (by omega)
          refine ⟨_, by
            rw [show (!((i : Int), false).2) = true from rfl, cond_true, hr1, Option.bind_some, hr2, Option.bind_some, idx_nat, List.getElem?_eq_getElem hbk, Option.bind_some, bclone_eq hc, Option.bind_some, bnd_nat (by omega), Option.bind_some], hlt, rfl, by simp only [List.length_set]; omega, by simp only; omega⟩
      · obtain rfl : k = f.Deal.Slots.length := by omega
        rw [decide_eq_false (by omega), cond_false]
        exact .inr ⟨_, rfl, e2, by show s1.length ≤ n + 16; omega⟩)
    FUEL 0 ((0 : Int), l1, l2) (Nat.zero_le _) (by unfold FUEL; omega) ⟨rfl, h1, by simp only; omega⟩
  exact ⟨b, hb', hq⟩
/-- What a list of rests comes to behind some deals. -/
structure InvL (n : Nat) (L : List DRow) : Prop where
  len : L.length ≤ n
  nd : (L.map (·.1)).Nodup
  el : ∀ d ∈ L, d.2.1.length = d.2.2.length ∧ d.2.1.length ≤ 16 * n
theorem InvL.mono {n m : Nat} {L : List DRow} (h : InvL n L) (hm : n ≤ m) : InvL m L := ⟨by have := h.len; omega, h.nd, fun d hd => ⟨(h.el d hd).1, by have := (h.el d hd).2; omega⟩⟩
theorem InvL.del {n : Nat} {L : List DRow} (h : InvL n L) (s : Int) : InvL n (delK L s) := by
  have hs : (delK L s).Sublist L := List.filter_sublist
  exact ⟨Nat.le_trans hs.length_le h.len, delK_nodup h.nd, fun d hd => h.el d (hs.subset hd)⟩
theorem getK_mem {L : List DRow} {s : Int} (h : hasK L s = true) : getK L s ∈ L := by
  unfold hasK at h
  unfold getK
  obtain ⟨x, hx, hp⟩ := List.any_eq_true.1 h
  cases hf : L.find? (fun d => d.1 == s) with
  | none => have := List.find?_eq_none.1 hf x hx; exact absurd hp this
  | some y => exact List.mem_of_find?_eq_some hf
theorem InvL.set {n : Nat} {L : List DRow} (h : InvL n L) (s : Int) {l1 : List Int} {l2 : List (List UInt8)} (h1 : l1.length = l2.length) (h2 : l1.length ≤ 16 * n) : InvL n (putK L s (s, l1, l2)) := by
  refine ⟨?_, ?_, fun d hd => ?_⟩
  · unfold putK; rw [List.length_map]; exact h.len
  · rw [putK_keys (dn := (s, l1, l2)) rfl]; exact h.nd
  · unfold putK at hd
    obtain ⟨x, hx, rfl⟩ := List.mem_map.1 hd
    cases (x.1 == s) with
    | true => exact ⟨h1, h2⟩
    | false => exact h.el x hx
theorem InvL.new {n : Nat} {L : List DRow} (h : InvL n L) {s : Int} (hs : hasK L s = false) : InvL (n + 1) (L ++ [(s, [], [])]) := by
  refine ⟨by simp; exact h.len, ?_, fun d hd => ?_⟩
  · rw [List.map_append, List.nodup_append]
    refine ⟨h.nd, by simp, fun a ha b hb => ?_⟩
    have hb : b = s := by simpa using hb
    subst hb
    exact fun e => hasK_notin hs (by rw [← e]; exact ha)
  · rcases List.mem_append.1 hd with hd | hd
    · exact ⟨(h.el d hd).1, by have := (h.el d hd).2; omega⟩
    · rw [List.mem_singleton.1 hd]; exact ⟨rfl, Nat.zero_le _⟩
theorem delK_map (L : List DRow) (s : Int) : (delK L s).map (·.1) = (L.map (·.1)).filter (keepI s) := by
  unfold delK
  rw [List.filter_map]; rfl
theorem del_order (f : Found) (L : List DRow) (h : hasK L f.Deal.Stripe = true) (hl : L.length ≤ 100000) {X : Type} (J : List Int → Option X) :
    Option.bind (slices_IndexFunc_int_int (L.map (·.1)) (fun y => redo_rests_take_1 y f.Deal)) (fun x32 => (bif (x32 == (-1 : Int)) then J (L.map (·.1)) else Option.bind (loopM (fun s : (List Int) × Int × Int => redo_Acts_L8 f s.1 s.2.1 s.2.2) FUEL (L.map (·.1), x32, (wI (x32 + (1 : Int))))) (fun b41 => Option.bind (slc b41.1 b41.2 (b41.1).length) (fun _ => Option.bind (slc ((b41.1).take (Int.toNat b41.2) ++ List.replicate ((b41.1).length - (Int.toNat b41.2)) (0 : Int)) 0 b41.2) (fun x43 => J x43))))) = J ((delK L f.Deal.Stripe).map (·.1)) := by
  have hll : (L.map (·.1)).length = L.length := List.length_map _
  obtain ⟨i, hi, hq⟩ := indexI_eq (L.map (·.1)) (fun y => redo_rests_take_1 y f.Deal) (fun y => y == f.Deal.Stripe) (by omega) (fun x _ => rfl)
  rw [hi, Option.bind_some]
  rcases hq with ⟨i0, rfl, hi0, h1, h0⟩ | ⟨rfl, hn⟩
  · rw [show (((i0 : Nat) : Int) == -1) = false from beq_eq_false_iff_ne.2 (by omega), cond_false, wI_succ (by omega)]
    obtain ⟨s, hs1, hs2, hs3⟩ := delI_loop f (L.map (·.1)) i0 hi0 (by omega) h0 h1
    rw [hs1, Option.bind_some, delK_map]
    have hfl : ((L.map (·.1)).filter (keepI f.Deal.Stripe)).length ≤ (L.map (·.1)).length := List.length_filter_le _ _
    unfold slc
    rw [if_pos (by simp only; omega), Option.bind_some]
    simp only [Int.toNat_natCast]
    rw [if_pos (by simp only [List.length_append, List.length_take, List.length_replicate]; omega), Option.bind_some]
    congr 1
    rw [List.take_append_of_le_length (by rw [List.length_take]; omega), List.take_take, Nat.min_self, hs3]; simp
  · exfalso
    unfold hasK at h
    obtain ⟨x, hx, hp⟩ := List.any_eq_true.1 h
    have := hn x.1 (List.mem_map.2 ⟨x, hx, rfl⟩)
    rw [hp] at this; cases this

/-! ### acts of deals -/
def parB (f : Found) : Bool := decide (0 < f.Deal.Parity.length)
def missR (l : Loss) (s : Int) : Int := bif l.Spare && decide (s < l.Pos) then -1 else l.Lost
def hActs (c : Config) (l : Loss) (d : Deal) : List Act45 := ((pairsH d ++ [(c.Members - 1, d.Parity)]).filter (goesH c d.Stripe (missR l d.Stripe))).map (actH c d.Stripe)
def actsR (c : Config) (l : Loss) (fs : List Found) : List Act45 := (fs.filter parB).flatMap fun f => hActs c l f.Deal
theorem actsR_snoc (c : Config) (l : Loss) (fs : List Found) (f : Found) : actsR c l (fs ++ [f]) = bif parB f then actsR c l fs ++ hActs c l f.Deal else actsR c l fs := by
  unfold actsR
  rw [List.filter_append, List.flatMap_append]
  cases h : parB f <;> simp [List.filter, h]
theorem actsR_app (c : Config) (l : Loss) (a b : List Found) : actsR c l (a ++ b) = actsR c l a ++ actsR c l b := by
  unfold actsR
  rw [List.filter_append, List.flatMap_append]
theorem missP {c : Config} {l : Loss} (hc : MayC c) (ho : okL c l = true) {s : Int} (h0 : 0 ≤ s) (h1 : s < c.Chunk * c.Rows) : loss_Missing c l s = some (missR l s, 0) := by
  unfold loss_Missing loss_Missing_J1 missR
  have : chk c l = 0 := by unfold chk; rw [(mayC_iff c).2 hc, ho]; rfl
  rw [chk_1, this, stripes_may hc]
  simp only [Option.bind_some, show ((0 : Int) != 0) = false from rfl, cond_false]
  rw [decide_eq_false (show ¬ s < 0 by omega), decide_eq_false (show ¬ s ≥ c.Chunk * c.Rows by omega)]
  cases (l.Spare && decide (s < l.Pos)) <;> rfl
theorem missR_in {c : Config} {l : Loss} (hc : MayC c) (ho : okL c l = true) (s : Int) : -1 ≤ missR l s ∧ missR l s < c.Members := by
  simp only [okL, decide_eq_true_eq] at ho
  obtain ⟨_, h2, h3, _⟩ := ho
  have := hc.1
  unfold missR
  cases (l.Spare && decide (s < l.Pos)) with
  | true => exact ⟨Int.le_refl (-1), by show (-1 : Int) < c.Members; omega⟩
  | false => exact ⟨h2, h3⟩
theorem hActs_len (c : Config) (l : Loss) (d : Deal) (h : d.Slots.length ≤ 16) : (hActs c l d).length ≤ 17 := by
  unfold hActs
  rw [List.length_map]
  have := List.length_filter_le (goesH c d.Stripe (missR l d.Stripe)) (pairsH d ++ [(c.Members - 1, d.Parity)])
  have h2 : (pairsH d).length ≤ d.Slots.length := by unfold pairsH; simp; omega
  rw [List.length_append, List.length_singleton] at this
  omega
/-- A deal that may be, as deal.Check tells. -/
def GoodF (c : Config) (f : Found) : Prop := deal_Check c f.Deal = some 0 ∧ OkDeal c f.Deal ∧ szB f.Deal.Parity = true
theorem again_eq {c : Config} {l : Loss} (hc : MayC c) (ho : okL c l = true) {f : Found} (h : GoodF c f) (hp : parB f = true) : home_Again c (missR l f.Deal.Stripe) f.Deal = some (hActs c l f.Deal, 0) := by
  obtain ⟨h1, h2, h3⟩ := h
  obtain ⟨m1, m2⟩ := missR_in hc ho f.Deal.Stripe
  have hpl : f.Deal.Parity.length = 128 := by
    unfold parB at hp
    unfold szB at h3
    simp at hp h3
    rcases h3 with h3 | h3
    · rw [h3] at hp; exact absurd hp (by simp)
    · exact h3
  unfold home_Again home_member
  rw [h1, Option.bind_some, show ((0 : Int) != 0) = false from rfl, cond_false, decide_eq_true (show missR l f.Deal.Stripe ≥ -1 by omega), decide_eq_true m2]
  rw [Option.bind_some, show (!(true && true)) = false from rfl, cond_false, show (((f.Deal.Parity.length : Nat) : Int) == 0) = false from beq_eq_false_iff_ne.2 (by omega), cond_false, hactsM_eq hc h2 hpl, Option.bind_some]
  rfl
theorem actsR_len (c : Config) (l : Loss) : ∀ fs : List Found, (∀ f ∈ fs, f.Deal.Slots.length ≤ 16) → (actsR c l fs).length ≤ 17 * fs.length
  | [], _ => Nat.le_refl _
  | f :: fs, h => by
    have h1 := actsR_len c l fs (fun g hg => h g (List.mem_cons_of_mem _ hg))
    have h2 := hActs_len c l f.Deal (h f (List.mem_cons_self ..))
    have : actsR c l (f :: fs) = actsR c l [f] ++ actsR c l fs := actsR_app c l [f] fs
    rw [this, List.length_append, List.length_cons]
    have h3 : (actsR c l [f]).length ≤ 17 := by
      have := actsR_snoc c l [] f
      rw [List.nil_append] at this
      rw [this]
      cases parB f with
      | true => simpa [actsR] using h2
      | false => simp [actsR]
    omega

theorem take_step {c : Config} {l : Loss} (hc : MayC c) (ho : okL c l = true) {fs : List Found} (hl : fs.length ≤ 300) (hg : ∀ f ∈ fs, GoodF c f) (k : Nat) (hk : k < fs.length) (L : List DRow) (hL : InvL k L) :
    ∃ L', InvL (k + 1) L' ∧ (parB fs[k] = true → L = [] → L' = []) ∧
      redo_Acts_L3 c l fs (k : Int) (actsR c l (fs.take k)) (L.map (·.1)) L = some (.next (((k + 1 : Nat) : Int), actsR c l (fs.take (k + 1)), L'.map (·.1), L')) := by
  have hgk := hg fs[k] (List.getElem_mem hk)
  have hok := hgk.2.1
  obtain ⟨s, hs, hsn⟩ := hok.s
  have hsN : c.Chunk * c.Rows = (sN c : Int) := by unfold sN; have := wI_str hc; omega
  have hal : (actsR c l (fs.take k)).length ≤ 17 * k := by
    have := actsR_len c l (fs.take k) (fun f hf => (hg f (List.mem_of_mem_take hf)).2.1.n)
    rw [List.length_take] at this; omega
  have htk : actsR c l (fs.take (k + 1)) = bif parB fs[k] then actsR c l (fs.take k) ++ hActs c l fs[k].Deal else actsR c l (fs.take k) := by
    rw [take_succ_get fs k fs[k] (List.getElem?_eq_getElem hk), actsR_snoc]
  -- what comes behind a deal is taken
  have J5 : ∀ (ord : List Int) (L' : List DRow), redo_Acts_J5 c l (k : Int) (actsR c l (fs.take k)) fs[k] ord L' = some (.next (((k + 1 : Nat) : Int), actsR c l (fs.take (k + 1)), ord, L')) := fun ord L' => by
    unfold redo_Acts_J5 redo_Acts_J4
    rw [htk, wI_succ (by omega)]
    cases hp : parB fs[k] with
    | false =>
      have : fs[k].Deal.Parity.length = 0 := by unfold parB at hp; simpa using hp
      rw [show (((fs[k].Deal.Parity.length : Nat) : Int) == 0) = true by rw [this]; rfl]
      rfl
    | true =>
      have : 0 < fs[k].Deal.Parity.length := by unfold parB at hp; simpa using hp
      rw [show (((fs[k].Deal.Parity.length : Nat) : Int) == 0) = false from beq_eq_false_iff_ne.2 (by omega), cond_false]
      rw [missP hc ho (by omega) (by omega), Option.bind_some, show ((0 : Int) != 0) = false from rfl, cond_false]
      have h17 := hActs_len c l fs[k].Deal hok.n
      rw [again_eq hc ho hgk hp, Option.bind_some, app_some _ _ (by simp only; omega), Option.bind_some]
      rfl
  unfold redo_Acts_L3
  rw [decide_eq_true (show (k : Int) < (fs.length : Int) by omega), cond_true, idx_nat, List.getElem?_eq_getElem hk, Option.bind_some]
  have hpd : decide (((fs[k].Deal.Parity.length : Nat) : Int) > 0) = parB fs[k] := by unfold parB; exact decide_eq_decide.2 (by omega)
  rw [hpd]
  have hlen := hL.len
  cases hp : parB fs[k] with
  | true =>
    rw [cond_true]
    cases hh : hasK L fs[k].Deal.Stripe with
    | true =>
      rw [cond_true]
      refine ⟨delK L fs[k].Deal.Stripe, (hL.del _).mono (Nat.le_succ _), fun _ h => by rw [h]; rfl, ?_⟩
      have := del_order fs[k] L hh (by omega) (fun o => redo_Acts_J7 c l (k : Int) (actsR c l (fs.take k)) L fs[k] o)
      refine this.trans ?_
      unfold redo_Acts_J7 redo_Acts_J6
      exact J5 _ _
    | false =>
      rw [cond_false]
      refine ⟨L, hL.mono (Nat.le_succ _), fun _ h => h, ?_⟩
      unfold redo_Acts_J6
      exact J5 _ _
  | false =>
    rw [cond_false]
    have J11 : ∀ (l1 : List Int) (l2 : List (List UInt8)) (ord : List Int) (L0 : List DRow), l1.length = l2.length → l1.length ≤ 16 * k → ord = L0.map (·.1) → InvL (k + 1) L0 →
        ∃ L', InvL (k + 1) L' ∧ redo_Acts_J11 c l (k : Int) (actsR c l (fs.take k)) fs[k] l1 l2 ord L0 = some (.next (((k + 1 : Nat) : Int), actsR c l (fs.take (k + 1)), L'.map (·.1), L')) := fun l1 l2 ord L0 e1 e2 e3 e4 => by
      subst e3
      obtain ⟨r, hr, hr1, hr2⟩ := slots_loop fs[k] hok.bl hok.n hok.bs (16 * k) (by omega) l1 l2 e1 e2
      refine ⟨putK L0 fs[k].Deal.Stripe (fs[k].Deal.Stripe, r.1, r.2), e4.set _ hr1 (by omega), ?_⟩
      unfold redo_Acts_J11
      rw [hr, Option.bind_some, putK_keys (dn := (fs[k].Deal.Stripe, r.1, r.2)) rfl]
      exact J5 _ _
    cases hh : hasK L fs[k].Deal.Stripe with
    | false =>
      rw [show (!false) = true from rfl, cond_true, app_some _ _ (by simp; omega), Option.bind_some]
      unfold newK
      rw [if_neg (by rw [hh]; simp), Option.bind_some]
      obtain ⟨L', h1, h2⟩ := J11 [] [] (L.map (·.1) ++ [fs[k].Deal.Stripe]) (L ++ [(fs[k].Deal.Stripe, [], [])]) rfl (Nat.zero_le _) (by simp) (hL.new hh)
      exact ⟨L', h1, fun h => (by cases h), h2⟩
    | true =>
      rw [show (!true) = false from rfl, cond_false]
      have hm := hL.el _ (getK_mem hh)
      obtain ⟨L', h1, h2⟩ := J11 _ _ (L.map (·.1)) L hm.1 hm.2 rfl (hL.mono (Nat.le_succ _))
      exact ⟨L', h1, fun h => (by cases h), h2⟩
theorem rest_loop (L : List DRow) (hl : L.length ≤ 1000) : ∃ r : List Deal, loopM (fun s : (List Deal) × Int => redo_Acts_L2 (L.map (·.1)) L s.1 s.2) FUEL (([] : List Deal), (0 : Int)) = some r ∧ r.length = L.length := by
  have hll : (L.map (·.1)).length = L.length := List.length_map _
  obtain ⟨b, hb, hq⟩ := loop_inv (step := fun s : (List Deal) × Int => redo_Acts_L2 (L.map (·.1)) L s.1 s.2) L.length
    (fun k s => s.2 = (k : Int) ∧ s.1.length = k) (fun b => b.length = L.length) (fun k s hk hI => by
      obtain ⟨s1, s2⟩ := s
      obtain ⟨e1, e2⟩ := hI
      simp only at e1 e2
      subst e1
      show (∃ s', redo_Acts_L2 (L.map (·.1)) L s1 (k : Int) = some (.next s') ∧ _) ∨ ∃ b, redo_Acts_L2 (L.map (·.1)) L s1 (k : Int) = some (.brk b) ∧ _
      unfold redo_Acts_L2
      by_cases hlt : k < L.length
      · have hh : hasK L L[k].1 = true := by
          unfold hasK
          exact List.any_eq_true.2 ⟨L[k], List.getElem_mem hlt, by simp⟩
        rw [decide_eq_true (by omega), cond_true, idx_nat, List.getElem?_map, List.getElem?_eq_getElem hlt, Option.map_some, Option.bind_some]
        unfold gotK
        rw [if_pos hh, Option.bind_some, app_some _ _ (by simp; omega), Option.bind_some, wI_succ (by omega)]
        exact .inl ⟨_, rfl, hlt, rfl, by simp; exact e2⟩
      · obtain rfl : k = L.length := by omega
        rw [decide_eq_false (by omega), cond_false]
        exact .inr ⟨_, rfl, e2⟩)
    FUEL 0 (([] : List Deal), (0 : Int)) (Nat.zero_le _) (by unfold FUEL; omega) ⟨rfl, rfl⟩
  exact ⟨b, hb, hq⟩
/-- Deals that are not great. -/
def SmallF (fs : List Found) : Prop := fs.length ≤ 300 ∧ ∀ f ∈ fs, f.Deal.Slots.length ≤ 100 ∧ f.Deal.Blocks.length ≤ 100
theorem rall_eq {c : Config} (hc : MayC c) {fs : List Found} (h : SmallF fs) : ∃ e, redo_all_api_Found fs (fun y => redo_Acts_1 y c) = some e ∧ (e = 0 → ∀ f ∈ fs, GoodF c f) ∧ ((∀ f ∈ fs, deal_Check c f.Deal = some 0) → e = 0) := by
  unfold redo_all_api_Found
  obtain ⟨b, hb, hq⟩ := loop_inv (step := fun s : Int => redo_all_api_Found_L1 fs (fun y => redo_Acts_1 y c) s) fs.length
    (fun k s => s = (k : Int) ∧ ∀ j (hj : j < fs.length), j < k → GoodF c fs[j]) (fun b => (b = Sum.inl () ∧ ∀ f ∈ fs, GoodF c f) ∨ ∃ e, b = Sum.inr e ∧ e ≠ 0 ∧ ¬ (∀ f ∈ fs, deal_Check c f.Deal = some 0)) (fun k s hk hI => by
      obtain ⟨rfl, hI⟩ := hI
      unfold redo_all_api_Found_L1 redo_Acts_1
      by_cases hlt : k < fs.length
      · obtain ⟨h1, h2⟩ := h.2 fs[k] (List.getElem_mem hlt)
        obtain ⟨e, he, hg⟩ := dealcheck_eq hc fs[k].Deal h1 h2
        have hlN := h.1
        rw [decide_eq_true (by omega), cond_true, idx_nat, List.getElem?_eq_getElem hlt, Option.bind_some]
        simp only [he, Option.bind_some]
        rw [wI_succ (by omega)]
        by_cases he0 : e = 0
        · subst he0
          refine .inl ⟨_, rfl, hlt, rfl, fun j hj hjk => ?_⟩
          by_cases hje : j = k
          · subst hje
            exact ⟨he, (hg rfl).1, dealcheck_par hc _ h1 h2 he⟩
          · exact hI j hj (by omega)
        · rw [show (e != 0) = true by simpa using he0, cond_true]
          refine .inr ⟨_, rfl, .inr ⟨e, rfl, he0, fun hall => ?_⟩⟩
          have := hall fs[k] (List.getElem_mem hlt)
          rw [he] at this
          exact he0 (Option.some.inj this)
      · obtain rfl : k = fs.length := by omega
        rw [decide_eq_false (by omega), cond_false]
        refine .inr ⟨_, rfl, .inl ⟨rfl, fun f hf => ?_⟩⟩
        obtain ⟨j, hj, rfl⟩ := List.getElem_of_mem hf
        exact hI j hj hj)
    FUEL 0 (0 : Int) (Nat.zero_le _) (by have := h.1; unfold FUEL; omega) ⟨rfl, fun j _ hj => by omega⟩
  rw [hb, Option.bind_some]
  rcases hq with ⟨rfl, hq⟩ | ⟨e, rfl, he, hn⟩
  · exact ⟨0, rfl, fun _ => hq, fun _ => rfl⟩
  · exact ⟨e, rfl, fun h0 => absurd h0 he, fun hall => absurd hall hn⟩
/-- May acts be made? -/
def OkR (c : Config) (l : Loss) (fs : List Found) : Prop := MayC c ∧ okL c l = true ∧ fs.length ≤ 255 ∧ ∀ f ∈ fs, deal_Check c f.Deal = some 0
theorem redo_eq (c : Config) (l : Loss) {fs : List Found} (h : SmallF fs) :
    ∃ r, redo_Acts c l fs = some r ∧ ((r.2.2 = 0 ∧ OkR c l fs ∧ (∀ f ∈ fs, GoodF c f) ∧ r.1 = actsR c l fs ∧ ((∀ f ∈ fs, parB f = true) → r.2.1 = [])) ∨ (r.2.2 ≠ 0 ∧ ¬ OkR c l fs ∧ r.1 = [] ∧ r.2.1 = [])) := by
  unfold redo_Acts
  rw [chk_1, Option.bind_some]
  rcases chk_cases c l with hck | ⟨hck, hc, ho⟩
  · rw [hck]
    refine ⟨_, rfl, .inr ⟨by decide, fun hR => ?_, rfl, rfl⟩⟩
    unfold chk at hck
    rw [(mayC_iff c).2 hR.1, hR.2.1] at hck; cases hck
  · rw [hck, show ((0 : Int) != 0) = false from rfl, cond_false]
    by_cases h255 : fs.length ≤ 255
    case neg =>
      rw [decide_eq_true (show (fs.length : Int) > 255 by omega), cond_true]
      exact ⟨_, rfl, .inr ⟨by decide, fun hR => h255 hR.2.2.1, rfl, rfl⟩⟩
    rw [decide_eq_false (show ¬ (fs.length : Int) > 255 by omega), cond_false]
    obtain ⟨e, he, hg1, hg2⟩ := rall_eq hc h
    rw [he, Option.bind_some]
    by_cases he0 : e = 0
    case neg =>
      rw [show (e != 0) = true by simpa using he0, cond_true]
      exact ⟨_, rfl, .inr ⟨he0, fun hR => he0 (hg2 hR.2.2.2), rfl, rfl⟩⟩
    subst he0
    have hg := hg1 rfl
    rw [show ((0 : Int) != 0) = false from rfl, cond_false]
    obtain ⟨b, hb, L, rfl, hL, hLp⟩ := loop_inv (step := fun s : Int × (List Act45) × (List Int) × (List DRow) => redo_Acts_L3 c l fs s.1 s.2.1 s.2.2.1 s.2.2.2) fs.length
      (fun k s => ∃ L, s = ((k : Int), actsR c l (fs.take k), L.map (·.1), L) ∧ InvL k L ∧ ((∀ f ∈ fs, parB f = true) → L = [])) (fun b => ∃ L, b = Sum.inl (actsR c l fs, L.map (·.1), L) ∧ InvL 300 L ∧ ((∀ f ∈ fs, parB f = true) → L = [])) (fun k s hk hI => by
        obtain ⟨L, rfl, hL, hLp⟩ := hI
        show (∃ s', redo_Acts_L3 c l fs (k : Int) (actsR c l (fs.take k)) (L.map (·.1)) L = some (.next s') ∧ _) ∨ ∃ b, redo_Acts_L3 c l fs (k : Int) (actsR c l (fs.take k)) (L.map (·.1)) L = some (.brk b) ∧ _
        by_cases hlt : k < fs.length
        · obtain ⟨L', h1, h2, h3⟩ := take_step hc ho h.1 hg k hlt L hL
          rw [h3]
          exact .inl ⟨_, rfl, hlt, L', rfl, h1, fun hp => h2 (hp _ (List.getElem_mem hlt)) (hLp hp)⟩
        · obtain rfl : k = fs.length := by omega
          unfold redo_Acts_L3
          rw [decide_eq_false (by omega), cond_false, List.take_length]
          exact .inr ⟨_, rfl, L, rfl, hL.mono h.1, hLp⟩)
      FUEL 0 ((0 : Int), ([] : List Act45), ([] : List Int), ([] : List DRow)) (Nat.zero_le _) (by unfold FUEL; omega) ⟨[], rfl, ⟨Nat.zero_le _, List.nodup_nil, fun _ h => by cases h⟩, fun _ => rfl⟩
    rw [hb, Option.bind_some, Sum.elim_inl]
    unfold redo_Acts_J1
    rw [show ((0 : Int) != 0) = false from rfl, cond_false]
    obtain ⟨r, hr, hrl⟩ := rest_loop L (by have := hL.len; omega)
    rw [hr, Option.bind_some]
    refine ⟨_, rfl, .inl ⟨rfl, ⟨hc, ho, h255, fun f hf => (hg f hf).1⟩, hg, rfl, fun hp => ?_⟩⟩
    rw [hLp hp] at hrl
    exact List.eq_nil_of_length_eq_zero hrl
/- Plain law: RedoBegins. -/

theorem alive27 : law27_alive = some true := by kernel_rfl
theorem great27_eq (fs : List Found) : ∃ g, ref27_Great fs = some g ∧ (g = false → SmallF fs ∧ (fs.length ≤ 30 ∨ 256 ≤ fs.length)) := by
  unfold ref27_Great
  obtain ⟨b, hb, hq⟩ := loop_inv (step := fun s : Int => ref27_Great_L1 fs s) 300
    (fun k s => s = (k : Int) ∧ k ≤ fs.length ∧ ∀ j (hj : j < fs.length), j < k → (fs[j]).Deal.Slots.length ≤ 100 ∧ (fs[j]).Deal.Blocks.length ≤ 100) (fun b => b = Sum.inr () ∨ (b = Sum.inl () ∧ ∀ j (hj : j < fs.length), j < 300 → (fs[j]).Deal.Slots.length ≤ 100 ∧ (fs[j]).Deal.Blocks.length ≤ 100)) (fun k s hk hI => by
      obtain ⟨rfl, hkl, hI⟩ := hI
      unfold ref27_Great_L1
      by_cases hlt : k < fs.length ∧ k < 300
      · obtain ⟨g, hg, hg2⟩ := dgreat13_eq fs[k].Deal
        rw [decide_eq_true (show (k : Int) < (fs.length : Int) by omega), decide_eq_true (show (k : Int) < 300 by omega), Bool.and_self, cond_true, idx_nat, List.getElem?_eq_getElem hlt.1, Option.bind_some, hg, Option.bind_some, wI_succ (by omega)]
        cases g with
        | true => exact .inr ⟨_, rfl, .inl rfl⟩
        | false =>
          refine .inl ⟨_, rfl, hlt.2, rfl, hlt.1, fun j hj hjk => ?_⟩
          by_cases he : j = k
          · subst he; exact hg2 rfl
          · exact hI j hj (by omega)
      · have : (decide ((k : Int) < (fs.length : Int)) && decide ((k : Int) < 300)) = false := by
          rw [Bool.and_eq_false_iff, decide_eq_false_iff_not, decide_eq_false_iff_not]; omega
        rw [this, cond_false]
        exact .inr ⟨_, rfl, .inr ⟨rfl, fun j hj h3 => hI j hj (by omega)⟩⟩)
    FUEL 0 (0 : Int) (Nat.zero_le _) (by unfold FUEL; omega) ⟨rfl, Nat.zero_le _, fun j _ hj => by omega⟩
  rw [hb, Option.bind_some]
  rcases hq with rfl | ⟨rfl, hq⟩
  · exact ⟨true, rfl, fun h => by cases h⟩
  · refine ⟨_, rfl, fun h => ?_⟩
    rw [Bool.or_eq_false_iff, Bool.and_eq_false_iff, decide_eq_false_iff_not, decide_eq_false_iff_not, decide_eq_false_iff_not] at h
    refine ⟨⟨by omega, fun f hf => ?_⟩, by omega⟩
    obtain ⟨j, hj, rfl⟩ := List.getElem_of_mem hf
    exact hq j hj (by omega)
theorem SmallF.take {fs : List Found} (h : SmallF fs) (n : Nat) : SmallF (fs.take n) := ⟨by have := h.1; rw [List.length_take]; omega, fun f hf => h.2 f (List.mem_of_mem_take hf)⟩
theorem SmallF.filter {fs : List Found} (h : SmallF fs) (p : Found → Bool) : SmallF (fs.filter p) := ⟨Nat.le_trans (List.length_filter_le _ _) h.1, fun f hf => h.2 f (List.mem_filter.1 hf).1⟩
theorem OkR.take {c : Config} {l : Loss} {fs : List Found} (h : OkR c l fs) (n : Nat) : OkR c l (fs.take n) := ⟨h.1, h.2.1, by have := h.2.2.1; rw [List.length_take]; omega, fun f hf => h.2.2.2 f (List.mem_of_mem_take hf)⟩
theorem OkR.filter {c : Config} {l : Loss} {fs : List Found} (h : OkR c l fs) (p : Found → Bool) : OkR c l (fs.filter p) := ⟨h.1, h.2.1, Nat.le_trans (List.length_filter_le _ _) h.2.2.1, fun f hf => h.2.2.2 f (List.mem_filter.1 hf).1⟩
/- Plain law: RedoLast: what stands on devices behind acts that are writes. -/

/-- What is read of a member at a place, behind an act. -/
def pickA (i : Int) (at_ : Int) (w : List UInt8) (a : Act45) : List UInt8 := bif (a.Disk == i) && (a.At == at_) then a.Data else w
/-- Writes of whole blocks. -/
def Wr (a : Act45) : Prop := a.Kind = 1 ∧ (∃ k : Nat, a.At = (k : Int)) ∧ (∃ i : Nat, a.Disk = (i : Int)) ∧ a.Data.length = 128
theorem stepP_wr {d : Disk} {a : Act45} (h : Wr a) : (stepP d a).Dead = d.Dead ∧ (stepP d a).Blocks = d.Blocks ∧ (d.Dead = false → ∀ k : Nat, seenD (stepP d a) k = bif a.At == (k : Int) then a.Data else seenD d k) := by
  obtain ⟨h1, ⟨j, h2⟩, _, h3⟩ := h
  unfold stepP
  cases hd : d.Dead with
  | true => rw [cond_true]; exact ⟨hd, rfl, fun h => by cases h⟩
  | false =>
    rw [cond_false, h1]
    refine ⟨hd, rfl, fun _ k => ?_⟩
    show seenD (putD d a.At a.Data) k = _
    rw [h2]
    by_cases hk : j = k
    · subst hk
      rw [show (((j : Nat) : Int) == ((j : Nat) : Int)) = true by simp, cond_true]
      exact put_seen_same d j h3
    · rw [show (((j : Nat) : Int) == ((k : Nat) : Int)) = false from beq_eq_false_iff_ne.2 (by omega), cond_false]
      exact put_seen d j k a.Data hk
theorem runA_wr (i : Nat) : ∀ (l : List Act45) (ds o : List Disk), (∀ a ∈ l, Wr a) → i < ds.length → runA stepP l ds = some o →
    (o.getD i noD).Dead = (ds.getD i noD).Dead ∧ ((ds.getD i noD).Dead = false → ∀ k : Nat, seenD (o.getD i noD) k = l.foldl (pickA (i : Int) (k : Int)) (seenD (ds.getD i noD) k))
  | [], ds, o, _, _, h => by cases h; exact ⟨rfl, fun _ _ => rfl⟩
  | a :: l, ds, o, hw, hi, h => by
    rw [runA_cons] at h
    cases hf : fullA (ds.getD a.Disk.toNat noD) a with
    | true => rw [hf] at h; cases h
    | false =>
      rw [hf, cond_false] at h
      have ha := hw a (List.mem_cons_self ..)
      obtain ⟨r1, r2⟩ := runA_wr i l _ o (fun b hb => hw b (List.mem_cons_of_mem _ hb)) (by rw [List.length_set]; exact hi) h
      obtain ⟨n, hn⟩ := ha.2.2.1
      rw [hn, Int.toNat_natCast] at r1 r2
      by_cases hni : n = i
      · subst hni
        have e : (ds.set n (stepP (ds.getD n noD) a)).getD n noD = stepP (ds.getD n noD) a := by
          rw [List.getD_eq_getElem?_getD, List.getElem?_set_self hi]; rfl
        rw [e] at r1 r2
        obtain ⟨s1, _, s2⟩ := stepP_wr (d := ds.getD n noD) ha
        rw [s1] at r1 r2
        refine ⟨r1, fun hd k => ?_⟩
        rw [r2 hd k, s2 hd k, List.foldl_cons]
        unfold pickA
        rw [hn, show (((n : Nat) : Int) == ((n : Nat) : Int)) = true by simp, Bool.true_and]
      · have e : (ds.set n (stepP (ds.getD n noD) a)).getD i noD = ds.getD i noD := by
          rw [List.getD_eq_getElem?_getD, List.getElem?_set_ne hni, ← List.getD_eq_getElem?_getD]
        rw [e] at r1 r2
        refine ⟨r1, fun hd k => ?_⟩
        rw [r2 hd k, List.foldl_cons]
        unfold pickA
        rw [hn, show (((n : Nat) : Int) == ((i : Nat) : Int)) = false from beq_eq_false_iff_ne.2 (by omega), Bool.false_and, cond_false]
theorem pairs_in {c : Config} {f : Found} (ok : OkDeal c f.Deal) : ∀ p ∈ pairsH f.Deal, (∃ k : Nat, p.1 = (k : Int) ∧ k < mN c - 1) ∧ p.2.length = 128 := fun p hp => by
  unfold pairsH at hp
  have h1 := List.of_mem_zip (show (p.1, p.2) ∈ _ from hp)
  obtain ⟨b, hb, e⟩ := List.mem_map.1 h1.2
  exact ⟨ok.sl _ h1.1, by rw [← e]; exact fullB_len (ok.bs b hb)⟩
theorem par128 {c : Config} {f : Found} (h : GoodF c f) (hp : parB f = true) : f.Deal.Parity.length = 128 := by
  obtain ⟨_, _, h3⟩ := h
  unfold parB at hp
  unfold szB at h3
  simp at hp h3
  rcases h3 with h3 | h3
  · rw [h3] at hp; exact absurd hp (by simp)
  · exact h3
theorem hActs_wr {c : Config} (hc : MayC c) (l : Loss) {f : Found} (h : GoodF c f) (hp : parB f = true) : ∀ a ∈ hActs c l f.Deal, Wr a ∧ ∃ k : Nat, k < mN c ∧ a.Disk = memF c f.Deal.Stripe (k : Int) := fun a ha => by
  obtain ⟨s, hs, _⟩ := h.2.1.s
  unfold hActs at ha
  obtain ⟨p, hp1, rfl⟩ := List.mem_map.1 ha
  have hp2 := (List.mem_filter.1 hp1).1
  have hm := memF_in hc f.Deal.Stripe p.1
  have hM := hc.1
  have hMn : c.Members = (mN c : Int) := by unfold mN; omega
  have key : (∃ k : Nat, k < mN c ∧ p.1 = (k : Int)) ∧ p.2.length = 128 := by
    rcases List.mem_append.1 hp2 with h1 | h1
    · obtain ⟨⟨k, k1, k2⟩, k3⟩ := pairs_in h.2.1 p h1
      exact ⟨⟨k, by omega, k1⟩, k3⟩
    · have : p = (c.Members - 1, f.Deal.Parity) := by simpa using h1
      rw [this]
      exact ⟨⟨mN c - 1, by omega, by show c.Members - 1 = _; omega⟩, par128 h hp⟩
  obtain ⟨⟨k, k1, k2⟩, k3⟩ := key
  refine ⟨⟨rfl, ⟨s + 1, ?_⟩, ⟨(memF c f.Deal.Stripe p.1).toNat, ?_⟩, k3⟩, k, k1, ?_⟩
  · show f.Deal.Stripe + 1 = _; omega
  · show memF c f.Deal.Stripe p.1 = _; omega
  · show memF c f.Deal.Stripe p.1 = _; rw [k2]
theorem actsR_mem {c : Config} {l : Loss} {fs : List Found} {a : Act45} (h : a ∈ actsR c l fs) : ∃ f ∈ fs, parB f = true ∧ a ∈ hActs c l f.Deal := by
  unfold actsR at h
  obtain ⟨f, hf, ha⟩ := List.mem_flatMap.1 h
  obtain ⟨h1, h2⟩ := List.mem_filter.1 hf
  exact ⟨f, h1, h2, ha⟩

/-! ### what the statement asks for -/
/- Plain law: RedoTwice. -/

def flW (d : Disk) : Disk := bif d.Dead then d else pflushD d
theorem flW_may {d : Disk} (h : MayD d) : MayD (flW d) := by
  unfold flW
  cases hd : d.Dead with
  | true => exact h
  | false => exact pflush_may h hd
theorem flushed27 {ds : List Disk} (hl : ds.length ≤ 100000) (h : ∀ d ∈ ds, MayD d) : law27_flushed ds = some (ds.map flW) := by
  unfold law27_flushed
  have := loop_run (step := fun s : (List Disk) × Int => law27_flushed_L1 ds s.1 s.2) (fun k => ((ds.take k).map flW, (k : Int))) ds.length (ds.map flW) (fuel_ltD (by omega)) (fun k hk => by
    show law27_flushed_L1 _ _ _ = _
    unfold law27_flushed_L1 law27_flushed_J2
    have hm := h ds[k] (List.getElem_mem hk)
    rw [decide_eq_true (show (k : Int) < (ds.length : Int) by omega), cond_true, idx_nat, List.getElem?_eq_getElem hk, Option.bind_some, pflush_eq, may_t hm, Option.bind_some, Option.bind_some, take_succ_get _ _ _ (List.getElem?_eq_getElem hk), List.map_append, wI_succ (by omega)]
    rw [app_some _ _ (by simp; omega), app_some _ _ (by simp; omega)]
    unfold flW
    simp only [List.map_cons, List.map_nil]
    cases hd : ds[k].Dead with
    | true =>
      show some (Ctl.next (_ ++ [Disk.mk ds[k].Blocks ds[k].Wait true], _)) = _
      rw [show Disk.mk ds[k].Blocks ds[k].Wait true = ds[k] by rw [← hd]]
      rfl
    | false => rfl) (by
    show law27_flushed_L1 _ _ _ = _
    unfold law27_flushed_L1
    rw [decide_eq_false (by omega), cond_false, List.take_length])
  have h0 : (([] : List Disk), (0 : Int)) = (fun k : Nat => ((ds.take k).map flW, (k : Int))) 0 := by simp
  rw [h0, this]; rfl

theorem runA_both (stp : Disk → Act45 → Disk) : ∀ (l m : List Act45) (ds : List Disk), runA stp (l ++ m) ds = (runA stp l ds).bind (runA stp m)
  | [], m, ds => rfl
  | a :: l, m, ds => by
    rw [List.cons_append, runA_cons, runA_cons]
    cases fullA (ds.getD a.Disk.toNat noD) a with
    | true => rfl
    | false => exact runA_both stp l m _
theorem getD_set (ds : List Disk) (n i : Nat) (x : Disk) : (ds.set n x).getD i noD = if n = i ∧ i < ds.length then x else ds.getD i noD := by
  rw [List.getD_eq_getElem?_getD, List.getD_eq_getElem?_getD, List.getElem?_set]
  by_cases h : n = i
  · subst h
    by_cases hi : n < ds.length
    · simp [hi]
    · simp [hi]
  · simp [h]
/-- Two rows of devices with as many writes waiting. -/
def Sim (X Y : List Disk) : Prop := X.length = Y.length ∧ ∀ i, (X.getD i noD).Dead = (Y.getD i noD).Dead ∧ (X.getD i noD).Wait.length = (Y.getD i noD).Wait.length
theorem runA_sim : ∀ (l : List Act45) (X Y o : List Disk), (∀ a ∈ l, Wr a) → Sim X Y → runA stepP l X = some o → ∃ o', runA stepP l Y = some o'
  | [], _, Y, _, _, _, _ => ⟨Y, rfl⟩
  | a :: l, X, Y, o, hw, hs, h => by
    rw [runA_cons] at h ⊢
    have ha := hw a (List.mem_cons_self ..)
    obtain ⟨e1, e2⟩ := hs.2 a.Disk.toNat
    have hf : fullA (Y.getD a.Disk.toNat noD) a = fullA (X.getD a.Disk.toNat noD) a := by unfold fullA; rw [e1, e2]
    rw [hf]
    cases hq : fullA (X.getD a.Disk.toNat noD) a with
    | true => rw [hq] at h; cases h
    | false =>
      rw [hq, cond_false] at h
      rw [cond_false]
      refine runA_sim l _ _ o (fun b hb => hw b (List.mem_cons_of_mem _ hb)) ⟨by rw [List.length_set, List.length_set]; exact hs.1, fun i => ?_⟩ h
      rw [getD_set, getD_set, ← hs.1]
      by_cases hi : a.Disk.toNat = i ∧ i < X.length
      · rw [if_pos hi, if_pos hi]
        unfold stepP
        rw [← e1, ha.1]
        cases hd : (X.getD a.Disk.toNat noD).Dead with
        | true => exact ⟨by rw [cond_true, cond_true]; exact e1, by rw [cond_true, cond_true]; exact e2⟩
        | false =>
          simp only [cond_false, beq_self_eq_true, cond_true]
          exact ⟨e1, by unfold putD; simp only [List.length_append, e2]⟩
      · rw [if_neg hi, if_neg hi]
        exact hs.2 i
theorem runA_dead (i : Nat) : ∀ (l : List Act45) (ds o : List Disk), (ds.getD i noD).Dead = true → runA stepP l ds = some o → o.getD i noD = ds.getD i noD
  | [], ds, o, _, h => by cases h; rfl
  | a :: l, ds, o, hd, h => by
    rw [runA_cons] at h
    cases hf : fullA (ds.getD a.Disk.toNat noD) a with
    | true => rw [hf] at h; cases h
    | false =>
      rw [hf, cond_false] at h
      have e : (ds.set a.Disk.toNat (stepP (ds.getD a.Disk.toNat noD) a)).getD i noD = ds.getD i noD := by
        rw [getD_set]
        by_cases hi : a.Disk.toNat = i ∧ i < ds.length
        · rw [if_pos hi, hi.1]
          unfold stepP
          rw [hd, cond_true]
        · rw [if_neg hi]
      rw [runA_dead i l _ o (by rw [e]; exact hd) h, e]
theorem runA_wait (i : Nat) : ∀ (l : List Act45) (ds o : List Disk), (∀ a ∈ l, Wr a) → runA stepP l ds = some o →
    (o.getD i noD).Blocks = (ds.getD i noD).Blocks ∧ ∀ w ∈ (o.getD i noD).Wait, w ∈ (ds.getD i noD).Wait ∨ ∃ a ∈ l, a.Disk = (i : Int) ∧ w.At = a.At
  | [], ds, o, _, h => by cases h; exact ⟨rfl, fun w hw => .inl hw⟩
  | a :: l, ds, o, hw, h => by
    rw [runA_cons] at h
    cases hf : fullA (ds.getD a.Disk.toNat noD) a with
    | true => rw [hf] at h; cases h
    | false =>
      rw [hf, cond_false] at h
      have ha := hw a (List.mem_cons_self ..)
      obtain ⟨r1, r2⟩ := runA_wait i l _ o (fun b hb => hw b (List.mem_cons_of_mem _ hb)) h
      rw [getD_set] at r1 r2
      by_cases hi : a.Disk.toNat = i ∧ i < ds.length
      · rw [if_pos hi] at r1 r2
        rw [hi.1] at r1 r2
        obtain ⟨n, hn⟩ := ha.2.2.1
        refine ⟨by rw [r1]; exact (stepP_wr ha).2.1, fun w hw' => ?_⟩
        rcases r2 w hw' with h2 | ⟨b, hb, h3, h4⟩
        · unfold stepP at h2
          rw [ha.1] at h2
          cases hd : (ds.getD i noD).Dead with
          | true => rw [hd, cond_true] at h2; exact .inl h2
          | false =>
            rw [hd] at h2
            simp only [cond_false, beq_self_eq_true, cond_true] at h2
            unfold putD at h2
            rcases List.mem_append.1 h2 with h2 | h2
            · exact .inl h2
            · rw [List.mem_singleton] at h2
              refine .inr ⟨a, List.mem_cons_self .., ?_, by rw [h2]⟩
              rw [hn] at hi ⊢
              rw [← hi.1, Int.toNat_natCast]
        · exact .inr ⟨b, List.mem_cons_of_mem _ hb, h3, h4⟩
      · rw [if_neg hi] at r1 r2
        refine ⟨r1, fun w hw' => ?_⟩
        rcases r2 w hw' with h2 | ⟨b, hb, h3, h4⟩
        · exact .inl h2
        · exact .inr ⟨b, List.mem_cons_of_mem _ hb, h3, h4⟩
theorem setK_keep (k : Nat) : ∀ (l : List (Write × Bool)) (bs : List (List UInt8)), (∀ p ∈ l, p.1.At.toNat ≠ k) → (l.foldl setK bs)[k]? = bs[k]?
  | [], _, _ => rfl
  | p :: l, bs, h => by
    rw [List.foldl_cons, setK_keep k l _ (fun q hq => h q (List.mem_cons_of_mem _ hq))]
    unfold setK setW
    have hp := h p (List.mem_cons_self ..)
    cases p.2 with
    | true => rw [cond_true, List.getElem?_set_ne hp]
    | false => rfl
theorem crash_keep {d : Disk} (m : List Bool) {k : Nat} (h : ∀ w ∈ d.Wait, w.At.toNat ≠ k) : (crashD d m).Blocks[k]? = d.Blocks[k]? :=
  setK_keep k _ _ (fun p hp => h p.1 (List.of_mem_zip (show (p.1, p.2) ∈ _ from hp)).1)
theorem pickA_at (i at_ : Int) : ∀ (l : List Act45) (w w' : List UInt8), (∃ a ∈ l, a.Disk = i ∧ a.At = at_) → l.foldl (pickA i at_) w = l.foldl (pickA i at_) w'
  | [], _, _, h => by obtain ⟨a, ha, _⟩ := h; cases ha
  | b :: l, w, w', h => by
    rw [List.foldl_cons, List.foldl_cons]
    by_cases hb : b.Disk = i ∧ b.At = at_
    · unfold pickA
      rw [show (b.Disk == i) = true by simpa using hb.1, show (b.At == at_) = true by simpa using hb.2]
      rfl
    · obtain ⟨a, ha, h2⟩ := h
      rcases List.mem_cons.1 ha with rfl | ha
      · exact absurd h2 hb
      · exact pickA_at i at_ l _ _ ⟨a, ha, h2⟩
theorem pickA_no (i at_ : Int) : ∀ (l : List Act45) (w : List UInt8), (∀ a ∈ l, ¬ (a.Disk = i ∧ a.At = at_)) → l.foldl (pickA i at_) w = w
  | [], _, _ => rfl
  | b :: l, w, h => by
    rw [List.foldl_cons, pickA_no i at_ l _ (fun a ha => h a (List.mem_cons_of_mem _ ha))]
    have hb := h b (List.mem_cons_self ..)
    unfold pickA
    cases h1 : (b.Disk == i) with
    | false => rfl
    | true =>
      cases h2 : (b.At == at_) with
      | false => rfl
      | true => exact absurd ⟨by simpa using h1, by simpa using h2⟩ hb
theorem run_ok {ds : List Disk} {l : List Act45} {n : Int} (h : (runD stepP ds l n).2 = 0) : checkActs l ds = 0 ∧ 0 ≤ n ∧ n ≤ (l.length : Int) ∧ ∃ o, runA stepP (l.take n.toNat) ds = some o ∧ runD stepP ds l n = (o, 0) := by
  unfold runD at h ⊢
  cases hq : (checkActs l ds != 0) with
  | true => rw [hq, cond_true] at h; exact absurd h (by simpa using hq)
  | false =>
    rw [hq, cond_false] at h
    have hc : checkActs l ds = 0 := by simpa using hq
    cases hn : (decide (n < 0) || decide (n > (l.length : Int))) with
    | true => rw [hn] at h; cases h
    | false =>
      rw [hn, cond_false] at h
      have hn2 := hn
      simp only [Bool.or_eq_false_iff, decide_eq_false_iff_not] at hn2
      cases hx : runA stepP (l.take n.toNat) ds with
      | none => rw [hx] at h; cases h
      | some o => exact ⟨hc, by omega, by omega, o, rfl, rfl⟩
theorem lens_of {A B : List Disk} (hl : A.length = B.length) (h : ∀ i, i < A.length → (dAt A i).Blocks.length = (dAt B i).Blocks.length) : lensD A = lensD B := by
  unfold lensD
  apply List.ext_getElem (by simpa using hl)
  intro i h1 h2
  have hi : i < A.length := by simpa using h1
  have hj : i < B.length := by omega
  have e1 := dAt_get hi
  have e2 := dAt_get hj
  rw [List.getElem?_eq_getElem hi, Option.some.injEq] at e1
  rw [List.getElem?_eq_getElem hj, Option.some.injEq] at e2
  rw [List.getElem_map, List.getElem_map, e1, e2, h i hi]
theorem views_of {A B : List Disk} (hl : A.length = B.length) (h : ∀ i, i < A.length → viewD (flW (dAt A i)) = viewD (flW (dAt B i))) : (A.map flW).map viewD = (B.map flW).map viewD := by
  apply List.ext_getElem (by simpa using hl)
  intro i h1 h2
  have hi : i < A.length := by simpa using h1
  have hj : i < B.length := by omega
  have e1 := dAt_get hi
  have e2 := dAt_get hj
  rw [List.getElem?_eq_getElem hi, Option.some.injEq] at e1
  rw [List.getElem?_eq_getElem hj, Option.some.injEq] at e2
  rw [List.getElem_map, List.getElem_map, List.getElem_map, List.getElem_map, e1, e2, h i hi]
theorem flush_alike {A B : Disk} (hA : MayD A) (hB : MayD B) (hd : A.Dead = B.Dead) (hl : A.Blocks.length = B.Blocks.length) (hs : ∀ k, k < A.Blocks.length → seenD A k = seenD B k) : viewD (pflushD A) = viewD (pflushD B) := by
  rw [flush_view hA, flush_view hB]
  unfold rflushD
  rw [← hl, hd, List.map_congr_left (fun k hk => hs k (List.mem_range.1 hk))]
/-- Some acts, a cut, and all of them again. -/
theorem redo_core {ds o1 o2 o3 : List Disk} {acts : List Act45} {n : Nat} {mk : List Bool} (hw : ∀ a ∈ acts, Wr a) (hz : ∀ d ∈ ds, d.Wait = []) (h1 : runA stepP acts ds = some o1) (h2 : runA stepP (acts.take n) ds = some o2)
    (h3 : runA stepP acts (crashL o2 mk) = some o3) (l1 : LikeDs (lensD ds) o1) (l2 : LikeDs (lensD ds) o2) (l3 : LikeDs (lensD ds) o3) : (o3.map flW).map viewD = (o1.map flW).map viewD := by
  have len : ∀ {o : List Disk}, LikeDs (lensD ds) o → o.length = ds.length := fun h => by have := congrArg List.length h.2; simpa [lensD] using this
  have blk : ∀ {o : List Disk}, LikeDs (lensD ds) o → ∀ i, i < ds.length → (dAt o i).Blocks.length = (dAt ds i).Blocks.length := fun {o} h i hi => by
    have := congrArg (fun q => q[i]?) h.2
    simp only [lensD, List.getElem?_map, dAt_get hi, dAt_get (show i < o.length by rw [len h]; exact hi), Option.map_some, Option.some.injEq] at this
    exact this
  have may : ∀ {o : List Disk}, LikeDs (lensD ds) o → ∀ i, i < ds.length → MayD (dAt o i) := fun {o} h i hi => by
    refine h.1.m _ ?_
    have hi2 : i < o.length := by rw [len h]; exact hi
    have e1 := dAt_get hi2
    rw [List.getElem?_eq_getElem hi2, Option.some.injEq] at e1
    rw [← e1]; exact List.getElem_mem _
  refine views_of (by rw [len l1, len l3]) (fun i hi => ?_)
  rw [len l3] at hi
  have hi2 : i < o2.length := by rw [len l2]; exact hi
  have hdz : (dAt ds i).Wait = [] := by
    have e1 := dAt_get hi
    rw [List.getElem?_eq_getElem hi, Option.some.injEq] at e1
    rw [← e1]; exact hz _ (List.getElem_mem _)
  have hcr : dAt (crashL o2 mk) i = crashD (dAt o2 i) (mk.drop (waitsN (o2.take i))) := getD_crash hi2
  generalize mk.drop (waitsN (o2.take i)) = m at hcr
  obtain ⟨p1, p2⟩ := runA_wr i acts ds o1 hw hi h1
  obtain ⟨q1, q2⟩ := runA_wr i (acts.take n) ds o2 (fun a ha => hw a (List.mem_of_mem_take ha)) hi h2
  obtain ⟨w1, w2⟩ := runA_wait i (acts.take n) ds o2 (fun a ha => hw a (List.mem_of_mem_take ha)) h2
  obtain ⟨r1, r2⟩ := runA_wr i acts (crashL o2 mk) o3 hw (by rw [crashL_len]; exact hi2) h3
  change (dAt o1 i).Dead = (dAt ds i).Dead at p1
  change (dAt o2 i).Dead = (dAt ds i).Dead at q1
  change (dAt o3 i).Dead = (dAt (crashL o2 mk) i).Dead at r1
  change (dAt (crashL o2 mk) i).Dead = false → ∀ k : Nat, seenD (dAt o3 i) k = acts.foldl (pickA (i : Int) (k : Int)) (seenD (dAt (crashL o2 mk) i) k) at r2
  change (dAt ds i).Dead = false → ∀ k : Nat, seenD (dAt o1 i) k = acts.foldl (pickA (i : Int) (k : Int)) (seenD (dAt ds i) k) at p2
  change (dAt o2 i).Blocks = (dAt ds i).Blocks at w1
  change ∀ w ∈ (dAt o2 i).Wait, w ∈ (dAt ds i).Wait ∨ _ at w2
  have hcd : (dAt (crashL o2 mk) i).Dead = (dAt ds i).Dead := by rw [hcr]; exact q1
  cases hd : (dAt ds i).Dead with
  | true =>
    have e1 : dAt o1 i = dAt ds i := runA_dead i acts ds o1 hd h1
    have e2 : dAt o2 i = dAt ds i := runA_dead i (acts.take n) ds o2 hd h2
    have e3 : dAt o3 i = dAt (crashL o2 mk) i := runA_dead i acts (crashL o2 mk) o3 (by rw [hd] at hcd; exact hcd) h3
    have e4 : crashD (dAt ds i) m = dAt ds i := by
      unfold crashD
      rw [hdz]
      generalize dAt ds i = d at hdz
      obtain ⟨b, w, x⟩ := d
      cases hdz
      rfl
    rw [e1, e3, hcr, e2, e4]
  | false =>
    rw [hd] at hcd p1
    rw [hcd] at r1
    unfold flW
    rw [r1, p1, cond_false, cond_false]
    refine flush_alike (may l3 i hi) (may l1 i hi) (by rw [r1, p1]) (by rw [blk l3 i hi, blk l1 i hi]) (fun k _ => ?_)
    rw [p2 hd k, r2 hcd k]
    by_cases hk : ∃ a ∈ acts, a.Disk = (i : Int) ∧ a.At = (k : Int)
    · exact pickA_at _ _ _ _ _ hk
    · have hk' : ∀ a ∈ acts, ¬ (a.Disk = (i : Int) ∧ a.At = (k : Int)) := fun a ha h => hk ⟨a, ha, h⟩
      rw [pickA_no _ _ _ _ hk', pickA_no _ _ _ _ hk', hcr]
      have hb : (crashD (dAt o2 i) m).Blocks[k]? = (dAt ds i).Blocks[k]? := by
        rw [crash_keep m (fun w hwm => ?_), w1]
        rcases w2 w hwm with h | ⟨a, ha, ha2, ha3⟩
        · rw [hdz] at h; cases h
        · intro he
          obtain ⟨j, hj⟩ := (hw a (List.mem_of_mem_take ha)).2.1
          refine hk' a (List.mem_of_mem_take ha) ⟨ha2, ?_⟩
          rw [ha3, hj, Int.toNat_natCast] at he
          rw [hj, he]
      unfold seenD
      rw [hdz]
      show liesD (crashD (dAt o2 i) m) k = liesD (dAt ds i) k
      unfold liesD
      rw [List.getD_eq_getElem?_getD, List.getD_eq_getElem?_getD, hb]
theorem redotwice_true (c : Config) (l : Loss) (fs : List Found) (ds : List Disk) (n : Int) (keep : List Bool) : law27_RedoTwice c l fs ds n keep = some true := by
  unfold law27_RedoTwice
  obtain ⟨g, hg, hg2⟩ := great27_eq fs
  obtain ⟨g3, hg3, _⟩ := agreat_eq ds
  rw [alive27, hg, Option.bind_some, Option.bind_some, hg3, pcheckA_eq]
  cases g with
  | true => simp [gO]
  | false =>
    obtain ⟨hS, _⟩ := hg2 rfl
    rw [show gO (!false) (some g3) = some g3 from rfl, Option.bind_some]
    cases hgk : (false || g3 || decide (((keep.length : Nat) : Int) > 2000)) with
    | true => simp [gO]
    | false =>
      rw [show gO (!false) (some (bif okA c ds then (0 : Int) else 8)) = some (bif okA c ds then 0 else 8) from rfl, Option.bind_some]
      have hkl : keep.length ≤ 2000 := by
        rw [Bool.or_eq_false_iff] at hgk
        have := of_decide_eq_false hgk.2
        omega
      cases hA : okA c ds with
      | false => rfl
      | true =>
        have hO := (okA_iff c ds).1 hA
        have hc := hO.mc
        have hmds := okA_mays hO
        rw [cond_true, show ((false || ((0 : Int) != 0)) || !true) = false from rfl, cond_false]
        obtain ⟨r, hr, hcase⟩ := redo_eq c l hS
        rw [hr, Option.bind_some, pwaits_eq, hmds.t, Option.bind_some]
        simp only [cond_true]
        cases hgo : (((((r.2.2 != 0) || ((0 : Int) != 0)) || decide (((waitsN ds : Nat) : Int) > 0)) || decide (n < 0)) || decide (n > ((r.1.length : Nat) : Int))) with
        | true => rfl
        | false =>
          rw [cond_false, (prun_eq ds r.1 ((r.1.length : Nat) : Int)).1, Option.bind_some]
          simp only [Bool.or_eq_false_iff, decide_eq_false_iff_not] at hgo
          obtain ⟨⟨⟨⟨g1, _⟩, gw⟩, gn⟩, gn2⟩ := hgo
          have g1 : r.2.2 = 0 := by simpa using g1
          rcases hcase with ⟨_, hR, hG, hacts, _⟩ | ⟨h0, _⟩
          case inr => exact absurd g1 h0
          cases hx : ((runD stepP ds r.1 ((r.1.length : Nat) : Int)).2 != 0) with
          | true => rfl
          | false =>
            rw [cond_false]
            obtain ⟨hck, _, _, o1, hA1, hD1⟩ := run_ok (show (runD stepP ds r.1 ((r.1.length : Nat) : Int)).2 = 0 by simpa using hx)
            have hl1 := (prun_eq ds r.1 ((r.1.length : Nat) : Int)).2 o1 hA1 hck
            rw [Int.toNat_natCast, List.take_length] at hA1
            have hwr : ∀ a ∈ r.1, Wr a := fun a ha => by
              rw [hacts] at ha
              obtain ⟨f, hf, hp, ha2⟩ := actsR_mem ha
              exact (hActs_wr hc l (hG f hf) hp a ha2).1
            have hzw : ∀ d ∈ ds, d.Wait = [] := waits_zero (by omega)
            -- the first of them
            obtain ⟨o2, hA2⟩ : ∃ o2, runA stepP (r.1.take n.toNat) ds = some o2 := by
              have := runA_both stepP (r.1.take n.toNat) (r.1.drop n.toNat) ds
              rw [List.take_append_drop, hA1] at this
              cases hq : runA stepP (r.1.take n.toNat) ds with
              | none => rw [hq] at this; cases this
              | some o => exact ⟨o, rfl⟩
            have hl2 := (prun_eq ds r.1 n).2 o2 hA2 hck
            have hD2 : runD stepP ds r.1 n = (o2, 0) := by rw [run_len hck (by omega) (by omega), hA2]; rfl
            rw [hD1, (prun_eq ds r.1 n).1, hD2, Option.bind_some]
            simp only [bne_self_eq_false, cond_false]
            rw [pwaits_eq, hl2.1.t, Option.bind_some]
            simp only [cond_true, bne_self_eq_false, Bool.false_or]
            rw [decide_eq_false (show ¬ ((waitsN o2 : Nat) : Int) < 0 by omega), cond_false]
            have hwo := waitsN_le hl2.1.m
            have hno2 := hl2.1.n2
            rw [app_some _ _ (by simp; omega), Option.bind_some, List.nil_append]
            rw [show GL.appZ false keep ((waitsN o2 : Nat) : Int) = some (keep ++ List.replicate (waitsN o2) false) by
              unfold GL.appZ
              rw [if_pos (by omega), Int.toNat_natCast], Option.bind_some]
            rw [show slc (keep ++ List.replicate (waitsN o2) false) 0 ((waitsN o2 : Nat) : Int) = some ((keep ++ List.replicate (waitsN o2) false).take (waitsN o2)) by
              unfold slc
              rw [if_pos (by simp; omega)]
              simp, Option.bind_some, pcrash_eq]
            have hcr : crashR o2 ((keep ++ List.replicate (waitsN o2) false).take (waitsN o2)) = (crashL o2 (marksC o2 ((keep ++ List.replicate (waitsN o2) false).take (waitsN o2))), 0) := by
              unfold crashR
              rw [hl2.1.t, decide_eq_false (by simp)]; rfl
            rw [hcr]
            generalize marksC o2 ((keep ++ List.replicate (waitsN o2) false).take (waitsN o2)) = mk
            simp only [Option.bind_some, bne_self_eq_false, cond_false]
            have hmc := crashL_mays hl2.1 mk
            have hol2 : o2.length = ds.length := by have := congrArg List.length hl2.2; simpa [lensD] using this
            have hlc : lensD (crashL o2 mk) = lensD ds := by
              rw [← hl2.2]
              refine lens_of (crashL_len _ _) (fun i hi => ?_)
              rw [crashL_len] at hi
              rw [getD_crash hi]
              exact setK_len _ _
            have hck3 : checkActs r.1 (crashL o2 mk) = 0 := by
              rw [← hck]
              unfold checkActs
              rw [hmc.t, hmds.t, hlc]
            have hdead : ∀ i, (o2.getD i noD).Dead = (ds.getD i noD).Dead := fun i => by
              by_cases hi : i < ds.length
              · exact (runA_wr i (r.1.take n.toNat) ds o2 (fun a ha => hwr a (List.mem_of_mem_take ha)) hi hA2).1
              · rw [List.getD_eq_getElem?_getD, List.getD_eq_getElem?_getD, List.getElem?_eq_none (by omega), List.getElem?_eq_none (by omega)]
            obtain ⟨o3, hA3⟩ := runA_sim r.1 ds (crashL o2 mk) o1 hwr ⟨by rw [crashL_len, hol2], fun i => by
              by_cases hi : i < ds.length
              · have e : (crashL o2 mk).getD i noD = crashD (dAt o2 i) (mk.drop (waitsN (o2.take i))) := getD_crash (by omega)
                rw [e]
                have e1 := dAt_get hi
                rw [List.getElem?_eq_getElem hi, Option.some.injEq] at e1
                refine ⟨(hdead i).symm, ?_⟩
                rw [show ds.getD i noD = ds[i] from e1.symm, hzw _ (List.getElem_mem _)]
                rfl
              · rw [List.getD_eq_getElem?_getD, List.getD_eq_getElem?_getD, List.getElem?_eq_none (by omega), List.getElem?_eq_none (by rw [crashL_len]; omega)]
                exact ⟨rfl, rfl⟩⟩ hA1
            have hD3 : runD stepP (crashL o2 mk) r.1 ((r.1.length : Nat) : Int) = (o3, 0) := by
              rw [run_len hck3 (by omega) (by omega), Int.toNat_natCast, List.take_length, hA3]; rfl
            have hl3 := (prun_eq (crashL o2 mk) r.1 ((r.1.length : Nat) : Int)).2 o3 (by rw [Int.toNat_natCast, List.take_length]; exact hA3) hck3
            rw [hlc] at hl3
            rw [(prun_eq (crashL o2 mk) r.1 _).1, hD3]
            simp only [Option.bind_some, beq_self_eq_true, Bool.true_and]
            have hn1 := hl1.1.n2
            have hn3 := hl3.1.n2
            rw [flushed27 (by omega) hl3.1.m, flushed27 (by omega) hl1.1.m]
            simp only [gO, cond_true, Option.bind_some]
            rw [asame_eq (by simp; omega) (fun d hd => by obtain ⟨x, hx, rfl⟩ := List.mem_map.1 hd; exact (flW_may (hl3.1.m x hx)).small) (fun d hd => by obtain ⟨x, hx, rfl⟩ := List.mem_map.1 hd; exact (flW_may (hl1.1.m x hx)).small)]
            rw [decide_eq_true (redo_core hwr hzw hA1 hA2 hA3 hl1 hl2 hl3)]
            rfl
end Go.Proofs.Ytmlmlfghogoadaa
