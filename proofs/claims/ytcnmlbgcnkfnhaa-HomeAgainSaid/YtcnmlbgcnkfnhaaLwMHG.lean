/- Plain laws, in one text. -/
import Derived.Test.YtcnmlbgcnkfnhaaGha3
import Derived.Test.YtcnmlbgcnkfnhaaCore14
namespace Go.Proofs.Ytcnmlbgcnkfnhaa
open Go GL
/- Plain law: configs. -/

theorem fuel_lt {n : Nat} (h : n < 4294967296) : n < FUEL := by unfold FUEL; omega

/-- A loop over a list, that leaves where an element has p. -/
theorem loop_any_list {α B : Type} (l : List α) (p : α → Bool) {step : Int → Option (Ctl Int B)} (yes no : B) (hl : l.length < 4294967296)
    (h1 : ∀ k (hk : k < l.length), step (k : Int) = some (bif p l[k] then .brk yes else .next ((k + 1 : Nat) : Int))) (h2 : step (l.length : Int) = some (.brk no)) :
    loopM step FUEL (0 : Int) = some (bif l.any p then yes else no) := by
  have := loop_any (step := step) (fun k => (k : Int)) l.length (fun k => (l[k]?.map p).getD false) yes no (fuel_lt hl) (fun k hk => by
    rw [h1 k hk]; simp [hk]) h2
  rw [any_range l p _ (fun k hk => by simp [hk])] at this
  simpa using this

def outB (r : Arr3_Int) : Bool := decide (r.e0 < r.e1) || decide (r.e0 > r.e2)
theorem bounds_eq (l : List Arr3_Int) (hl : l.length < 4294967296) : shape_bounds l = some (!(l.any outB)) := by
  unfold shape_bounds
  rw [loop_any_list l outB (Sum.inr ()) (Sum.inl ()) hl]
  · cases h : l.any outB <;> simp
  · intro k hk
    unfold shape_bounds_L1
    rw [show decide ((k : Int) < (l.length : Int)) = true by simp; omega, idx_nat, List.getElem?_eq_getElem hk, wI_succ (by omega)]
    simp only [cond_true, Option.bind_some, outB]
    cases (decide (l[k].e0 < l[k].e1) || decide (l[k].e0 > l[k].e2)) <;> rfl
  · unfold shape_bounds_L1
    simp

/-- Configs that may be. -/
def MayC (c : Config) : Prop := (3 ≤ c.Members ∧ c.Members ≤ 16) ∧ (1 ≤ c.Chunk ∧ c.Chunk ≤ 8) ∧ (1 ≤ c.Rows ∧ c.Rows ≤ 8) ∧ (2 ≤ c.Heads ∧ c.Heads ≤ 8) ∧ (c.Members + 1) * (c.Heads + 1) ≤ c.Log ∧ c.Log ≤ 255
def mayC (c : Config) : Bool := ((decide (3 ≤ c.Members) && decide (c.Members ≤ 16)) && (decide (1 ≤ c.Chunk) && decide (c.Chunk ≤ 8))) && ((decide (1 ≤ c.Rows) && decide (c.Rows ≤ 8)) && ((decide (2 ≤ c.Heads) && decide (c.Heads ≤ 8)) && (decide ((c.Members + 1) * (c.Heads + 1) ≤ c.Log) && decide (c.Log ≤ 255))))
theorem mayC_iff (c : Config) : mayC c = true ↔ MayC c := by simp [mayC, MayC, and_assoc]
theorem mayC_f {c : Config} (h : ¬ MayC c) : mayC c = false := by rw [← mayC_iff] at h; simpa using h

theorem wI_need {c : Config} (h1 : 3 ≤ c.Members ∧ c.Members ≤ 16) (h2 : 2 ≤ c.Heads ∧ c.Heads ≤ 8) : wI ((wI (c.Members + 1)) * (wI (c.Heads + 1))) = (c.Members + 1) * (c.Heads + 1) := by
  rw [wI_id (x := c.Members + 1) (by omega) (by omega), wI_id (x := c.Heads + 1) (by omega) (by omega)]
  have h3 : (c.Members + 1) * (c.Heads + 1) ≤ 17 * 9 := Int.mul_le_mul (by omega) (by omega) (by omega) (by omega)
  have h4 : 0 ≤ (c.Members + 1) * (c.Heads + 1) := Int.mul_nonneg (by omega) (by omega)
  exact wI_id (by omega) (by omega)
theorem check_eq (c : Config) : shape_Check c = some (bif mayC c then 0 else 8) := by
  unfold shape_Check
  rw [bounds_eq _ (by simp)]
  simp only [Option.bind_some, List.any_cons, List.any_nil, Bool.or_false, outB]
  by_cases h : (3 ≤ c.Members ∧ c.Members ≤ 16) ∧ (1 ≤ c.Chunk ∧ c.Chunk ≤ 8) ∧ (1 ≤ c.Rows ∧ c.Rows ≤ 8) ∧ (2 ≤ c.Heads ∧ c.Heads ≤ 8)
  · obtain ⟨h1, h2, h3, h4⟩ := h
    have hb : (decide (c.Members < 3) || decide (c.Members > 16) || ((decide (c.Chunk < 1) || decide (c.Chunk > 8)) || ((decide (c.Rows < 1) || decide (c.Rows > 8)) || (decide (c.Heads < 2) || decide (c.Heads > 8))))) = false := by simp; omega
    rw [hb]
    simp only [gO, Bool.not_false, Bool.not_true, Bool.false_or, cond_true]
    rw [bounds_eq _ (by simp)]
    simp only [Option.bind_some, List.any_cons, List.any_nil, Bool.or_false, outB, wI_need h1 h4]
    by_cases h5 : (c.Members + 1) * (c.Heads + 1) ≤ c.Log ∧ c.Log ≤ 255
    · rw [(mayC_iff c).2 ⟨h1, h2, h3, h4, h5⟩]
      have : (decide (c.Log < (c.Members + 1) * (c.Heads + 1)) || decide (c.Log > 255)) = false := by simp; omega
      rw [this]; rfl
    · rw [mayC_f (fun h => h5 h.2.2.2.2)]
      have : (decide (c.Log < (c.Members + 1) * (c.Heads + 1)) || decide (c.Log > 255)) = true := by simp; omega
      rw [this]; rfl
  · have hb : (decide (c.Members < 3) || decide (c.Members > 16) || ((decide (c.Chunk < 1) || decide (c.Chunk > 8)) || ((decide (c.Rows < 1) || decide (c.Rows > 8)) || (decide (c.Heads < 2) || decide (c.Heads > 8))))) = true := by simp; omega
    rw [hb, mayC_f (fun hm => h ⟨hm.1, hm.2.1, hm.2.2.1, hm.2.2.2.1⟩)]
    rfl
theorem wI_str {c : Config} (h : MayC c) : wI (c.Chunk * c.Rows) = c.Chunk * c.Rows ∧ 1 ≤ c.Chunk * c.Rows ∧ c.Chunk * c.Rows ≤ 64 := by
  obtain ⟨_, h2, h3, _⟩ := h
  have h4 : c.Chunk * c.Rows ≤ 8 * 8 := Int.mul_le_mul (by omega) (by omega) (by omega) (by omega)
  have h5 : 1 * 1 ≤ c.Chunk * c.Rows := Int.mul_le_mul (by omega) (by omega) (by omega) (by omega)
  exact ⟨wI_id (by omega) (by omega), by omega, by omega⟩
theorem stripes_eq (c : Config) : shape_Stripes c = some (bif mayC c then (c.Chunk * c.Rows, 0) else (0, 8)) := by
  unfold shape_Stripes shape_told
  rw [check_eq]
  cases h : mayC c with
  | true => simp [(wI_str ((mayC_iff c).1 h)).1]
  | false => simp
/- Plain law: devices: which may be, copies, blocks. -/

theorem fuel_ltD {n : Nat} (h : n < 4294967296) : n < FUEL := by unfold FUEL; omega
theorem loop_anyD {α B : Type} (l : List α) (p : α → Bool) {step : Int → Option (Ctl Int B)} (yes no : B) (hl : l.length < 4294967296)
    (h1 : ∀ k (hk : k < l.length), step (k : Int) = some (bif p l[k] then .brk yes else .next ((k + 1 : Nat) : Int))) (h2 : step (l.length : Int) = some (.brk no)) :
    loopM step FUEL (0 : Int) = some (bif l.any p then yes else no) := by
  have := loop_any (step := step) (fun k => (k : Int)) l.length (fun k => (l[k]?.map p).getD false) yes no (fuel_ltD hl) (fun k hk => by
    rw [h1 k hk]; simp [hk]) h2
  rw [any_range l p _ (fun k hk => by simp [hk])] at this
  simpa using this
/-- The same for two lists of one length. -/
theorem loop_any2 {α β B : Type} (l : List α) (m : List β) (p : α → β → Bool) {step : Int → Option (Ctl Int B)} (yes no : B) (hl : l.length < 4294967296) (hm : l.length = m.length)
    (h1 : ∀ k (hk : k < l.length) (hk' : k < m.length), step (k : Int) = some (bif p l[k] m[k] then .brk yes else .next ((k + 1 : Nat) : Int))) (h2 : step (l.length : Int) = some (.brk no)) :
    loopM step FUEL (0 : Int) = some (bif (l.zip m).any (fun x => p x.1 x.2) then yes else no) := by
  have hz : (l.zip m).length = l.length := by simp; omega
  have := loop_anyD (l.zip m) (fun x => p x.1 x.2) (step := step) yes no (by omega) (fun k hk => by
    rw [h1 k (by omega) (by omega)]; simp) (by rw [hz]; exact h2)
  exact this
theorem zip_any_ne {α γ : Type} [DecidableEq γ] (f : α → γ) : ∀ (l m : List α), l.length = m.length → ((l.zip m).any (fun x => !decide (f x.1 = f x.2))) = !decide (l.map f = m.map f)
  | [], [], _ => by simp
  | [], _ :: _, h => by simp at h
  | _ :: _, [], h => by simp at h
  | a :: l, b :: m, h => by
    simp only [List.zip_cons_cons, List.any_cons, List.map_cons, zip_any_ne f l m (by simpa using h)]
    rw [Bool.eq_iff_iff]
    simp only [Bool.or_eq_true, Bool.not_eq_true', decide_eq_false_iff_not, List.cons.injEq]
    by_cases h1 : f a = f b <;> by_cases h2 : l.map f = m.map f <;> simp [h1, h2]

def fullB (b : List UInt8) : List UInt8 := if b.length = 0 then List.replicate 128 0 else b
def szB (b : List UInt8) : Bool := b.length == 0 || b.length == 128
theorem fullB_len {b : List UInt8} (h : szB b = true) : (fullB b).length = 128 := by
  unfold szB at h; unfold fullB
  simp at h
  split
  · simp
  · rcases h with h | h
    · subst h; simp at *
    · exact h
theorem fullB_ne (b : List UInt8) : (fullB b).length ≠ 0 := by
  unfold fullB
  split
  · rw [List.length_replicate]; omega
  · assumption
theorem fullB_full (b : List UInt8) : fullB (fullB b) = fullB b := by
  rw [show fullB (fullB b) = if (fullB b).length = 0 then List.replicate 128 0 else fullB b from rfl, if_neg (fullB_ne b)]
theorem szB_full {b : List UInt8} (h : szB b = true) : szB (fullB b) = true := by
  have := fullB_len h
  unfold szB; rw [this]; rfl

theorem pblock_eq {b : List UInt8} (h : b.length < 4294967296) : disk_block b = some (fullB b) := by
  unfold disk_block slices_Clone_byte_byte fullB
  by_cases h0 : b.length = 0
  · rw [if_pos h0, show (((b.length : Nat) : Int) == 0) = true by simp [h0]]
    rw [show (128 : Int) = ((128 : Nat) : Int) from rfl, makeL_some _ _ (by omega)]; rfl
  · rw [if_neg h0, show (((b.length : Nat) : Int) == 0) = false by simp; intro hb; apply h0; simp [hb]]
    rw [app_some _ _ (by simpa using h)]; rfl
theorem podd_eq (b : List UInt8) : disk_odd b = some (!szB b) := by
  unfold disk_odd szB
  congr 1
  rw [Bool.eq_iff_iff]; simp only [Bool.and_eq_true, bne_iff_ne, ne_eq, Bool.not_eq_true', Bool.or_eq_false_iff, beq_eq_false_iff_ne]; omega
/-- Devices of sizes that are gone through. -/
structure SmallD (d : Disk) : Prop where
  nb : d.Blocks.length ≤ 100000
  nw : d.Wait.length ≤ 100000
  lb : ∀ b ∈ d.Blocks, b.length ≤ 1000000
  lw : ∀ w ∈ d.Wait, w.Data.length ≤ 1000000

theorem sum_loop {α : Type} (l : List α) (len : α → Nat) (m : Nat) (hm : m ≤ 2000) {step : Int × Int → Option (Ctl (Int × Int) Int)} (n0 : Int) (h0 : 0 ≤ n0) (h0' : n0 ≤ 1000000000)
    (h1 : ∀ k (hk : k < l.length) (n : Int), k < m → step (n, (k : Int)) = some (.next (wI (n + wI (8 + min ((len l[k] : Nat) : Int) 100000)), wI ((k : Int) + 1))))
    (h2 : ∀ (n : Int) (k : Nat), ¬(k < l.length ∧ k < m) → step (n, (k : Int)) = some (.brk n)) :
    ∃ b, loopM step FUEL (n0, (0 : Int)) = some b ∧ n0 ≤ b ∧ b ≤ n0 + 200000 * m ∧ ∀ j (hj : j < l.length), j < m → min ((len l[j] : Nat) : Int) 100000 ≤ b := by
  refine loop_inv (step := step) (min l.length m)
    (fun k s => s.2 = (k : Int) ∧ n0 ≤ s.1 ∧ s.1 ≤ n0 + 200000 * (k : Int) ∧ ∀ j (hj : j < l.length), j < k → min ((len l[j] : Nat) : Int) 100000 ≤ s.1) _ (fun k s hk hI => ?_) FUEL 0 (n0, 0) (Nat.zero_le _) (by unfold FUEL; omega) ⟨rfl, by simp, by simp, fun j _ hj => by omega⟩
  obtain ⟨s1, s2⟩ := s
  obtain ⟨e1, e2, e3, e4⟩ := hI
  simp only at e1 e2 e3 e4
  subst e1
  by_cases hlt : k < l.length ∧ k < m
  · refine .inl ⟨_, h1 k hlt.1 s1 hlt.2, by omega, ?_⟩
    rw [wI_id (x := 8 + min ((len l[k] : Nat) : Int) 100000) (by omega) (by omega), wI_id (by omega) (by omega), wI_succ (by omega)]
    refine ⟨rfl, by simp only; omega, by simp only; omega, fun j hj hjk => ?_⟩
    simp only
    by_cases hjk' : j = k
    · subst hjk'; omega
    · have := e4 j hj (by omega); omega
  · exact .inr ⟨s1, h2 s1 k hlt, e2, by omega, fun j hj hjm => e4 j hj (by omega)⟩

theorem dgreat_eq (d : Disk) : ∃ g, ref04_Great d = some g ∧ (g = false → SmallD d ∧ d.Blocks.length ≤ 300 ∧ d.Wait.length ≤ 1100) := by
  unfold ref04_Great
  obtain ⟨b5, hb, h1, h2, h3⟩ := sum_loop d.Blocks List.length 400 (by omega) (step := fun s : Int × Int => ref04_Great_L1 d s.1 s.2) 0 (by omega) (by omega) (fun k hk n hm => by
      show ref04_Great_L1 d n (k : Int) = _
      unfold ref04_Great_L1
      rw [show (decide ((k : Int) < (d.Blocks.length : Int)) && decide ((k : Int) < (400 : Int))) = true by simp; omega, idx_nat, List.getElem?_eq_getElem hk]; rfl) (fun n k hk => by
      show ref04_Great_L1 d n (k : Int) = _
      unfold ref04_Great_L1
      rw [show (decide ((k : Int) < (d.Blocks.length : Int)) && decide ((k : Int) < (400 : Int))) = false by simp; omega]; rfl)
  rw [hb]
  simp only [Option.bind_some]
  obtain ⟨b6, hc, k1, k2, k3⟩ := sum_loop d.Wait (fun w => w.Data.length) 1200 (by omega) (step := fun s : Int × Int => ref04_Great_L2 d s.1 s.2) b5 (by omega) (by omega) (fun k hk n hm => by
      show ref04_Great_L2 d n (k : Int) = _
      unfold ref04_Great_L2
      rw [show (decide ((k : Int) < (d.Wait.length : Int)) && decide ((k : Int) < (1200 : Int))) = true by simp; omega, idx_nat, List.getElem?_eq_getElem hk]; rfl) (fun n k hk => by
      show ref04_Great_L2 d n (k : Int) = _
      unfold ref04_Great_L2
      rw [show (decide ((k : Int) < (d.Wait.length : Int)) && decide ((k : Int) < (1200 : Int))) = false by simp; omega]; rfl)
  rw [hc]
  simp only [Option.bind_some]
  refine ⟨_, rfl, fun hg => ?_⟩
  simp only [Bool.or_eq_false_iff, decide_eq_false_iff_not, Int.not_lt] at hg
  obtain ⟨⟨g1, g2⟩, g3⟩ := hg
  refine ⟨⟨by omega, by omega, fun b hb => ?_, fun w hw => ?_⟩, by omega, by omega⟩
  · obtain ⟨j, hj, rfl⟩ := List.getElem_of_mem hb
    have := h3 j hj (by omega); omega
  · obtain ⟨j, hj, rfl⟩ := List.getElem_of_mem hw
    have := k3 j hj (by omega); omega

theorem ptwin_eq {d : Disk} (h : SmallD d) : disk_Twin d = some d := by
  have hnb := h.nb
  have hnw := h.nw
  unfold disk_Twin
  have t1 := loop_run (step := fun s : Int × (List (List UInt8)) => disk_Twin_L1 d s.1 s.2) (fun k => ((k : Int), d.Blocks.take k)) d.Blocks.length d.Blocks (fuel_ltD (by omega)) (fun k hk => by
    obtain ⟨x, hx⟩ : ∃ x, d.Blocks[k]? = some x := ⟨_, List.getElem?_eq_getElem hk⟩
    have hxl := h.lb x (List.mem_of_getElem? hx)
    unfold disk_Twin_L1 slices_Clone_byte_byte
    simp only [decide_eq_true (show (k : Int) < (d.Blocks.length : Int) by omega), cond_true, idx_nat, hx, Option.bind_some, wI_succ (show k < 9223372036854775807 by omega)]
    rw [app_some _ _ (by simp; omega)]
    simp only [Option.bind_some, List.nil_append]
    rw [app_some _ _ (by simp; omega), take_succ_get _ _ _ hx]
    rfl) (by
    unfold disk_Twin_L1
    rw [decide_eq_false (by omega), List.take_length]; rfl)
  have h0 : ((0 : Int), ([] : List (List UInt8))) = (fun k : Nat => ((k : Int), d.Blocks.take k)) 0 := by simp
  rw [h0, t1]
  simp only [Option.bind_some]
  have t2 := loop_run (step := fun s : Int × (List Write) => disk_Twin_L2 d s.1 s.2) (fun k => ((k : Int), d.Wait.take k)) d.Wait.length d.Wait (fuel_ltD (by omega)) (fun k hk => by
    obtain ⟨x, hx⟩ : ∃ x, d.Wait[k]? = some x := ⟨_, List.getElem?_eq_getElem hk⟩
    have hxl := h.lw x (List.mem_of_getElem? hx)
    unfold disk_Twin_L2 slices_Clone_byte_byte
    simp only [decide_eq_true (show (k : Int) < (d.Wait.length : Int) by omega), cond_true, idx_nat, hx, Option.bind_some, wI_succ (show k < 9223372036854775807 by omega)]
    rw [app_some _ _ (by simp; omega)]
    simp only [Option.bind_some, List.nil_append]
    rw [app_some _ _ (by simp; omega), take_succ_get _ _ _ hx]
    rfl) (by
    unfold disk_Twin_L2
    rw [decide_eq_false (by omega), List.take_length]; rfl)
  have h1 : ((0 : Int), ([] : List Write)) = (fun k : Nat => ((k : Int), d.Wait.take k)) 0 := by simp
  rw [h1, t2]; rfl

/-! ### which devices may be -/
def badW (n : Nat) (w : Write) : Bool := decide (w.At < 0) || (decide (w.At ≥ (n : Int)) || !szB w.Data)
def mayD (d : Disk) : Bool :=
  decide (1 ≤ d.Blocks.length) && (decide (d.Blocks.length ≤ 256) && (decide (d.Wait.length ≤ 1024) && (!(d.Dead && decide (0 < d.Wait.length)) && (!(d.Blocks.any fun b => !szB b || (d.Dead && decide (0 < b.length))) && !(d.Wait.any (badW d.Blocks.length))))))
structure MayD (d : Disk) : Prop where
  n1 : 1 ≤ d.Blocks.length
  n2 : d.Blocks.length ≤ 256
  nw : d.Wait.length ≤ 1024
  dw : d.Dead = true → d.Wait = []
  db : d.Dead = true → ∀ b ∈ d.Blocks, b = []
  sz : ∀ b ∈ d.Blocks, szB b = true
  wt : ∀ w ∈ d.Wait, 0 ≤ w.At ∧ w.At < (d.Blocks.length : Int) ∧ szB w.Data = true
theorem mayD_iff (d : Disk) : mayD d = true ↔ MayD d := by
  unfold mayD
  simp only [Bool.and_eq_true, decide_eq_true_eq, Bool.not_eq_true', List.any_eq_false, Bool.or_eq_true, not_or, Bool.and_eq_false_iff, decide_eq_false_iff_not, badW, not_and]
  constructor
  · rintro ⟨h1, h2, h3, h4, h5, h6⟩
    refine ⟨h1, h2, h3, fun hd => ?_, fun hd b hb => ?_, fun b hb => ?_, fun w hw => ?_⟩
    · rcases h4 with h4 | h4
      · rw [hd] at h4; cases h4
      · exact List.eq_nil_of_length_eq_zero (by omega)
    · have := (h5 b hb).2 hd
      exact List.eq_nil_of_length_eq_zero (by omega)
    · have := (h5 b hb).1
      simpa using this
    · obtain ⟨k1, k2, k3⟩ := h6 w hw
      exact ⟨by omega, by omega, by simpa using k3⟩
  · rintro ⟨h1, h2, h3, h4, h5, h6, h7⟩
    refine ⟨h1, h2, h3, ?_, fun b hb => ⟨by rw [h6 b hb]; simp, fun hd => by rw [h5 hd b hb]; simp⟩, fun w hw => ?_⟩
    · cases hd : d.Dead with
      | false => exact .inl rfl
      | true => right; rw [h4 hd]; simp
    · obtain ⟨k1, k2, k3⟩ := h7 w hw
      exact ⟨by omega, by omega, by rw [k3]; simp⟩
theorem MayD.small {d : Disk} (h : MayD d) : SmallD d :=
  ⟨by have := h.n2; omega, by have := h.nw; omega, fun b hb => by have := h.sz b hb; unfold szB at this; simp at this; rcases this with e | e <;> simp_all,
    fun w hw => by have := (h.wt w hw).2.2; unfold szB at this; simp at this; rcases this with e | e <;> simp_all⟩

/-- A loop that looks for the first element with p. -/
theorem loop_first {α B : Type} (l : List α) (p : α → Bool) {step : Int → Option (Ctl Int B)} (yes : Nat → B) (no : B) (hl : l.length < 4294967296)
    (h1 : ∀ k (hk : k < l.length), step (k : Int) = some (bif p l[k] then .brk (yes k) else .next ((k + 1 : Nat) : Int))) (h2 : step (l.length : Int) = some (.brk no)) :
    ∃ b, loopM step FUEL (0 : Int) = some b ∧ ((∃ k, b = yes k ∧ ∃ hk : k < l.length, p l[k] = true ∧ ∀ j (hj : j < l.length), j < k → p l[j] = false) ∨ (b = no ∧ ∀ x ∈ l, p x = false)) := by
  refine loop_inv (step := step) l.length (fun k s => s = (k : Int) ∧ ∀ j (hj : j < l.length), j < k → p l[j] = false) _ (fun k s hk hI => ?_) FUEL 0 0 (Nat.zero_le _) (by have := fuel_ltD hl; omega) ⟨rfl, fun j _ hj => by omega⟩
  obtain ⟨rfl, hI⟩ := hI
  by_cases hlt : k < l.length
  · rw [h1 k hlt]
    cases hp : p l[k] with
    | true => exact .inr ⟨_, rfl, .inl ⟨k, rfl, hlt, hp, hI⟩⟩
    | false =>
      refine .inl ⟨_, rfl, hlt, rfl, fun j hj hjk => ?_⟩
      by_cases he : j = k
      · subst he; exact hp
      · exact hI j hj (by omega)
  · obtain rfl : k = l.length := by omega
    refine .inr ⟨_, h2, .inr ⟨rfl, fun x hx => ?_⟩⟩
    obtain ⟨j, hj, rfl⟩ := List.getElem_of_mem hx
    exact hI j hj hj
theorem contB_eq (l : List (List UInt8)) (f : List UInt8 → Option Bool) (p : List UInt8 → Bool) (hl : l.length < 4294967296) (hf : ∀ x ∈ l, f x = some (p x)) : slices_ContainsFunc_byte_byte l f = some (l.any p) := by
  unfold slices_ContainsFunc_byte_byte slices_IndexFunc_byte_byte
  obtain ⟨b, hb, hq⟩ := loop_first l p (step := fun s : Int => slices_IndexFunc_byte_byte_L1 l f s) (fun k => Sum.inr (k : Int)) (Sum.inl ()) hl (fun k hk => by
      unfold slices_IndexFunc_byte_byte_L1
      rw [decide_eq_true (show (k : Int) < (l.length : Int) by omega), idx_nat, List.getElem?_eq_getElem hk, wI_succ (by omega)]
      simp only [cond_true, Option.bind_some, hf l[k] (List.getElem_mem _)]
      cases p l[k] <;> rfl) (by
      unfold slices_IndexFunc_byte_byte_L1
      rw [decide_eq_false (show ¬(l.length : Int) < (l.length : Int) by omega)]; rfl)
  rw [hb]
  rcases hq with ⟨k, rfl, hk, hp, _⟩ | ⟨rfl, hn⟩
  · rw [List.any_eq_true.2 ⟨l[k], List.getElem_mem _, hp⟩]; simp
  · rw [List.any_eq_false.2 (fun x hx => by rw [hn x hx]; simp)]; rfl
theorem indexW_eq (l : List Write) (f : Write → Option Bool) (p : Write → Bool) (hl : l.length < 4294967296) (hf : ∀ x ∈ l, f x = some (p x)) :
    ∃ i, slices_IndexFunc_api_Write_api_Write l f = some i ∧ ((∃ k : Nat, i = (k : Int) ∧ ∃ hk : k < l.length, p l[k] = true ∧ ∀ j (hj : j < l.length), j < k → p l[j] = false) ∨ (i = -1 ∧ ∀ x ∈ l, p x = false)) := by
  unfold slices_IndexFunc_api_Write_api_Write
  obtain ⟨b, hb, hq⟩ := loop_first l p (step := fun s : Int => slices_IndexFunc_api_Write_api_Write_L1 l f s) (fun k => Sum.inr (k : Int)) (Sum.inl ()) hl (fun k hk => by
      unfold slices_IndexFunc_api_Write_api_Write_L1
      rw [decide_eq_true (show (k : Int) < (l.length : Int) by omega), idx_nat, List.getElem?_eq_getElem hk, wI_succ (by omega)]
      simp only [cond_true, Option.bind_some, hf l[k] (List.getElem_mem _)]
      cases p l[k] <;> rfl) (by
      unfold slices_IndexFunc_api_Write_api_Write_L1
      rw [decide_eq_false (show ¬(l.length : Int) < (l.length : Int) by omega)]; rfl)
  rw [hb]
  rcases hq with ⟨k, rfl, hk, hp, hm⟩ | ⟨rfl, hn⟩
  · exact ⟨_, rfl, .inl ⟨k, rfl, hk, hp, hm⟩⟩
  · exact ⟨_, rfl, .inr ⟨rfl, hn⟩⟩
theorem contW_eq (l : List Write) (f : Write → Option Bool) (p : Write → Bool) (hl : l.length < 4294967296) (hf : ∀ x ∈ l, f x = some (p x)) : slices_ContainsFunc_api_Write_api_Write l f = some (l.any p) := by
  unfold slices_ContainsFunc_api_Write_api_Write
  obtain ⟨i, hi, hq⟩ := indexW_eq l f p hl hf
  rw [hi]
  rcases hq with ⟨k, rfl, hk, hp, _⟩ | ⟨rfl, hn⟩
  · rw [List.any_eq_true.2 ⟨l[k], List.getElem_mem _, hp⟩]; simp
  · rw [List.any_eq_false.2 (fun x hx => by rw [hn x hx]; simp)]; rfl

theorem any_orD {α : Type} (l : List α) (p q : α → Bool) : (l.any fun x => p x || q x) = (l.any p || l.any q) := by
  induction l with
  | nil => rfl
  | cons a l ih => simp only [List.any_cons, ih]; cases p a <;> cases q a <;> cases l.any p <;> rfl

theorem pcheck_eq (d : Disk) : disk_Check d = some (bif mayD d then 0 else 8) := by
  unfold disk_Check mayD
  by_cases h1 : 1 ≤ d.Blocks.length
  case neg =>
    rw [decide_eq_true (show ((d.Blocks.length : Nat) : Int) < 1 by omega), decide_eq_false h1]; rfl
  by_cases h2 : d.Blocks.length ≤ 256
  case neg =>
    rw [decide_eq_true (show ((d.Blocks.length : Nat) : Int) > 256 by omega), decide_eq_false h2]; simp [gO]
  by_cases h3 : d.Wait.length ≤ 1024
  case neg =>
    rw [decide_eq_true (show ((d.Wait.length : Nat) : Int) > 1024 by omega), decide_eq_false h3]; simp [gO]
  rw [decide_eq_false (show ¬((d.Blocks.length : Nat) : Int) < 1 by omega), decide_eq_false (show ¬((d.Blocks.length : Nat) : Int) > 256 by omega), decide_eq_false (show ¬((d.Wait.length : Nat) : Int) > 1024 by omega)]
  rw [decide_eq_true h1, decide_eq_true h2, decide_eq_true h3]
  simp only [Bool.or_self, Bool.not_false, gO, cond_true, Bool.false_or, Bool.true_and]
  rw [contB_eq d.Blocks _ (fun b => !szB b) (by omega) (fun x _ => podd_eq x)]
  simp only [Option.bind_some]
  rw [any_orD]
  cases hs : (d.Blocks.any fun b => !szB b) with
  | true => simp
  | false =>
  simp only [cond_false, Bool.false_or]
  rw [contW_eq d.Wait _ (badW d.Blocks.length) (by omega) (fun w _ => by
    unfold disk_Check_1 badW
    rw [podd_eq]
    cases decide (w.At < 0) <;> cases decide (w.At ≥ ((d.Blocks.length : Nat) : Int)) <;> simp [gO])]
  simp only [Option.bind_some]
  cases hw : d.Wait.any (badW d.Blocks.length) with
  | true => simp
  | false =>
  simp only [cond_false, Bool.not_false, Bool.and_true]
  rw [contB_eq d.Blocks _ (fun b => decide (0 < b.length)) (by omega) (fun x _ => by
    unfold disk_Check_2; congr 1; exact decide_eq_decide.2 (by omega))]
  rw [show decide (((d.Wait.length : Nat) : Int) > 0) = decide (0 < d.Wait.length) from decide_eq_decide.2 (by omega)]
  cases hd : d.Dead with
  | false =>
    have hf : (d.Blocks.any fun b => (false && decide (0 < b.length))) = false := List.any_eq_false.2 (fun _ _ => by simp)
    simp only [Bool.false_and, cond_false, Option.bind_some, Bool.not_false, Bool.true_and] at hf ⊢
    rw [hf]; rfl
  | true =>
    cases hn : decide (0 < d.Wait.length) with
    | true => simp
    | false =>
      simp only [Bool.true_and, Bool.not_false, cond_true, Option.bind_some, Bool.false_or]
      cases d.Blocks.any (fun b => decide (0 < b.length)) <;> rfl

/- Plain law: devices: comparing, reading, writing. -/

def viewW (w : Write) : Int × List UInt8 := (w.At, fullB w.Data)
def viewD (d : Disk) : List (List UInt8) × List (Int × List UInt8) × Bool := (d.Blocks.map fullB, d.Wait.map viewW, d.Dead)

theorem beqL (a b : List UInt8) : (a == b) = decide (a = b) := by rw [Bool.eq_iff_iff]; simp

theorem peq_eq (x y : List UInt8) (hx : x.length < 4294967296) (hy : y.length < 4294967296) : disk_Same_1 x y = some (decide (fullB x = fullB y)) := by
  unfold disk_Same_1
  rw [pblock_eq hx, pblock_eq hy]
  unfold bytes_Equal
  simp only [Option.bind_some, beqL]
theorem psame_eq {a b : Disk} (ha : SmallD a) (hb : SmallD b) : disk_Same a b = some (decide (viewD a = viewD b)) := by
  have a1 := ha.nb; have a2 := ha.nw; have b1 := hb.nb; have b2 := hb.nw
  unfold disk_Same
  by_cases h3 : a.Dead = b.Dead
  case neg =>
    rw [show (a.Dead == b.Dead) = false by simpa using h3]
    rw [decide_eq_false (fun e => h3 (congrArg (fun v => v.2.2) e))]
    simp only [gO, cond_false, Option.bind_some, Bool.false_and]
    unfold disk_Same_J1
    rw [show (a.Dead == b.Dead) = false by simpa using h3]; rfl
  have hde : (a.Dead == b.Dead) = true := by simpa using h3
  rw [hde]
  have hE : slices_EqualFunc_byte_byte_byte_byte a.Blocks b.Blocks (fun y => disk_Same_1 y.1 y.2) = some (decide (a.Blocks.map fullB = b.Blocks.map fullB)) := by
    unfold slices_EqualFunc_byte_byte_byte_byte
    by_cases h1 : a.Blocks.length = b.Blocks.length
    case neg =>
      rw [show (((a.Blocks.length : Nat) : Int) != ((b.Blocks.length : Nat) : Int)) = true by simp; omega]
      rw [decide_eq_false (fun e => h1 (by have := congrArg List.length e; simpa using this))]; rfl
    rw [show (((a.Blocks.length : Nat) : Int) != ((b.Blocks.length : Nat) : Int)) = false by simp; omega]
    simp only [cond_false]
    rw [loop_any2 a.Blocks b.Blocks (fun x y => !decide (fullB x = fullB y)) (step := fun s : Int => slices_EqualFunc_byte_byte_byte_byte_L1 a.Blocks b.Blocks (fun y => disk_Same_1 y.1 y.2) s) (Sum.inr ()) (Sum.inl ()) (by omega) h1 (fun k hk hk' => by
      unfold slices_EqualFunc_byte_byte_byte_byte_L1
      have k1 := ha.lb _ (List.getElem_mem hk)
      have k2 := hb.lb _ (List.getElem_mem hk')
      rw [decide_eq_true (show (k : Int) < (a.Blocks.length : Int) by omega), idx_nat, idx_nat, List.getElem?_eq_getElem hk, List.getElem?_eq_getElem hk', wI_succ (by omega)]
      simp only [cond_true, Option.bind_some]
      rw [peq_eq _ _ (by omega) (by omega)]
      simp only [Option.bind_some]
      cases decide (fullB a.Blocks[k] = fullB b.Blocks[k]) <;> rfl) (by
      unfold slices_EqualFunc_byte_byte_byte_byte_L1
      rw [decide_eq_false (by omega)]; rfl), zip_any_ne fullB _ _ h1]
    cases decide (a.Blocks.map fullB = b.Blocks.map fullB) <;> rfl
  rw [hE]
  simp only [gO, cond_true, Option.bind_some, Bool.true_and]
  by_cases e1 : a.Blocks.map fullB = b.Blocks.map fullB
  case neg =>
    rw [decide_eq_false e1, decide_eq_false (fun e => e1 (congrArg (fun v => v.1) e))]
    simp only [cond_false]
    unfold disk_Same_J1
    rw [hde]; rfl
  rw [decide_eq_true e1]
  simp only [cond_true]
  by_cases h2 : a.Wait.length = b.Wait.length
  case neg =>
    rw [show (((a.Wait.length : Nat) : Int) != ((b.Wait.length : Nat) : Int)) = true by simp; omega]
    rw [decide_eq_false (fun e => h2 (by have := congrArg (fun v => v.2.1.length) e; simpa [viewD] using this))]
    simp only [cond_true]
    unfold disk_Same_J1
    simp
  rw [show (((a.Wait.length : Nat) : Int) != ((b.Wait.length : Nat) : Int)) = false by simp; omega]
  simp only [cond_false]
  rw [loop_any2 a.Wait b.Wait (fun x y => !decide (viewW x = viewW y)) (step := fun s : Int => disk_Same_L2 a b s) (Sum.inr ()) (Sum.inl ()) (by omega) h2 (fun k hk hk' => by
    unfold disk_Same_L2 viewW
    have k1 := ha.lw _ (List.getElem_mem hk)
    have k2 := hb.lw _ (List.getElem_mem hk')
    rw [decide_eq_true (show (k : Int) < (a.Wait.length : Int) by omega), idx_nat, idx_nat, List.getElem?_eq_getElem hk, List.getElem?_eq_getElem hk']
    simp only [cond_true, Option.bind_some, disk_Same_J4, disk_Same_J3]
    rw [wI_succ (by omega)]
    by_cases hat : a.Wait[k].At = b.Wait[k].At
    · rw [show (a.Wait[k].At == b.Wait[k].At) = true by simpa using hat]
      simp only [cond_true, Option.bind_some, Bool.true_and]
      rw [pblock_eq (by omega), pblock_eq (by omega)]
      unfold bytes_Equal
      simp only [Option.bind_some, beqL]
      rw [show decide ((a.Wait[k].At, fullB a.Wait[k].Data) = (b.Wait[k].At, fullB b.Wait[k].Data)) = decide (fullB a.Wait[k].Data = fullB b.Wait[k].Data) from decide_eq_decide.2 (by simp [hat])]
      cases decide (fullB a.Wait[k].Data = fullB b.Wait[k].Data) <;> rfl
    · rw [show (a.Wait[k].At == b.Wait[k].At) = false by simpa using hat]
      rw [decide_eq_false (fun e => hat (congrArg Prod.fst e))]
      simp) (by
    unfold disk_Same_L2
    rw [decide_eq_false (by omega)]; rfl), zip_any_ne viewW _ _ h2]
  simp only [Option.bind_some]
  unfold disk_Same_J1
  rw [hde]
  by_cases e2 : a.Wait.map viewW = b.Wait.map viewW
  · rw [decide_eq_true e2, decide_eq_true (by simp [viewD, e1, e2, h3])]; rfl
  · rw [decide_eq_false e2, decide_eq_false (fun e => e2 (congrArg (fun v => v.2.1) e))]; rfl

/-! ### reading -/
def liesD (d : Disk) (at_ : Nat) : List UInt8 := fullB (d.Blocks.getD at_ [])
def overW (at_ : Int) (acc : List UInt8) (w : Write) : List UInt8 := if w.At = at_ then fullB w.Data else acc
def seenD (d : Disk) (at_ : Nat) : List UInt8 := d.Wait.foldl (overW (at_ : Int)) (liesD d at_)
def askD (d : Disk) (at_ : Int) : Int := bif mayD d then (bif decide (at_ < 0) || decide (at_ ≥ (d.Blocks.length : Int)) then 2 else 0) else 8

theorem over_none (at_ : Int) : ∀ (l : List Write) (acc : List UInt8), (∀ w ∈ l, w.At ≠ at_) → l.foldl (overW at_) acc = acc
  | [], _, _ => rfl
  | w :: l, acc, h => by
    rw [List.foldl_cons, show overW at_ acc w = acc from if_neg (h w (by simp))]
    exact over_none at_ l acc (fun x hx => h x (by simp [hx]))
theorem over_last (at_ : Int) (l : List Write) (acc : List UInt8) (i : Nat) (hi : i < l.length) (h1 : l[i].At = at_) (h2 : ∀ j (hj : j < l.length), i < j → l[j].At ≠ at_) : l.foldl (overW at_) acc = fullB l[i].Data := by
  have hsplit : l = l.take i ++ (l[i] :: l.drop (i + 1)) := by rw [List.getElem_cons_drop, List.take_append_drop]
  rw [show l.foldl (overW at_) acc = (l.take i ++ (l[i] :: l.drop (i + 1))).foldl (overW at_) acc by rw [← hsplit]]
  rw [List.foldl_append, List.foldl_cons, show overW at_ ((l.take i).foldl (overW at_) acc) l[i] = fullB l[i].Data from if_pos h1]
  refine over_none at_ _ _ (fun w hw => ?_)
  obtain ⟨j, hj, rfl⟩ := List.getElem_of_mem hw
  rw [List.getElem_drop]
  exact h2 _ _ (by omega)

theorem pplace_eq (d : Disk) (at_ : Int) : disk_place d at_ = some (askD d at_) := by
  unfold disk_place askD
  rw [pcheck_eq]
  simp only [Option.bind_some]
  cases mayD d with
  | false => rfl
  | true => cases (decide (at_ < 0) || decide (at_ ≥ (d.Blocks.length : Int))) <;> rfl
theorem askD_ok {d : Disk} {at_ : Int} (h : askD d at_ = 0) : MayD d ∧ ∃ k : Nat, at_ = (k : Int) ∧ k < d.Blocks.length := by
  unfold askD at h
  cases hm : mayD d with
  | false => rw [hm] at h; simp at h
  | true =>
    rw [hm] at h
    simp only [cond_true] at h
    cases hc : (decide (at_ < 0) || decide (at_ ≥ (d.Blocks.length : Int))) with
    | true => rw [hc] at h; simp at h
    | false =>
      simp only [Bool.or_eq_false_iff, decide_eq_false_iff_not] at hc
      exact ⟨(mayD_iff d).1 hm, at_.toNat, by omega, by omega⟩

def lastD (d : Disk) (at_ : Int) : List UInt8 × Int := bif (askD d at_ != 0) then ([], askD d at_) else bif d.Dead then ([], 40) else (liesD d at_.toNat, 0)
def readD (d : Disk) (at_ : Int) : List UInt8 × Int := bif (askD d at_ != 0) then ([], askD d at_) else bif d.Dead then ([], 40) else (seenD d at_.toNat, 0)
theorem plast_eq (d : Disk) (at_ : Int) : disk_Lasting d at_ = some (lastD d at_) := by
  unfold disk_Lasting lastD
  rw [pplace_eq]
  simp only [Option.bind_some]
  cases h : (askD d at_ != 0) with
  | true => rfl
  | false =>
    obtain ⟨hm, k, rfl, hk⟩ := askD_ok (by simpa using h)
    cases d.Dead with
    | true => rfl
    | false =>
      have := hm.small.lb _ (List.getElem_mem hk)
      simp only [cond_false, idx_nat, List.getElem?_eq_getElem hk, Option.bind_some]
      rw [pblock_eq (by omega)]
      simp [liesD, hk]
theorem pread_eq (d : Disk) (at_ : Int) : disk_Read d at_ = some (readD d at_) := by
  unfold disk_Read
  rw [plast_eq]
  simp only [Option.bind_some]
  unfold lastD readD
  cases h : (askD d at_ != 0) with
  | true => simp only [cond_true, h]
  | false =>
    obtain ⟨hm, k, rfl, hk⟩ := askD_ok (by simpa using h)
    cases d.Dead with
    | true => rfl
    | false =>
      simp only [cond_false, bne_self_eq_false, Int.toNat_natCast]
      unfold disk_Read_J1
      have hw := hm.small.nw
      obtain ⟨b, hb, hq⟩ := loop_inv (step := fun s : Int => disk_Read_L2 d (k : Int) s) d.Wait.length (fun i s => s = (d.Wait.length : Int) - 1 - (i : Int) ∧ ∀ j (hj : j < d.Wait.length), d.Wait.length - i ≤ j → d.Wait[j].At ≠ (k : Int))
        (fun b => (b = Sum.inl () ∧ seenD d k = liesD d k) ∨ b = Sum.inr (seenD d k)) (fun i s hi hI => by
        obtain ⟨rfl, hI⟩ := hI
        unfold disk_Read_L2
        by_cases hlt : i < d.Wait.length
        · have hj : d.Wait.length - 1 - i < d.Wait.length := by omega
          have hd := hm.small.lw _ (List.getElem_mem hj)
          rw [decide_eq_true (by omega), show (d.Wait.length : Int) - 1 - (i : Int) = ((d.Wait.length - 1 - i : Nat) : Int) by omega, idx_nat, List.getElem?_eq_getElem hj]
          simp only [cond_true, Option.bind_some]
          by_cases hat : d.Wait[d.Wait.length - 1 - i].At = (k : Int)
          · rw [show (d.Wait[d.Wait.length - 1 - i].At == (k : Int)) = true by simpa using hat, pblock_eq (by omega)]
            refine .inr ⟨_, rfl, .inr ?_⟩
            unfold seenD
            rw [over_last (k : Int) d.Wait _ _ hj hat (fun j hj' hlt' => hI j hj' (by omega))]
          · rw [show (d.Wait[d.Wait.length - 1 - i].At == (k : Int)) = false by simpa using hat, wI_id (by omega) (by omega)]
            refine .inl ⟨_, rfl, hlt, by omega, fun j hj' hle => ?_⟩
            by_cases he : j = d.Wait.length - 1 - i
            · subst he; exact hat
            · exact hI j hj' (by omega)
        · rw [decide_eq_false (by omega)]
          refine .inr ⟨_, rfl, .inl ⟨rfl, ?_⟩⟩
          unfold seenD
          refine over_none _ _ _ (fun w hw => ?_)
          obtain ⟨j, hj, rfl⟩ := List.getElem_of_mem hw
          exact hI j hj (by omega)) FUEL 0 ((d.Wait.length : Int) - 1) (Nat.zero_le _) (by have := fuel_ltD (show d.Wait.length < 4294967296 by omega); omega) ⟨by simp, fun j hj h => by omega⟩
      rw [wI_id (by omega) (by omega), hb]
      rcases hq with ⟨rfl, h1⟩ | rfl
      · rw [h1]; rfl
      · rfl
/- Plain law: devices: writes, flushes, deaths. -/

def noD : Disk := Disk.mk [] [] false
def errD (d : Disk) (at_ : Int) (data : List UInt8) : Int := bif (askD d at_ != 0) then askD d at_ else bif !szB data then 3 else bif d.Dead then 40 else 0
theorem askD_cases (d : Disk) (at_ : Int) : askD d at_ = 8 ∨ askD d at_ = 2 ∨ askD d at_ = 0 := by
  unfold askD
  cases mayD d with
  | false => exact .inl rfl
  | true => cases (decide (at_ < 0) || decide (at_ ≥ (d.Blocks.length : Int))) <;> simp
theorem pwerr_eq (d : Disk) (at_ : Int) (data : List UInt8) : disk_write d at_ data = some (errD d at_ data) := by
  unfold disk_write errD
  rw [pplace_eq]
  simp only [Option.bind_some]
  cases (askD d at_ != 0) with
  | true => rfl
  | false => rw [podd_eq]; simp only [cond_false, Option.bind_some]; cases szB data <;> cases d.Dead <;> rfl
theorem errD_ok {d : Disk} {at_ : Int} {data : List UInt8} (h : errD d at_ data = 0) : MayD d ∧ d.Dead = false ∧ szB data = true ∧ ∃ k : Nat, at_ = (k : Int) ∧ k < d.Blocks.length := by
  unfold errD at h
  rcases askD_cases d at_ with e | e | e
  · rw [e] at h; simp at h
  · rw [e] at h; simp at h
  · obtain ⟨h1, h2⟩ := askD_ok e
    rw [e] at h
    simp only [bne_self_eq_false, cond_false] at h
    cases hs : szB data with
    | false => rw [hs] at h; simp at h
    | true =>
      cases hd : d.Dead with
      | true => rw [hs, hd] at h; simp at h
      | false => exact ⟨h1, rfl, rfl, h2⟩
theorem szB_len {b : List UInt8} (h : szB b = true) : b.length < 4294967296 := by unfold szB at h; simp at h; rcases h with h | h <;> simp_all

def putD (d : Disk) (at_ : Int) (data : List UInt8) : Disk := { d with Wait := d.Wait ++ [⟨at_, fullB data⟩] }
def writeD (d : Disk) (at_ : Int) (data : List UInt8) : Disk × Int := bif (errD d at_ data != 0) then (noD, errD d at_ data) else bif decide (1024 ≤ d.Wait.length) then (noD, 9) else (putD d at_ data, 0)
theorem pwrite_eq (d : Disk) (at_ : Int) (data : List UInt8) : disk_Write d at_ data = some (writeD d at_ data) := by
  unfold disk_Write writeD
  rw [pwerr_eq]
  simp only [Option.bind_some]
  cases h : (errD d at_ data != 0) with
  | true => rfl
  | false =>
    obtain ⟨hm, hd, hs, k, rfl, hk⟩ := errD_ok (by simpa using h)
    have hw := hm.nw
    simp only [cond_false]
    rw [show (((d.Wait.length : Nat) : Int) == 1024) = decide (1024 ≤ d.Wait.length) by rw [Bool.eq_iff_iff]; simp; omega]
    cases hf : decide (1024 ≤ d.Wait.length) with
    | true => rfl
    | false =>
      have hf' := of_decide_eq_false hf
      rw [ptwin_eq hm.small, pblock_eq (szB_len hs)]
      simp only [cond_false, Option.bind_some]
      rw [app_some _ _ (by simp; omega)]; rfl
def keepW (at_ : Int) (w : Write) : Bool := !(w.At == at_)
theorem del_loop (at_ : Int) (l : List Write) (i0 : Nat) (hi : i0 < l.length) (hl : l.length ≤ 100000) (h0 : ∀ j (hj : j < l.length), j < i0 → (l[j].At == at_) = false) (h1 : (l[i0].At == at_) = true) :
    ∃ s : List Write, loopM (fun s : (List Write) × Int × Int => disk_Fua_L2 at_ s.1 s.2.1 s.2.2) FUEL (l, ((i0 : Nat) : Int), (((i0 + 1 : Nat)) : Int)) = some (s, (((l.filter (keepW at_)).length : Nat) : Int)) ∧
      s.length = l.length ∧ s.take (l.filter (keepW at_)).length = l.filter (keepW at_) := by
  have hf0 : (l.take (i0 + 1)).filter (keepW at_) = l.take i0 := by
    rw [take_succ_get _ _ _ (List.getElem?_eq_getElem hi), List.filter_append]
    have ha : (l.take i0).filter (keepW at_) = l.take i0 := by
      rw [List.filter_eq_self]
      intro w hw
      obtain ⟨j, hj, rfl⟩ := List.getElem_of_mem hw
      rw [List.getElem_take]
      unfold keepW
      rw [h0 j (by simp at hj; omega) (by simp at hj; omega)]; rfl
    rw [ha]
    simp [keepW, h1]
  obtain ⟨b, hb, hq⟩ := loop_inv (step := fun s : (List Write) × Int × Int => disk_Fua_L2 at_ s.1 s.2.1 s.2.2) l.length
    (fun k s => s.1.length = l.length ∧ s.2.1 = ((((l.take k).filter (keepW at_)).length : Nat) : Int) ∧ s.2.2 = (k : Int) ∧ i0 + 1 ≤ k ∧ ((l.take k).filter (keepW at_)).length < k ∧ s.1.take ((l.take k).filter (keepW at_)).length = (l.take k).filter (keepW at_) ∧ s.1.drop k = l.drop k)
    (fun b => b.2 = (((l.filter (keepW at_)).length : Nat) : Int) ∧ b.1.length = l.length ∧ b.1.take (l.filter (keepW at_)).length = l.filter (keepW at_))
    (fun k s hk hI => by
      obtain ⟨s1, s2, s3⟩ := s
      obtain ⟨e1, e2, e3, e4, e5, e6, e7⟩ := hI
      simp only at e1 e2 e3 e4 e5 e6 e7
      subst e2; subst e3
      show (∃ s', disk_Fua_L2 at_ s1 _ (k : Int) = some (.next s') ∧ _) ∨ ∃ b, disk_Fua_L2 at_ s1 _ (k : Int) = some (.brk b) ∧ _
      unfold disk_Fua_L2 disk_Fua_J4 disk_Fua_J3
      by_cases hlt : k < l.length
      · have hget : s1[k]? = some l[k] := by
          have := congrArg (fun x => x[0]?) e7
          simpa [hlt] using this
        rw [decide_eq_true (by omega), idx_nat, hget]
        simp only [cond_true, Option.bind_some]
        rw [wI_succ (show k < 9223372036854775807 by omega)]
        have htk : l.take (k + 1) = l.take k ++ [l[k]] := take_succ_get _ _ _ (List.getElem?_eq_getElem hlt)
        refine .inl ?_
        cases hat : (l[k].At == at_) with
        | true =>
          have hkp : (l.take (k + 1)).filter (keepW at_) = (l.take k).filter (keepW at_) := by rw [htk, List.filter_append]; simp [keepW, hat]
          refine ⟨_, rfl, hlt, e1, ?_, rfl, by omega, ?_, ?_, ?_⟩
          · rw [hkp]
          · rw [hkp]; omega
          · rw [hkp]; exact e6
          · simp only
            rw [← List.drop_drop, ← List.drop_drop, e7]
        | false =>
          have hkp : (l.take (k + 1)).filter (keepW at_) = (l.take k).filter (keepW at_) ++ [l[k]] := by rw [htk, List.filter_append]; simp [keepW, hat]
          have hcl : ((l.take k).filter (keepW at_)).length < s1.length := by omega
          rw [bnd_nat hcl, wI_succ (show ((l.take k).filter (keepW at_)).length < 9223372036854775807 by omega)]
          refine ⟨_, rfl, hlt, by simpa using e1, ?_, rfl, by omega, ?_, ?_, ?_⟩
          · rw [hkp, List.length_append]; rfl
          · rw [hkp, List.length_append]; simp; omega
          · rw [hkp, List.length_append]
            simp only [List.length_singleton]
            rw [take_succ_get _ _ l[k] (by rw [List.getElem?_set]; simp [hcl]), List.take_set_of_le (Nat.le_refl _), e6]
          · simp only
            rw [List.drop_set_of_lt (by omega), ← List.drop_drop, ← List.drop_drop, e7]
      · obtain rfl : k = l.length := by omega
        rw [decide_eq_false (by omega)]
        rw [List.take_length] at e6 ⊢
        exact .inr ⟨_, rfl, rfl, e1, e6⟩)
    FUEL (i0 + 1) (l, (i0 : Int), ((i0 + 1 : Nat) : Int)) (by omega) (by have := fuel_ltD (show l.length < 4294967296 by omega); omega)
    ⟨rfl, by rw [hf0]; simp; omega, rfl, Nat.le_refl _, by rw [hf0]; simp; omega, by rw [hf0]; simp, rfl⟩
  exact ⟨b.1, by rw [hb, ← hq.1], hq.2.1, hq.2.2⟩

def pfuaD (d : Disk) (k : Nat) (data : List UInt8) : Disk := ⟨d.Blocks.set k (fullB data), d.Wait.filter (keepW (k : Int)), d.Dead⟩
def rfuaD (d : Disk) (k : Nat) (data : List UInt8) : Disk := ⟨d.Blocks.set k (fullB data), (d.Wait.filter (keepW (k : Int))).map fun w => ⟨w.At, fullB w.Data⟩, d.Dead⟩
theorem fua_view (d : Disk) (k : Nat) (data : List UInt8) : viewD (pfuaD d k data) = viewD (rfuaD d k data) := by
  unfold viewD pfuaD rfuaD
  simp only [List.map_map]
  congr 2
  refine List.map_congr_left (fun w _ => ?_)
  show viewW w = viewW ⟨w.At, fullB w.Data⟩
  unfold viewW
  rw [fullB_full]
theorem pfua_eq (d : Disk) (at_ : Int) (data : List UInt8) : disk_Fua d at_ data = some (bif (errD d at_ data != 0) then (noD, errD d at_ data) else (pfuaD d at_.toNat data, 0)) := by
  unfold disk_Fua
  rw [pwerr_eq]
  simp only [Option.bind_some]
  cases h : (errD d at_ data != 0) with
  | true => rfl
  | false =>
    obtain ⟨hm, hd, hs, k, rfl, hk⟩ := errD_ok (by simpa using h)
    have hw := hm.small.nw
    simp only [cond_false, Int.toNat_natCast]
    rw [ptwin_eq hm.small, pblock_eq (szB_len hs)]
    simp only [Option.bind_some]
    rw [bnd_nat hk]
    simp only [Option.bind_some]
    obtain ⟨i, hi, hq⟩ := indexW_eq d.Wait (fun y => disk_Fua_1 y (k : Int)) (fun w => w.At == (k : Int)) (by omega) (fun w _ => rfl)
    rw [hi]
    simp only [Option.bind_some]
    unfold disk_Fua_J1 pfuaD
    rcases hq with ⟨i0, rfl, hi0, h1, h0⟩ | ⟨rfl, hn⟩
    · rw [show (((i0 : Nat) : Int) == -1) = false from beq_eq_false_iff_ne.2 (by omega)]
      simp only [cond_false]
      rw [wI_succ (by omega)]
      obtain ⟨s, hs1, hs2, hs3⟩ := del_loop (k : Int) d.Wait i0 hi0 hw h0 h1
      rw [hs1]
      simp only [Option.bind_some, Int.toNat_natCast]
      have hfl : (d.Wait.filter (keepW (k : Int))).length ≤ d.Wait.length := List.length_filter_le _ _
      unfold slc
      rw [if_pos (by omega)]
      simp only [Option.bind_some]
      rw [if_pos (by simp; omega)]
      simp only [Option.bind_some, Int.toNat_natCast]
      rw [show List.drop (Int.toNat 0) (List.take (d.Wait.filter (keepW (k : Int))).length (List.take (d.Wait.filter (keepW (k : Int))).length s ++ List.replicate (s.length - (d.Wait.filter (keepW (k : Int))).length) ⟨0, []⟩)) = d.Wait.filter (keepW (k : Int)) by
        rw [List.take_append_of_le_length (by rw [List.length_take]; omega), List.take_take, Nat.min_self, hs3]; simp]
    · rw [show ((-1 : Int) == -1) = true from rfl]
      simp only [cond_true]
      rw [List.filter_eq_self.2 (fun w hw => by unfold keepW; rw [hn w hw]; rfl)]
/-! ### flushes -/
def setW (bs : List (List UInt8)) (w : Write) : List (List UInt8) := bs.set w.At.toNat w.Data
def pflushD (d : Disk) : Disk := ⟨d.Wait.foldl setW d.Blocks, [], d.Dead⟩
def rflushD (d : Disk) : Disk := ⟨(List.range d.Blocks.length).map (seenD d), [], d.Dead⟩
theorem setW_len : ∀ (l : List Write) (bs : List (List UInt8)), (l.foldl setW bs).length = bs.length
  | [], _ => rfl
  | w :: l, bs => by rw [List.foldl_cons, setW_len l]; simp [setW]
theorem setW_mem : ∀ (l : List Write) (bs : List (List UInt8)), ∀ b ∈ l.foldl setW bs, b ∈ bs ∨ ∃ w ∈ l, b = w.Data
  | [], _, b, h => .inl h
  | w :: l, bs, b, h => by
    rw [List.foldl_cons] at h
    rcases setW_mem l _ b h with h | ⟨x, hx, rfl⟩
    · rcases List.mem_or_eq_of_mem_set h with h | h
      · exact .inl h
      · exact .inr ⟨w, by simp, h⟩
    · exact .inr ⟨x, by simp [hx], rfl⟩
theorem setW_get (k : Nat) : ∀ (l : List Write) (bs : List (List UInt8)), k < bs.length → (∀ w ∈ l, 0 ≤ w.At) → fullB ((l.foldl setW bs).getD k []) = l.foldl (overW (k : Int)) (fullB (bs.getD k []))
  | [], _, _, _ => rfl
  | w :: l, bs, hk, h => by
    rw [List.foldl_cons, List.foldl_cons, setW_get k l _ (by simpa [setW] using hk) (fun x hx => h x (by simp [hx]))]
    congr 1
    have hw := h w (by simp)
    unfold setW overW
    by_cases he : w.At = (k : Int)
    · rw [if_pos he, he]; simp [hk]
    · rw [if_neg he, List.getD_eq_getElem?_getD, List.getElem?_set_ne (by omega), ← List.getD_eq_getElem?_getD]
theorem flush_view {d : Disk} (h : MayD d) : viewD (pflushD d) = viewD (rflushD d) := by
  unfold viewD pflushD rflushD
  have : (d.Wait.foldl setW d.Blocks).map fullB = ((List.range d.Blocks.length).map (seenD d)).map fullB := by
    apply List.ext_getElem
    · simp [setW_len]
    · intro k h1 h2
      simp only [List.length_map, setW_len] at h1
      have hk2 : k < (d.Wait.foldl setW d.Blocks).length := by rw [setW_len]; exact h1
      have := setW_get k d.Wait d.Blocks h1 (fun w hw => (h.wt w hw).1)
      rw [List.getD_eq_getElem?_getD, List.getElem?_eq_getElem (by rw [setW_len]; exact h1)] at this
      simp only [List.getElem_map, List.getElem_range]
      rw [show (some (d.Wait.foldl setW d.Blocks)[k]).getD [] = (d.Wait.foldl setW d.Blocks)[k] from rfl] at this
      rw [this]
      show seenD d k = fullB (seenD d k)
      have : ∀ (l : List Write) (acc : List UInt8), fullB acc = acc → fullB (l.foldl (overW (k : Int)) acc) = l.foldl (overW (k : Int)) acc := by
        intro l
        induction l with
        | nil => intro acc h; exact h
        | cons w l ih =>
          intro acc h
          rw [List.foldl_cons]
          refine ih _ ?_
          unfold overW
          split
          · exact fullB_full _
          · exact h
      exact (this d.Wait (liesD d k) (fullB_full _)).symm
  rw [this]
theorem pflush_may {d : Disk} (h : MayD d) (hd : d.Dead = false) : MayD (pflushD d) := by
  have hdd : (pflushD d).Dead = false := hd
  refine ⟨by unfold pflushD; simp only [setW_len]; exact h.n1, by unfold pflushD; simp only [setW_len]; exact h.n2, by unfold pflushD; simp, fun _ => rfl, fun h2 => (by rw [hdd] at h2; cases h2), fun b hb => ?_, fun w hw => by unfold pflushD at hw; simp at hw⟩
  rcases setW_mem d.Wait d.Blocks b hb with hb | ⟨w, hw, rfl⟩
  · exact h.sz b hb
  · exact (h.wt w hw).2.2
theorem pflush_eq (d : Disk) : disk_Flush d = some (bif !mayD d then (noD, 8) else bif d.Dead then (noD, 40) else (pflushD d, 0)) := by
  unfold disk_Flush
  rw [pcheck_eq]
  simp only [Option.bind_some]
  cases hmd : mayD d with
  | false => rfl
  | true =>
    have hm := (mayD_iff d).1 hmd
    simp only [cond_true, bne_self_eq_false, cond_false, Bool.not_true]
    cases hd : d.Dead with
    | true => rfl
    | false =>
      have hw := hm.small.nw
      rw [ptwin_eq hm.small]
      simp only [cond_false, Option.bind_some]
      have := loop_run (step := fun s : Int × (List (List UInt8)) => disk_Flush_L1 d s.1 s.2) (fun i => ((i : Int), (d.Wait.take i).foldl setW d.Blocks)) d.Wait.length (d.Wait.foldl setW d.Blocks) (fuel_ltD (by omega)) (fun i hi => by
        obtain ⟨g1, g2, g3⟩ := hm.wt _ (List.getElem_mem hi)
        unfold disk_Flush_L1
        simp only [decide_eq_true (show (i : Int) < (d.Wait.length : Int) by omega), cond_true, idx_nat, List.getElem?_eq_getElem hi, Option.bind_some]
        rw [take_succ_get _ _ _ (List.getElem?_eq_getElem hi), List.foldl_append, wI_succ (by omega)]
        obtain ⟨k, hk⟩ : ∃ k : Nat, d.Wait[i].At = (k : Int) := ⟨d.Wait[i].At.toNat, by omega⟩
        rw [hk, bnd_nat (by rw [setW_len]; omega)]
        simp [setW, hk]) (by
        unfold disk_Flush_L1
        rw [decide_eq_false (by omega), List.take_length]; rfl)
      have h0 : ((0 : Int), d.Blocks) = (fun i : Nat => ((i : Int), (d.Wait.take i).foldl setW d.Blocks)) 0 := by simp
      rw [h0, this]
      simp only [Option.bind_some]
      have hp := ptwin_eq (pflush_may hm hd).small
      unfold pflushD at hp
      rw [hp]; rfl
def killD (d : Disk) : Disk × Int := bif !mayD d then (noD, 8) else (⟨List.replicate d.Blocks.length [], [], true⟩, 0)
theorem makeL_len {α β : Type} (z : α) (l : List β) (h : l.length ≤ 256) : makeL z ((l.length : Nat) : Int) = some (List.replicate l.length z) := by
  have h2 : l.length < 4294967296 := by omega
  exact makeL_some z l.length h2
def newD (n : Int) : Disk × Int := bif decide (n < 1) || decide (n > 256) then (noD, 2) else (⟨List.replicate n.toNat [], [], false⟩, 0)
theorem makeL_ok {α : Type} (z : α) (n : Int) (h : (decide (n < 1) || decide (n > 256)) = false) : makeL z n = some (List.replicate n.toNat z) := by
  simp only [Bool.or_eq_false_iff, decide_eq_false_iff_not] at h
  unfold makeL
  have h1 : 0 ≤ n := by omega
  have h2 : n < 4294967296 := by omega
  simp only [h1, h2, and_self, if_true]
/- Plain law: devices: the laws that ask no reference. -/

theorem pflush_eqD (d : Disk) : disk_Flush d = some (bif !mayD d then (noD, 8) else bif d.Dead then (noD, 40) else (pflushD d, 0)) := pflush_eq d
theorem beqS (a b : List UInt8) : ((Str.mk a).s == (Str.mk b).s) = decide (a = b) := str_eq a b

theorem ask_may {d e : Disk} (h1 : mayD e = mayD d) (h2 : e.Blocks.length = d.Blocks.length) (at_ : Int) : askD e at_ = askD d at_ := by unfold askD; rw [h1, h2]
/-- Reads of a place at which two devices are alike. -/
theorem read_like {d e : Disk} (h1 : mayD e = mayD d) (h2 : e.Blocks.length = d.Blocks.length) (h3 : e.Dead = d.Dead) (at_ : Int) (h4 : ∀ k : Nat, at_ = (k : Int) → k < d.Blocks.length → seenD e k = seenD d k) : readD e at_ = readD d at_ := by
  unfold readD
  rw [ask_may h1 h2, h3]
  cases h : (askD d at_ != 0) with
  | true => rfl
  | false =>
    obtain ⟨hm, k, rfl, hk⟩ := askD_ok (by simpa using h)
    simp only [Int.toNat_natCast]
    rw [h4 k rfl hk]
theorem last_like {d e : Disk} (h1 : mayD e = mayD d) (h2 : e.Blocks.length = d.Blocks.length) (h3 : e.Dead = d.Dead) (at_ : Int) (h4 : ∀ k : Nat, at_ = (k : Int) → k < d.Blocks.length → liesD e k = liesD d k) : lastD e at_ = lastD d at_ := by
  unfold lastD
  rw [ask_may h1 h2, h3]
  cases h : (askD d at_ != 0) with
  | true => rfl
  | false =>
    obtain ⟨hm, k, rfl, hk⟩ := askD_ok (by simpa using h)
    simp only [Int.toNat_natCast]
    rw [h4 k rfl hk]

theorem put_may {d : Disk} {k : Nat} {data : List UInt8} (hm : MayD d) (hd : d.Dead = false) (hs : szB data = true) (hk : k < d.Blocks.length) (hf : ¬ 1024 ≤ d.Wait.length) : MayD (putD d (k : Int) data) := by
  refine ⟨hm.n1, hm.n2, by simp [putD]; omega, fun h => ?_, fun h => ?_, hm.sz, fun w hw => ?_⟩
  · have h : d.Dead = true := h
    rw [hd] at h; cases h
  · have h : d.Dead = true := h
    rw [hd] at h; cases h
  · simp only [putD, List.mem_append, List.mem_singleton] at hw
    rcases hw with hw | rfl
    · exact hm.wt w hw
    · exact ⟨by simp, by simpa [putD] using hk, szB_full hs⟩
theorem fua_may {d : Disk} {k : Nat} {data : List UInt8} (hm : MayD d) (hd : d.Dead = false) (hs : szB data = true) : MayD (pfuaD d k data) := by
  have hl : (pfuaD d k data).Blocks.length = d.Blocks.length := by simp [pfuaD]
  refine ⟨by rw [hl]; exact hm.n1, by rw [hl]; exact hm.n2, Nat.le_trans (List.length_filter_le _ _) hm.nw, fun h => ?_, fun h => ?_, fun b hb => ?_, fun w hw => ?_⟩
  · have h : d.Dead = true := h
    rw [hd] at h; cases h
  · have h : d.Dead = true := h
    rw [hd] at h; cases h
  · rcases List.mem_or_eq_of_mem_set hb with hb | rfl
    · exact hm.sz b hb
    · exact szB_full hs
  · rw [hl]; exact hm.wt w (List.mem_filter.1 hw).1
theorem may_t {d : Disk} (h : MayD d) : mayD d = true := (mayD_iff d).2 h

theorem put_seen (d : Disk) (k j : Nat) (data : List UInt8) (h : k ≠ j) : seenD (putD d (k : Int) data) j = seenD d j := by
  unfold seenD putD liesD
  rw [List.foldl_append]
  simp only [List.foldl_cons, List.foldl_nil]
  unfold overW
  rw [if_neg (by simp only; omega)]
theorem over_filter (k j : Nat) (h : k ≠ j) : ∀ (l : List Write) (acc : List UInt8), (l.filter (keepW (k : Int))).foldl (overW (j : Int)) acc = l.foldl (overW (j : Int)) acc
  | [], _ => rfl
  | w :: l, acc => by
    rw [List.filter_cons]
    cases hk : keepW (k : Int) w with
    | true => simp only [if_true, List.foldl_cons]; exact over_filter k j h l _
    | false =>
      have : w.At = (k : Int) := by unfold keepW at hk; simpa using hk
      simp only [Bool.false_eq_true, if_false, List.foldl_cons]
      rw [show overW (j : Int) acc w = acc from if_neg (by omega)]
      exact over_filter k j h l acc
theorem fua_lies (d : Disk) (k j : Nat) (data : List UInt8) (h : k ≠ j) : liesD (pfuaD d k data) j = liesD d j := by
  unfold liesD pfuaD
  rw [List.getD_eq_getElem?_getD, List.getElem?_set_ne h, ← List.getD_eq_getElem?_getD]
theorem fua_seen (d : Disk) (k j : Nat) (data : List UInt8) (h : k ≠ j) : seenD (pfuaD d k data) j = seenD d j := by
  unfold seenD
  rw [fua_lies d k j data h]
  exact over_filter k j h d.Wait _

theorem pflush_lies (d : Disk) (hm : MayD d) {k : Nat} (hk : k < d.Blocks.length) : liesD (pflushD d) k = seenD d k := by
  have := congrArg (fun v => v.1) (flush_view hm)
  simp only [viewD] at this
  have h2 := congrArg (fun l => l[k]?) this
  simp only [List.getElem?_map] at h2
  have hk2 : k < (pflushD d).Blocks.length := by unfold pflushD; simp only [setW_len]; exact hk
  rw [List.getElem?_eq_getElem hk2] at h2
  unfold liesD
  rw [List.getD_eq_getElem?_getD, List.getElem?_eq_getElem hk2]
  simp only [Option.map_some, rflushD, List.getElem?_map, List.getElem?_range hk] at h2
  have h3 := Option.some.inj h2
  simp only [Option.getD_some]
  rw [h3]
  have : ∀ (l : List Write) (acc : List UInt8), fullB acc = acc → fullB (l.foldl (overW (k : Int)) acc) = l.foldl (overW (k : Int)) acc := by
    intro l
    induction l with
    | nil => intro acc h; exact h
    | cons w l ih =>
      intro acc h
      rw [List.foldl_cons]
      refine ih _ ?_
      unfold overW
      split
      · exact fullB_full _
      · exact h
  exact this d.Wait (liesD d k) (fullB_full _)
/- Plain law of the folding functions, part 1. -/

def xorL (a b : List UInt8) : List UInt8 := List.zipWith (· ^^^ ·) a b
def padL (b : List UInt8) : List UInt8 := if b.length = 0 then List.replicate 128 0 else b
def foldS (l : List (List UInt8)) : List UInt8 := l.foldl (fun acc b => xorL acc (padL b)) (List.replicate 128 0)
def blockB (b : List UInt8) : Bool := b.length == 0 || b.length == 128

theorem xorL_get {a b : List UInt8} {k : Nat} {x y : UInt8} (h1 : a[k]? = some x) (h2 : b[k]? = some y) : (xorL a b)[k]? = some (x ^^^ y) := by
  unfold xorL; rw [List.getElem?_zipWith, h1, h2]
theorem xorL_len (a b : List UInt8) : (xorL a b).length = min a.length b.length := by unfold xorL; simp
theorem padL_len {b : List UInt8} (h : blockB b = true) : (padL b).length = 128 := by
  unfold padL blockB at *
  split
  · simp
  · rcases Bool.or_eq_true _ _ |>.mp h with h | h
    · simp at h; simp_all
    · simpa using h

theorem xorL_zero {a : List UInt8} (h : a.length = 128) : xorL a (List.replicate 128 0) = a := by
  apply List.ext_getElem?
  intro i
  unfold xorL
  rw [List.getElem?_zipWith]
  by_cases hi : i < 128
  · rw [List.getElem?_eq_getElem (by omega), List.getElem?_replicate, if_pos hi]; simp
  · rw [List.getElem?_eq_none (by omega), List.getElem?_replicate, if_neg hi]

def foldF (l : List (List UInt8)) (k : Nat) : List UInt8 := foldS (l.take k)
theorem foldS_len : ∀ (l : List (List UInt8)), (∀ b ∈ l, blockB b = true) → (foldS l).length = 128 := by
  intro l
  unfold foldS
  have : ∀ (l : List (List UInt8)) (a : List UInt8), a.length = 128 → (∀ b ∈ l, blockB b = true) → (l.foldl (fun acc b => xorL acc (padL b)) a).length = 128 := by
    intro l
    induction l with
    | nil => intro a h _; exact h
    | cons b l ih =>
      intro a h hl
      refine ih _ ?_ (fun x hx => hl x (by simp [hx]))
      rw [xorL_len, padL_len (hl b (by simp))]; omega
  exact this l _ (by simp)
theorem foldS_snoc (l : List (List UInt8)) (b : List UInt8) : foldS (l ++ [b]) = xorL (foldS l) (padL b) := by
  unfold foldS; rw [List.foldl_append]; rfl

def FoldSpec (l : List (List UInt8)) : List UInt8 × Int :=
  if 16 < l.length then ([], 4) else if l.all blockB then (foldS l, 0) else ([], 3)

/- Plain law of the folding functions, part 2: the references and the laws. -/

theorem FUEL_gt {n : Nat} (h : n ≤ 9223372036854775807) : n < FUEL := by unfold FUEL; omega

def GreatS (l : List (List UInt8)) : Bool := decide (300 < l.length) || l.any fun b => decide (1000 < b.length)

theorem great_false {l : List (List UInt8)} (h : GreatS l = false) : l.length ≤ 300 ∧ ∀ b ∈ l, b.length ≤ 1000 := by
  unfold GreatS at h
  simp at h
  exact ⟨h.1, fun b hb => by have := h.2 b hb; omega⟩

theorem blockB_len {b : List UInt8} (h : blockB b = true) : b.length = 0 ∨ b.length = 128 := by
  unfold blockB at h
  simpa using h

/- Plain law of the folding functions, part 3: the laws. -/

def at0 (b : List UInt8) (i : Nat) : UInt8 := (b[i]?).getD 0
def gx (i : Nat) (l : List (List UInt8)) : UInt8 := l.foldr (fun b acc => at0 b i ^^^ acc) 0

theorem gx_app (i : Nat) (l m : List (List UInt8)) : gx i (l ++ m) = gx i l ^^^ gx i m := by
  induction l with
  | nil => simp [gx]
  | cons b l ih => show at0 b i ^^^ gx i (l ++ m) = at0 b i ^^^ gx i l ^^^ gx i m; rw [ih, UInt8.xor_assoc]
theorem gx_one (i : Nat) (b : List UInt8) : gx i [b] = at0 b i := by simp [gx]

theorem pad_get {b : List UInt8} (h : blockB b = true) {i : Nat} (hi : i < 128) : (padL b)[i]? = some (at0 b i) := by
  unfold padL at0
  rcases blockB_len h with h | h
  · rw [if_pos h, List.getElem?_replicate, if_pos hi, List.getElem?_eq_none (by omega)]; rfl
  · rw [if_neg (by omega), List.getElem?_eq_getElem (by omega)]; rfl

theorem foldS_get (l : List (List UInt8)) (h : ∀ b ∈ l, blockB b = true) {i : Nat} (hi : i < 128) : (foldS l)[i]? = some (gx i l) := by
  unfold foldS
  have : ∀ (l : List (List UInt8)) (a : List UInt8) (x : UInt8), a[i]? = some x → (∀ b ∈ l, blockB b = true) → (l.foldl (fun acc b => xorL acc (padL b)) a)[i]? = some (x ^^^ gx i l) := by
    intro l
    induction l with
    | nil => intro a x h _; rw [List.foldl_nil, h]; simp [gx]
    | cons b l ih =>
      intro a x h hl
      rw [List.foldl_cons, ih _ (x ^^^ at0 b i) (xorL_get h (pad_get (hl b (by simp)) hi)) (fun c hc => hl c (by simp [hc]))]
      rw [UInt8.xor_assoc]; rfl
  rw [this l _ 0 (by rw [List.getElem?_replicate, if_pos hi]) h]
  simp

theorem ext128 {a b : List UInt8} (ha : a.length = 128) (hb : b.length = 128) (h : ∀ i, i < 128 → a[i]? = b[i]?) : a = b := by
  apply List.ext_getElem?
  intro i
  by_cases hi : i < 128
  · exact h i hi
  · rw [List.getElem?_eq_none (by omega), List.getElem?_eq_none (by omega)]
theorem foldS_ext {l m : List (List UInt8)} (hl : ∀ b ∈ l, blockB b = true) (hm : ∀ b ∈ m, blockB b = true) (h : ∀ i, i < 128 → gx i l = gx i m) : foldS l = foldS m :=
  ext128 (foldS_len l hl) (foldS_len m hm) fun i hi => by rw [foldS_get l hl hi, foldS_get m hm hi, h i hi]
theorem at_foldS {l : List (List UInt8)} (hl : ∀ b ∈ l, blockB b = true) {i : Nat} (hi : i < 128) : at0 (foldS l) i = gx i l := by
  unfold at0; rw [foldS_get l hl hi]; rfl
theorem foldS_block {l : List (List UInt8)} (hl : ∀ b ∈ l, blockB b = true) : blockB (foldS l) = true := by simp [blockB, foldS_len l hl]

theorem spec_cases (l : List (List UInt8)) : (FoldSpec l = ([], 4) ∧ 16 < l.length) ∨ (FoldSpec l = (foldS l, 0) ∧ l.length ≤ 16 ∧ ∀ b ∈ l, blockB b = true) ∨ (FoldSpec l = ([], 3) ∧ l.length ≤ 16 ∧ ∃ b ∈ l, blockB b = false) := by
  unfold FoldSpec
  split
  · exact .inl ⟨rfl, by assumption⟩
  · split
    · rename_i h; exact .inr (.inl ⟨rfl, by omega, List.all_eq_true.1 h⟩)
    · rename_i h
      refine .inr (.inr ⟨rfl, by omega, ?_⟩)
      rw [Bool.not_eq_true, List.all_eq_false] at h
      obtain ⟨x, h1, h2⟩ := h
      exact ⟨x, h1, by simpa using h2⟩

def othersL {α : Type} (l : List α) (i k : Nat) : List α := (l.take k).take i ++ (l.take k).drop (i + 1)
theorem others_zero {α : Type} (l : List α) (i : Nat) : othersL l i 0 = [] := by simp [othersL]
theorem others_ne {α : Type} {l : List α} {i k : Nat} {x : α} (hx : l[k]? = some x) (h : k ≠ i) : othersL l i (k + 1) = othersL l i k ++ [x] := by
  have hk := (List.getElem?_eq_some_iff.1 hx).1
  unfold othersL
  rw [take_succ_get _ _ _ hx]
  by_cases h2 : k < i
  · have hA : (l.take k).length = k := by simp; omega
    generalize l.take k = A at hA
    rw [List.take_of_length_le (l := A ++ [x]) (by simp; omega), List.drop_of_length_le (l := A ++ [x]) (by simp; omega), List.take_of_length_le (l := A) (by omega), List.drop_of_length_le (l := A) (by omega)]
    simp
  · rw [List.take_append_of_le_length (by simp; omega), List.drop_append_of_le_length (by simp; omega), List.append_assoc]
theorem others_eq {α : Type} {l : List α} {k : Nat} {x : α} (hx : l[k]? = some x) : othersL l k (k + 1) = othersL l k k := by
  have hk := (List.getElem?_eq_some_iff.1 hx).1
  unfold othersL
  rw [take_succ_get _ _ _ hx, List.take_append_of_le_length (by simp; omega), List.drop_of_length_le (by simp; omega), List.drop_of_length_le (by simp; omega)]

theorem xor_mid (a b c : UInt8) : (a ^^^ c) ^^^ (a ^^^ (b ^^^ c)) = b := by
  have h1 : (a ^^^ c) ^^^ (a ^^^ (b ^^^ c)) = (a ^^^ a) ^^^ (c ^^^ c) ^^^ b := by
    simp only [UInt8.xor_assoc]
    congr 1
    rw [← UInt8.xor_assoc c a, UInt8.xor_comm c a, UInt8.xor_assoc]
    congr 1
    rw [UInt8.xor_comm b c]
  rw [h1]; simp

/- Plain law: arrays of devices: which may be; which stripes are even. -/

theorem member_eq (c : Config) : shape_Member c = some (bif mayC c then (c.Chunk * c.Rows + 1, 0) else (0, 8)) := by
  unfold shape_Member shape_told
  rw [check_eq]
  cases h : mayC c with
  | false => rfl
  | true =>
    obtain ⟨h1, h2, h3⟩ := wI_str ((mayC_iff c).1 h)
    simp only [Option.bind_some, cond_true, bne_self_eq_false, cond_false, h1]
    rw [wI_id (by omega) (by omega)]
theorem journal_eq (c : Config) : shape_Journal c = some (bif mayC c then (c.Log + 1, 0) else (0, 8)) := by
  unfold shape_Journal shape_told
  rw [check_eq]
  cases h : mayC c with
  | false => rfl
  | true =>
    have hm := (mayC_iff c).1 h
    have h5 := hm.2.2.2.2
    have h0 : 0 ≤ (c.Members + 1) * (c.Heads + 1) := Int.mul_nonneg (by have := hm.1; omega) (by have := hm.2.2.2.1; omega)
    simp only [Option.bind_some, cond_true, bne_self_eq_false, cond_false]
    rw [wI_id (by omega) (by omega)]
def mN (c : Config) : Nat := c.Members.toNat
def sN (c : Config) : Nat := (c.Chunk * c.Rows).toNat
def wantI (c : Config) (i : Nat) : Int := if i = mN c then c.Log + 1 else c.Chunk * c.Rows + 1
def dAt (ds : List Disk) (i : Nat) : Disk := ds.getD i noD
def goodA (c : Config) (ds : List Disk) (i : Nat) : Bool := mayD (dAt ds i) && decide (((dAt ds i).Blocks.length : Int) = wantI c i)
def okA (c : Config) (ds : List Disk) : Bool := mayC c && (decide ((ds.length : Int) = c.Members + 1) && !((List.range ds.length).any fun i => !goodA c ds i))

structure OkA (c : Config) (ds : List Disk) : Prop where
  mc : MayC c
  len : ds.length = mN c + 1
  m : 3 ≤ mN c ∧ mN c ≤ 16 ∧ c.Members = (mN c : Int)
  s : 1 ≤ sN c ∧ sN c ≤ 64 ∧ c.Chunk * c.Rows = (sN c : Int)
  may : ∀ i, i < ds.length → MayD (dAt ds i)
  want : ∀ i, i < ds.length → ((dAt ds i).Blocks.length : Int) = wantI c i
theorem okA_iff (c : Config) (ds : List Disk) : okA c ds = true ↔ OkA c ds := by
  unfold okA
  simp only [Bool.and_eq_true, decide_eq_true_eq, Bool.not_eq_true', List.any_eq_false, List.mem_range, goodA, mayC_iff]
  constructor
  · rintro ⟨h1, h2, h3⟩
    obtain ⟨k1, k2, k3⟩ := wI_str h1
    have hm := h1.1
    refine ⟨h1, by unfold mN; omega, by unfold mN; omega, by unfold sN; omega, fun i hi => ?_, fun i hi => ?_⟩
    · have := h3 i hi
      simp at this; exact (mayD_iff _).1 this.1
    · have := h3 i hi; simp at this; exact this.2
  · rintro ⟨h1, h2, h3, h4, h5, h6⟩
    refine ⟨h1, by omega, fun i hi => ?_⟩
    rw [(mayD_iff _).2 (h5 i hi), decide_eq_true (h6 i hi)]; simp
theorem dAt_get {ds : List Disk} {i : Nat} (h : i < ds.length) : ds[i]? = some (dAt ds i) := by
  unfold dAt; rw [List.getD_eq_getElem?_getD, List.getElem?_eq_getElem h]; rfl

/-! ### even stripes -/
def deadA (c : Config) (ds : List Disk) : Bool := (List.range (mN c)).any fun i => (dAt ds i).Dead
def colA (c : Config) (ds : List Disk) (s : Nat) : List (List UInt8) := (List.range (mN c)).map fun i => liesD (dAt ds i) (s + 1)
def zeroB (b : List UInt8) : Bool := !(b.any fun x => x != 0)
def evenA (c : Config) (ds : List Disk) (s : Nat) : Bool := deadA c ds || zeroB (foldS (colA c ds s))
theorem col_len (c : Config) (ds : List Disk) (s : Nat) : (colA c ds s).length = mN c := by simp [colA]
theorem lies_szB {d : Disk} (h : MayD d) {k : Nat} (hk : k < d.Blocks.length) : (liesD d k).length = 128 := by
  unfold liesD
  rw [List.getD_eq_getElem?_getD, List.getElem?_eq_getElem hk]
  exact fullB_len (h.sz _ (List.getElem_mem hk))
theorem OkA.mem {c : Config} {ds : List Disk} (h : OkA c ds) {i s : Nat} (hi : i < mN c) (hs : s < sN c) : s + 1 < (dAt ds i).Blocks.length := by
  have := h.want i (by have := h.len; omega)
  unfold wantI at this
  rw [if_neg (by omega)] at this
  have := h.s
  omega
theorem col_ok {c : Config} {ds : List Disk} (h : OkA c ds) {s : Nat} (hs : s < sN c) : ∀ b ∈ colA c ds s, blockB b = true := by
  intro b hb
  obtain ⟨i, hi, rfl⟩ := List.mem_map.1 hb
  have hi := List.mem_range.1 hi
  unfold blockB
  rw [lies_szB (h.may i (by have := h.len; omega)) (h.mem hi hs)]; rfl
theorem last_of {d : Disk} (h : MayD d) (hd : d.Dead = false) {k : Nat} (hk : k < d.Blocks.length) : disk_Lasting d (k : Int) = some (liesD d k, 0) := by
  rw [plast_eq]
  unfold lastD askD
  rw [(mayD_iff d).2 h]
  have : (decide ((k : Int) < 0) || decide ((k : Int) ≥ (d.Blocks.length : Int))) = false := by simp; omega
  simp only [this, hd, cond_true, cond_false, bne_self_eq_false, Int.toNat_natCast]
theorem wI_one {s : Nat} (h : s < 1000) : wI (1 + (s : Int)) = ((s + 1 : Nat) : Int) := by rw [wI_id (by omega) (by omega)]; omega

/- Plain law: even stripes, by the program and by the reference. -/

theorem nodead_get {c : Config} {ds : List Disk} (h : deadA c ds = false) {i : Nat} (hi : i < mN c) : (dAt ds i).Dead = false := by
  unfold deadA at h
  rw [List.any_eq_false] at h
  simpa using h i (List.mem_range.2 hi)

def evenR (c : Config) (ds : List Disk) (s : Int) : Bool × Int := bif !okA c ds then (false, 8) else bif decide (s < 0) || decide (s ≥ (sN c : Int)) then (false, 2) else (evenA c ds s.toNat, 0)
def oddL (c : Config) (ds : List Disk) : List Int := ((List.range (sN c)).filter fun s => !evenA c ds s).map fun s => ((s : Nat) : Int)
def oddR (c : Config) (ds : List Disk) : List Int × Int := bif !okA c ds then ([], 8) else (oddL c ds, 0)
theorem oddL_len (c : Config) (ds : List Disk) (h : OkA c ds) : (oddL c ds).length < 4294967296 := by
  have := List.length_filter_le (fun s => !evenA c ds s) (List.range (sN c))
  have hs := h.s
  simp [oddL] at this ⊢
  omega
theorem oddR_len (c : Config) (ds : List Disk) : (oddR c ds).1.length < 4294967296 := by
  unfold oddR
  cases ho : okA c ds with
  | false => simp
  | true => exact oddL_len c ds ((okA_iff c ds).1 ho)
/- Plain law: lists of devices: sizes, copies, comparing. -/

theorem sum_loop2 {α : Type} (l : List α) (len : α → Nat) (hl : l.length ≤ 100000) (hlen : ∀ x ∈ l, len x ≤ 1000000) {step : Int × Int → Option (Ctl (Int × Int) Int)} (n0 : Int) (h0 : 0 ≤ n0) (h0' : n0 ≤ 1000000000000)
    (h1 : ∀ k (hk : k < l.length) (n : Int), step (n, (k : Int)) = some (.next (wI (n + wI (8 + ((len l[k] : Nat) : Int))), wI ((k : Int) + 1))))
    (h2 : ∀ (n : Int), step (n, (l.length : Int)) = some (.brk n)) :
    ∃ b, loopM step FUEL (n0, (0 : Int)) = some b ∧ n0 ≤ b ∧ b ≤ n0 + 2000000 * (l.length : Int) := by
  refine loop_inv (step := step) l.length
    (fun k s => s.2 = (k : Int) ∧ n0 ≤ s.1 ∧ s.1 ≤ n0 + 2000000 * (k : Int)) _ (fun k s hk hI => ?_) FUEL 0 (n0, 0) (Nat.zero_le _) (by unfold FUEL; omega) ⟨rfl, by simp, by simp⟩
  obtain ⟨s1, s2⟩ := s
  obtain ⟨e1, e2, e3⟩ := hI
  simp only at e1 e2 e3
  subst e1
  by_cases hlt : k < l.length
  · have hb := hlen _ (List.getElem_mem hlt)
    refine .inl ⟨_, h1 k hlt s1, hlt, ?_⟩
    rw [wI_id (x := 8 + ((len l[k] : Nat) : Int)) (by omega) (by omega), wI_id (by omega) (by omega), wI_succ (by omega)]
    exact ⟨rfl, by simp only; omega, by simp only; omega⟩
  · obtain rfl : k = l.length := by omega
    exact .inr ⟨s1, h2 s1, e2, e3⟩

theorem agreat_eq (ds : List Disk) : ∃ g, ref05_Great ds = some g ∧ (g = false → ds.length ≤ 30 ∧ ∀ d ∈ ds, SmallD d) := by
  unfold ref05_Great
  obtain ⟨b, hb, hq⟩ := loop_inv (step := fun s : Int × Int => ref05_Great_L1 ds s.1 s.2) (min ds.length 30)
    (fun k s => s.2 = (k : Int) ∧ 0 ≤ s.1 ∧ s.1 ≤ 60000 ∧ ∀ j (hj : j < ds.length), j < k → SmallD ds[j])
    (fun b => b = Sum.inr () ∨ (b = Sum.inl () ∧ (ds.length ≤ 30 → ∀ d ∈ ds, SmallD d))) (fun k s hk hI => by
    obtain ⟨s1, s2⟩ := s
    obtain ⟨e1, e2, e3, e4⟩ := hI
    simp only at e1 e2 e3 e4
    subst e1
    show (∃ s', ref05_Great_L1 ds s1 (k : Int) = some (.next s') ∧ _) ∨ ∃ b, ref05_Great_L1 ds s1 (k : Int) = some (.brk b) ∧ _
    unfold ref05_Great_L1
    by_cases hlt : k < ds.length ∧ k < 30
    · rw [show (decide ((k : Int) < (ds.length : Int)) && decide ((k : Int) < (30 : Int))) = true by simp; omega, idx_nat, List.getElem?_eq_getElem hlt.1]
      simp only [cond_true, Option.bind_some]
      obtain ⟨g, hg, hs⟩ := dgreat_eq ds[k]
      rw [hg]
      simp only [Option.bind_some]
      cases g with
      | true => exact .inr ⟨_, rfl, .inl rfl⟩
      | false =>
        obtain ⟨hs, _, _⟩ := hs rfl
        simp only [cond_false]
        obtain ⟨b1, hb1, q1, q2⟩ := sum_loop2 ds[k].Blocks List.length hs.nb hs.lb (step := fun s : Int × Int => ref05_Great_L2 ds (k : Int) s.1 s.2) s1 e2 (by omega) (fun j hj n => by
          show ref05_Great_L2 ds (k : Int) n (j : Int) = _
          unfold ref05_Great_L2
          rw [idx_nat, List.getElem?_eq_getElem hlt.1]
          simp only [Option.bind_some]
          rw [decide_eq_true (by omega), idx_nat, List.getElem?_eq_getElem hj]; rfl) (fun n => by
          show ref05_Great_L2 ds (k : Int) n _ = _
          unfold ref05_Great_L2
          rw [idx_nat, List.getElem?_eq_getElem hlt.1]
          simp only [Option.bind_some]
          rw [decide_eq_false (by omega)]; rfl)
        rw [hb1]
        simp only [Option.bind_some]
        have hnb := hs.nb
        have hnw := hs.nw
        obtain ⟨b2, hb2, q3, q4⟩ := sum_loop2 ds[k].Wait (fun w => w.Data.length) hs.nw hs.lw (step := fun s : Int × Int => ref05_Great_L3 ds (k : Int) s.1 s.2) b1 (by omega) (by omega) (fun j hj n => by
          show ref05_Great_L3 ds (k : Int) n (j : Int) = _
          unfold ref05_Great_L3
          rw [idx_nat, List.getElem?_eq_getElem hlt.1]
          simp only [Option.bind_some]
          rw [decide_eq_true (by omega), idx_nat, List.getElem?_eq_getElem hj]; rfl) (fun n => by
          show ref05_Great_L3 ds (k : Int) n _ = _
          unfold ref05_Great_L3
          rw [idx_nat, List.getElem?_eq_getElem hlt.1]
          simp only [Option.bind_some]
          rw [decide_eq_false (by omega)]; rfl)
        rw [hb2]
        simp only [Option.bind_some]
        by_cases hbig : b2 > 60000
        · rw [decide_eq_true hbig]; exact .inr ⟨_, rfl, .inl rfl⟩
        · rw [decide_eq_false hbig, wI_succ (by omega)]
          refine .inl ⟨_, rfl, by omega, rfl, by simp only; omega, by simp only; omega, fun j hj hjk => ?_⟩
          by_cases he : j = k
          · subst he; exact hs
          · exact e4 j hj (by omega)
    · rw [show (decide ((k : Int) < (ds.length : Int)) && decide ((k : Int) < (30 : Int))) = false by simp; omega]
      refine .inr ⟨_, rfl, .inr ⟨rfl, fun hle d hd => ?_⟩⟩
      obtain ⟨j, hj, rfl⟩ := List.getElem_of_mem hd
      exact e4 j hj (by omega)) FUEL 0 (0, 0) (Nat.zero_le _) (by unfold FUEL; omega) ⟨rfl, by simp, by simp, fun j _ hj => by omega⟩
  rw [hb]
  rcases hq with rfl | ⟨rfl, h⟩
  · exact ⟨_, rfl, fun h => by cases h⟩
  · refine ⟨_, rfl, fun hg => ?_⟩
    have := of_decide_eq_false hg
    exact ⟨by omega, h (by omega)⟩

/- Plain law: eyes: what holds of folds. -/

theorem zeroB_iff (b : List UInt8) (h : b.length = 128) : zeroB b = true ↔ ∀ i, i < 128 → b[i]? = some 0 := by
  unfold zeroB
  simp only [Bool.not_eq_true', List.any_eq_false, bne_iff_ne, ne_eq, Decidable.not_not]
  constructor
  · intro hz i hi
    rw [List.getElem?_eq_getElem (by omega)]
    exact congrArg some (hz _ (List.getElem_mem _))
  · intro hz x hx
    obtain ⟨i, hi, rfl⟩ := List.getElem_of_mem hx
    have := hz i (by omega)
    rw [List.getElem?_eq_getElem hi] at this
    exact Option.some.inj this
theorem xor_zero_iff (a b c : UInt8) : a ^^^ (b ^^^ c) = 0 ↔ a ^^^ c = b := by
  constructor
  · intro h
    have h2 : (a ^^^ (b ^^^ c)) ^^^ b = b := by rw [h]; simp
    rw [show (a ^^^ (b ^^^ c)) ^^^ b = a ^^^ c by
      rw [UInt8.xor_comm b c, ← UInt8.xor_assoc, UInt8.xor_assoc, UInt8.xor_self]; simp] at h2
    exact h2
  · intro h
    rw [← h, UInt8.xor_assoc a c c]
    simp
theorem gx_split (i : Nat) (l : List (List UInt8)) (m : Nat) (hm : m < l.length) : gx i l = gx i (l.take m) ^^^ (at0 l[m] i ^^^ gx i (l.drop (m + 1))) := by
  have hsplit : l = l.take m ++ (l[m] :: l.drop (m + 1)) := by rw [List.getElem_cons_drop, List.take_append_drop]
  have h1 : gx i l = gx i (l.take m ++ (l[m] :: l.drop (m + 1))) := by rw [← hsplit]
  rw [h1, gx_app]; rfl
/-- A fold is nothing just where one of its blocks is the fold of the others. -/
theorem zero_iff_others (l : List (List UInt8)) (hl : ∀ b ∈ l, blockB b = true) (m : Nat) (hm : m < l.length) (h128 : l[m].length = 128) :
    zeroB (foldS l) = decide (foldS (l.take m ++ l.drop (m + 1)) = l[m]) := by
  have ho : ∀ b ∈ l.take m ++ l.drop (m + 1), blockB b = true := fun b hb => by
    rcases List.mem_append.1 hb with h | h
    · exact hl b (List.mem_of_mem_take h)
    · exact hl b (List.mem_of_mem_drop h)
  rw [Bool.eq_iff_iff, zeroB_iff _ (foldS_len l hl), decide_eq_true_iff]
  have key : ∀ i, i < 128 → ((foldS l)[i]? = some 0 ↔ (foldS (l.take m ++ l.drop (m + 1)))[i]? = l[m][i]?) := fun i hi => by
    rw [foldS_get l hl hi, foldS_get _ ho hi, gx_split i l m hm, gx_app]
    rw [List.getElem?_eq_getElem (show i < l[m].length by omega)]
    have ha : at0 l[m] i = l[m][i] := by unfold at0; rw [List.getElem?_eq_getElem (by omega)]; rfl
    rw [ha]
    constructor
    · intro h
      exact congrArg some ((xor_zero_iff _ _ _).1 (Option.some.inj h))
    · intro h
      exact congrArg some ((xor_zero_iff _ _ _).2 (Option.some.inj h))
  constructor
  · intro h
    exact ext128 (foldS_len _ ho) h128 (fun i hi => (key i hi).1 (h i hi))
  · intro h i hi
    exact (key i hi).2 (by rw [h])

theorem evenR_err {c : Config} {ds : List Disk} {s : Int} (h : ((evenR c ds s).2 != 0) = true) : (evenR c ds s).1 = false := by
  unfold evenR at h ⊢
  cases ho : okA c ds with
  | false => rfl
  | true =>
    rw [ho] at h
    cases hc : (decide (s < 0) || decide (s ≥ (sN c : Int))) with
    | true => rfl
    | false => rw [hc] at h; simp at h
theorem evenR_ok {c : Config} {ds : List Disk} {s : Int} (h : (evenR c ds s).2 = 0) : OkA c ds ∧ ∃ k : Nat, s = (k : Int) ∧ k < sN c ∧ evenR c ds s = (evenA c ds k, 0) := by
  unfold evenR at h ⊢
  cases ho : okA c ds with
  | false => rw [ho] at h; simp at h
  | true =>
    rw [ho] at h
    cases hc : (decide (s < 0) || decide (s ≥ (sN c : Int))) with
    | true => rw [hc] at h; simp at h
    | false =>
      have hc' := hc
      simp only [Bool.or_eq_false_iff, decide_eq_false_iff_not] at hc'
      exact ⟨(okA_iff c ds).1 ho, s.toNat, by omega, by omega, rfl⟩
theorem bool_eq_dec (a b : Bool) (h : a = b) : (a == b) = true := by rw [h]; simp

theorem filt_get (p : Nat → Bool) (n k : Nat) (hk : k < n) (hp : p k = true) : ((List.range n).filter p)[((List.range k).filter p).length]? = some k := by
  have h1 : List.range n = List.range k ++ (k :: (List.range n).drop (k + 1)) := by
    have : (List.range n)[k]'(by simpa using hk) = k := by simp
    have h2 := (List.take_append_drop k (List.range n)).symm
    rw [List.drop_eq_getElem_cons (by simpa using hk), this, List.take_range] at h2
    rw [show min k n = k by omega] at h2
    exact h2
  rw [h1, List.filter_append, List.filter_cons, if_pos hp, List.getElem?_append_right (Nat.le_refl _)]
  simp
/- Plain law: blocks off devices, by the program. -/

/-! ### checks -/
theorem fcheck_eq (c : Config) (ds : List Disk) : fetch_Check c ds = some (bif okA c ds then 0 else 8) := by
  unfold fetch_Check okA
  rw [member_eq]
  cases hc : mayC c with
  | false => rfl
  | true =>
    have hm := (mayC_iff c).1 hc
    have hm1 := hm.1
    simp only [Option.bind_some, cond_true, bne_self_eq_false, Bool.false_or, Bool.true_and]
    rw [wI_id (by omega) (by omega)]
    by_cases hl : (ds.length : Int) = c.Members + 1
    case neg =>
      rw [decide_eq_false hl, show ((ds.length : Int) != c.Members + 1) = true by simpa using hl]; rfl
    rw [decide_eq_true hl, show ((ds.length : Int) != c.Members + 1) = false by simpa using hl]
    simp only [cond_false, Bool.true_and]
    have := loop_any (step := fun s : Int => fetch_Check_L1 c ds (c.Chunk * c.Rows + 1, 0) s) (fun k => (k : Int)) ds.length (fun i => !goodA c ds i) (Sum.inr ()) (Sum.inl ()) (fuel_ltD (by omega)) (fun k hk => by
      unfold fetch_Check_L1 fetch_Check_J2
      rw [decide_eq_true (by omega), idx_nat, dAt_get hk]
      simp only [cond_true, Option.bind_some, pcheck_eq, journal_eq, hc]
      rw [wI_succ (by omega)]
      unfold goodA wantI mN
      by_cases he : (k : Int) = c.Members
      · rw [show ((k : Int) == c.Members) = true by simpa using he, if_pos (by omega)]
        by_cases hw : ((dAt ds k).Blocks.length : Int) = c.Log + 1
        · rw [decide_eq_true hw]; cases mayD (dAt ds k) <;> simp [hw, gO]
        · rw [decide_eq_false hw]; have hw' := bne_iff_ne.2 hw; simp [hw', gO]
      · rw [show ((k : Int) == c.Members) = false by simpa using he, if_neg (by omega)]
        by_cases hw : ((dAt ds k).Blocks.length : Int) = c.Chunk * c.Rows + 1
        · rw [decide_eq_true hw]; cases mayD (dAt ds k) <;> simp [hw, gO]
        · rw [decide_eq_false hw]; have hw' := bne_iff_ne.2 hw; simp [hw', gO]) (by
      unfold fetch_Check_L1
      rw [decide_eq_false (by omega)]; rfl)
    erw [this]
    cases (List.range ds.length).any fun i => !goodA c ds i <;> rfl

/-! ### members of slots -/
theorem divideF {a b : Int} (ha : 0 ≤ a) (ha2 : a ≤ 1000000) (hb : 0 < b) : turn_divide a b = some (a / b, a % b) := by
  unfold turn_divide quoI remI
  rw [if_neg (by omega), if_neg (by omega), Int.tdiv_eq_ediv_of_nonneg ha, Int.tmod_eq_emod_of_nonneg ha]
  have h1 : 0 ≤ a / b := Int.ediv_nonneg ha (by omega)
  have h2 : a / b ≤ a := Int.ediv_le_self b ha
  rw [wI_id (by omega) (by omega)]
  rfl
def parF (c : Config) (stripe : Int) : Int := c.Members - 1 - (stripe / c.Chunk) % c.Members
def memF (c : Config) (stripe k : Int) : Int := (parF c stripe + 1 + k) % c.Members
theorem parF_in {c : Config} (hm : MayC c) (stripe : Int) : 0 ≤ parF c stripe ∧ parF c stripe < c.Members := by
  have := hm.1
  unfold parF
  have h1 := Int.emod_nonneg (stripe / c.Chunk) (show c.Members ≠ 0 by omega)
  have h2 := Int.emod_lt_of_pos (stripe / c.Chunk) (show 0 < c.Members by omega)
  omega
theorem memF_in {c : Config} (hm : MayC c) (stripe k : Int) : 0 ≤ memF c stripe k ∧ memF c stripe k < c.Members := by
  have := hm.1
  unfold memF
  exact ⟨Int.emod_nonneg _ (by omega), Int.emod_lt_of_pos _ (by omega)⟩
def askT (c : Config) (stripe k : Int) : Bool := decide (0 ≤ stripe) && (decide (stripe < c.Chunk * c.Rows) && (decide (0 ≤ k) && decide (k < c.Members)))
theorem stripesF (c : Config) : shape_Stripes c = some (bif mayC c then (c.Chunk * c.Rows, 0) else (0, 8)) := by
  unfold shape_Stripes shape_told
  rw [check_eq]
  cases h : mayC c with
  | false => rfl
  | true =>
    obtain ⟨h1, h2, h3⟩ := wI_str ((mayC_iff c).1 h)
    simp only [Option.bind_some, cond_true, bne_self_eq_false, cond_false, h1]
theorem memberF {c : Config} (hm : MayC c) (stripe k : Int) : turn_Member c stripe k = some (bif askT c stripe k then (memF c stripe k, 0) else (0, 2)) := by
  have hM := hm.1
  have hp := parF_in hm stripe
  have hs := wI_str hm
  have hc := hm.2.1
  unfold turn_Member turn_row_member turn_at askT
  rw [stripesF, (mayC_iff c).2 hm]
  simp only [cond_true, Option.bind_some, bne_self_eq_false, cond_false]
  by_cases s0 : 0 ≤ stripe
  case neg => rw [decide_eq_true (show stripe < 0 by omega), decide_eq_false s0]; rfl
  rw [decide_eq_false (show ¬ stripe < 0 by omega), decide_eq_true s0]
  by_cases s1 : stripe < c.Chunk * c.Rows
  case neg => rw [decide_eq_true (show stripe ≥ c.Chunk * c.Rows by omega), decide_eq_false s1]; rfl
  rw [decide_eq_false (show ¬ stripe ≥ c.Chunk * c.Rows by omega), decide_eq_true s1]
  by_cases h0 : 0 ≤ k
  case neg => rw [decide_eq_true (show k < 0 by omega), decide_eq_false h0]; rfl
  rw [decide_eq_false (show ¬ k < 0 by omega), decide_eq_true h0]
  by_cases h1 : k < c.Members
  case neg => rw [decide_eq_true (show k ≥ c.Members by omega), decide_eq_false h1]; rfl
  rw [decide_eq_false (show ¬ k ≥ c.Members by omega), decide_eq_true h1]
  have h1' : 0 ≤ stripe / c.Chunk := Int.ediv_nonneg s0 (by omega)
  have h2' : stripe / c.Chunk ≤ stripe := Int.ediv_le_self c.Chunk s0
  simp only [cond_false]
  unfold turn_at_J1 turn_row_parity
  rw [divideF s0 (by omega) (by omega)]
  simp only [cond_false, Option.bind_some, bne_self_eq_false]
  rw [divideF h1' (by omega) (by omega)]
  simp only [Option.bind_some]
  rw [wI_id (x := c.Members - 1) (by omega) (by omega)]
  unfold parF at hp
  rw [wI_id (x := c.Members - 1 - _) (by omega) (by omega), wI_id (x := c.Members - 1 - _ + 1) (by omega) (by omega), wI_id (by omega) (by omega), divideF (by omega) (by omega) (by omega)]
  rfl

/-! ### what is read -/
theorem lies_lenF {d : Disk} (h : MayD d) {k : Nat} (hk : k < d.Blocks.length) : (liesD d k).length = 128 := lies_szB h hk
theorem seen_len {d : Disk} (h : MayD d) {k : Nat} (hk : k < d.Blocks.length) : (seenD d k).length = 128 := by
  unfold seenD
  have hw := h.wt
  have h0 := lies_szB h hk
  generalize liesD d k = acc at h0 ⊢
  generalize d.Wait = l at hw ⊢
  induction l generalizing acc with
  | nil => exact h0
  | cons w l ih =>
    rw [List.foldl_cons]
    refine ih _ ?_ (fun x hx => hw x (List.mem_cons_of_mem _ hx))
    unfold overW
    split
    · exact fullB_len (hw w (by simp)).2.2
    · exact h0
theorem read_of {d : Disk} (h : MayD d) (hd : d.Dead = false) {k : Nat} (hk : k < d.Blocks.length) : disk_Read d (k : Int) = some (seenD d k, 0) := by
  rw [pread_eq]
  unfold readD askD
  rw [(mayD_iff d).2 h]
  have : (decide ((k : Int) < 0) || decide ((k : Int) ≥ (d.Blocks.length : Int))) = false := by simp; omega
  simp only [this, hd, cond_true, cond_false, bne_self_eq_false, Int.toNat_natCast]
theorem read_dead {d : Disk} (h : MayD d) (hd : d.Dead = true) {k : Nat} (hk : k < d.Blocks.length) : disk_Read d (k : Int) = some ([], 40) := by
  rw [pread_eq]
  unfold readD askD
  rw [(mayD_iff d).2 h]
  have : (decide ((k : Int) < 0) || decide ((k : Int) ≥ (d.Blocks.length : Int))) = false := by simp; omega
  simp only [this, hd, cond_true, cond_false, bne_self_eq_false]

/-! ### fetching -/
def lostF (ds : List Disk) (missing : Int) (i : Nat) : Bool := ((i : Int) == missing) || (dAt ds i).Dead
def withoutF (c : Config) (m : Nat) : List Nat := (List.range (mN c)).filter fun i => i != m
def othersF (c : Config) (ds : List Disk) (s m : Nat) : List (List UInt8) := (withoutF c m).map fun i => seenD (dAt ds i) (s + 1)
def alsoF (c : Config) (ds : List Disk) (missing : Int) (m : Nat) : Bool := (withoutF c m).any fun i => lostF ds missing i
def offF (c : Config) (ds : List Disk) (missing : Int) (s m : Nat) : List UInt8 × Int :=
  bif lostF ds missing m then (bif alsoF c ds missing m then ([], 230) else (foldS (othersF c ds s m), 0)) else (seenD (dAt ds m) (s + 1), 0)
def fetchF (c : Config) (ds : List Disk) (missing stripe slot : Int) : List UInt8 × Int :=
  bif okA c ds then (bif askT c stripe slot && (decide (-1 ≤ missing) && decide (missing < c.Members)) then offF c ds missing stripe.toNat (memF c stripe slot).toNat else ([], 2)) else ([], 8)
theorem others_ok {c : Config} {ds : List Disk} (h : OkA c ds) {s : Nat} (hs : s < sN c) (m : Nat) : ∀ b ∈ othersF c ds s m, blockB b = true := by
  intro b hb
  obtain ⟨i, hi, rfl⟩ := List.mem_map.1 hb
  have hi := List.mem_range.1 (List.mem_filter.1 hi).1
  unfold blockB
  rw [seen_len (h.may i (by have := h.len; omega)) (h.mem hi hs)]; rfl
theorem without_len (c : Config) (m : Nat) : (withoutF c m).length ≤ mN c := by
  have := List.length_filter_le (fun i => i != m) (List.range (mN c))
  simpa [withoutF] using this
/- Plain law: what is fetched of even stripes, and of lone losses. -/

theorem memberG (c : Config) (stripe k : Int) : turn_Member c stripe k = some (bif mayC c then (bif askT c stripe k then (memF c stripe k, 0) else (0, 2)) else (0, 8)) := by
  cases hc : mayC c with
  | true => rw [memberF ((mayC_iff c).1 hc)]; rfl
  | false =>
    unfold turn_Member turn_at
    rw [stripesF, hc]
    rfl
theorem dAtF_set (ds : List Disk) (m : Nat) (x : Disk) (hm : m < ds.length) (i : Nat) : dAt (ds.set m x) i = if i = m then x else dAt ds i := by
  unfold dAt
  rw [List.getD_eq_getElem?_getD, List.getD_eq_getElem?_getD, List.getElem?_set]
  by_cases h : m = i
  · subst h; rw [if_pos rfl, if_pos hm, if_pos rfl]; rfl
  · rw [if_neg h, if_neg (fun e => h e.symm)]
theorem okAF_set {c : Config} {ds : List Disk} (h : OkA c ds) {m : Nat} (hm : m < ds.length) {x : Disk} (hx : MayD x) (hl : x.Blocks.length = (dAt ds m).Blocks.length) : OkA c (ds.set m x) := by
  refine ⟨h.mc, by simp [h.len], h.m, h.s, fun i hi => ?_, fun i hi => ?_⟩
  · rw [dAtF_set ds m x hm]
    split
    · exact hx
    · exact h.may i (by simpa using hi)
  · rw [dAtF_set ds m x hm]
    split
    · rename_i he; subst he; rw [hl]; exact h.want i (by simpa using hi)
    · exact h.want i (by simpa using hi)
def deadD (d : Disk) : Disk := ⟨List.replicate d.Blocks.length [], [], true⟩
theorem deadD_may {d : Disk} (h : MayD d) : MayD (deadD d) := by
  refine ⟨by simpa [deadD] using h.n1, by simpa [deadD] using h.n2, by simp [deadD], fun _ => rfl, fun _ b hb => ?_, fun b hb => ?_, fun w hw => ?_⟩
  · simp [deadD, List.mem_replicate] at hb; exact hb.2
  · simp [deadD, List.mem_replicate] at hb; rw [hb.2]; rfl
  · simp [deadD] at hw
/-! ### even stripes, as they are read -/
def colF (c : Config) (ds : List Disk) (s : Nat) : List (List UInt8) := (List.range (mN c)).map fun i => seenD (dAt ds i) (s + 1)
theorem colF_len (c : Config) (ds : List Disk) (s : Nat) : (colF c ds s).length = mN c := by simp [colF]
theorem colF_ok {c : Config} {ds : List Disk} (h : OkA c ds) {s : Nat} (hs : s < sN c) : ∀ b ∈ colF c ds s, blockB b = true := by
  intro b hb
  obtain ⟨i, hi, rfl⟩ := List.mem_map.1 hb
  have hi := List.mem_range.1 hi
  unfold blockB
  rw [seen_len (h.may i (by have := h.len; omega)) (h.mem hi hs)]; rfl
theorem without_take (c : Config) (f : Nat → List UInt8) (m : Nat) (hm : m < mN c) : (withoutF c m).map f = ((List.range (mN c)).map f).take m ++ ((List.range (mN c)).map f).drop (m + 1) := by
  rw [← List.map_take, ← List.map_drop, ← List.map_append]
  congr 1
  unfold withoutF
  have h1 : List.range (mN c) = (List.range (mN c)).take m ++ (m :: (List.range (mN c)).drop (m + 1)) := by
    have : (List.range (mN c))[m]'(by simpa using hm) = m := by simp
    have h2 := (List.take_append_drop m (List.range (mN c))).symm
    rw [List.drop_eq_getElem_cons (by simpa using hm), this] at h2
    exact h2
  have ht : ((List.range (mN c)).take m).filter (fun i => i != m) = (List.range (mN c)).take m := List.filter_eq_self.2 (fun i hi => by
    rw [List.take_range] at hi
    have := List.mem_range.1 hi
    simp; omega)
  have hd : ((List.range (mN c)).drop (m + 1)).filter (fun i => i != m) = (List.range (mN c)).drop (m + 1) := List.filter_eq_self.2 (fun i hi => by
    obtain ⟨j, hj, rfl⟩ := List.getElem_of_mem hi
    simp; omega)
  conv => lhs; rw [h1]
  rw [List.filter_append, List.filter_cons, ht, hd]
  simp
/-- One lone loss: each block as it stands. -/
theorem off_lone {c : Config} {ds ds' : List Disk} (h : OkA c ds) (_h' : OkA c ds') {s : Nat} (hs : s < sN c) {m lost : Nat} (hm : m < mN c) (missing : Int)
    (hz : zeroB (foldS (colF c ds s)) = true) (hsame : ∀ i, i < mN c → i ≠ lost → dAt ds' i = dAt ds i) (hlost : ∀ i, i < mN c → lostF ds' missing i = decide (i = lost)) :
    offF c ds' missing s m = (seenD (dAt ds m) (s + 1), 0) := by
  have hlen := h.len
  unfold offF
  rw [hlost m hm]
  by_cases he : m = lost
  case neg =>
    rw [decide_eq_false he, hsame m hm he]; rfl
  subst he
  rw [decide_eq_true rfl]
  have hal : alsoF c ds' missing m = false := by
    unfold alsoF
    rw [List.any_eq_false]
    intro i hi
    obtain ⟨h1, h2⟩ := List.mem_filter.1 hi
    rw [hlost i (List.mem_range.1 h1), decide_eq_false (by simpa using h2)]
    simp
  rw [hal]
  simp only [cond_true, cond_false]
  have ho : othersF c ds' s m = othersF c ds s m := by
    unfold othersF
    refine List.map_congr_left (fun i hi => ?_)
    obtain ⟨h1, h2⟩ := List.mem_filter.1 hi
    rw [hsame i (List.mem_range.1 h1) (by simpa using h2)]
  have hml : m < (colF c ds s).length := by rw [colF_len]; exact hm
  have hget : (colF c ds s)[m] = seenD (dAt ds m) (s + 1) := by simp [colF]
  rw [zero_iff_others _ (colF_ok h hs) m hml (by rw [hget]; exact seen_len (h.may m (by omega)) (h.mem hm hs)), decide_eq_true_iff, hget] at hz
  rw [ho]
  unfold othersF
  rw [without_take c _ m hm]
  unfold colF at hz
  rw [hz]
theorem fetch_in {c : Config} {ds : List Disk} (h : OkA c ds) {missing stripe slot : Int} (ha : askT c stripe slot = true) (h0 : -1 ≤ missing) (h1 : missing < c.Members) :
    fetchF c ds missing stripe slot = offF c ds missing stripe.toNat (memF c stripe slot).toNat := by
  unfold fetchF
  rw [(okA_iff c ds).2 h, ha, decide_eq_true h0, decide_eq_true h1]
  rfl

/- Plain law: acts on devices: which may be done, and what they do. -/

theorem contDs_eq (l : List Disk) (f : Disk → Option Bool) (p : Disk → Bool) (hl : l.length < 4294967296) (hf : ∀ x ∈ l, f x = some (p x)) : slices_ContainsFunc_api_Disk_api_Disk l f = some (l.any p) := by
  unfold slices_ContainsFunc_api_Disk_api_Disk slices_IndexFunc_api_Disk_api_Disk
  obtain ⟨b, hb, hq⟩ := loop_first l p (step := fun s : Int => slices_IndexFunc_api_Disk_api_Disk_L1 l f s) (fun k => Sum.inr (k : Int)) (Sum.inl ()) hl (fun k hk => by
      unfold slices_IndexFunc_api_Disk_api_Disk_L1
      rw [decide_eq_true (show (k : Int) < (l.length : Int) by omega), idx_nat, List.getElem?_eq_getElem hk, wI_succ (by omega)]
      simp only [cond_true, Option.bind_some, hf l[k] (List.getElem_mem _)]
      cases p l[k] <;> rfl) (by
      unfold slices_IndexFunc_api_Disk_api_Disk_L1
      rw [decide_eq_false (show ¬(l.length : Int) < (l.length : Int) by omega)]; rfl)
  rw [hb]
  rcases hq with ⟨k, rfl, hk, hp, _⟩ | ⟨rfl, hn⟩
  · rw [List.any_eq_true.2 ⟨l[k], List.getElem_mem _, hp⟩]; simp
  · rw [List.any_eq_false.2 (fun x hx => by rw [hn x hx]; simp)]; rfl

def mayDs (ds : List Disk) : Bool := decide (1 ≤ ds.length) && (decide (ds.length ≤ 17) && !(ds.any fun d => !mayD d))
structure MayDs (ds : List Disk) : Prop where
  n1 : 1 ≤ ds.length
  n2 : ds.length ≤ 17
  m : ∀ d ∈ ds, MayD d
theorem mayDs_ok {ds : List Disk} (h : mayDs ds = true) : MayDs ds := by
  unfold mayDs at h
  simp only [Bool.and_eq_true, decide_eq_true_eq, Bool.not_eq_true', List.any_eq_false] at h
  exact ⟨h.1, h.2.1, fun d hd => (mayD_iff d).1 (by simpa using h.2.2 d hd)⟩
theorem MayDs.t {ds : List Disk} (h : MayDs ds) : mayDs ds = true := by
  unfold mayDs
  simp only [Bool.and_eq_true, decide_eq_true_eq, Bool.not_eq_true', List.any_eq_false]
  exact ⟨h.n1, h.n2, fun d hd => by rw [(mayD_iff d).2 (h.m d hd)]; simp⟩
theorem MayDs.small {ds : List Disk} (h : MayDs ds) : ∀ d ∈ ds, SmallD d := fun d hd => (h.m d hd).small
theorem pdevs_eq (ds : List Disk) : acts_devices ds = some (bif mayDs ds then 0 else 8) := by
  unfold acts_devices mayDs
  by_cases h1 : 1 ≤ ds.length
  case neg => rw [decide_eq_true (show (ds.length : Int) < 1 by omega), decide_eq_false h1]; simp [gO]
  by_cases h2 : ds.length ≤ 17
  case neg => rw [decide_eq_true (show (ds.length : Int) > 17 by omega), decide_eq_false h2]; simp [gO]
  rw [decide_eq_false (show ¬(ds.length : Int) < 1 by omega), decide_eq_false (show ¬(ds.length : Int) > 17 by omega), decide_eq_true h1, decide_eq_true h2,
    contDs_eq ds _ (fun d => !mayD d) (by omega) (fun d _ => by
      unfold acts_devices_1
      rw [pcheck_eq]
      cases mayD d <;> rfl)]
  cases ds.any (fun d => !mayD d) <;> rfl
def lensD (ds : List Disk) : List Nat := ds.map fun d => d.Blocks.length
def outA (a : Act37) (n : Nat) : Bool := decide (a.Disk < 0) || decide (a.Disk ≥ (n : Int))
def mayAct (a : Act37) (ns : List Nat) : Bool :=
  !outA a ns.length && (bif a.Kind == 3 then (a.At == 0) && decide (a.Data.length = 0) else (a.Kind == 1 || a.Kind == 2) && (decide (0 ≤ a.At) && (decide (a.At < ((ns.getD a.Disk.toNat 0 : Nat) : Int)) && szB a.Data)))
def OkAct (a : Act37) (nb : Nat) : Prop := (a.Kind = 3 ∧ a.At = 0 ∧ a.Data = []) ∨ ((a.Kind = 1 ∨ a.Kind = 2) ∧ szB a.Data = true ∧ ∃ k : Nat, a.At = (k : Int) ∧ k < nb)
theorem outA_ok {a : Act37} {n : Nat} (h : outA a n = false) : ∃ i : Nat, a.Disk = (i : Int) ∧ i < n := by
  unfold outA at h
  simp only [Bool.or_eq_false_iff, decide_eq_false_iff_not] at h
  exact ⟨a.Disk.toNat, by omega, by omega⟩
theorem mayAct_ok {a : Act37} {ns : List Nat} (h : mayAct a ns = true) : ∃ (i : Nat) (hi : i < ns.length), a.Disk = (i : Int) ∧ OkAct a ns[i] := by
  unfold mayAct at h
  simp only [Bool.and_eq_true, Bool.not_eq_true'] at h
  obtain ⟨h1, h2⟩ := h
  obtain ⟨i, e, hi⟩ := outA_ok h1
  refine ⟨i, hi, e, ?_⟩
  rw [e, Int.toNat_natCast, List.getD_eq_getElem?_getD, List.getElem?_eq_getElem hi] at h2
  by_cases hk : a.Kind = 3
  · rw [show (a.Kind == 3) = true by simpa using hk] at h2
    simp only [cond_true, Bool.and_eq_true, decide_eq_true_eq] at h2
    exact .inl ⟨hk, by simpa using h2.1, List.eq_nil_of_length_eq_zero h2.2⟩
  · rw [show (a.Kind == 3) = false by simpa using hk] at h2
    simp only [cond_false, Bool.and_eq_true, decide_eq_true_eq, Bool.or_eq_true, beq_iff_eq, Option.getD_some] at h2
    exact .inr ⟨h2.1, h2.2.2.2, a.At.toNat, by omega, by omega⟩

theorem does_eq (k : UInt8) : acts_does k = some (if k = 1 then ⟨1⟩ else if k = 2 then ⟨2⟩ else if k = 3 then ⟨3⟩ else ⟨0⟩) := by
  by_cases h0 : k = 0
  · subst h0; rfl
  by_cases h1 : k = 1
  · subst h1; rfl
  by_cases h2 : k = 2
  · subst h2; rfl
  by_cases h3 : k = 3
  · subst h3; rfl
  rw [if_neg h1, if_neg h2, if_neg h3]
  unfold acts_does
  have e0 : k.toNat ≠ 0 := fun e => h0 (UInt8.toNat_inj.1 (by rw [e]; rfl))
  have e1 : k.toNat ≠ 1 := fun e => h1 (UInt8.toNat_inj.1 (by rw [e]; rfl))
  have e2 : k.toNat ≠ 2 := fun e => h2 (UInt8.toNat_inj.1 (by rw [e]; rfl))
  have e3 : k.toNat ≠ 3 := fun e => h3 (UInt8.toNat_inj.1 (by rw [e]; rfl))
  have h4 : k.toNat < 256 := k.toNat_lt
  rw [wI_id (by omega) (by omega), decide_eq_true (by omega)]; rfl
theorem pmayAct_eq (a : Act37) (ds : List Disk) : acts_act_may a ds = some (mayAct a (lensD ds)) := by
  unfold acts_act_may mayAct
  rw [show (decide (a.Disk < 0) || decide (a.Disk ≥ ((ds.length : Nat) : Int))) = outA a (lensD ds).length by unfold outA lensD; rw [List.length_map]]
  cases ho : outA a (lensD ds).length with
  | true => rfl
  | false =>
    obtain ⟨i, e, hi⟩ := outA_ok ho
    have hi' : i < ds.length := by simpa [lensD] using hi
    have hg : (lensD ds).getD a.Disk.toNat 0 = ds[i].Blocks.length := by
      rw [e, Int.toNat_natCast, List.getD_eq_getElem?_getD, List.getElem?_eq_getElem hi]
      simp [lensD]
    rw [hg, does_eq, e, idx_nat, List.getElem?_eq_getElem hi']
    simp only [gO, Bool.not_false, cond_true, Option.bind_some, Bool.false_or, Bool.true_and]
    by_cases h3 : a.Kind = 3
    · rw [h3]
      simp only [if_neg (show ¬(3 : UInt8) = 1 by decide), if_neg (show ¬(3 : UInt8) = 2 by decide), if_pos, beq_self_eq_true, cond_true]
      rw [show (((a.Data.length : Nat) : Int) == 0) = decide (a.Data.length = 0) by rw [Bool.eq_iff_iff]; simp]
      rfl
    · rw [show (a.Kind == 3) = false by simpa using h3]
      have hsz : ((((a.Data.length : Nat) : Int) == 0) || (((a.Data.length : Nat) : Int) == 128)) = szB a.Data := by unfold szB; rw [Bool.eq_iff_iff]; simp only [Bool.or_eq_true, beq_iff_eq]; omega
      rw [hsz]
      simp only [cond_false, if_neg h3]
      by_cases h1 : a.Kind = 1
      · rw [h1]
        simp only [if_pos, beq_self_eq_true, Bool.true_or, Bool.true_and]
        rw [show (fnAt [78, 79, 80] 1).isNone = false from rfl]
        by_cases hat : 0 ≤ a.At
        · rw [decide_eq_true hat]; simp
        · rw [decide_eq_false hat]; rfl
      · simp only [if_neg h1, show (a.Kind == 1) = false by simpa using h1, Bool.false_or]
        by_cases h2 : a.Kind = 2
        · rw [h2]
          simp only [if_pos, beq_self_eq_true, Bool.true_and]
          rw [show (fnAt [78, 79, 80] 2).isNone = false from rfl]
          by_cases hat : 0 ≤ a.At
          · rw [decide_eq_true hat]; simp
          · rw [decide_eq_false hat]; rfl
        · simp only [if_neg h2, show (a.Kind == 2) = false by simpa using h2]
          rw [show (fnAt [78, 79, 80] 0).isNone = true from rfl]; rfl
def checkActs (l : List Act37) (ds : List Disk) : Int := bif mayDs ds then (bif decide (1024 < l.length) then 4 else bif l.any (fun a => !mayAct a (lensD ds)) then 2 else 0) else 8
theorem pcheckActs_eq (l : List Act37) (ds : List Disk) : acts_Check l ds = some (checkActs l ds) := by
  unfold acts_Check checkActs
  rw [pdevs_eq]
  simp only [Option.bind_some]
  cases mayDs ds with
  | false => rfl
  | true =>
    simp only [cond_true, bne_self_eq_false, cond_false]
    by_cases hl : 1024 < l.length
    · rw [decide_eq_true hl, decide_eq_true (by omega)]; rfl
    · rw [decide_eq_false hl, decide_eq_false (by omega)]
      simp only [cond_false]
      rw [loop_anyD l (fun a => !mayAct a (lensD ds)) (step := fun s : Int => acts_Check_L1 l ds s) (Sum.inr ()) (Sum.inl ()) (by omega) (fun k hk => by
        unfold acts_Check_L1
        rw [decide_eq_true (show (k : Int) < (l.length : Int) by omega), idx_nat, List.getElem?_eq_getElem hk, wI_succ (by omega)]
        simp only [cond_true, Option.bind_some, pmayAct_eq]
        cases mayAct l[k] (lensD ds) <;> rfl) (by
        unfold acts_Check_L1
        rw [decide_eq_false (by omega)]; rfl)]
      cases l.any (fun a => !mayAct a (lensD ds)) <;> rfl
theorem checkActs_ok {l : List Act37} {ds : List Disk} (h : checkActs l ds = 0) : MayDs ds ∧ l.length ≤ 1024 ∧ ∀ a ∈ l, mayAct a (lensD ds) = true := by
  unfold checkActs at h
  cases hm : mayDs ds with
  | false => rw [hm] at h; simp at h
  | true =>
    rw [hm] at h
    simp only [cond_true] at h
    by_cases hl : 1024 < l.length
    · rw [decide_eq_true hl] at h; simp at h
    · rw [decide_eq_false hl] at h
      simp only [cond_false] at h
      cases ha : l.any (fun a => !mayAct a (lensD ds)) with
      | true => rw [ha] at h; simp at h
      | false =>
        refine ⟨mayDs_ok hm, by omega, fun a h2 => ?_⟩
        have := List.any_eq_false.1 ha a h2
        simpa using this

/-! ### what acts do -/
def fullA (d : Disk) (a : Act37) : Bool := !d.Dead && ((a.Kind == 1) && decide (1024 ≤ d.Wait.length))
def stepP (d : Disk) (a : Act37) : Disk := bif d.Dead then d else bif a.Kind == 1 then putD d a.At a.Data else bif a.Kind == 2 then pfuaD d a.At.toNat a.Data else pflushD d
def stepR (d : Disk) (a : Act37) : Disk := bif d.Dead then d else bif a.Kind == 1 then putD d a.At a.Data else bif a.Kind == 2 then rfuaD d a.At.toNat a.Data else rflushD d
def runA (stp : Disk → Act37 → Disk) : List Act37 → List Disk → Option (List Disk)
  | [], ds => some ds
  | a :: l, ds => bif fullA (ds.getD a.Disk.toNat noD) a then none else runA stp l (ds.set a.Disk.toNat (stp (ds.getD a.Disk.toNat noD) a))
theorem errD_zero {d : Disk} {k : Nat} {data : List UInt8} (h : MayD d) (hd : d.Dead = false) (hs : szB data = true) (hk : k < d.Blocks.length) : errD d (k : Int) data = 0 := by
  unfold errD askD
  rw [may_t h, hd, hs, decide_eq_false (show ¬(k : Int) < 0 by omega), decide_eq_false (show ¬(k : Int) ≥ (d.Blocks.length : Int) by omega)]; rfl
theorem pact_eq {d : Disk} {a : Act37} (h : MayD d) (hd : d.Dead = false) (ha : OkAct a d.Blocks.length) :
    ∃ m, acts_does a.Kind = some m ∧ fncall100 m a d = some (bif fullA d a then (noD, 9) else (stepP d a, 0)) := by
  rw [does_eq]
  unfold fullA stepP
  rw [hd]
  rcases ha with ⟨hk, _, _⟩ | ⟨hk, hs, k, e, hkn⟩
  · rw [hk]
    refine ⟨⟨3⟩, rfl, ?_⟩
    show acts_act_flush a d = _
    unfold acts_act_flush
    rw [pflush_eq, may_t h, hd]; rfl
  · rcases hk with hk | hk
    · rw [hk]
      refine ⟨⟨1⟩, rfl, ?_⟩
      show acts_act_write a d = _
      unfold acts_act_write
      rw [pwrite_eq, e]
      unfold writeD
      rw [errD_zero h hd hs hkn]
      cases decide (1024 ≤ d.Wait.length) <;> rfl
    · rw [hk]
      refine ⟨⟨2⟩, rfl, ?_⟩
      show acts_act_fua a d = _
      unfold acts_act_fua
      rw [pfua_eq, e, errD_zero h hd hs hkn]; rfl
theorem rfua_may {d : Disk} {k : Nat} {data : List UInt8} (hm : MayD d) (hd : d.Dead = false) (hs : szB data = true) : MayD (rfuaD d k data) := by
  have hl : (rfuaD d k data).Blocks.length = d.Blocks.length := by simp [rfuaD]
  refine ⟨by rw [hl]; exact hm.n1, by rw [hl]; exact hm.n2, by unfold rfuaD; simp only [List.length_map]; exact Nat.le_trans (List.length_filter_le _ _) hm.nw, fun h => ?_, fun h => ?_, fun b hb => ?_, fun w hw => ?_⟩
  · have h : d.Dead = true := h
    rw [hd] at h; cases h
  · have h : d.Dead = true := h
    rw [hd] at h; cases h
  · rcases List.mem_or_eq_of_mem_set hb with hb | rfl
    · exact hm.sz b hb
    · exact szB_full hs
  · rw [hl]
    obtain ⟨x, hx, rfl⟩ := List.mem_map.1 hw
    obtain ⟨h1, h2, h3⟩ := hm.wt x (List.mem_filter.1 hx).1
    exact ⟨h1, h2, szB_full h3⟩
theorem seen_sz {d : Disk} (h : MayD d) (k : Nat) : szB (seenD d k) = true := by
  unfold seenD
  have h0 : szB (liesD d k) = true := by
    unfold liesD
    refine szB_full ?_
    rw [List.getD_eq_getElem?_getD]
    by_cases hk : k < d.Blocks.length
    · rw [List.getElem?_eq_getElem hk]; exact h.sz _ (List.getElem_mem hk)
    · rw [List.getElem?_eq_none (by omega)]; rfl
  have : ∀ (l : List Write) (acc : List UInt8), (∀ w ∈ l, szB w.Data = true) → szB acc = true → szB (l.foldl (overW (k : Int)) acc) = true := by
    intro l
    induction l with
    | nil => intro acc _ h; exact h
    | cons w l ih =>
      intro acc hl ha
      rw [List.foldl_cons]
      refine ih _ (fun x hx => hl x (by simp [hx])) ?_
      unfold overW
      split
      · exact szB_full (hl w (by simp))
      · exact ha
  exact this d.Wait _ (fun w hw => (h.wt w hw).2.2) h0
theorem rflush_may {d : Disk} (h : MayD d) (hd : d.Dead = false) : MayD (rflushD d) := by
  have hdd : (rflushD d).Dead = false := hd
  refine ⟨by unfold rflushD; simp; exact h.n1, by unfold rflushD; simp; exact h.n2, by unfold rflushD; simp, fun _ => rfl, fun h2 => (by rw [hdd] at h2; cases h2), fun b hb => ?_, fun w hw => by unfold rflushD at hw; simp at hw⟩
  unfold rflushD at hb
  obtain ⟨k, _, rfl⟩ := List.mem_map.1 hb
  exact seen_sz h k
theorem stepP_may {d : Disk} {a : Act37} (h : MayD d) (ha : OkAct a d.Blocks.length) (hf : fullA d a = false) : MayD (stepP d a) ∧ (stepP d a).Blocks.length = d.Blocks.length := by
  unfold fullA at hf
  unfold stepP
  cases hd : d.Dead with
  | true => exact ⟨h, rfl⟩
  | false =>
    rw [hd] at hf
    rcases ha with ⟨hk, _, _⟩ | ⟨hk, hs, k, e, hkn⟩
    · rw [hk]; exact ⟨pflush_may h hd, by show (pflushD d).Blocks.length = _; unfold pflushD; simp only [setW_len]⟩
    · rcases hk with hk | hk
      · rw [hk] at hf ⊢
        have hw : ¬ 1024 ≤ d.Wait.length := by simpa using hf
        rw [e]; exact ⟨put_may h hd hs hkn hw, rfl⟩
      · rw [hk, e]; exact ⟨fua_may h hd hs, by show (pfuaD d _ _).Blocks.length = _; simp [pfuaD]⟩
theorem stepR_may {d : Disk} {a : Act37} (h : MayD d) (ha : OkAct a d.Blocks.length) (hf : fullA d a = false) : MayD (stepR d a) ∧ (stepR d a).Blocks.length = d.Blocks.length := by
  unfold fullA at hf
  unfold stepR
  cases hd : d.Dead with
  | true => exact ⟨h, rfl⟩
  | false =>
    rw [hd] at hf
    rcases ha with ⟨hk, _, _⟩ | ⟨hk, hs, k, e, hkn⟩
    · rw [hk]; exact ⟨rflush_may h hd, by show (rflushD d).Blocks.length = _; unfold rflushD; simp⟩
    · rcases hk with hk | hk
      · rw [hk] at hf ⊢
        have hw : ¬ 1024 ≤ d.Wait.length := by simpa using hf
        rw [e]; exact ⟨put_may h hd hs hkn hw, rfl⟩
      · rw [hk, e]; exact ⟨rfua_may h hd hs, by show (rfuaD d _ _).Blocks.length = _; simp [rfuaD]⟩
/- Plain law: acts.Run and the document's answer. -/

theorem ptwins_eq {ds : List Disk} (hl : ds.length ≤ 100000) (h : ∀ d ∈ ds, SmallD d) : acts_twins ds = some ds := by
  unfold acts_twins
  have := loop_run (step := fun s : (List Disk) × Int => acts_twins_L1 ds s.1 s.2) (fun k => (ds.take k, (k : Int))) ds.length ds (fuel_ltD (by omega)) (fun k hk => by
    unfold acts_twins_L1
    simp only
    rw [decide_eq_true (by omega), idx_nat, List.getElem?_eq_getElem hk]
    simp only [cond_true, Option.bind_some]
    rw [ptwin_eq (h _ (List.getElem_mem hk)), wI_succ (by omega)]
    simp only [Option.bind_some]
    rw [app_some _ _ (by simp; omega), take_succ_get _ _ _ (List.getElem?_eq_getElem hk)]; rfl) (by
    unfold acts_twins_L1
    simp only
    rw [decide_eq_false (by omega), List.take_length]; rfl)
  have h0 : (([] : List Disk), (0 : Int)) = (fun k : Nat => (ds.take k, (k : Int))) 0 := by simp
  rw [h0, this]; rfl

theorem runA_cons (stp : Disk → Act37 → Disk) (a : Act37) (l : List Act37) (ds : List Disk) : runA stp (a :: l) ds = bif fullA (ds.getD a.Disk.toNat noD) a then none else runA stp l (ds.set a.Disk.toNat (stp (ds.getD a.Disk.toNat noD) a)) := rfl
/-- Devices that may be, of given sizes. -/
def LikeDs (ns : List Nat) (ds : List Disk) : Prop := MayDs ds ∧ lensD ds = ns
theorem like_at {ns : List Nat} {ds : List Disk} (h : LikeDs ns ds) {a : Act37} (ha : mayAct a ns = true) :
    ∃ (i : Nat) (hi : i < ds.length), a.Disk = (i : Int) ∧ ds.getD a.Disk.toNat noD = ds[i] ∧ MayD ds[i] ∧ OkAct a ds[i].Blocks.length := by
  obtain ⟨hm, rfl⟩ := h
  obtain ⟨i, hi, e, hok⟩ := mayAct_ok ha
  have hi' : i < ds.length := by simpa [lensD] using hi
  refine ⟨i, hi', e, ?_, hm.m _ (List.getElem_mem hi'), ?_⟩
  · rw [e, Int.toNat_natCast, List.getD_eq_getElem?_getD, List.getElem?_eq_getElem hi']; rfl
  · simpa [lensD] using hok
theorem like_set {ns : List Nat} {ds : List Disk} (h : LikeDs ns ds) {i : Nat} (hi : i < ds.length) {d : Disk} (hd : MayD d) (hl : d.Blocks.length = ds[i].Blocks.length) : LikeDs ns (ds.set i d) := by
  obtain ⟨hm, rfl⟩ := h
  refine ⟨⟨by simpa using hm.n1, by simpa using hm.n2, fun e he => ?_⟩, ?_⟩
  · rcases List.mem_or_eq_of_mem_set he with he | rfl
    · exact hm.m e he
    · exact hd
  · unfold lensD
    rw [List.map_set, hl]
    have : (ds.map fun d => d.Blocks.length)[i]? = some ds[i].Blocks.length := by simp [hi]
    exact List.ext_getElem? fun j => by
      rw [List.getElem?_set]
      split
      · next h => subst h; rw [this]; simp [hi]
      · rfl

theorem loop_acts {B : Type} {step : List Disk × Int → Option (Ctl (List Disk × Int) B)} (stp : Disk → Act37 → Disk) (l : List Act37) (Inv : List Disk → Prop) (yes : List Disk → B) (no : B) (hl : l.length < 4294967296)
    (h1 : ∀ k (hk : k < l.length) ds, Inv ds → (fullA (ds.getD l[k].Disk.toNat noD) l[k] = true ∧ step (ds, (k : Int)) = some (.brk no)) ∨
      (fullA (ds.getD l[k].Disk.toNat noD) l[k] = false ∧ step (ds, (k : Int)) = some (.next (ds.set l[k].Disk.toNat (stp (ds.getD l[k].Disk.toNat noD) l[k]), ((k + 1 : Nat) : Int))) ∧ Inv (ds.set l[k].Disk.toNat (stp (ds.getD l[k].Disk.toNat noD) l[k]))))
    (h2 : ∀ ds, step (ds, (l.length : Int)) = some (.brk (yes ds))) (ds0 : List Disk) (h0 : Inv ds0) :
    ∃ b, loopM step FUEL (ds0, (0 : Int)) = some b ∧ ((∃ o, runA stp l ds0 = some o ∧ Inv o ∧ b = yes o) ∨ (runA stp l ds0 = none ∧ b = no)) := by
  refine loop_inv (step := step) l.length (fun k s => s.2 = (k : Int) ∧ Inv s.1 ∧ runA stp (l.drop k) s.1 = runA stp l ds0) _ (fun k s hk hI => ?_) FUEL 0 (ds0, 0) (Nat.zero_le _) (by have := fuel_ltD hl; omega) ⟨rfl, h0, by simp⟩
  obtain ⟨ds, s2⟩ := s
  obtain ⟨e1, e2, e3⟩ := hI
  simp only at e1 e2 e3
  subst e1
  by_cases hlt : k < l.length
  · rw [List.drop_eq_getElem_cons hlt] at e3
    rw [runA_cons] at e3
    rcases h1 k hlt ds e2 with ⟨hf, hs⟩ | ⟨hf, hs, hi⟩
    · rw [hf] at e3
      exact .inr ⟨_, hs, .inr ⟨e3.symm, rfl⟩⟩
    · rw [hf] at e3
      exact .inl ⟨_, hs, hlt, rfl, hi, e3⟩
  · obtain rfl : k = l.length := by omega
    rw [List.drop_length] at e3
    exact .inr ⟨_, h2 ds, .inl ⟨ds, e3.symm, e2, rfl⟩⟩

def runD (stp : Disk → Act37 → Disk) (ds : List Disk) (l : List Act37) (n : Int) : List Disk × Int :=
  bif (checkActs l ds != 0) then ([], checkActs l ds) else bif decide (n < 0) || decide (n > (l.length : Int)) then ([], 2) else ((runA stp (l.take n.toNat) ds).elim ([], 9) fun o => (o, 0))
theorem slc_take {α : Type} (l : List α) {n : Int} (h : (decide (n < 0) || decide (n > (l.length : Int))) = false) : slc l 0 n = some (l.take n.toNat) := by
  simp only [Bool.or_eq_false_iff, decide_eq_false_iff_not] at h
  unfold slc
  rw [if_pos (by omega)]
  simp
theorem prun_eq (ds : List Disk) (l : List Act37) (n : Int) : acts_Run ds l n = some (runD stepP ds l n) ∧ ∀ o, runA stepP (l.take n.toNat) ds = some o → checkActs l ds = 0 → LikeDs (lensD ds) o := by
  unfold acts_Run runD
  rw [pcheckActs_eq]
  simp only [Option.bind_some]
  cases hc : (checkActs l ds != 0) with
  | true => exact ⟨rfl, fun o _ h => by rw [h] at hc; cases hc⟩
  | false =>
    obtain ⟨hm, hl, ha⟩ := checkActs_ok (l := l) (ds := ds) (by simpa using hc)
    have hmem : ∀ k (hk : k < (l.take n.toNat).length), mayAct (l.take n.toNat)[k] (lensD ds) = true := fun k hk => ha _ (List.mem_of_mem_take (List.getElem_mem hk))
    obtain ⟨b, hb, hq⟩ := loop_acts (step := fun s : (List Disk) × Int => acts_Run_L1 (l.take n.toNat) s.1 s.2) stepP (l.take n.toNat) (LikeDs (lensD ds)) Sum.inl (Sum.inr 9) (by simp; omega) (fun k hk es hI => by
      obtain ⟨i, hi, e, hg, hmay, hok⟩ := like_at hI (hmem k hk)
      rw [hg, e, Int.toNat_natCast]
      show (_ ∧ acts_Run_L1 (l.take n.toNat) es (k : Int) = _) ∨ (_ ∧ acts_Run_L1 (l.take n.toNat) es (k : Int) = _ ∧ _)
      have hstep : acts_Run_L1 (l.take n.toNat) es (k : Int) = some (bif fullA es[i] (l.take n.toNat)[k] then .brk (.inr 9) else .next (es.set i (stepP es[i] (l.take n.toNat)[k]), ((k + 1 : Nat) : Int))) := by
        unfold acts_Run_L1 acts_Run_J2
        rw [decide_eq_true (by omega), idx_nat, List.getElem?_eq_getElem hk, wI_succ (by simp at hk; omega)]
        simp only [cond_true, Option.bind_some]
        rw [e, idx_nat, List.getElem?_eq_getElem hi]
        simp only [Option.bind_some]
        cases hd : es[i].Dead with
        | true =>
          simp only [cond_true]
          rw [show fullA es[i] (l.take n.toNat)[k] = false by unfold fullA; rw [hd]; rfl, show stepP es[i] (l.take n.toNat)[k] = es[i] by unfold stepP; rw [hd]; rfl]
          simp
        | false =>
          obtain ⟨m, hm1, hm2⟩ := pact_eq hmay hd hok
          rw [hm1]
          simp only [cond_false, Option.bind_some]
          rw [hm2]
          simp only [Option.bind_some]
          cases fullA es[i] (l.take n.toNat)[k] with
          | true => rfl
          | false =>
            simp only [cond_false, bne_self_eq_false]
            rw [bnd_nat hi]; rfl
      rw [hstep]
      cases hf : fullA es[i] (l.take n.toNat)[k] with
      | true => exact .inl ⟨rfl, rfl⟩
      | false =>
        obtain ⟨h1, h2⟩ := stepP_may hmay hok hf
        exact .inr ⟨rfl, rfl, like_set hI hi h1 h2⟩) (fun es => by
      show acts_Run_L1 (l.take n.toNat) es _ = _
      unfold acts_Run_L1
      rw [decide_eq_false (by omega)]; rfl) ds ⟨hm, rfl⟩
    refine ⟨?_, fun o ho _ => ?_⟩
    · simp only [cond_false]
      cases hn : (decide (n < 0) || decide (n > (l.length : Int))) with
      | true => rfl
      | false =>
        simp only [cond_false]
        rw [ptwins_eq (by have := hm.n2; omega) hm.small, slc_take l hn]
        simp only [Option.bind_some]
        rw [hb]
        rcases hq with ⟨o, ho, _, rfl⟩ | ⟨ho, rfl⟩
        · rw [ho]; rfl
        · rw [ho]; rfl
    · rcases hq with ⟨o', ho', hL, _⟩ | ⟨ho', _⟩
      · rw [ho'] at ho; cases ho; exact hL
      · rw [ho'] at ho; cases ho
/-! ### what is seen of devices -/
theorem view_len {d e : Disk} (h : viewD d = viewD e) : d.Blocks.length = e.Blocks.length := by
  have := congrArg (fun v => v.1.length) h
  simpa [viewD] using this
theorem view_wait {d e : Disk} (h : viewD d = viewD e) : d.Wait.length = e.Wait.length := by
  have := congrArg (fun v => v.2.1.length) h
  simpa [viewD] using this
theorem view_dead {d e : Disk} (h : viewD d = viewD e) : d.Dead = e.Dead := congrArg (fun v => v.2.2) h
theorem view_blocks {d e : Disk} (h : viewD d = viewD e) : d.Blocks.map fullB = e.Blocks.map fullB := congrArg (fun v => v.1) h
theorem view_waits {d e : Disk} (h : viewD d = viewD e) : d.Wait.map viewW = e.Wait.map viewW := congrArg (fun v => v.2.1) h
theorem view_full {d e : Disk} (h : viewD d = viewD e) (a : Act37) : fullA d a = fullA e a := by
  unfold fullA
  rw [view_wait h, view_dead h]
theorem view_put {d e : Disk} (h : viewD d = viewD e) (at_ : Int) (data : List UInt8) : viewD (putD d at_ data) = viewD (putD e at_ data) := by
  have h1 := view_blocks h
  have h2 := view_waits h
  have h3 := view_dead h
  unfold viewD putD
  simp only [List.map_append, h1, h2, h3]
theorem view_filter (k : Int) (l : List Write) : (l.filter (keepW k)).map viewW = (l.map viewW).filter fun v => !(v.1 == k) := by
  rw [List.filter_map]; rfl
theorem view_fua {d e : Disk} (h : viewD d = viewD e) (k : Nat) (data : List UInt8) : viewD (pfuaD d k data) = viewD (pfuaD e k data) := by
  have h1 := view_blocks h
  have h2 := view_waits h
  have h3 := view_dead h
  unfold viewD pfuaD
  simp only [List.map_set, view_filter, h1, h2, h3]
theorem view_over (k : Int) : ∀ (l : List Write) (acc : List UInt8), l.foldl (overW k) acc = (l.map viewW).foldl (fun acc v => if v.1 = k then v.2 else acc) acc
  | [], _ => rfl
  | w :: l, acc => by rw [List.foldl_cons, view_over k l]; rfl
theorem view_lies {d e : Disk} (h : viewD d = viewD e) (k : Nat) : liesD d k = liesD e k := by
  have : ∀ f : Disk, liesD f k = ((f.Blocks.map fullB)[k]?).getD (fullB []) := fun f => by
    unfold liesD
    rw [List.getD_eq_getElem?_getD, List.getElem?_map]
    cases f.Blocks[k]? <;> rfl
  rw [this, this, view_blocks h]
theorem view_seen {d e : Disk} (h : viewD d = viewD e) (k : Nat) : seenD d k = seenD e k := by
  unfold seenD
  rw [view_over, view_over, view_waits h, view_lies h]
theorem view_rflush {d e : Disk} (h : viewD d = viewD e) : viewD (rflushD d) = viewD (rflushD e) := by
  unfold rflushD
  rw [view_len h, view_dead h, show seenD d = seenD e from funext fun k => view_seen h k]
theorem view_step {d e : Disk} (h : viewD d = viewD e) (hm : MayD d) (a : Act37) : viewD (stepP d a) = viewD (stepR e a) := by
  unfold stepP stepR
  rw [← view_dead h]
  cases d.Dead with
  | true => exact h
  | false =>
    simp only [cond_false]
    cases (a.Kind == 1) with
    | true => exact view_put h _ _
    | false =>
      cases (a.Kind == 2) with
      | true => simp only [cond_true, cond_false]; rw [view_fua h]; exact fua_view _ _ _
      | false => simp only [cond_false]; rw [flush_view hm]; exact view_rflush h
theorem view_stepP {d e : Disk} (h : viewD d = viewD e) (hm : MayD d) (hm' : MayD e) (a : Act37) : viewD (stepP d a) = viewD (stepP e a) := by
  rw [view_step h hm a, view_step rfl hm' a]
theorem views_lens {ds es : List Disk} (h : ds.map viewD = es.map viewD) : lensD ds = lensD es := by
  have := congrArg (List.map fun v : List (List UInt8) × List (Int × List UInt8) × Bool => v.1.length) h
  simp only [List.map_map] at this
  have hf : ((fun v : List (List UInt8) × List (Int × List UInt8) × Bool => v.1.length) ∘ viewD) = fun d : Disk => d.Blocks.length := by funext d; simp [viewD]
  rw [hf] at this
  exact this
theorem view_run {p q : Disk → Act37 → Disk} (hpq : ∀ d e a, viewD d = viewD e → MayD d → MayD e → viewD (p d a) = viewD (q e a))
    (hp : ∀ d a, MayD d → OkAct a d.Blocks.length → fullA d a = false → MayD (p d a) ∧ (p d a).Blocks.length = d.Blocks.length)
    (hq : ∀ d a, MayD d → OkAct a d.Blocks.length → fullA d a = false → MayD (q d a) ∧ (q d a).Blocks.length = d.Blocks.length) (ns : List Nat) :
    ∀ (l : List Act37) (ds es : List Disk), ds.map viewD = es.map viewD → LikeDs ns ds → LikeDs ns es → (∀ a ∈ l, mayAct a ns = true) → (runA p l ds).map (List.map viewD) = (runA q l es).map (List.map viewD)
  | [], ds, es, h, _, _, _ => congrArg some h
  | a :: l, ds, es, h, hd, he, ha => by
    obtain ⟨i, hi, e, hg, hmay, hok⟩ := like_at hd (ha a (by simp))
    obtain ⟨j, hj, e', hg', hmay', hok'⟩ := like_at he (ha a (by simp))
    obtain rfl : i = j := by omega
    have hv : viewD ds[i] = viewD es[i] := by
      have := congrArg (fun l => l[i]?) h
      simpa [hi, hj] using this
    rw [runA_cons, runA_cons, hg, hg', view_full hv]
    cases hf : fullA es[i] a with
    | true => rfl
    | false =>
      simp only [cond_false]
      rw [e, Int.toNat_natCast]
      obtain ⟨h1, h2⟩ := hp _ _ hmay hok (by rw [view_full hv]; exact hf)
      obtain ⟨h3, h4⟩ := hq _ _ hmay' hok' hf
      refine view_run hpq hp hq ns l _ _ ?_ (like_set hd hi h1 h2) (like_set he hj h3 h4) (fun b hb => ha b (by simp [hb]))
      rw [List.map_set, List.map_set, h, hpq _ _ a hv hmay hmay']
/-- What acts.Run answers is seen as the document's answer. -/
theorem run_same (ds : List Disk) (l : List Act37) (n : Int) : (runD stepP ds l n).1.map viewD = (runD stepR ds l n).1.map viewD ∧ (runD stepP ds l n).2 = (runD stepR ds l n).2 := by
  unfold runD
  cases hc : (checkActs l ds != 0) with
  | true => exact ⟨rfl, rfl⟩
  | false =>
    obtain ⟨hm, _, ha⟩ := checkActs_ok (l := l) (ds := ds) (by simpa using hc)
    have := view_run (p := stepP) (q := stepR) (fun d e a h h1 _ => view_step h h1 a) (fun d a h h1 h2 => stepP_may h h1 h2) (fun d a h h1 h2 => stepR_may h h1 h2) (lensD ds) (l.take n.toNat) ds ds rfl ⟨hm, rfl⟩ ⟨hm, rfl⟩ (fun a h => ha a (List.mem_of_mem_take h))
    simp only [cond_false]
    cases (decide (n < 0) || decide (n > (l.length : Int))) with
    | true => exact ⟨rfl, rfl⟩
    | false =>
      simp only [cond_false]
      cases h1 : runA stepP (l.take n.toNat) ds with
      | none =>
        rw [h1] at this
        cases h2 : runA stepR (l.take n.toNat) ds with
        | none => exact ⟨rfl, rfl⟩
        | some o => rw [h2] at this; cases this
      | some o =>
        rw [h1] at this
        cases h2 : runA stepR (l.take n.toNat) ds with
        | none => rw [h2] at this; cases this
        | some o' => rw [h2] at this; exact ⟨Option.some.inj this, rfl⟩
theorem runD_small {stp : Disk → Act37 → Disk} {ds : List Disk} {l : List Act37} {n : Int} (h : ∀ o, runA stp (l.take n.toNat) ds = some o → checkActs l ds = 0 → LikeDs (lensD ds) o) : (runD stp ds l n).1.length ≤ 17 ∧ ∀ d ∈ (runD stp ds l n).1, SmallD d := by
  unfold runD
  cases hc : (checkActs l ds != 0) with
  | true => simp
  | false =>
    simp only [cond_false]
    cases (decide (n < 0) || decide (n > (l.length : Int))) with
    | true => simp
    | false =>
      simp only [cond_false]
      cases h1 : runA stp (l.take n.toNat) ds with
      | none => simp
      | some o =>
        have := (h o h1 (by simpa using hc)).1
        exact ⟨this.n2, this.small⟩
/- Plain law: deals written make a stripe even again. -/

/-! ### where slots lie -/
def memN (c : Config) (s k : Nat) : Nat := if (parF c (s : Int) + 1).toNat + k < mN c then (parF c (s : Int) + 1).toNat + k else (parF c (s : Int) + 1).toNat + k - mN c
theorem parN {c : Config} (h : MayC c) (s : Nat) : 1 ≤ (parF c (s : Int) + 1).toNat ∧ (parF c (s : Int) + 1).toNat ≤ mN c ∧ parF c (s : Int) + 1 = (((parF c (s : Int) + 1).toNat : Nat) : Int) ∧ c.Members = (mN c : Int) := by
  have := parF_in h (s : Int)
  have := h.1
  unfold mN
  omega
theorem memN_eq {c : Config} (h : MayC c) (s : Nat) {k : Nat} (hk : k < mN c) : memF c (s : Int) (k : Int) = (memN c s k : Int) := by
  obtain ⟨h1, h2, h3, h4⟩ := parN h s
  unfold memF memN
  rw [h3, h4]
  generalize (parF c (s : Int) + 1).toNat = q at h1 h2
  simp only [Int.toNat_natCast]
  split
  · rw [Int.emod_eq_of_lt (by omega) (by omega)]; omega
  · rw [show (q : Int) + (k : Int) = ((q + k - mN c : Nat) : Int) + (mN c : Int) by omega, Int.add_emod_right, Int.emod_eq_of_lt (by omega) (by omega)]
theorem memN_lt {c : Config} (h : MayC c) (s : Nat) {k : Nat} (hk : k < mN c) : memN c s k < mN c := by
  obtain ⟨h1, h2, h3, h4⟩ := parN h s
  unfold memN
  split <;> omega
theorem memN_inj {c : Config} (h : MayC c) (s : Nat) {j k : Nat} (hj : j < mN c) (hk : k < mN c) (he : memN c s j = memN c s k) : j = k := by
  obtain ⟨h1, h2, h3, h4⟩ := parN h s
  unfold memN at he
  split at he <;> split at he <;> omega
theorem ask_ok {c : Config} {ds : List Disk} (h : OkA c ds) {s k : Nat} (hs : s < sN c) (hk : k < mN c) : askT c (s : Int) (k : Int) = true := by
  obtain ⟨s1, s2, s3⟩ := h.s
  obtain ⟨m1, m2, m3⟩ := h.m
  unfold askT
  simp only [Bool.and_eq_true, decide_eq_true_eq]
  omega
/-- The blocks by slots fold to what the blocks by members do. -/
theorem col_rot (c : Config) (h : MayC c) (s : Nat) (f : Nat → List UInt8) (i : Nat) : gx i ((List.range (mN c)).map fun k => f (memN c s k)) = gx i ((List.range (mN c)).map f) := by
  obtain ⟨h1, h2, h3, h4⟩ := parN h s
  have hr : ((List.range (mN c)).map fun k => f (memN c s k)) = ((List.range (mN c)).map f).drop (parF c (s : Int) + 1).toNat ++ ((List.range (mN c)).map f).take (parF c (s : Int) + 1).toNat := by
    unfold memN
    generalize (parF c (s : Int) + 1).toNat = q at h1 h2
    refine List.ext_getElem (by simp; omega) fun k g1 g2 => ?_
    simp only [List.length_map, List.length_range] at g1
    rw [List.getElem_map, List.getElem_range]
    by_cases hk : q + k < mN c
    · rw [if_pos hk, List.getElem_append_left (by simp; omega)]
      simp
    · rw [if_neg hk, List.getElem_append_right (by simp; omega)]
      simp only [List.length_drop, List.length_map, List.length_range, List.getElem_take, List.getElem_map, List.getElem_range]
      congr 1
      omega
  rw [hr, gx_app, UInt8.xor_comm, ← gx_app, List.take_append_drop]

/-! ### deals that may be -/
structure OkDeal (c : Config) (d : Deal) : Prop where
  s : ∃ s : Nat, d.Stripe = (s : Int) ∧ s < sN c
  sl : ∀ x ∈ d.Slots, ∃ k : Nat, x = (k : Int) ∧ k < mN c - 1
  bl : d.Blocks.length = d.Slots.length
  n : d.Slots.length ≤ 16
  bs : ∀ b ∈ d.Blocks, szB b = true
theorem slots_eq {c : Config} (h : MayC c) (l : List Int) (hl : l.length ≤ 1000) : ∃ b, deal_slots c l = some b ∧ (b = true → l.length ≤ 16 ∧ ∀ x ∈ l, ∃ k : Nat, x = (k : Int) ∧ k < mN c - 1) := by
  have hm := h.1
  have hM : c.Members = (mN c : Int) := by unfold mN; omega
  unfold deal_slots
  obtain ⟨b, hb, hq⟩ := loop_inv (step := fun q : Int × Int => deal_slots_L1 c l q.1 q.2) l.length
    (fun k q => q.2 = (k : Int) ∧ (k : Int) - 1 ≤ q.1 ∧ (q.1 = -1 ∨ q.1 ≤ c.Members - 2) ∧ ∀ j (hj : j < l.length), j < k → ∃ k : Nat, l[j] = (k : Int) ∧ k < mN c - 1)
    (fun b => b = Sum.inr () ∨ (b = Sum.inl () ∧ l.length ≤ 16 ∧ ∀ j (hj : j < l.length), ∃ k : Nat, l[j] = (k : Int) ∧ k < mN c - 1)) (fun k q hk hI => by
    obtain ⟨q1, q2⟩ := q
    obtain ⟨e1, e2, e3, e4⟩ := hI
    simp only at e1 e2 e3 e4
    subst e1
    show (∃ s', deal_slots_L1 c l q1 (k : Int) = some (.next s') ∧ _) ∨ ∃ b, deal_slots_L1 c l q1 (k : Int) = some (.brk b) ∧ _
    unfold deal_slots_L1
    by_cases hlt : k < l.length
    · rw [decide_eq_true (by omega), idx_nat, List.getElem?_eq_getElem hlt, wI_id (x := c.Members - 2) (by omega) (by omega)]
      simp only [cond_true, Option.bind_some]
      by_cases hx : l[k] ≤ q1 ∨ l[k] > c.Members - 2
      · rw [show (decide (l[k] ≤ q1) || decide (l[k] > c.Members - 2)) = true by simpa using hx]
        exact .inr ⟨_, rfl, .inl rfl⟩
      · rw [show (decide (l[k] ≤ q1) || decide (l[k] > c.Members - 2)) = false by simp; omega, wI_succ (by omega)]
        refine .inl ⟨_, rfl, hlt, rfl, by simp only; omega, by simp only; omega, fun j hj hjk => ?_⟩
        by_cases he : j = k
        · subst he; exact ⟨l[j].toNat, by omega, by omega⟩
        · exact e4 j hj (by omega)
    · obtain rfl : k = l.length := by omega
      rw [decide_eq_false (by omega)]
      exact .inr ⟨_, rfl, .inr ⟨rfl, by omega, fun j hj => e4 j hj hj⟩⟩) FUEL 0 (-1, 0) (Nat.zero_le _) (by unfold FUEL; omega) ⟨rfl, by simp, .inl rfl, fun _ _ hj => by omega⟩
  rw [hb]
  rcases hq with rfl | ⟨rfl, hq1, hq⟩
  · exact ⟨_, rfl, fun e => by cases e⟩
  · refine ⟨_, rfl, fun _ => ⟨hq1, fun x hx => ?_⟩⟩
    obtain ⟨j, hj, rfl⟩ := List.getElem_of_mem hx
    exact hq j hj
theorem dgreat13_eq (d : Deal) : ∃ g, ref13_Great d = some g ∧ (g = false → d.Slots.length ≤ 100 ∧ d.Blocks.length ≤ 100) := by
  unfold ref13_Great
  by_cases h1 : (d.Slots.length : Int) > 100
  · rw [decide_eq_true h1]; exact ⟨_, rfl, fun e => by cases e⟩
  by_cases h2 : (d.Blocks.length : Int) > 100
  · rw [decide_eq_true h2, decide_eq_false h1]; exact ⟨_, rfl, fun e => by cases e⟩
  rw [decide_eq_false h1, decide_eq_false h2]
  cases decide (((d.Parity.length : Nat) : Int) > 1000) with
  | true => exact ⟨_, rfl, fun e => by cases e⟩
  | false =>
    simp only [Bool.or_self, cond_false]
    rw [loop_anyD d.Blocks (fun x => decide (((x.length : Nat) : Int) > 1000)) (step := fun s : Int => ref13_Great_L1 d s) (Sum.inr ()) (Sum.inl ()) (by omega) (fun k hk => by
      unfold ref13_Great_L1
      rw [decide_eq_true (by omega), idx_nat, List.getElem?_eq_getElem hk, wI_succ (by omega)]
      simp only [cond_true, Option.bind_some]
      cases decide (((d.Blocks[k].length : Nat) : Int) > 1000) <;> rfl) (by
      unfold ref13_Great_L1
      rw [decide_eq_false (by omega)]; rfl)]
    simp only [Option.bind_some]
    cases d.Blocks.any (fun x => decide (((x.length : Nat) : Int) > 1000)) with
    | true => exact ⟨_, rfl, fun e => by cases e⟩
    | false => exact ⟨_, rfl, fun _ => by omega⟩
theorem sz_ne (b : List UInt8) : ((((b.length : Nat) : Int) != 0) && (((b.length : Nat) : Int) != 128)) = !szB b := by
  unfold szB
  rw [Bool.eq_iff_iff]
  simp only [Bool.and_eq_true, bne_iff_ne, ne_eq, Bool.not_eq_true', Bool.or_eq_false_iff, beq_eq_false_iff_ne]
  omega
theorem odd13_eq (l : List (List UInt8)) (hl : l.length ≤ 1000) : slices_ContainsFunc_byte_byte l (fun y => deal_Check_1 y) = some (l.any fun b => !szB b) := by
  refine contB_eq l _ _ (by omega) (fun x _ => ?_)
  unfold deal_Check_1
  exact congrArg some (sz_ne x)
theorem dealcheck_eq {c : Config} (hc : MayC c) (d : Deal) (h1 : d.Slots.length ≤ 100) (h2 : d.Blocks.length ≤ 100) :
    ∃ e, deal_Check c d = some e ∧ (e = 0 → OkDeal c d ∧ ∀ p : List UInt8, p.length = 128 → deal_Check c ⟨d.Stripe, d.Slots, d.Blocks, p⟩ = some 0) := by
  have hs := wI_str hc
  obtain ⟨b, hb, hb2⟩ := slots_eq hc d.Slots (by omega)
  have key : ∀ p : List UInt8, deal_Check c ⟨d.Stripe, d.Slots, d.Blocks, p⟩ = some (bif (((((d.Blocks.any fun b => !szB b) || decide (d.Stripe < 0)) || decide (d.Stripe ≥ c.Chunk * c.Rows)) || !b) || (((d.Blocks.length : Nat) : Int) != ((d.Slots.length : Nat) : Int))) || !szB p then 8 else 0) := fun p => by
    unfold deal_Check
    rw [stripesF, (mayC_iff c).2 hc]
    simp only [cond_true, Option.bind_some, bne_self_eq_false, cond_false]
    rw [odd13_eq _ (by omega)]
    simp only [Option.bind_some]
    rw [sz_ne p]
    rw [hb]
    cases ((d.Blocks.any fun b => !szB b) || decide (d.Stripe < 0)) || decide (d.Stripe ≥ c.Chunk * c.Rows) with
    | true => rfl
    | false =>
      simp only [gO, Bool.not_false, cond_true, Option.bind_some, Bool.false_or]
      cases ((!b || (((d.Blocks.length : Nat) : Int) != ((d.Slots.length : Nat) : Int))) || !szB p) <;> rfl
  refine ⟨_, key d.Parity, fun e => ?_⟩
  have hz : ((((((d.Blocks.any fun b => !szB b) || decide (d.Stripe < 0)) || decide (d.Stripe ≥ c.Chunk * c.Rows)) || !b) || (((d.Blocks.length : Nat) : Int) != ((d.Slots.length : Nat) : Int))) || !szB d.Parity) = false := by
    cases hz : ((((((d.Blocks.any fun b => !szB b) || decide (d.Stripe < 0)) || decide (d.Stripe ≥ c.Chunk * c.Rows)) || !b) || (((d.Blocks.length : Nat) : Int) != ((d.Slots.length : Nat) : Int))) || !szB d.Parity) with
    | true => rw [hz] at e; cases e
    | false => rfl
  simp only [Bool.or_eq_false_iff, decide_eq_false_iff_not] at hz
  obtain ⟨⟨⟨⟨⟨z1, z2⟩, z3⟩, z4⟩, z5⟩, _⟩ := hz
  have hbt : b = true := by simpa using z4
  obtain ⟨g1, g2⟩ := hb2 hbt
  have hsn : c.Chunk * c.Rows = (sN c : Int) := by unfold sN; omega
  refine ⟨⟨⟨d.Stripe.toNat, by omega, by omega⟩, g2, by simp at z5; omega, g1, fun x hx => by
    have := List.any_eq_false.1 z1 x hx
    simpa using this⟩, fun p hp => ?_⟩
  rw [key p, z1, hbt, z5, decide_eq_false z2, decide_eq_false z3, show szB p = true by unfold szB; simp [hp]]; rfl

/-! ### what a stripe's blocks are then -/
def pairsH (d : Deal) : List (Int × List UInt8) := d.Slots.zip (d.Blocks.map fullB)
def updH (now : List (List UInt8)) (p : Int × List UInt8) : List (List UInt8) := now.set p.1.toNat p.2
theorem updH_len : ∀ (l : List (Int × List UInt8)) (now : List (List UInt8)), (l.foldl updH now).length = now.length
  | [], _ => rfl
  | p :: l, now => by rw [List.foldl_cons, updH_len l]; simp [updH]
theorem full21_zero : law21_full 0 = some (List.replicate 128 0) := by kernel_rfl
theorem halive_true : law21_alive = some true := by kernel_rfl
/-! ### the acts -/
def actH (c : Config) (s : Int) (p : Int × List UInt8) : Act37 := ⟨memF c s p.1, 1, s + 1, p.2⟩
theorem hacts_eq {c : Config} {ds : List Disk} (h : OkA c ds) {d : Deal} (ok : OkDeal c d) {p : List UInt8} (hp : p.length = 128) :
    home_acts c (-1) ⟨d.Stripe, d.Slots, d.Blocks, p⟩ = some ((pairsH d ++ [(c.Members - 1, p)]).map (actH c d.Stripe), 0) := by
  obtain ⟨s, hs, hsn⟩ := ok.s
  obtain ⟨m1, m2, m3⟩ := h.m
  obtain ⟨s1, s2, s3⟩ := h.s
  have hbl := ok.bl
  have hnn := ok.n
  have hlen : (pairsH d).length = d.Slots.length := by simp [pairsH]; omega
  unfold home_acts
  have := loop_run (step := fun q : Int × (List Act37) => home_acts_L2 c (-1) ⟨d.Stripe, d.Slots, d.Blocks, p⟩ q.1 q.2) (fun k => ((k : Int), ((pairsH d).take k).map (actH c d.Stripe))) d.Slots.length ((pairsH d).map (actH c d.Stripe)) (fuel_ltD (by omega)) (fun k hk => by
    obtain ⟨j, hj, hjm⟩ := ok.sl _ (List.getElem_mem hk)
    have hb : k < d.Blocks.length := by omega
    have hbs := szB_len (ok.bs _ (List.getElem_mem hb))
    have hpk : (pairsH d)[k]? = some ((j : Int), fullB d.Blocks[k]) := by
      rw [List.getElem?_eq_getElem (by omega)]
      simp [pairsH, hj]
    have hme := memF_in h.mc (s : Int) (j : Int)
    unfold home_acts_L2 home_acts_J4 home_acts_J3 slices_Clone_byte_byte
    simp only
    rw [decide_eq_true (by omega), idx_nat, List.getElem?_eq_getElem hk, idx_nat, List.getElem?_eq_getElem hb, hj]
    simp only [cond_true, Option.bind_some]
    rw [memberF h.mc, hs, ask_ok h hsn (by omega)]
    simp only [cond_true, Option.bind_some]
    rw [show (memF c (s : Int) (j : Int) == -1) = false by simp; omega, app_some _ _ (by simp; omega), wI_succ (by omega), wI_id (x := (s : Int) + 1) (by omega) (by omega), take_succ_get _ _ _ hpk, List.map_append]
    simp only [cond_false, Option.bind_some, List.nil_append]
    unfold actH fullB
    by_cases h0 : d.Blocks[k].length = 0
    · rw [show (((d.Blocks[k].length : Nat) : Int) == 0) = true by simp [h0], if_pos h0, show makeL (0 : UInt8) 128 = some (List.replicate 128 0) from makeL_some 0 128 (by omega)]
      simp only [cond_true, Option.bind_some]
      rw [app_some _ _ (by simp; omega)]; rfl
    · rw [show (((d.Blocks[k].length : Nat) : Int) == 0) = false by simpa using h0, if_neg h0]
      simp only [cond_false]
      rw [app_some _ _ (by simp; omega)]; rfl) (by
    unfold home_acts_L2
    simp only
    rw [decide_eq_false (by omega), List.take_of_length_le (by omega)]; rfl)
  have h0 : ((0 : Int), ([] : List Act37)) = (fun k : Nat => ((k : Int), ((pairsH d).take k).map (actH c d.Stripe))) 0 := by simp
  rw [h0, this]
  have hme := memF_in h.mc (s : Int) ((mN c - 1 : Nat) : Int)
  have hM : wI (c.Members - 1) = ((mN c - 1 : Nat) : Int) := by rw [wI_id (by omega) (by omega)]; omega
  have hM' : c.Members - 1 = ((mN c - 1 : Nat) : Int) := by omega
  simp only [Option.bind_some]
  rw [hM, memberF h.mc, hs, ask_ok h hsn (by omega)]
  simp only [cond_true, Option.bind_some]
  unfold home_acts_J6 home_acts_J5 home_acts_J1 slices_Clone_byte_byte
  rw [show (memF c (s : Int) ((mN c - 1 : Nat) : Int) == -1) = false from beq_eq_false_iff_ne.2 (by omega), app_some _ _ (by simp; omega)]
  simp only [cond_false, Option.bind_some, List.nil_append]
  rw [show (((p.length : Nat) : Int) == 0) = false from beq_eq_false_iff_ne.2 (by omega)]
  simp only [cond_false]
  rw [app_some _ _ (by simp; omega), wI_id (x := (s : Int) + 1) (by omega) (by omega), List.map_append, hM', ← hs]; rfl

/-! ### blocks written -/
theorem put_seen_same (d : Disk) (k : Nat) {data : List UInt8} (hd : data.length = 128) : seenD (putD d (k : Int) data) k = data := by
  have hf : fullB data = data := by unfold fullB; rw [if_neg (by omega)]
  unfold seenD putD
  simp only [List.foldl_append, List.foldl_cons, List.foldl_nil, overW, if_true]
  rw [fullB_full, hf]
theorem run_puts {c : Config} {s : Nat} (hs : s < sN c) : ∀ (l : List (Nat × List UInt8)) (ds o : List Disk), OkA c ds → (∀ i, i < mN c → (dAt ds i).Dead = false) → (∀ p ∈ l, p.1 < mN c ∧ p.2.length = 128) →
    runA stepP (l.map fun p => (⟨(memN c s p.1 : Int), 1, (s : Int) + 1, p.2⟩ : Act37)) ds = some o →
    OkA c o ∧ (∀ i, i < mN c → (dAt o i).Dead = false) ∧ ∀ now : List (List UInt8), now.length = mN c → (∀ k, k < mN c → now.getD k [] = seenD (dAt ds (memN c s k)) (s + 1)) →
      ∀ k, k < mN c → (l.foldl (fun n p => n.set p.1 p.2) now).getD k [] = seenD (dAt o (memN c s k)) (s + 1)
  | [], ds, o, h, hd, _, hr => by
    cases hr
    exact ⟨h, hd, fun now _ hn => hn⟩
  | p :: l, ds, o, h, hd, hp, hr => by
    obtain ⟨p1, p2⟩ := hp p (by simp)
    have hm := memN_lt h.mc s p1
    have hlen := h.len
    have hds : memN c s p.1 < ds.length := by omega
    rw [List.map_cons, runA_cons] at hr
    simp only [Int.toNat_natCast] at hr
    have hg : ds.getD (memN c s p.1) noD = dAt ds (memN c s p.1) := rfl
    rw [hg] at hr
    have hde := hd _ hm
    have hkb : s + 1 < (dAt ds (memN c s p.1)).Blocks.length := h.mem hm hs
    have hsz : szB p.2 = true := by unfold szB; simp [p2]
    unfold fullA stepP at hr
    rw [hde] at hr
    simp only [Bool.not_false, beq_self_eq_true, Bool.true_and, cond_false, cond_true] at hr
    by_cases hw : 1024 ≤ (dAt ds (memN c s p.1)).Wait.length
    · rw [decide_eq_true hw] at hr; cases hr
    rw [decide_eq_false hw, show (s : Int) + 1 = ((s + 1 : Nat) : Int) by omega] at hr
    simp only [cond_false] at hr
    have h' : OkA c (ds.set (memN c s p.1) (putD (dAt ds (memN c s p.1)) ((s + 1 : Nat) : Int) p.2)) := okAF_set h hds (put_may (h.may _ hds) hde hsz hkb hw) rfl
    obtain ⟨r1, r2, r3⟩ := run_puts hs l _ o h' (fun i hi => by
      rw [dAtF_set _ _ _ hds]
      split
      · exact hde
      · exact hd i hi) (fun q hq => hp q (by simp [hq])) (by
      rw [show ((s + 1 : Nat) : Int) = (s : Int) + 1 by omega] at hr ⊢
      exact hr)
    refine ⟨r1, r2, fun now hnl hn k hk => ?_⟩
    rw [List.foldl_cons]
    refine r3 _ (by simpa using hnl) (fun j hj => ?_) k hk
    rw [dAtF_set _ _ _ hds, List.getD_eq_getElem?_getD, List.getElem?_set]
    by_cases he : p.1 = j
    · subst he
      rw [if_pos rfl, if_pos (by omega), if_pos rfl, put_seen_same _ _ p2]; rfl
    · rw [if_neg he, if_neg (fun e => he (memN_inj h.mc s p1 hj e.symm)), ← List.getD_eq_getElem?_getD]
      exact hn j hj
/- Plain law: HomeEven. -/

theorem fetch_len {c : Config} {ds : List Disk} (h : OkA c ds) {missing : Int} {s k : Nat} (hs : s < sN c) (hk : k < mN c) (h0 : (fetchF c ds missing (s : Int) (k : Int)).2 = 0) :
    (fetchF c ds missing (s : Int) (k : Int)).1.length = 128 := by
  have hlen := h.len
  have hm := memN_lt h.mc s hk
  unfold fetchF at h0 ⊢
  rw [(okA_iff c ds).2 h, ask_ok h hs hk] at h0 ⊢
  simp only [cond_true, Bool.true_and] at h0 ⊢
  cases hi : (decide (-1 ≤ missing) && decide (missing < c.Members)) with
  | false => rw [hi] at h0; cases h0
  | true =>
    rw [hi] at h0
    simp only [cond_true, Int.toNat_natCast] at h0 ⊢
    rw [memN_eq h.mc s hk, Int.toNat_natCast] at h0 ⊢
    unfold offF at h0 ⊢
    cases hl : lostF ds missing (memN c s k) with
    | false => exact seen_len (h.may _ (by omega)) (h.mem hm hs)
    | true =>
      rw [hl] at h0
      cases ha : alsoF c ds missing (memN c s k) with
      | true => rw [ha] at h0; cases h0
      | false => exact foldS_len _ (others_ok h hs _)
def nowH (c : Config) (ds : List Disk) (s : Nat) : List (List UInt8) := (List.range (mN c - 1)).map fun k => (fetchF c ds (-1) (s : Int) ((k : Nat) : Int)).1
theorem nowH_len (c : Config) (ds : List Disk) (s : Nat) : (nowH c ds s).length = mN c - 1 := by simp [nowH]
theorem updH_mem : ∀ (l : List (Int × List UInt8)) (now : List (List UInt8)), (∀ p ∈ l, p.2.length = 128) → (∀ b ∈ now, b.length = 128) → ∀ b ∈ l.foldl updH now, b.length = 128
  | [], _, _, h => h
  | p :: l, now, hl, h => updH_mem l _ (fun q hq => hl q (by simp [hq])) (fun b hb => by
    rcases List.mem_or_eq_of_mem_set hb with hb | rfl
    · exact h b hb
    · exact hl p (by simp))
theorem pairs_ok {c : Config} {d : Deal} (ok : OkDeal c d) : ∀ p ∈ pairsH d, (∃ k : Nat, p.1 = (k : Int) ∧ k < mN c - 1) ∧ p.2.length = 128 := fun p hp => by
  unfold pairsH at hp
  have h1 := List.of_mem_zip (show (p.1, p.2) ∈ d.Slots.zip (d.Blocks.map fullB) from hp)
  refine ⟨ok.sl _ h1.1, ?_⟩
  obtain ⟨b, hb, he⟩ := List.mem_map.1 h1.2
  rw [← he]
  exact fullB_len (ok.bs b hb)
theorem foldl_nat : ∀ (l : List (Int × List UInt8)) (now : List (List UInt8)), (l.map fun p => (p.1.toNat, p.2)).foldl (fun n p => n.set p.1 p.2) now = l.foldl updH now
  | [], _ => rfl
  | p :: l, now => by rw [List.map_cons, List.foldl_cons, List.foldl_cons]; exact foldl_nat l _
theorem foldl_snoc_set : ∀ (l : List (Int × List UInt8)) (now : List (List UInt8)) (x : List UInt8), (∀ p ∈ l, p.1.toNat < now.length) → l.foldl updH (now ++ [x]) = l.foldl updH now ++ [x]
  | [], _, _, _ => rfl
  | p :: l, now, x, h => by
    rw [List.foldl_cons, List.foldl_cons]
    have : updH (now ++ [x]) p = updH now p ++ [x] := by
      unfold updH
      rw [List.set_append_left _ _ (h p (by simp))]
    rw [this]
    exact foldl_snoc_set l _ x (fun q hq => by unfold updH; rw [List.length_set]; exact h q (by simp [hq]))

theorem mayAct_w {m s : Nat} {data : List UInt8} {ns : List Nat} {nb : Nat} (hm : ns[m]? = some nb) (hs : s + 1 < nb) (hd : data.length = 128) : mayAct ⟨(m : Int), 1, (s : Int) + 1, data⟩ ns = true := by
  have hl : m < ns.length := (List.getElem?_eq_some_iff.1 hm).1
  have hg : ns.getD m 0 = nb := by rw [List.getD_eq_getElem?_getD, hm]; rfl
  unfold mayAct outA szB
  simp only [Int.toNat_natCast, hg, hd]
  have h1 : ¬ (m : Int) < 0 := by omega
  have h2 : ¬ (m : Int) ≥ (ns.length : Int) := by omega
  have h3 : 0 ≤ (s : Int) + 1 := by omega
  have h4 : (s : Int) + 1 < (nb : Int) := by omega
  simp only [decide_eq_false h1, decide_eq_false h2, decide_eq_true h3, decide_eq_true h4]
  rfl

/- Plain law: power that fails. -/

def waitsN : List Disk → Nat
  | [] => 0
  | d :: ds => d.Wait.length + waitsN ds
theorem waitsN_app : ∀ (a b : List Disk), waitsN (a ++ b) = waitsN a + waitsN b
  | [], b => by simp [waitsN]
  | d :: a, b => by simp only [List.cons_append, waitsN, waitsN_app a b]; omega
theorem waitsN_le {ds : List Disk} (h : ∀ d ∈ ds, MayD d) : waitsN ds ≤ 1024 * ds.length := by
  induction ds with
  | nil => exact Nat.le_refl _
  | cons d ds ih =>
    have h1 := (h d (by simp)).nw
    have h2 := ih (fun x hx => h x (by simp [hx]))
    simp only [waitsN, List.length_cons]; omega
theorem waitsN_take (ds : List Disk) (k : Nat) : waitsN (ds.take k) ≤ waitsN ds := by
  have := waitsN_app (ds.take k) (ds.drop k)
  rw [List.take_append_drop] at this; omega
theorem waitsN_succ {ds : List Disk} {k : Nat} (hk : k < ds.length) : waitsN (ds.take (k + 1)) = waitsN (ds.take k) + ds[k].Wait.length := by
  rw [take_succ_get _ _ _ (List.getElem?_eq_getElem hk), waitsN_app]; rfl
theorem pwaits_eq (ds : List Disk) : acts_Waits ds = some (bif mayDs ds then ((waitsN ds : Int), 0) else (0, 8)) := by
  unfold acts_Waits
  rw [pdevs_eq]
  cases hm : mayDs ds with
  | false => rfl
  | true =>
    have h := mayDs_ok hm
    have hn2 := h.n2
    have hw := waitsN_le h.m
    simp only [Option.bind_some, cond_true, bne_self_eq_false, cond_false]
    have := loop_run (step := fun s : Int × Int => acts_Waits_L1 ds s.1 s.2) (fun k => ((waitsN (ds.take k) : Int), (k : Int))) ds.length (waitsN ds : Int) (fuel_ltD (by omega)) (fun k hk => by
      have h1 := waitsN_succ hk
      have h2 := waitsN_take ds (k + 1)
      unfold acts_Waits_L1
      simp only
      rw [decide_eq_true (by omega), idx_nat, List.getElem?_eq_getElem hk, wI_succ (by omega)]
      simp only [cond_true, Option.bind_some]
      rw [wI_id (by omega) (by omega), h1]
      simp) (by
      unfold acts_Waits_L1
      simp only
      rw [decide_eq_false (by omega), List.take_length]; rfl)
    have h0 : ((0 : Int), (0 : Int)) = (fun k : Nat => ((waitsN (ds.take k) : Int), (k : Int))) 0 := by simp [waitsN]
    rw [h0, this]; rfl

/-! ### crashes -/
def setK (bs : List (List UInt8)) (p : Write × Bool) : List (List UInt8) := bif p.2 then setW bs p.1 else bs
def crashD (d : Disk) (m : List Bool) : Disk := ⟨(d.Wait.zip m).foldl setK d.Blocks, [], d.Dead⟩
def crashL : List Disk → List Bool → List Disk
  | [], _ => []
  | d :: ds, m => crashD d m :: crashL ds (m.drop d.Wait.length)
theorem crashL_len : ∀ (ds : List Disk) (m : List Bool), (crashL ds m).length = ds.length
  | [], _ => rfl
  | d :: ds, m => by simp [crashL, crashL_len ds]
theorem crashL_get : ∀ (ds : List Disk) (m : List Bool) (k : Nat) (hk : k < ds.length), (crashL ds m)[k]? = some (crashD ds[k] (m.drop (waitsN (ds.take k))))
  | [], _, k, hk => by simp at hk
  | d :: ds, m, 0, hk => by simp [crashL, waitsN]
  | d :: ds, m, k + 1, hk => by
    simp only [crashL, List.getElem?_cons_succ, List.getElem_cons_succ, List.take_succ_cons, waitsN]
    rw [crashL_get ds _ k (by simpa using hk), List.drop_drop]
theorem setK_len : ∀ (l : List (Write × Bool)) (bs : List (List UInt8)), (l.foldl setK bs).length = bs.length
  | [], _ => rfl
  | p :: l, bs => by
    rw [List.foldl_cons, setK_len l]
    unfold setK setW
    cases p.2 <;> simp
theorem setK_mem : ∀ (l : List (Write × Bool)) (bs : List (List UInt8)), ∀ b ∈ l.foldl setK bs, b ∈ bs ∨ ∃ p ∈ l, b = p.1.Data
  | [], _, b, h => .inl h
  | p :: l, bs, b, h => by
    rw [List.foldl_cons] at h
    rcases setK_mem l _ b h with h | ⟨x, hx, rfl⟩
    · unfold setK setW at h
      cases hp : p.2 with
      | false => rw [hp] at h; exact .inl h
      | true =>
        rw [hp] at h
        rcases List.mem_or_eq_of_mem_set h with h | h
        · exact .inl h
        · exact .inr ⟨p, by simp, h⟩
    · exact .inr ⟨x, by simp [hx], rfl⟩
theorem crash_may {d : Disk} (h : MayD d) (m : List Bool) : MayD (crashD d m) ∧ (crashD d m).Blocks.length = d.Blocks.length := by
  have hl : (crashD d m).Blocks.length = d.Blocks.length := setK_len _ _
  refine ⟨⟨by rw [hl]; exact h.n1, by rw [hl]; exact h.n2, by simp [crashD], fun _ => rfl, fun hd b hb => ?_, fun b hb => ?_, fun w hw => by simp [crashD] at hw⟩, hl⟩
  · have hd : d.Dead = true := hd
    have : (crashD d m).Blocks = d.Blocks := by
      unfold crashD
      rw [h.dw hd]; rfl
    rw [this] at hb
    exact h.db hd b hb
  · rcases setK_mem _ _ b hb with hb | ⟨p, hp, rfl⟩
    · exact h.sz b hb
    · have hp : (p.1, p.2) ∈ d.Wait.zip m := hp
      exact (h.wt p.1 (List.of_mem_zip hp).1).2.2
theorem crashL_may : ∀ (ds : List Disk) (m : List Bool), (∀ d ∈ ds, MayD d) → ∀ d ∈ crashL ds m, MayD d
  | [], _, _, d, hd => by simp [crashL] at hd
  | x :: ds, m, h, d, hd => by
    simp only [crashL, List.mem_cons] at hd
    rcases hd with rfl | hd
    · exact (crash_may (h x (by simp)) m).1
    · exact crashL_may ds _ (fun y hy => h y (by simp [hy])) d hd
theorem crashL_mays {ds : List Disk} (h : MayDs ds) (m : List Bool) : MayDs (crashL ds m) := ⟨by rw [crashL_len]; exact h.n1, by rw [crashL_len]; exact h.n2, crashL_may ds m h.m⟩
theorem crashL_waits : ∀ (ds : List Disk) (m : List Bool), waitsN (crashL ds m) = 0
  | [], _ => rfl
  | d :: ds, m => by simp [crashL, waitsN, crashL_waits ds, crashD]

theorem ptwins5_eq {ds : List Disk} (hl : ds.length ≤ 100000) (h : ∀ d ∈ ds, SmallD d) : loopM (fun s : (List Disk) × Int => acts_Crash_L5 ds s.1 s.2) FUEL (([] : List Disk), (0 : Int)) = some ds := by
  have := loop_run (step := fun s : (List Disk) × Int => acts_Crash_L5 ds s.1 s.2) (fun k => (ds.take k, (k : Int))) ds.length ds (fuel_ltD (by omega)) (fun k hk => by
    unfold acts_Crash_L5
    simp only
    rw [decide_eq_true (by omega), idx_nat, List.getElem?_eq_getElem hk]
    simp only [cond_true, Option.bind_some]
    rw [ptwin_eq (h _ (List.getElem_mem hk)), wI_succ (by omega)]
    simp only [Option.bind_some]
    rw [app_some _ _ (by simp; omega), take_succ_get _ _ _ (List.getElem?_eq_getElem hk)]; rfl) (by
    unfold acts_Crash_L5
    simp only
    rw [decide_eq_false (by omega), List.take_length]; rfl)
  have h0 : (([] : List Disk), (0 : Int)) = (fun k : Nat => (ds.take k, (k : Int))) 0 := by simp
  rw [h0, this]
theorem cut_loop {d : Disk} (h : MayD d) (m : List Bool) (hm : d.Wait.length ≤ m.length) :
    loopM (fun s : Int × (List (List UInt8)) => acts_Crash_L3 m d s.1 s.2) FUEL ((0 : Int), d.Blocks) = some (crashD d m).Blocks := by
  have hw := h.nw
  have hz : (d.Wait.zip m).length = d.Wait.length := by simp; omega
  have := loop_run (step := fun s : Int × (List (List UInt8)) => acts_Crash_L3 m d s.1 s.2) (fun k => ((k : Int), ((d.Wait.zip m).take k).foldl setK d.Blocks)) d.Wait.length (crashD d m).Blocks (fuel_ltD (by omega)) (fun k hk => by
    obtain ⟨g1, g2, g3⟩ := h.wt _ (List.getElem_mem hk)
    have hkm : k < m.length := by omega
    have hzk : (d.Wait.zip m)[k]? = some (d.Wait[k], m[k]) := by
      rw [List.getElem?_eq_getElem (by omega)]
      simp
    unfold acts_Crash_L3 acts_Crash_J4
    simp only
    rw [decide_eq_true (by omega), idx_nat, List.getElem?_eq_getElem hk, idx_nat, List.getElem?_eq_getElem hkm, wI_succ (by omega)]
    simp only [cond_true, Option.bind_some]
    rw [take_succ_get _ _ _ hzk, List.foldl_append]
    simp only [List.foldl_cons, List.foldl_nil]
    unfold setK setW
    cases hmk : m[k] with
    | false => rfl
    | true =>
      simp only [cond_true]
      obtain ⟨j, hj⟩ : ∃ j : Nat, d.Wait[k].At = (j : Int) := ⟨d.Wait[k].At.toNat, by omega⟩
      have hlen := setK_len ((d.Wait.zip m).take k) d.Blocks
      unfold setK setW at hlen
      rw [hj, bnd_nat (by rw [hlen]; omega)]; rfl) (by
    unfold acts_Crash_L3
    simp only
    rw [decide_eq_false (by omega), List.take_of_length_le (by omega)]; rfl)
  have h0 : ((0 : Int), d.Blocks) = (fun k : Nat => ((k : Int), ((d.Wait.zip m).take k).foldl setK d.Blocks)) 0 := by simp
  rw [h0, this]
theorem crash_loop {ds : List Disk} (h : MayDs ds) (m : List Bool) (hm : m.length = waitsN ds) : acts_Crash_J1 m ds = some (crashL ds m, 0) := by
  have hn2 := h.n2
  have hw := waitsN_le h.m
  have hcl := crashL_len ds m
  unfold acts_Crash_J1
  have := loop_run (step := fun s : (List Bool) × (List Disk) × Int => acts_Crash_L2 ds s.1 s.2.1 s.2.2) (fun k => (m.drop (waitsN (ds.take k)), (crashL ds m).take k ++ ds.drop k, (k : Int))) ds.length (crashL ds m) (fuel_ltD (by omega)) (fun k hk => by
    have hd := h.m _ (List.getElem_mem hk)
    have h1 := waitsN_succ hk
    have h2 := waitsN_take ds (k + 1)
    have hml : ds[k].Wait.length ≤ (m.drop (waitsN (ds.take k))).length := by rw [List.length_drop, hm]; omega
    have hlen : ((crashL ds m).take k ++ ds.drop k).length = ds.length := mix_len _ _ _ hcl
    unfold acts_Crash_L2
    simp only
    rw [decide_eq_true (by omega), bnd_nat (by rw [hlen]; exact hk)]
    simp only [cond_true, Option.bind_some]
    rw [mix_get _ _ _ hcl, List.getElem?_eq_getElem hk]
    simp only [Option.bind_some]
    rw [cut_loop hd _ hml]
    simp only [Option.bind_some]
    rw [show slc (m.drop (waitsN (ds.take k))) ((ds[k].Wait.length : Nat) : Int) (((m.drop (waitsN (ds.take k))).length : Nat) : Int) = some ((m.drop (waitsN (ds.take k))).drop ds[k].Wait.length) by
      unfold slc
      rw [if_pos (by omega), Int.toNat_natCast, Int.toNat_natCast, List.take_length]]
    simp only [Option.bind_some]
    rw [show (Disk.mk (crashD ds[k] (m.drop (waitsN (ds.take k)))).Blocks ([] : List Write) ds[k].Dead) = crashD ds[k] (m.drop (waitsN (ds.take k))) from rfl, ptwin_eq (crash_may hd _).1.small, wI_succ (by omega)]
    simp only [Option.bind_some]
    rw [mix_set _ _ _ hcl _ (crashL_get ds m k hk), List.drop_drop, h1]) (by
    unfold acts_Crash_L2
    simp only
    rw [decide_eq_false (by omega), mix_end _ _ _ hcl rfl]; rfl)
  have h0 : (m, ds, (0 : Int)) = (fun k : Nat => (m.drop (waitsN (ds.take k)), (crashL ds m).take k ++ ds.drop k, (k : Int))) 0 := by simp [waitsN]
  rw [h0, this]; rfl
def marksC (ds : List Disk) (keep : List Bool) : List Bool := keep ++ List.replicate (waitsN ds - keep.length) false
def crashR (ds : List Disk) (keep : List Bool) : List Disk × Int := bif !mayDs ds then ([], 8) else bif decide (waitsN ds < keep.length) then ([], 2) else (crashL ds (marksC ds keep), 0)
theorem pcrash_eq (ds : List Disk) (keep : List Bool) : acts_Crash ds keep = some (crashR ds keep) := by
  unfold acts_Crash crashR
  rw [pwaits_eq]
  cases hm : mayDs ds with
  | false => rfl
  | true =>
    have h := mayDs_ok hm
    have hn2 := h.n2
    have hw := waitsN_le h.m
    simp only [Option.bind_some, cond_true, bne_self_eq_false, cond_false, Bool.not_true]
    by_cases hk : waitsN ds < keep.length
    · rw [decide_eq_true hk, decide_eq_true (by omega)]; rfl
    · rw [decide_eq_false hk, decide_eq_false (by omega)]
      simp only [cond_false]
      rw [show slc keep 0 ((keep.length : Nat) : Int) = some keep by unfold slc; rw [if_pos (by omega)]; simp]
      simp only [Option.bind_some]
      rw [wI_id (by omega) (by omega), show appZ false keep ((waitsN ds : Int) - (keep.length : Int)) = some (marksC ds keep) by
        unfold appZ marksC
        rw [if_pos (by omega)]
        congr 3
        omega]
      simp only [Option.bind_some]
      rw [ptwins5_eq (by omega) h.small]
      simp only [Option.bind_some]
      exact crash_loop h _ (by unfold marksC; simp; omega)
/- Plain law: ActsKept. -/

theorem crash_again : ∀ (ds : List Disk) (m m' : List Bool), crashL (crashL ds m) m' = crashL ds m
  | [], _, _ => rfl
  | d :: ds, m, m' => by
    simp only [crashL]
    rw [show crashD (crashD d m) m' = crashD d m from rfl, crash_again ds]
/-- Behind a crash a block is what lay there, or what was written there and waited. -/
theorem crash_lies (k : Nat) : ∀ (l : List (Write × Bool)) (bs : List (List UInt8)), (∀ p ∈ l, 0 ≤ p.1.At) → fullB ((l.foldl setK bs).getD k []) = fullB (bs.getD k []) ∨ ∃ p ∈ l, p.1.At = (k : Int) ∧ p.2 = true ∧ fullB ((l.foldl setK bs).getD k []) = fullB p.1.Data
  | [], _, _ => .inl rfl
  | p :: l, bs, h => by
    rw [List.foldl_cons]
    rcases crash_lies k l (setK bs p) (fun x hx => h x (by simp [hx])) with e | ⟨x, hx, e1, e2, e3⟩
    · rw [e]
      unfold setK setW
      cases hp : p.2 with
      | false => exact .inl rfl
      | true =>
        have h0 := h p (by simp)
        simp only [cond_true]
        by_cases hk : p.1.At = (k : Int)
        · by_cases hlt : k < bs.length
          · right
            refine ⟨p, by simp, hk, hp, ?_⟩
            rw [hk, Int.toNat_natCast, List.getD_eq_getElem?_getD, List.getElem?_set]
            simp [hlt]
          · left
            rw [hk, Int.toNat_natCast, List.getD_eq_getElem?_getD, List.getElem?_set]
            simp [hlt]
        · left
          rw [List.getD_eq_getElem?_getD, List.getElem?_set_ne (by omega), ← List.getD_eq_getElem?_getD]
    · exact .inr ⟨x, by simp [hx], e1, e2, e3⟩
theorem last_in {d : Disk} (h : MayD d) (hd : d.Dead = false) {k : Nat} (hk : k < d.Blocks.length) : disk_Lasting d (k : Int) = some (liesD d k, 0) := by
  rw [plast_eq]
  unfold lastD askD
  rw [may_t h, hd, decide_eq_false (show ¬ (k : Int) < 0 by omega), decide_eq_false (show ¬ (k : Int) ≥ (d.Blocks.length : Int) by omega)]
  rfl
theorem crashR_ok {ds : List Disk} {keep : List Bool} (h : (crashR ds keep).2 = 0) : MayDs ds ∧ keep.length ≤ waitsN ds ∧ crashR ds keep = (crashL ds (marksC ds keep), 0) := by
  unfold crashR at h ⊢
  cases hm : mayDs ds with
  | false => rw [hm] at h; cases h
  | true =>
    rw [hm] at h
    simp only [Bool.not_true, cond_false] at h ⊢
    by_cases hk : waitsN ds < keep.length
    · rw [decide_eq_true hk] at h; cases h
    · rw [decide_eq_false hk]
      exact ⟨mayDs_ok hm, by omega, rfl⟩
theorem crashR_bad {ds : List Disk} {keep : List Bool} (h : (crashR ds keep).2 ≠ 0) : (crashR ds keep).1 = [] := by
  unfold crashR at h ⊢
  cases hm : mayDs ds with
  | false => rfl
  | true =>
    rw [hm] at h
    simp only [Bool.not_true, cond_false] at h ⊢
    by_cases hk : waitsN ds < keep.length
    · rw [decide_eq_true hk]; rfl
    · rw [decide_eq_false hk] at h; exact (h rfl).elim
/- Plain law: a deal's acts, whoever is missing; members behind them. -/

def sloN (c : Config) (s m : Nat) : Nat := if (parF c (s : Int) + 1).toNat ≤ m then m - (parF c (s : Int) + 1).toNat else m + mN c - (parF c (s : Int) + 1).toNat
theorem sloN_lt {c : Config} (h : MayC c) (s : Nat) {m : Nat} (hm : m < mN c) : sloN c s m < mN c := by
  obtain ⟨h1, h2, h3, h4⟩ := parN h s
  unfold sloN
  split <;> omega
theorem mem_sloN {c : Config} (h : MayC c) (s : Nat) {m : Nat} (hm : m < mN c) : memN c s (sloN c s m) = m := by
  obtain ⟨h1, h2, h3, h4⟩ := parN h s
  unfold sloN memN
  split <;> split <;> omega
theorem slotF {c : Config} (hm : MayC c) {s m : Nat} (hs : s < sN c) (hmm : m < mN c) : turn_Slot c (s : Int) (m : Int) = some ((sloN c s m : Int), 0) := by
  have hM := hm.1
  have hp := parF_in hm (s : Int)
  have hw := wI_str hm
  have hc := hm.2.1
  have hsn : c.Chunk * c.Rows = (sN c : Int) := by unfold sN; omega
  have hMm : c.Members = (mN c : Int) := by unfold mN; omega
  obtain ⟨q1, q2, q3, q4⟩ := parN hm s
  unfold turn_Slot turn_row_slot turn_at
  rw [stripesF, (mayC_iff c).2 hm]
  simp only [cond_true, Option.bind_some, bne_self_eq_false, cond_false]
  rw [decide_eq_false (show ¬ (s : Int) < 0 by omega), decide_eq_false (show ¬ (s : Int) ≥ c.Chunk * c.Rows by omega), decide_eq_false (show ¬ (m : Int) < 0 by omega), decide_eq_false (show ¬ (m : Int) ≥ c.Members by omega)]
  have h1' : 0 ≤ (s : Int) / c.Chunk := Int.ediv_nonneg (by omega) (by omega)
  have h2' : (s : Int) / c.Chunk ≤ (s : Int) := Int.ediv_le_self c.Chunk (by omega)
  have hs64 : (s : Int) ≤ 64 := by omega
  simp only [cond_false]
  unfold turn_at_J1 turn_row_parity
  rw [divideF (by omega) (by omega) (by omega)]
  simp only [cond_false, Option.bind_some, bne_self_eq_false]
  rw [divideF h1' (by omega) (by omega)]
  simp only [Option.bind_some]
  rw [wI_id (x := c.Members - 1) (by omega) (by omega)]
  unfold parF at hp
  rw [wI_id (x := c.Members - 1 - _) (by omega) (by omega), wI_id (x := (m : Int) + c.Members) (by omega) (by omega), wI_id (x := (m : Int) + c.Members - _) (by omega) (by omega), wI_id (by omega) (by omega), divideF (by omega) (by omega) (by omega)]
  simp only [Option.bind_some]
  have hq : (m : Int) + c.Members - (c.Members - 1 - (s : Int) / c.Chunk % c.Members) - 1 = (m : Int) + c.Members - ((parF c (s : Int) + 1).toNat : Int) := by
    rw [← q3]; unfold parF; omega
  rw [hq]
  unfold sloN
  generalize (parF c (s : Int) + 1).toNat = q at q1 q2
  rw [hMm]
  split
  · rw [show (m : Int) + (mN c : Int) - (q : Int) = ((m - q : Nat) : Int) + (mN c : Int) by omega, Int.add_emod_right, Int.emod_eq_of_lt (by omega) (by omega)]
  · rw [Int.emod_eq_of_lt (by omega) (by omega), show (m : Int) + (mN c : Int) - (q : Int) = ((m + mN c - q : Nat) : Int) by omega]

/-! ### the acts, whoever is missing -/
def goesH (c : Config) (s missing : Int) (p : Int × List UInt8) : Bool := !(memF c s p.1 == missing)
theorem hactsM_eq {c : Config} (hmc : MayC c) {d : Deal} (ok : OkDeal c d) (hp : d.Parity.length = 128) (missing : Int) :
    home_acts c missing d = some (((pairsH d ++ [(c.Members - 1, d.Parity)]).filter (goesH c d.Stripe missing)).map (actH c d.Stripe), 0) := by
  obtain ⟨s, hs, hsn⟩ := ok.s
  have hM := hmc.1
  have hMm : c.Members = (mN c : Int) := by unfold mN; omega
  have hw := wI_str hmc
  have hsN : c.Chunk * c.Rows = (sN c : Int) := by unfold sN; omega
  have hbl := ok.bl
  have hnn := ok.n
  have hlen : (pairsH d).length = d.Slots.length := by simp [pairsH]; omega
  have hask : ∀ k : Nat, k < mN c → askT c (s : Int) (k : Int) = true := fun k hk => by
    unfold askT
    simp only [Bool.and_eq_true, decide_eq_true_eq]
    omega
  unfold home_acts
  have := loop_run (step := fun q : Int × (List Act37) => home_acts_L2 c missing d q.1 q.2) (fun k => ((k : Int), (((pairsH d).take k).filter (goesH c d.Stripe missing)).map (actH c d.Stripe))) d.Slots.length (((pairsH d).filter (goesH c d.Stripe missing)).map (actH c d.Stripe)) (fuel_ltD (by omega)) (fun k hk => by
    obtain ⟨j, hj, hjm⟩ := ok.sl _ (List.getElem_mem hk)
    have hb : k < d.Blocks.length := by omega
    have hbs := szB_len (ok.bs _ (List.getElem_mem hb))
    have hpk : (pairsH d)[k]? = some ((j : Int), fullB d.Blocks[k]) := by
      rw [List.getElem?_eq_getElem (by omega)]
      simp [pairsH, hj]
    have hfl : (((pairsH d).take k).filter (goesH c d.Stripe missing)).length ≤ k := by
      have := List.length_filter_le (goesH c d.Stripe missing) ((pairsH d).take k)
      simp at this; omega
    unfold home_acts_L2 home_acts_J4 home_acts_J3 slices_Clone_byte_byte
    simp only
    rw [decide_eq_true (by omega), idx_nat, List.getElem?_eq_getElem hk, idx_nat, List.getElem?_eq_getElem hb, hj]
    simp only [cond_true, Option.bind_some]
    rw [memberF hmc, hs, hask j (by omega)]
    simp only [cond_true, Option.bind_some]
    rw [app_some _ _ (by simp; omega), wI_succ (by omega), wI_id (x := (s : Int) + 1) (by omega) (by omega), take_succ_get _ _ _ hpk, List.filter_append, List.map_append]
    rw [show [((j : Int), fullB d.Blocks[k])].filter (goesH c (s : Int) missing) = bif memF c (s : Int) (j : Int) == missing then [] else [((j : Int), fullB d.Blocks[k])] by
      unfold goesH
      cases hg : (memF c (s : Int) (j : Int) == missing) <;> simp [List.filter, hg]]
    cases (memF c (s : Int) (j : Int) == missing) with
    | true => simp
    | false =>
      simp only [cond_false, Option.bind_some, List.nil_append]
      unfold actH fullB
      by_cases h0 : d.Blocks[k].length = 0
      · rw [show (((d.Blocks[k].length : Nat) : Int) == 0) = true by simp [h0], if_pos h0, show makeL (0 : UInt8) 128 = some (List.replicate 128 0) from makeL_some 0 128 (by omega)]
        simp only [cond_true, Option.bind_some]
        rw [hs] at hfl
        rw [app_some _ _ (by simp; omega)]; rfl
      · rw [show (((d.Blocks[k].length : Nat) : Int) == 0) = false by simpa using h0, if_neg h0]
        simp only [cond_false]
        rw [hs] at hfl
        rw [app_some _ _ (by simp; omega)]; rfl) (by
    unfold home_acts_L2
    simp only
    rw [decide_eq_false (by omega), List.take_of_length_le (by omega)]; rfl)
  have h0 : ((0 : Int), ([] : List Act37)) = (fun k : Nat => ((k : Int), (((pairsH d).take k).filter (goesH c d.Stripe missing)).map (actH c d.Stripe))) 0 := by simp
  rw [h0, this]
  have hM1 : wI (c.Members - 1) = ((mN c - 1 : Nat) : Int) := by rw [wI_id (by omega) (by omega)]; omega
  have hM' : c.Members - 1 = ((mN c - 1 : Nat) : Int) := by omega
  have hfl : ((pairsH d).filter (goesH c d.Stripe missing)).length ≤ 16 := by
    have := List.length_filter_le (goesH c d.Stripe missing) (pairsH d)
    omega
  simp only [Option.bind_some]
  rw [hM1, memberF hmc, hs, hask _ (by omega)]
  simp only [cond_true, Option.bind_some]
  unfold home_acts_J6 home_acts_J5 home_acts_J1 slices_Clone_byte_byte
  rw [app_some _ _ (by simp; omega), List.filter_append, List.map_append, hM', ← hs]
  rw [show [(((mN c - 1 : Nat) : Int), d.Parity)].filter (goesH c d.Stripe missing) = bif memF c d.Stripe ((mN c - 1 : Nat) : Int) == missing then [] else [(((mN c - 1 : Nat) : Int), d.Parity)] by
    unfold goesH
    cases hg : (memF c d.Stripe ((mN c - 1 : Nat) : Int) == missing) <;> simp [List.filter, hg]]
  cases (memF c d.Stripe ((mN c - 1 : Nat) : Int) == missing) with
  | true => simp
  | false =>
    simp only [cond_false, Option.bind_some, List.nil_append]
    rw [show (((d.Parity.length : Nat) : Int) == 0) = false from beq_eq_false_iff_ne.2 (by omega)]
    simp only [cond_false]
    rw [app_some _ _ (by simp; omega), wI_id (x := d.Stripe + 1) (by omega) (by omega)]; rfl

/-! ### writes at a place -/
def act2 (s : Nat) (p : Nat × List UInt8) : Act37 := ⟨(p.1 : Int), 1, (s : Int) + 1, p.2⟩
def addW (s : Nat) (d : Disk) (l : List (Nat × List UInt8)) : Disk := bif d.Dead then d else ⟨d.Blocks, d.Wait ++ l.map (fun p => ⟨((s + 1 : Nat) : Int), p.2⟩), d.Dead⟩
theorem addW_add (s : Nat) (d : Disk) (p : Nat × List UInt8) (l : List (Nat × List UInt8)) : addW s (addW s d [p]) l = addW s d (p :: l) := by
  unfold addW
  cases hd : d.Dead with
  | true => simp [hd]
  | false => simp [hd]
theorem addW_nil (s : Nat) (d : Disk) : addW s d [] = d := by
  unfold addW
  cases hd : d.Dead with
  | true => rfl
  | false =>
    obtain ⟨a, b, e⟩ := d
    simp only at hd
    subst hd
    simp
theorem addW_dead (s : Nat) (d : Disk) (l : List (Nat × List UInt8)) : (addW s d l).Dead = d.Dead := by
  unfold addW
  cases hd : d.Dead with
  | true => exact hd
  | false => rfl
theorem run_all {c : Config} {s : Nat} (hs : s < sN c) : ∀ (L : List (Nat × List UInt8)) (ds : List Disk), OkA c ds → (∀ i, i < mN c → (dAt ds i).Wait.length + L.length ≤ 1024) → (∀ p ∈ L, p.1 < mN c ∧ p.2.length = 128) →
    ∃ o, runA stepP (L.map (act2 s)) ds = some o ∧ OkA c o ∧ ∀ i, dAt o i = addW s (dAt ds i) (L.filter (fun p => p.1 == i))
  | [], ds, h, _, _ => ⟨ds, rfl, h, fun i => (addW_nil s _).symm⟩
  | p :: L, ds, h, hw, hp => by
    obtain ⟨p1, p2⟩ := hp p (by simp)
    have hlen := h.len
    have hds : p.1 < ds.length := by omega
    have hmay := h.may p.1 hds
    have hkb : s + 1 < (dAt ds p.1).Blocks.length := h.mem p1 hs
    have hsz : szB p.2 = true := by unfold szB; simp [p2]
    have hww := hw p.1 p1
    simp only [List.length_cons] at hww
    have hf2 : fullB p.2 = p.2 := by unfold fullB; rw [if_neg (by omega)]
    have hstep : stepP (dAt ds p.1) (act2 s p) = addW s (dAt ds p.1) [p] := by
      unfold stepP addW act2 putD
      cases (dAt ds p.1).Dead with
      | true => rfl
      | false => simp [hf2]
    have hfull : fullA (dAt ds p.1) (act2 s p) = false := by
      unfold fullA
      rw [decide_eq_false (by omega)]; simp
    have hm' : MayD (addW s (dAt ds p.1) [p]) ∧ (addW s (dAt ds p.1) [p]).Blocks.length = (dAt ds p.1).Blocks.length := by
      cases hd : (dAt ds p.1).Dead with
      | true => unfold addW; rw [hd]; exact ⟨hmay, rfl⟩
      | false =>
        have := put_may hmay hd hsz hkb (by omega)
        unfold addW; rw [hd]
        unfold putD at this
        rw [hf2] at this
        rw [hd] at this
        exact ⟨this, rfl⟩
    have h' : OkA c (ds.set p.1 (addW s (dAt ds p.1) [p])) := okAF_set h hds hm'.1 hm'.2
    obtain ⟨o, r1, r2, r3⟩ := run_all hs L (ds.set p.1 (addW s (dAt ds p.1) [p])) h' (fun i hi => by
      rw [dAtF_set _ _ _ hds]
      have h0 := hw i hi
      simp only [List.length_cons] at h0
      split
      · unfold addW
        cases (dAt ds p.1).Dead with
        | true => simp only [cond_true]; omega
        | false => simp; omega
      · omega) (fun q hq => hp q (by simp [hq]))
    refine ⟨o, ?_, r2, fun i => ?_⟩
    · rw [List.map_cons, runA_cons]
      have hg : ds.getD (act2 s p).Disk.toNat noD = dAt ds p.1 := rfl
      rw [hg, hfull, hstep]
      exact r1
    · rw [r3 i, dAtF_set _ _ _ hds]
      by_cases he : i = p.1
      · subst he
        rw [if_pos rfl, addW_add]
        simp
      · rw [if_neg he]
        rw [List.filter_cons, if_neg (by simp; omega)]
theorem over_lasts (k : Int) : ∀ (l : List (Nat × List UInt8)) (acc : List UInt8), (∀ p ∈ l, p.2.length = 128) → (l.map (fun p => (⟨k, p.2⟩ : Write))).foldl (overW k) acc = (l.getLast?).elim acc (·.2)
  | [], acc, _ => rfl
  | p :: l, acc, h => by
    rw [List.map_cons, List.foldl_cons, over_lasts k l _ (fun q hq => h q (by simp [hq]))]
    have h1 : overW k acc ⟨k, p.2⟩ = p.2 := by
      unfold overW
      rw [if_pos rfl]
      unfold fullB
      rw [if_neg (by have := h p (by simp); simp only; omega)]
    rw [h1]
    cases l with
    | nil => rfl
    | cons q l => rw [List.getLast?_cons_cons, List.getLast?_eq_some_getLast (show q :: l ≠ [] by simp)]; rfl
theorem seen_addW {s : Nat} {d : Disk} (hd : d.Dead = false) {l : List (Nat × List UInt8)} (hl : ∀ p ∈ l, p.2.length = 128) : seenD (addW s d l) (s + 1) = (l.getLast?).elim (seenD d (s + 1)) (·.2) := by
  unfold addW
  rw [hd]
  simp only [cond_false]
  unfold seenD
  rw [List.foldl_append]
  exact over_lasts _ l _ hl
theorem check_puts {c : Config} {ds : List Disk} (h : OkA c ds) {s : Nat} (hs : s < sN c) {L : List (Nat × List UInt8)} (hl : L.length ≤ 1024) (hp : ∀ p ∈ L, p.1 < mN c ∧ p.2.length = 128) : checkActs (L.map (act2 s)) ds = 0 := by
  have hlen := h.len
  have hM := h.m
  have hmds : MayDs ds := ⟨by omega, by omega, fun x hx => by
    obtain ⟨i, hi, rfl⟩ := List.getElem_of_mem hx
    have := h.may i hi
    unfold dAt at this
    rw [List.getD_eq_getElem?_getD, List.getElem?_eq_getElem hi] at this
    exact this⟩
  unfold checkActs
  rw [hmds.t, decide_eq_false (by simp; omega)]
  simp only [cond_true, cond_false]
  have : (L.map (act2 s)).any (fun a => !mayAct a (lensD ds)) = false := by
    rw [List.any_eq_false]
    intro a ha
    obtain ⟨p, hp', rfl⟩ := List.mem_map.1 ha
    obtain ⟨q1, q2⟩ := hp p hp'
    have hmem : s + 1 < (dAt ds p.1).Blocks.length := h.mem q1 hs
    have hg : (lensD ds)[p.1]? = some (dAt ds p.1).Blocks.length := by
      unfold lensD dAt
      rw [List.getD_eq_getElem?_getD, List.getElem?_map, List.getElem?_eq_getElem (by omega)]; rfl
    unfold act2
    rw [mayAct_w hg hmem q2]; simp
  rw [this]; rfl
theorem okA_mays {c : Config} {ds : List Disk} (h : OkA c ds) : MayDs ds := by
  have hlen := h.len
  have hM := h.m
  exact ⟨by omega, by omega, fun x hx => by
    obtain ⟨i, hi, rfl⟩ := List.getElem_of_mem hx
    have := h.may i hi
    unfold dAt at this
    rw [List.getD_eq_getElem?_getD, List.getElem?_eq_getElem hi] at this
    exact this⟩
/- Plain law: HomeAgain. -/

theorem dealcheck_par {c : Config} (hc : MayC c) (d : Deal) (h1 : d.Slots.length ≤ 100) (h2 : d.Blocks.length ≤ 100) (h : deal_Check c d = some 0) : szB d.Parity = true := by
  obtain ⟨b, hb, hb2⟩ := slots_eq hc d.Slots (by omega)
  have hs := wI_str hc
  unfold deal_Check at h
  rw [stripesF, (mayC_iff c).2 hc] at h
  simp only [cond_true, Option.bind_some, bne_self_eq_false, cond_false] at h
  rw [odd13_eq _ (by omega)] at h
  simp only [Option.bind_some] at h
  rw [sz_ne d.Parity, hb] at h
  cases hz : szB d.Parity with
  | true => rfl
  | false =>
    rw [hz] at h
    cases hq : ((d.Blocks.any fun b => !szB b) || decide (d.Stripe < 0)) || decide (d.Stripe ≥ c.Chunk * c.Rows) with
    | true => rw [hq] at h; simp [gO] at h
    | false => rw [hq] at h; simp [gO] at h

/-! ### what a member holds -/
def pickW (slot : Int) (w : List UInt8) (p : Int × List UInt8) : List UInt8 := bif p.1 == slot then p.2 else w
theorem pick_last (slot : Int) : ∀ (l : List (Int × List UInt8)) (w : List UInt8), l.foldl (pickW slot) w = ((l.filter fun p => p.1 == slot).getLast?).elim w (·.2)
  | [], _ => rfl
  | p :: l, w => by
    rw [List.foldl_cons, pick_last slot l, List.filter_cons]
    unfold pickW
    cases hp : (p.1 == slot) with
    | false => simp
    | true =>
      simp only [cond_true, if_true]
      cases hf : l.filter fun p => p.1 == slot with
      | nil => rfl
      | cons q l' => rw [List.getLast?_cons_cons, List.getLast?_eq_some_getLast (show q :: l' ≠ [] by simp)]; rfl
theorem pick_full (slot : Int) : ∀ (a : List Int) (b : List (List UInt8)) (w : List UInt8), fullB ((a.zip b).foldl (pickW slot) w) = (a.zip (b.map fullB)).foldl (pickW slot) (fullB w)
  | [], _, _ => rfl
  | _ :: _, [], _ => rfl
  | x :: a, y :: b, w => by
    simp only [List.zip_cons_cons, List.map_cons, List.foldl_cons]
    rw [pick_full slot a b]
    unfold pickW
    cases (x == slot) <;> rfl
theorem want_loop {c : Config} {d : Deal} (ok : OkDeal c d) (missing m slot : Int) (e : Int) (w : List UInt8) :
    loopM (fun s : (List UInt8) × Int => law21_has_L1 missing d m (slot, e) s.1 s.2) FUEL (w, (0 : Int)) = some (bif m != missing then (d.Slots.zip d.Blocks).foldl (pickW slot) w else w) := by
  have hbl := ok.bl
  have hn := ok.n
  cases hm : (m != missing) with
  | false =>
    have hstep : law21_has_L1 missing d m (slot, e) w 0 = some (.brk w) := by
      unfold law21_has_L1
      rw [hm, Bool.and_false]; rfl
    have := loop_run (step := fun s : (List UInt8) × Int => law21_has_L1 missing d m (slot, e) s.1 s.2) (fun k => (w, (k : Int))) 0 w (fuel_ltD (by omega)) (fun k hk => by omega) hstep
    exact this
  | true =>
    have hz : (d.Slots.zip d.Blocks).length = d.Slots.length := by simp; omega
    have := loop_run (step := fun s : (List UInt8) × Int => law21_has_L1 missing d m (slot, e) s.1 s.2) (fun k => (((d.Slots.zip d.Blocks).take k).foldl (pickW slot) w, (k : Int))) d.Slots.length ((d.Slots.zip d.Blocks).foldl (pickW slot) w) (fuel_ltD (by omega)) (fun k hk => by
      have hb : k < d.Blocks.length := by omega
      have hzk : (d.Slots.zip d.Blocks)[k]? = some (d.Slots[k], d.Blocks[k]) := by
        rw [List.getElem?_eq_getElem (by omega)]
        simp
      unfold law21_has_L1 law21_has_J2
      simp only
      rw [hm, decide_eq_true (show ((k : Nat) : Int) < (d.Slots.length : Int) by omega), idx_nat, idx_nat, List.getElem?_eq_getElem hk, List.getElem?_eq_getElem hb, wI_succ (by omega), take_succ_get _ _ _ hzk, List.foldl_append]
      simp only [Bool.and_self, cond_true, Option.bind_some, List.foldl_cons, List.foldl_nil]
      unfold pickW
      simp only
      cases (d.Slots[k] == slot) <;> rfl) (by
      unfold law21_has_L1
      simp only
      rw [decide_eq_false (by omega), List.take_of_length_le (by omega)]; rfl)
    have h0 : (w, (0 : Int)) = (fun k : Nat => (((d.Slots.zip d.Blocks).take k).foldl (pickW slot) w, (k : Int))) 0 := by simp
    rw [h0, this]; rfl
/-- What the stripe's place holds on a member, of all that is written there. -/
def writesH (c : Config) (s : Nat) (missing : Int) (d : Deal) : List (Nat × List UInt8) := ((pairsH d ++ [(c.Members - 1, d.Parity)]).filter (goesH c (s : Int) missing)).map fun p => (memN c s p.1.toNat, p.2)
theorem has_eq {c : Config} {ds X : List Disk} (h : OkA c ds) (hX : OkA c X) {d : Deal} (ok : OkDeal c d) (hp : d.Parity.length = 128) {s : Nat} (hs : d.Stripe = (s : Int)) (hss : s < sN c) (missing : Int) {m : Nat} (hm : m < mN c)
    (hd : (dAt X m).Dead = (dAt ds m).Dead)
    (hseen : (dAt X m).Dead = false → seenD (dAt X m) (s + 1) = (((writesH c s missing d).filter (fun p => p.1 == m)).getLast?).elim (seenD (dAt ds m) (s + 1)) (·.2)) : law21_has c X ds missing d (m : Int) = some true := by
  obtain ⟨m1, m2, m3⟩ := h.m
  have hlen := h.len
  have hXl := hX.len
  have hsn := h.s
  unfold law21_has
  rw [idx_nat, idx_nat, dAt_get (by omega), dAt_get (by omega)]
  simp only [Option.bind_some]
  cases hdead : (dAt X m).Dead with
  | true => rw [hdead] at hd; rw [← hd]; rfl
  | false =>
  rw [hdead] at hd
  simp only [cond_false]
  rw [hs, slotF h.mc hss hm, wI_succ (by omega), read_of (hX.may m (by omega)) hdead (hX.mem hm hss), read_of (h.may m (by omega)) hd.symm (h.mem hm hss)]
  simp only [Option.bind_some, bne_self_eq_false, Bool.or_self, cond_false]
  rw [want_loop ok missing (m : Int) _ 0 _]
  simp only [Option.bind_some]
  have hw128 : (seenD (dAt ds m) (s + 1)).length = 128 := seen_len (h.may m (by omega)) (h.mem hm hss)
  have hfw : fullB (seenD (dAt ds m) (s + 1)) = seenD (dAt ds m) (s + 1) := by unfold fullB; rw [if_neg (by omega)]
  have hfp : fullB d.Parity = d.Parity := by unfold fullB; rw [if_neg (by omega)]
  have hJ : ∀ (x j : List UInt8) (e : Int), law21_has_J3 (x, e) j = some (decide (x = fullB j)) := fun x j e => by
    unfold law21_has_J3 law21_has_J4 fullB
    by_cases h0 : j.length = 0
    · rw [show (((j.length : Nat) : Int) == 0) = true by simp [h0], if_pos h0, full21_zero]
      simp only [cond_true, Option.bind_some, beqL]
    · rw [show (((j.length : Nat) : Int) == 0) = false by simpa using h0, if_neg h0]
      simp only [cond_false, beqL]
  have hslot := sloN_lt h.mc s hm
  have hmem := mem_sloN h.mc s hm
  have hM1 : wI (c.Members - 1) = ((mN c - 1 : Nat) : Int) := by rw [wI_id (by omega) (by omega)]; omega
  have hM' : c.Members - 1 = ((mN c - 1 : Nat) : Int) := by omega
  have hkk : ∀ p ∈ pairsH d ++ [(c.Members - 1, d.Parity)], ∃ k : Nat, p.1 = (k : Int) ∧ k < mN c := fun p hp' => by
    rcases List.mem_append.1 hp' with hp' | hp'
    · obtain ⟨⟨k, hk, hk2⟩, _⟩ := pairs_ok ok p hp'
      exact ⟨k, hk, by omega⟩
    · rw [List.mem_singleton] at hp'
      rw [hp']
      exact ⟨mN c - 1, hM', by omega⟩
  -- what is written there
  have hL : (((writesH c s missing d).filter (fun p => p.1 == m)).getLast?).map (·.2) = bif (m : Int) != missing then ((((pairsH d ++ [(c.Members - 1, d.Parity)])).filter fun p => p.1 == (sloN c s m : Int)).getLast?).map (·.2) else none := by
    unfold writesH
    rw [List.filter_map, List.getLast?_map, List.filter_filter, Option.map_map]
    cases hmm : ((m : Int) != missing) with
    | false =>
      have hme : (m : Int) = missing := by simpa using hmm
      have : (pairsH d ++ [(c.Members - 1, d.Parity)]).filter (fun a => ((fun p : Nat × List UInt8 => p.1 == m) ∘ fun p : Int × List UInt8 => (memN c s p.1.toNat, p.2)) a && goesH c (s : Int) missing a) = [] := by
        rw [List.filter_eq_nil_iff]
        intro p hp'
        obtain ⟨k, hk, hk2⟩ := hkk p hp'
        show ¬ ((memN c s p.1.toNat == m) && goesH c (s : Int) missing p) = true
        unfold goesH
        rw [hk, memN_eq h.mc s hk2, ← hme, Int.toNat_natCast]
        by_cases he : memN c s k = m
        · rw [he]; simp
        · simp [he]
      rw [this]; rfl
    | true =>
      simp only [cond_true]
      have : (pairsH d ++ [(c.Members - 1, d.Parity)]).filter (fun a => ((fun p : Nat × List UInt8 => p.1 == m) ∘ fun p : Int × List UInt8 => (memN c s p.1.toNat, p.2)) a && goesH c (s : Int) missing a) = (pairsH d ++ [(c.Members - 1, d.Parity)]).filter fun p => p.1 == (sloN c s m : Int) := by
        refine List.filter_congr (fun p hp' => ?_)
        obtain ⟨k, hk, hk2⟩ := hkk p hp'
        show ((memN c s p.1.toNat == m) && goesH c (s : Int) missing p) = (p.1 == (sloN c s m : Int))
        unfold goesH
        rw [hk, memN_eq h.mc s hk2, Int.toNat_natCast]
        have hmm' : ¬ (m : Int) = missing := by simpa using hmm
        by_cases he : k = sloN c s m
        · subst he
          rw [hmem]
          simp [hmm']
        · have : memN c s k ≠ m := fun e => he (memN_inj h.mc s hk2 hslot (by rw [e, hmem]))
          rw [show (memN c s k == m) = false from beq_eq_false_iff_ne.2 this, Bool.false_and]
          exact (beq_eq_false_iff_ne.2 (by omega)).symm
      rw [this]; rfl
  have hsx : seenD (dAt X m) (s + 1) = ((((writesH c s missing d).filter (fun p => p.1 == m)).getLast?).map (·.2)).getD (seenD (dAt ds m) (s + 1)) := by
    rw [hseen hdead]
    cases ((writesH c s missing d).filter (fun p => p.1 == m)).getLast? <;> rfl
  rw [hL] at hsx
  rw [hM1]
  cases hmm : ((m : Int) != missing) with
  | false =>
    rw [hmm] at hsx
    simp only [Bool.and_false, cond_false]
    rw [hJ, hfw, hsx]; simp
  | true =>
    rw [hmm] at hsx
    simp only [cond_true, Bool.and_true] at hsx ⊢
    rw [List.filter_append] at hsx
    by_cases hsl : sloN c s m = mN c - 1
    · have h1 : ((pairsH d).filter fun p => p.1 == (sloN c s m : Int)) = [] := by
        rw [List.filter_eq_nil_iff]
        intro p hp'
        obtain ⟨⟨k, hk, hk2⟩, _⟩ := pairs_ok ok p hp'
        rw [hk]; simp; omega
      rw [h1, hsl] at hsx
      rw [hsl, show (((mN c - 1 : Nat) : Int) == ((mN c - 1 : Nat) : Int)) = true by simp]
      simp only [cond_true]
      rw [hJ, hfp, hsx, hM']
      simp [List.filter]
    · rw [show (((sloN c s m : Nat) : Int) == ((mN c - 1 : Nat) : Int)) = false by simp; omega]
      simp only [cond_false]
      have h1 : ([(c.Members - 1, d.Parity)].filter fun p => p.1 == (sloN c s m : Int)) = [] := by
        rw [List.filter_eq_nil_iff]
        intro p hp'
        rw [List.mem_singleton] at hp'
        rw [hp', hM']; simp; omega
      rw [h1, List.append_nil] at hsx
      rw [hJ, pick_full, hfw, pick_last, hsx]
      unfold pairsH
      cases ((d.Slots.zip (d.Blocks.map fullB)).filter fun p => p.1 == (sloN c s m : Int)).getLast? <;> simp

theorem run_len {ds : List Disk} {n : Int} {l : List Act37} (hc : checkActs l ds = 0) (h0 : 0 ≤ n) (h1 : n ≤ (l.length : Int)) : runD stepP ds l n = (runA stepP (l.take n.toNat) ds).elim ([], 9) fun o => (o, 0) := by
  unfold runD
  rw [hc, decide_eq_false (show ¬ n < 0 by omega), decide_eq_false (show ¬ n > (l.length : Int) by omega)]
  rfl
theorem getD_crash {ds : List Disk} {m : List Bool} {i : Nat} (hi : i < ds.length) : dAt (crashL ds m) i = crashD (dAt ds i) (m.drop (waitsN (ds.take i))) := by
  unfold dAt
  rw [List.getD_eq_getElem?_getD, crashL_get ds m i hi, List.getD_eq_getElem?_getD, List.getElem?_eq_getElem hi]; rfl
theorem waits_zero : ∀ {ds : List Disk}, waitsN ds = 0 → ∀ d ∈ ds, d.Wait = []
  | [], _, d, hd => by simp at hd
  | x :: ds, h, d, hd => by
    simp only [waitsN] at h
    rcases List.mem_cons.1 hd with rfl | hd
    · exact List.eq_nil_of_length_eq_zero (by omega)
    · exact waits_zero (by omega) d hd
theorem homeagain_true (c : Config) (ds : List Disk) (missing : Int) (d : Deal) (n : Int) (keep : List Bool) : law21_HomeAgain c ds missing d n keep = some true := by
  unfold law21_HomeAgain
  obtain ⟨g1, e1, h1⟩ := agreat_eq ds
  obtain ⟨g2, e2, h2⟩ := dgreat13_eq d
  rw [halive_true, e1, e2]
  simp only [Option.bind_some, fcheck_eq]
  cases g1 with
  | true => rfl
  | false =>
  cases g2 with
  | true => rfl
  | false =>
  obtain ⟨n1, n2⟩ := h2 rfl
  obtain ⟨_, d2⟩ := h1 rfl
  simp only [gO, Bool.not_false, cond_true, Option.bind_some, Bool.or_self, Bool.false_or, Bool.not_true, Bool.or_false]
  cases hk : decide (((keep.length : Nat) : Int) > 2000) with
  | true => rfl
  | false =>
  have hk' := of_decide_eq_false hk
  cases hok : okA c ds with
  | false => rfl
  | true =>
  have h := (okA_iff c ds).1 hok
  obtain ⟨m1, m2, m3⟩ := h.m
  have hlen := h.len
  have hsn := h.s
  simp only [Bool.not_false, cond_true, Option.bind_some, bne_self_eq_false, Bool.or_self, cond_false]
  obtain ⟨e, he, hde⟩ := dealcheck_eq h.mc d n1 n2
  have hmds := okA_mays h
  have hA : ∃ r, home_Again c missing d = some r ∧ (r.2 = 0 → ∃ s : Nat, d.Stripe = (s : Int) ∧ s < sN c ∧ OkDeal c d ∧ d.Parity.length = 128 ∧ r = ((writesH c s missing d).map (act2 s), 0)) := by
    unfold home_Again home_member
    rw [he]
    simp only [Option.bind_some]
    by_cases hez : e = 0
    case neg => rw [show (e != 0) = true by simpa using hez]; exact ⟨_, rfl, fun hz => (hez hz).elim⟩
    obtain ⟨ok, _⟩ := hde hez
    have hpar := dealcheck_par h.mc d n1 n2 (by rw [he, hez])
    rw [hez]
    simp only [bne_self_eq_false, cond_false]
    cases (decide (missing ≥ -1) && decide (missing < c.Members)) with
    | false => exact ⟨_, rfl, fun hz => by cases hz⟩
    | true =>
      simp only [Bool.not_true, cond_false]
      by_cases hp0 : d.Parity.length = 0
      · rw [show (((d.Parity.length : Nat) : Int) == 0) = true by simp [hp0]]
        exact ⟨_, rfl, fun hz => by cases hz⟩
      · have hp : d.Parity.length = 128 := by unfold szB at hpar; simp at hpar; rcases hpar with h0 | h0 <;> simp_all
        rw [show (((d.Parity.length : Nat) : Int) == 0) = false by simpa using hp0, hactsM_eq h.mc ok hp missing]
        obtain ⟨s, hs, hss⟩ := ok.s
        refine ⟨_, rfl, fun _ => ⟨s, hs, hss, ok, hp, ?_⟩⟩
        simp only [cond_false, Option.bind_some]
        congr 1
        unfold writesH
        rw [List.map_map, hs]
        refine List.map_congr_left (fun p hp' => ?_)
        have hp' := (List.mem_filter.1 hp').1
        have : ∃ k : Nat, p.1 = (k : Int) ∧ k < mN c := by
          rcases List.mem_append.1 hp' with hp' | hp'
          · obtain ⟨⟨k, hk, hk2⟩, _⟩ := pairs_ok ok p hp'
            exact ⟨k, hk, by omega⟩
          · rw [List.mem_singleton] at hp'
            rw [hp']
            exact ⟨mN c - 1, by simp only; omega, by omega⟩
        obtain ⟨k, hk, hk2⟩ := this
        show actH c (s : Int) p = act2 s (memN c s p.1.toNat, p.2)
        unfold actH act2
        rw [hk, memN_eq h.mc s hk2, Int.toNat_natCast]
  obtain ⟨r, hr, hr2⟩ := hA
  rw [hr]
  simp only [Option.bind_some, pwaits_eq]
  rw [hmds.t]
  simp only [cond_true, bne_self_eq_false, Bool.or_false]
  by_cases hrz : r.2 = 0
  case neg => rw [show (r.2 != 0) = true by simpa using hrz]; rfl
  obtain ⟨s, hs, hss, ok, hp, hrr⟩ := hr2 hrz
  rw [hrr]
  simp only [bne_self_eq_false, Bool.false_or]
  have hpo := pairs_ok ok
  have hM' : c.Members - 1 = ((mN c - 1 : Nat) : Int) := by omega
  generalize hL : writesH c s missing d = L
  have hLp : ∀ p ∈ L, p.1 < mN c ∧ p.2.length = 128 := fun p hp' => by
    rw [← hL] at hp'
    obtain ⟨x, hx, rfl⟩ := List.mem_map.1 hp'
    have hx := (List.mem_filter.1 hx).1
    rcases List.mem_append.1 hx with hx | hx
    · obtain ⟨⟨k, hk, hk2⟩, hk3⟩ := hpo x hx
      exact ⟨by simp only [hk, Int.toNat_natCast]; exact memN_lt h.mc s (by omega), hk3⟩
    · rw [List.mem_singleton] at hx
      rw [hx]
      exact ⟨by simp only [hM', Int.toNat_natCast]; exact memN_lt h.mc s (by omega), hp⟩
  have hLl : L.length ≤ 17 := by
    have h3 := List.length_filter_le (goesH c (s : Int) missing) (pairsH d ++ [(c.Members - 1, d.Parity)])
    have h4 := ok.n
    have h5 : (pairsH d).length ≤ 16 := by simp [pairsH]; omega
    rw [← hL]
    unfold writesH
    rw [List.length_map]
    rw [List.length_append, List.length_singleton] at h3
    omega
  have hml : (L.map (act2 s)).length = L.length := List.length_map _
  by_cases hw0 : waitsN ds = 0
  case neg => rw [decide_eq_true (show ((waitsN ds : Nat) : Int) > 0 by omega)]; rfl
  rw [decide_eq_false (show ¬ ((waitsN ds : Nat) : Int) > 0 by omega), hml]
  simp only [Bool.false_or]
  by_cases hn : 0 ≤ n ∧ n ≤ (L.length : Int)
  case neg =>
    rw [show (decide (n < 0) || decide (n > (L.length : Int))) = true by simp; omega]; rfl
  rw [show (decide (n < 0) || decide (n > (L.length : Int))) = false by simp; omega]
  simp only [cond_false, (prun_eq _ _ _).1, Option.bind_some]
  have hWz : ∀ i, i < mN c → (dAt ds i).Wait = [] := fun i hi => by
    refine waits_zero hw0 _ ?_
    unfold dAt
    rw [List.getD_eq_getElem?_getD, List.getElem?_eq_getElem (by omega)]
    exact List.getElem_mem _
  have hc1 := check_puts h hss (show L.length ≤ 1024 by omega) hLp
  -- all of them at once
  obtain ⟨o1, a1, a2, a3⟩ := run_all hss L ds h (fun i hi => by rw [hWz i hi]; simp; omega) hLp
  have hr1 : runD stepP ds (L.map (act2 s)) ((L.length : Nat) : Int) = (o1, 0) := by
    rw [run_len hc1 (by omega) (by omega), Int.toNat_natCast, List.take_of_length_le (by omega), a1]; rfl
  -- the first of them
  obtain ⟨o2, b1, b2, b3⟩ := run_all hss (L.take n.toNat) ds h (fun i hi => by rw [hWz i hi]; simp; omega) (fun p hp' => hLp p (List.mem_of_mem_take hp'))
  have hr2' : runD stepP ds (L.map (act2 s)) n = (o2, 0) := by
    rw [run_len hc1 (by omega) (by omega), ← List.map_take, b1]; rfl
  have hmo2 := okA_mays b2
  rw [hr1, hr2']
  simp only [bne_self_eq_false, Bool.or_self, Bool.false_or]
  rw [hmo2.t]
  simp only [cond_true, bne_self_eq_false, cond_false]
  have hwo := waitsN_le hmo2.m
  have hno2 := hmo2.n2
  rw [show slc keep 0 (min ((keep.length : Nat) : Int) ((waitsN o2 : Nat) : Int)) = some (keep.take (min keep.length (waitsN o2))) by
    unfold slc
    rw [if_pos (by omega)]
    rw [show (min ((keep.length : Nat) : Int) ((waitsN o2 : Nat) : Int)).toNat = min keep.length (waitsN o2) by omega]
    simp]
  simp only [Option.bind_some, pcrash_eq]
  have hcr : crashR o2 (keep.take (min keep.length (waitsN o2))) = (crashL o2 (marksC o2 (keep.take (min keep.length (waitsN o2)))), 0) := by
    unfold crashR
    rw [hmo2.t, decide_eq_false (by simp; omega)]; rfl
  rw [hcr]
  generalize marksC o2 (keep.take (min keep.length (waitsN o2))) = mk
  simp only [Option.bind_some]
  have hol2 := b2.len
  have hok3 : OkA c (crashL o2 mk) := by
    refine ⟨h.mc, by rw [crashL_len]; exact hol2, h.m, h.s, fun i hi => ?_, fun i hi => ?_⟩
    · rw [crashL_len] at hi
      rw [getD_crash hi]; exact (crash_may (b2.may i hi) _).1
    · rw [crashL_len] at hi
      rw [getD_crash hi, (crash_may (b2.may i hi) _).2]; exact b2.want i hi
  have hc3 := check_puts hok3 hss (show L.length ≤ 1024 by omega) hLp
  obtain ⟨o3, t1, t2, t3⟩ := run_all hss L (crashL o2 mk) hok3 (fun i hi => by rw [getD_crash (by omega)]; simp [crashD]; omega) hLp
  have hr3 : runD stepP (crashL o2 mk) (L.map (act2 s)) ((L.length : Nat) : Int) = (o3, 0) := by
    rw [run_len hc3 (by omega) (by omega), Int.toNat_natCast, List.take_of_length_le (by omega), t1]; rfl
  rw [hr3]
  have hl1 := a2.len
  have hl3 := t2.len
  simp only [bne_self_eq_false, Bool.or_self, Bool.false_or]
  rw [show (((o1.length : Nat) : Int) != ((ds.length : Nat) : Int)) = false by rw [hl1, hlen]; simp, show (((o3.length : Nat) : Int) != ((ds.length : Nat) : Int)) = false by rw [hl3, hlen]; simp]
  simp only [Bool.or_self, cond_false]
  -- members behind all of them
  have hfilt : ∀ (l : List (Nat × List UInt8)), (∀ p ∈ l, p.1 < mN c ∧ p.2.length = 128) → ∀ (i : Nat), ∀ p ∈ l.filter (fun p => p.1 == i), p.2.length = 128 := fun l hl i p hp' => (hl p (List.mem_filter.1 hp').1).2
  have hone : ∀ m, m < mN c → law21_has c o1 ds missing d (m : Int) = some true := fun m hm => by
    refine has_eq h a2 ok hp hs hss missing hm (by rw [a3 m, addW_dead]) (fun hd => ?_)
    rw [a3 m, addW_dead] at hd
    rw [a3 m, seen_addW hd (hfilt L hLp m), hL]
  have htwo : ∀ m, m < mN c → law21_has c o3 ds missing d (m : Int) = some true := fun m hm => by
    have hcm : dAt (crashL o2 mk) m = crashD (addW s (dAt ds m) ((L.take n.toNat).filter (fun p => p.1 == m))) (mk.drop (waitsN (o2.take m))) := by rw [getD_crash (by omega), b3 m]
    have hdd : (dAt o3 m).Dead = (dAt ds m).Dead := by rw [t3 m, addW_dead, hcm]; exact addW_dead _ _ _
    refine has_eq h t2 ok hp hs hss missing hm hdd (fun hd => ?_)
    rw [t3 m, addW_dead] at hd
    rw [t3 m, seen_addW hd (hfilt L hLp m), hL]
    cases hlast : (L.filter (fun p => p.1 == m)).getLast? with
    | some x => rfl
    | none =>
      have hnil : L.filter (fun p => p.1 == m) = [] := List.getLast?_eq_none_iff.1 hlast
      have hnil2 : (L.take n.toNat).filter (fun p => p.1 == m) = [] := by
        rw [List.filter_eq_nil_iff] at hnil ⊢
        exact fun p hp' => hnil p (List.mem_of_mem_take hp')
      simp only [Option.elim_none]
      rw [hcm, hnil2, addW_nil]
      unfold seenD crashD liesD
      rw [hWz m hm]; rfl
  rw [loop_anyD (List.range (mN c)) (fun _ => false) (step := fun q : Int => law21_HomeAgain_L1 c ds missing d (o1, 0) (o3, 0) q) (Sum.inr ()) (Sum.inl ()) (by simp; omega) (fun k hk2 => by
    have hk2 : k < mN c := by simpa using hk2
    unfold law21_HomeAgain_L1
    rw [decide_eq_true (by omega), hone k hk2, wI_succ (by omega)]
    simp only [cond_true, Option.bind_some, gO, Bool.not_true, Bool.not_false]
    rw [htwo k hk2]; rfl) (by
    unfold law21_HomeAgain_L1
    rw [List.length_range, decide_eq_false (by omega)]; rfl), show (List.range (mN c)).any (fun _ => false) = false by rw [List.any_eq_false]; intro x _; simp]
  simp only [Option.bind_some, cond_false, Sum.elim_inl]
  rw [m3, idx_nat, idx_nat, dAt_get (by omega), dAt_get (by omega)]
  simp only [Option.bind_some]
  have hj : L.filter (fun p => p.1 == mN c) = [] := by
    rw [List.filter_eq_nil_iff]
    intro p hp'
    have := (hLp p hp').1
    simp; omega
  rw [a3 (mN c), hj, addW_nil]
  have hsm := (h.may (mN c) (by omega)).small
  rw [psame_eq hsm hsm]
  simp
end Go.Proofs.Ytcnmlbgcnkfnhaa
