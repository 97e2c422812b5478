/- Plain law: devices: which may be, copies, blocks. -/
import Derived.Test.YtgkhjpfnmbdchaaGar2
namespace Go.Proofs.Ytgkhjpfnmbdchaa
open Go GL

theorem fuel_ltD {n : Nat} (h : n < 4294967296) : n < FUEL := by unfold FUEL; omega
theorem loop_anyD {α B : Type} (l : List α) (p : α → Bool) {step : Int → Option (Ctl Int B)} (yes no : B) (hl : l.length < 4294967296)
    (h1 : ∀ k (hk : k < l.length), step (k : Int) = some (bif p l[k] then .brk yes else .next ((k + 1 : Nat) : Int))) (h2 : step (l.length : Int) = some (.brk no)) :
    loopM step FUEL (0 : Int) = some (bif l.any p then yes else no) := by
  have := loop_any (step := step) (fun k => (k : Int)) l.length (fun k => (l[k]?.map p).getD false) yes no (fuel_ltD hl) (fun k hk => by
    rw [h1 k hk]; simp [hk]) h2
  rw [any_range l p _ (fun k hk => by simp [hk])] at this
  simpa using this
/-- The same for two lists of one length. -/
theorem loop_any2 {α β B : Type} (l : List α) (m : List β) (p : α → β → Bool) {step : Int → Option (Ctl Int B)} (yes no : B) (hl : l.length < 4294967296) (hm : l.length = m.length)
    (h1 : ∀ k (hk : k < l.length) (hk' : k < m.length), step (k : Int) = some (bif p l[k] m[k] then .brk yes else .next ((k + 1 : Nat) : Int))) (h2 : step (l.length : Int) = some (.brk no)) :
    loopM step FUEL (0 : Int) = some (bif (l.zip m).any (fun x => p x.1 x.2) then yes else no) := by
  have hz : (l.zip m).length = l.length := by simp; omega
  have := loop_anyD (l.zip m) (fun x => p x.1 x.2) (step := step) yes no (by omega) (fun k hk => by
    rw [h1 k (by omega) (by omega)]; simp) (by rw [hz]; exact h2)
  exact this
theorem zip_any_ne {α γ : Type} [DecidableEq γ] (f : α → γ) : ∀ (l m : List α), l.length = m.length → ((l.zip m).any (fun x => !decide (f x.1 = f x.2))) = !decide (l.map f = m.map f)
  | [], [], _ => by simp
  | [], _ :: _, h => by simp at h
  | _ :: _, [], h => by simp at h
  | a :: l, b :: m, h => by
    simp only [List.zip_cons_cons, List.any_cons, List.map_cons, zip_any_ne f l m (by simpa using h)]
    rw [Bool.eq_iff_iff]
    simp only [Bool.or_eq_true, Bool.not_eq_true', decide_eq_false_iff_not, List.cons.injEq]
    by_cases h1 : f a = f b <;> by_cases h2 : l.map f = m.map f <;> simp [h1, h2]

def fullB (b : List UInt8) : List UInt8 := if b.length = 0 then List.replicate 128 0 else b
def szB (b : List UInt8) : Bool := b.length == 0 || b.length == 128
theorem fullB_len {b : List UInt8} (h : szB b = true) : (fullB b).length = 128 := by
  unfold szB at h; unfold fullB
  simp at h
  split
  · simp
  · rcases h with h | h
    · subst h; simp at *
    · exact h
theorem fullB_ne (b : List UInt8) : (fullB b).length ≠ 0 := by
  unfold fullB
  split
  · rw [List.length_replicate]; omega
  · assumption
theorem fullB_full (b : List UInt8) : fullB (fullB b) = fullB b := by
  rw [show fullB (fullB b) = if (fullB b).length = 0 then List.replicate 128 0 else fullB b from rfl, if_neg (fullB_ne b)]
theorem szB_full {b : List UInt8} (h : szB b = true) : szB (fullB b) = true := by
  have := fullB_len h
  unfold szB; rw [this]; rfl

theorem rfull_eq {b : List UInt8} (h : b.length < 4294967296) : ref04_Full b = some (fullB b) := by
  unfold ref04_Full fullB
  by_cases h0 : b.length = 0
  · rw [if_pos h0, show (((b.length : Nat) : Int) == 0) = true by simp [h0]]
    rw [show (128 : Int) = ((128 : Nat) : Int) from rfl, makeL_some _ _ (by omega)]; rfl
  · rw [if_neg h0, show (((b.length : Nat) : Int) == 0) = false by simp; intro hb; apply h0; simp [hb]]
    rw [app_some _ _ (by simpa using h)]; rfl
theorem pblock_eq {b : List UInt8} (h : b.length < 4294967296) : disk_block b = some (fullB b) := by
  unfold disk_block slices_Clone_byte_byte fullB
  by_cases h0 : b.length = 0
  · rw [if_pos h0, show (((b.length : Nat) : Int) == 0) = true by simp [h0]]
    rw [show (128 : Int) = ((128 : Nat) : Int) from rfl, makeL_some _ _ (by omega)]; rfl
  · rw [if_neg h0, show (((b.length : Nat) : Int) == 0) = false by simp; intro hb; apply h0; simp [hb]]
    rw [app_some _ _ (by simpa using h)]; rfl
theorem podd_eq (b : List UInt8) : disk_odd b = some (!szB b) := by
  unfold disk_odd szB
  congr 1
  rw [Bool.eq_iff_iff]; simp only [Bool.and_eq_true, bne_iff_ne, ne_eq, Bool.not_eq_true', Bool.or_eq_false_iff, beq_eq_false_iff_ne]; omega
theorem rsized_eq (b : List UInt8) : ref04_Sized b = some (szB b) := by
  unfold ref04_Sized szB
  congr 1
  rw [Bool.eq_iff_iff]; simp only [Bool.or_eq_true, beq_iff_eq]; omega

/-- Devices of sizes that are gone through. -/
structure SmallD (d : Disk) : Prop where
  nb : d.Blocks.length ≤ 100000
  nw : d.Wait.length ≤ 100000
  lb : ∀ b ∈ d.Blocks, b.length ≤ 1000000
  lw : ∀ w ∈ d.Wait, w.Data.length ≤ 1000000

theorem sum_loop {α : Type} (l : List α) (len : α → Nat) (m : Nat) (hm : m ≤ 2000) {step : Int × Int → Option (Ctl (Int × Int) Int)} (n0 : Int) (h0 : 0 ≤ n0) (h0' : n0 ≤ 1000000000)
    (h1 : ∀ k (hk : k < l.length) (n : Int), k < m → step (n, (k : Int)) = some (.next (wI (n + wI (8 + min ((len l[k] : Nat) : Int) 100000)), wI ((k : Int) + 1))))
    (h2 : ∀ (n : Int) (k : Nat), ¬(k < l.length ∧ k < m) → step (n, (k : Int)) = some (.brk n)) :
    ∃ b, loopM step FUEL (n0, (0 : Int)) = some b ∧ n0 ≤ b ∧ b ≤ n0 + 200000 * m ∧ ∀ j (hj : j < l.length), j < m → min ((len l[j] : Nat) : Int) 100000 ≤ b := by
  refine loop_inv (step := step) (min l.length m)
    (fun k s => s.2 = (k : Int) ∧ n0 ≤ s.1 ∧ s.1 ≤ n0 + 200000 * (k : Int) ∧ ∀ j (hj : j < l.length), j < k → min ((len l[j] : Nat) : Int) 100000 ≤ s.1) _ (fun k s hk hI => ?_) FUEL 0 (n0, 0) (Nat.zero_le _) (by unfold FUEL; omega) ⟨rfl, by simp, by simp, fun j _ hj => by omega⟩
  obtain ⟨s1, s2⟩ := s
  obtain ⟨e1, e2, e3, e4⟩ := hI
  simp only at e1 e2 e3 e4
  subst e1
  by_cases hlt : k < l.length ∧ k < m
  · refine .inl ⟨_, h1 k hlt.1 s1 hlt.2, by omega, ?_⟩
    rw [wI_id (x := 8 + min ((len l[k] : Nat) : Int) 100000) (by omega) (by omega), wI_id (by omega) (by omega), wI_succ (by omega)]
    refine ⟨rfl, by simp only; omega, by simp only; omega, fun j hj hjk => ?_⟩
    simp only
    by_cases hjk' : j = k
    · subst hjk'; omega
    · have := e4 j hj (by omega); omega
  · exact .inr ⟨s1, h2 s1 k hlt, e2, by omega, fun j hj hjm => e4 j hj (by omega)⟩

theorem dgreat_eq (d : Disk) : ∃ g, ref04_Great d = some g ∧ (g = false → SmallD d ∧ d.Blocks.length ≤ 300 ∧ d.Wait.length ≤ 1100) := by
  unfold ref04_Great
  obtain ⟨b5, hb, h1, h2, h3⟩ := sum_loop d.Blocks List.length 400 (by omega) (step := fun s : Int × Int => ref04_Great_L1 d s.1 s.2) 0 (by omega) (by omega) (fun k hk n hm => by
      show ref04_Great_L1 d n (k : Int) = _
      unfold ref04_Great_L1
      rw [show (decide ((k : Int) < (d.Blocks.length : Int)) && decide ((k : Int) < (400 : Int))) = true by simp; omega, idx_nat, List.getElem?_eq_getElem hk]; rfl) (fun n k hk => by
      show ref04_Great_L1 d n (k : Int) = _
      unfold ref04_Great_L1
      rw [show (decide ((k : Int) < (d.Blocks.length : Int)) && decide ((k : Int) < (400 : Int))) = false by simp; omega]; rfl)
  rw [hb]
  simp only [Option.bind_some]
  obtain ⟨b6, hc, k1, k2, k3⟩ := sum_loop d.Wait (fun w => w.Data.length) 1200 (by omega) (step := fun s : Int × Int => ref04_Great_L2 d s.1 s.2) b5 (by omega) (by omega) (fun k hk n hm => by
      show ref04_Great_L2 d n (k : Int) = _
      unfold ref04_Great_L2
      rw [show (decide ((k : Int) < (d.Wait.length : Int)) && decide ((k : Int) < (1200 : Int))) = true by simp; omega, idx_nat, List.getElem?_eq_getElem hk]; rfl) (fun n k hk => by
      show ref04_Great_L2 d n (k : Int) = _
      unfold ref04_Great_L2
      rw [show (decide ((k : Int) < (d.Wait.length : Int)) && decide ((k : Int) < (1200 : Int))) = false by simp; omega]; rfl)
  rw [hc]
  simp only [Option.bind_some]
  refine ⟨_, rfl, fun hg => ?_⟩
  simp only [Bool.or_eq_false_iff, decide_eq_false_iff_not, Int.not_lt] at hg
  obtain ⟨⟨g1, g2⟩, g3⟩ := hg
  refine ⟨⟨by omega, by omega, fun b hb => ?_, fun w hw => ?_⟩, by omega, by omega⟩
  · obtain ⟨j, hj, rfl⟩ := List.getElem_of_mem hb
    have := h3 j hj (by omega); omega
  · obtain ⟨j, hj, rfl⟩ := List.getElem_of_mem hw
    have := k3 j hj (by omega); omega

theorem rtwin_eq {d : Disk} (h : SmallD d) : ref04_Twin d = some d := by
  have hnb := h.nb
  have hnw := h.nw
  unfold ref04_Twin
  have t1 := loop_run (step := fun s : Int × (List (List UInt8)) => ref04_Twin_L1 d s.1 s.2) (fun k => ((k : Int), d.Blocks.take k)) d.Blocks.length d.Blocks (fuel_ltD (by omega)) (fun k hk => by
    obtain ⟨x, hx⟩ : ∃ x, d.Blocks[k]? = some x := ⟨_, List.getElem?_eq_getElem hk⟩
    have hxl := h.lb x (List.mem_of_getElem? hx)
    unfold ref04_Twin_L1
    simp only [decide_eq_true (show (k : Int) < (d.Blocks.length : Int) by omega), cond_true, idx_nat, hx, Option.bind_some, wI_succ (show k < 9223372036854775807 by omega)]
    rw [app_some _ _ (by simp; omega)]
    simp only [Option.bind_some, List.nil_append]
    rw [app_some _ _ (by simp; omega), take_succ_get _ _ _ hx]
    rfl) (by
    unfold ref04_Twin_L1
    rw [decide_eq_false (by omega), List.take_length]; rfl)
  have h0 : ((0 : Int), ([] : List (List UInt8))) = (fun k : Nat => ((k : Int), d.Blocks.take k)) 0 := by simp
  rw [h0, t1]
  simp only [Option.bind_some]
  have t2 := loop_run (step := fun s : Int × (List Write) => ref04_Twin_L2 d s.1 s.2) (fun k => ((k : Int), d.Wait.take k)) d.Wait.length d.Wait (fuel_ltD (by omega)) (fun k hk => by
    obtain ⟨x, hx⟩ : ∃ x, d.Wait[k]? = some x := ⟨_, List.getElem?_eq_getElem hk⟩
    have hxl := h.lw x (List.mem_of_getElem? hx)
    unfold ref04_Twin_L2
    simp only [decide_eq_true (show (k : Int) < (d.Wait.length : Int) by omega), cond_true, idx_nat, hx, Option.bind_some, wI_succ (show k < 9223372036854775807 by omega)]
    rw [app_some _ _ (by simp; omega)]
    simp only [Option.bind_some, List.nil_append]
    rw [app_some _ _ (by simp; omega), take_succ_get _ _ _ hx]
    rfl) (by
    unfold ref04_Twin_L2
    rw [decide_eq_false (by omega), List.take_length]; rfl)
  have h1 : ((0 : Int), ([] : List Write)) = (fun k : Nat => ((k : Int), d.Wait.take k)) 0 := by simp
  rw [h1, t2]; rfl
theorem ptwin_eq {d : Disk} (h : SmallD d) : disk_Twin d = some d := by
  have hnb := h.nb
  have hnw := h.nw
  unfold disk_Twin
  have t1 := loop_run (step := fun s : Int × (List (List UInt8)) => disk_Twin_L1 d s.1 s.2) (fun k => ((k : Int), d.Blocks.take k)) d.Blocks.length d.Blocks (fuel_ltD (by omega)) (fun k hk => by
    obtain ⟨x, hx⟩ : ∃ x, d.Blocks[k]? = some x := ⟨_, List.getElem?_eq_getElem hk⟩
    have hxl := h.lb x (List.mem_of_getElem? hx)
    unfold disk_Twin_L1 slices_Clone_byte_byte
    simp only [decide_eq_true (show (k : Int) < (d.Blocks.length : Int) by omega), cond_true, idx_nat, hx, Option.bind_some, wI_succ (show k < 9223372036854775807 by omega)]
    rw [app_some _ _ (by simp; omega)]
    simp only [Option.bind_some, List.nil_append]
    rw [app_some _ _ (by simp; omega), take_succ_get _ _ _ hx]
    rfl) (by
    unfold disk_Twin_L1
    rw [decide_eq_false (by omega), List.take_length]; rfl)
  have h0 : ((0 : Int), ([] : List (List UInt8))) = (fun k : Nat => ((k : Int), d.Blocks.take k)) 0 := by simp
  rw [h0, t1]
  simp only [Option.bind_some]
  have t2 := loop_run (step := fun s : Int × (List Write) => disk_Twin_L2 d s.1 s.2) (fun k => ((k : Int), d.Wait.take k)) d.Wait.length d.Wait (fuel_ltD (by omega)) (fun k hk => by
    obtain ⟨x, hx⟩ : ∃ x, d.Wait[k]? = some x := ⟨_, List.getElem?_eq_getElem hk⟩
    have hxl := h.lw x (List.mem_of_getElem? hx)
    unfold disk_Twin_L2 slices_Clone_byte_byte
    simp only [decide_eq_true (show (k : Int) < (d.Wait.length : Int) by omega), cond_true, idx_nat, hx, Option.bind_some, wI_succ (show k < 9223372036854775807 by omega)]
    rw [app_some _ _ (by simp; omega)]
    simp only [Option.bind_some, List.nil_append]
    rw [app_some _ _ (by simp; omega), take_succ_get _ _ _ hx]
    rfl) (by
    unfold disk_Twin_L2
    rw [decide_eq_false (by omega), List.take_length]; rfl)
  have h1 : ((0 : Int), ([] : List Write)) = (fun k : Nat => ((k : Int), d.Wait.take k)) 0 := by simp
  rw [h1, t2]; rfl

/-! ### which devices may be -/
def badW (n : Nat) (w : Write) : Bool := decide (w.At < 0) || (decide (w.At ≥ (n : Int)) || !szB w.Data)
def mayD (d : Disk) : Bool :=
  decide (1 ≤ d.Blocks.length) && (decide (d.Blocks.length ≤ 256) && (decide (d.Wait.length ≤ 1024) && (!(d.Dead && decide (0 < d.Wait.length)) && (!(d.Blocks.any fun b => !szB b || (d.Dead && decide (0 < b.length))) && !(d.Wait.any (badW d.Blocks.length))))))
structure MayD (d : Disk) : Prop where
  n1 : 1 ≤ d.Blocks.length
  n2 : d.Blocks.length ≤ 256
  nw : d.Wait.length ≤ 1024
  dw : d.Dead = true → d.Wait = []
  db : d.Dead = true → ∀ b ∈ d.Blocks, b = []
  sz : ∀ b ∈ d.Blocks, szB b = true
  wt : ∀ w ∈ d.Wait, 0 ≤ w.At ∧ w.At < (d.Blocks.length : Int) ∧ szB w.Data = true
theorem mayD_iff (d : Disk) : mayD d = true ↔ MayD d := by
  unfold mayD
  simp only [Bool.and_eq_true, decide_eq_true_eq, Bool.not_eq_true', List.any_eq_false, Bool.or_eq_true, not_or, Bool.and_eq_false_iff, decide_eq_false_iff_not, badW, not_and]
  constructor
  · rintro ⟨h1, h2, h3, h4, h5, h6⟩
    refine ⟨h1, h2, h3, fun hd => ?_, fun hd b hb => ?_, fun b hb => ?_, fun w hw => ?_⟩
    · rcases h4 with h4 | h4
      · rw [hd] at h4; cases h4
      · exact List.eq_nil_of_length_eq_zero (by omega)
    · have := (h5 b hb).2 hd
      exact List.eq_nil_of_length_eq_zero (by omega)
    · have := (h5 b hb).1
      simpa using this
    · obtain ⟨k1, k2, k3⟩ := h6 w hw
      exact ⟨by omega, by omega, by simpa using k3⟩
  · rintro ⟨h1, h2, h3, h4, h5, h6, h7⟩
    refine ⟨h1, h2, h3, ?_, fun b hb => ⟨by rw [h6 b hb]; simp, fun hd => by rw [h5 hd b hb]; simp⟩, fun w hw => ?_⟩
    · cases hd : d.Dead with
      | false => exact .inl rfl
      | true => right; rw [h4 hd]; simp
    · obtain ⟨k1, k2, k3⟩ := h7 w hw
      exact ⟨by omega, by omega, by rw [k3]; simp⟩
theorem MayD.small {d : Disk} (h : MayD d) : SmallD d :=
  ⟨by have := h.n2; omega, by have := h.nw; omega, fun b hb => by have := h.sz b hb; unfold szB at this; simp at this; rcases this with e | e <;> simp_all,
    fun w hw => by have := (h.wt w hw).2.2; unfold szB at this; simp at this; rcases this with e | e <;> simp_all⟩

/-- A loop that looks for the first element with p. -/
theorem loop_first {α B : Type} (l : List α) (p : α → Bool) {step : Int → Option (Ctl Int B)} (yes : Nat → B) (no : B) (hl : l.length < 4294967296)
    (h1 : ∀ k (hk : k < l.length), step (k : Int) = some (bif p l[k] then .brk (yes k) else .next ((k + 1 : Nat) : Int))) (h2 : step (l.length : Int) = some (.brk no)) :
    ∃ b, loopM step FUEL (0 : Int) = some b ∧ ((∃ k, b = yes k ∧ ∃ hk : k < l.length, p l[k] = true ∧ ∀ j (hj : j < l.length), j < k → p l[j] = false) ∨ (b = no ∧ ∀ x ∈ l, p x = false)) := by
  refine loop_inv (step := step) l.length (fun k s => s = (k : Int) ∧ ∀ j (hj : j < l.length), j < k → p l[j] = false) _ (fun k s hk hI => ?_) FUEL 0 0 (Nat.zero_le _) (by have := fuel_ltD hl; omega) ⟨rfl, fun j _ hj => by omega⟩
  obtain ⟨rfl, hI⟩ := hI
  by_cases hlt : k < l.length
  · rw [h1 k hlt]
    cases hp : p l[k] with
    | true => exact .inr ⟨_, rfl, .inl ⟨k, rfl, hlt, hp, hI⟩⟩
    | false =>
      refine .inl ⟨_, rfl, hlt, rfl, fun j hj hjk => ?_⟩
      by_cases he : j = k
      · subst he; exact hp
      · exact hI j hj (by omega)
  · obtain rfl : k = l.length := by omega
    refine .inr ⟨_, h2, .inr ⟨rfl, fun x hx => ?_⟩⟩
    obtain ⟨j, hj, rfl⟩ := List.getElem_of_mem hx
    exact hI j hj hj
theorem contB_eq (l : List (List UInt8)) (f : List UInt8 → Option Bool) (p : List UInt8 → Bool) (hl : l.length < 4294967296) (hf : ∀ x ∈ l, f x = some (p x)) : slices_ContainsFunc_byte_byte l f = some (l.any p) := by
  unfold slices_ContainsFunc_byte_byte slices_IndexFunc_byte_byte
  obtain ⟨b, hb, hq⟩ := loop_first l p (step := fun s : Int => slices_IndexFunc_byte_byte_L1 l f s) (fun k => Sum.inr (k : Int)) (Sum.inl ()) hl (fun k hk => by
      unfold slices_IndexFunc_byte_byte_L1
      rw [decide_eq_true (show (k : Int) < (l.length : Int) by omega), idx_nat, List.getElem?_eq_getElem hk, wI_succ (by omega)]
      simp only [cond_true, Option.bind_some, hf l[k] (List.getElem_mem _)]
      cases p l[k] <;> rfl) (by
      unfold slices_IndexFunc_byte_byte_L1
      rw [decide_eq_false (show ¬(l.length : Int) < (l.length : Int) by omega)]; rfl)
  rw [hb]
  rcases hq with ⟨k, rfl, hk, hp, _⟩ | ⟨rfl, hn⟩
  · rw [List.any_eq_true.2 ⟨l[k], List.getElem_mem _, hp⟩]; simp
  · rw [List.any_eq_false.2 (fun x hx => by rw [hn x hx]; simp)]; rfl
theorem indexW_eq (l : List Write) (f : Write → Option Bool) (p : Write → Bool) (hl : l.length < 4294967296) (hf : ∀ x ∈ l, f x = some (p x)) :
    ∃ i, slices_IndexFunc_api_Write_api_Write l f = some i ∧ ((∃ k : Nat, i = (k : Int) ∧ ∃ hk : k < l.length, p l[k] = true ∧ ∀ j (hj : j < l.length), j < k → p l[j] = false) ∨ (i = -1 ∧ ∀ x ∈ l, p x = false)) := by
  unfold slices_IndexFunc_api_Write_api_Write
  obtain ⟨b, hb, hq⟩ := loop_first l p (step := fun s : Int => slices_IndexFunc_api_Write_api_Write_L1 l f s) (fun k => Sum.inr (k : Int)) (Sum.inl ()) hl (fun k hk => by
      unfold slices_IndexFunc_api_Write_api_Write_L1
      rw [decide_eq_true (show (k : Int) < (l.length : Int) by omega), idx_nat, List.getElem?_eq_getElem hk, wI_succ (by omega)]
      simp only [cond_true, Option.bind_some, hf l[k] (List.getElem_mem _)]
      cases p l[k] <;> rfl) (by
      unfold slices_IndexFunc_api_Write_api_Write_L1
      rw [decide_eq_false (show ¬(l.length : Int) < (l.length : Int) by omega)]; rfl)
  rw [hb]
  rcases hq with ⟨k, rfl, hk, hp, hm⟩ | ⟨rfl, hn⟩
  · exact ⟨_, rfl, .inl ⟨k, rfl, hk, hp, hm⟩⟩
  · exact ⟨_, rfl, .inr ⟨rfl, hn⟩⟩
theorem contW_eq (l : List Write) (f : Write → Option Bool) (p : Write → Bool) (hl : l.length < 4294967296) (hf : ∀ x ∈ l, f x = some (p x)) : slices_ContainsFunc_api_Write_api_Write l f = some (l.any p) := by
  unfold slices_ContainsFunc_api_Write_api_Write
  obtain ⟨i, hi, hq⟩ := indexW_eq l f p hl hf
  rw [hi]
  rcases hq with ⟨k, rfl, hk, hp, _⟩ | ⟨rfl, hn⟩
  · rw [List.any_eq_true.2 ⟨l[k], List.getElem_mem _, hp⟩]; simp
  · rw [List.any_eq_false.2 (fun x hx => by rw [hn x hx]; simp)]; rfl

theorem any_orD {α : Type} (l : List α) (p q : α → Bool) : (l.any fun x => p x || q x) = (l.any p || l.any q) := by
  induction l with
  | nil => rfl
  | cons a l ih => simp only [List.any_cons, ih]; cases p a <;> cases q a <;> cases l.any p <;> rfl

theorem pcheck_eq (d : Disk) : disk_Check d = some (bif mayD d then 0 else 8) := by
  unfold disk_Check mayD
  by_cases h1 : 1 ≤ d.Blocks.length
  case neg =>
    rw [decide_eq_true (show ((d.Blocks.length : Nat) : Int) < 1 by omega), decide_eq_false h1]; rfl
  by_cases h2 : d.Blocks.length ≤ 256
  case neg =>
    rw [decide_eq_true (show ((d.Blocks.length : Nat) : Int) > 256 by omega), decide_eq_false h2]; simp [gO]
  by_cases h3 : d.Wait.length ≤ 1024
  case neg =>
    rw [decide_eq_true (show ((d.Wait.length : Nat) : Int) > 1024 by omega), decide_eq_false h3]; simp [gO]
  rw [decide_eq_false (show ¬((d.Blocks.length : Nat) : Int) < 1 by omega), decide_eq_false (show ¬((d.Blocks.length : Nat) : Int) > 256 by omega), decide_eq_false (show ¬((d.Wait.length : Nat) : Int) > 1024 by omega)]
  rw [decide_eq_true h1, decide_eq_true h2, decide_eq_true h3]
  simp only [Bool.or_self, Bool.not_false, gO, cond_true, Bool.false_or, Bool.true_and]
  rw [contB_eq d.Blocks _ (fun b => !szB b) (by omega) (fun x _ => podd_eq x)]
  simp only [Option.bind_some]
  rw [any_orD]
  cases hs : (d.Blocks.any fun b => !szB b) with
  | true => simp
  | false =>
  simp only [cond_false, Bool.false_or]
  rw [contW_eq d.Wait _ (badW d.Blocks.length) (by omega) (fun w _ => by
    unfold disk_Check_1 badW
    rw [podd_eq]
    cases decide (w.At < 0) <;> cases decide (w.At ≥ ((d.Blocks.length : Nat) : Int)) <;> simp [gO])]
  simp only [Option.bind_some]
  cases hw : d.Wait.any (badW d.Blocks.length) with
  | true => simp
  | false =>
  simp only [cond_false, Bool.not_false, Bool.and_true]
  rw [contB_eq d.Blocks _ (fun b => decide (0 < b.length)) (by omega) (fun x _ => by
    unfold disk_Check_2; congr 1; exact decide_eq_decide.2 (by omega))]
  rw [show decide (((d.Wait.length : Nat) : Int) > 0) = decide (0 < d.Wait.length) from decide_eq_decide.2 (by omega)]
  cases hd : d.Dead with
  | false =>
    have hf : (d.Blocks.any fun b => (false && decide (0 < b.length))) = false := List.any_eq_false.2 (fun _ _ => by simp)
    simp only [Bool.false_and, cond_false, Option.bind_some, Bool.not_false, Bool.true_and] at hf ⊢
    rw [hf]; rfl
  | true =>
    cases hn : decide (0 < d.Wait.length) with
    | true => simp
    | false =>
      simp only [Bool.true_and, Bool.not_false, cond_true, Option.bind_some, Bool.false_or]
      cases d.Blocks.any (fun b => decide (0 < b.length)) <;> rfl

theorem rmay_eq (d : Disk) : ref04_May d = some (mayD d) := by
  unfold ref04_May mayD
  by_cases h1 : 1 ≤ d.Blocks.length
  case neg =>
    rw [decide_eq_true (show ((d.Blocks.length : Nat) : Int) < 1 by omega), decide_eq_false h1]; rfl
  by_cases h2 : d.Blocks.length ≤ 256
  case neg =>
    rw [decide_eq_true (show ((d.Blocks.length : Nat) : Int) > 256 by omega), decide_eq_false h2]; simp
  by_cases h3 : d.Wait.length ≤ 1024
  case neg =>
    rw [decide_eq_true (show ((d.Wait.length : Nat) : Int) > 1024 by omega), decide_eq_false h3]; simp
  rw [decide_eq_false (show ¬((d.Blocks.length : Nat) : Int) < 1 by omega), decide_eq_false (show ¬((d.Blocks.length : Nat) : Int) > 256 by omega), decide_eq_false (show ¬((d.Wait.length : Nat) : Int) > 1024 by omega)]
  rw [decide_eq_true h1, decide_eq_true h2, decide_eq_true h3]
  rw [show decide (((d.Wait.length : Nat) : Int) > 0) = decide (0 < d.Wait.length) from decide_eq_decide.2 (by omega)]
  simp only [Bool.or_self, Bool.false_or, Bool.true_and]
  cases hdw : (d.Dead && decide (0 < d.Wait.length)) with
  | true => rfl
  | false =>
  simp only [cond_false, Bool.not_false, Bool.true_and]
  rw [loop_anyD (step := fun s : Int => ref04_May_L1 d s) d.Blocks (fun b => !szB b || (d.Dead && decide (0 < b.length))) (Sum.inr ()) (Sum.inl ()) (by omega) (fun k hk => by
    unfold ref04_May_L1
    rw [decide_eq_true (show (k : Int) < (d.Blocks.length : Int) by omega), idx_nat, List.getElem?_eq_getElem hk, wI_succ (by omega)]
    simp only [cond_true, Option.bind_some, rsized_eq]
    cases szB d.Blocks[k] <;> cases d.Dead <;> simp only [gO, Bool.not_true, Bool.not_false, Bool.and_true, Bool.and_false, cond_true, cond_false, Option.bind_some, Bool.true_or, Bool.false_or, Bool.true_and, Bool.false_and]
    rw [show decide (((d.Blocks[k].length : Nat) : Int) > 0) = decide (0 < d.Blocks[k].length) from decide_eq_decide.2 (by omega)]
    cases decide (0 < d.Blocks[k].length) <;> rfl) (by
    unfold ref04_May_L1
    rw [decide_eq_false (by omega)]; rfl)]
  simp only [Option.bind_some]
  cases hb : (d.Blocks.any fun b => !szB b || (d.Dead && decide (0 < b.length))) with
  | true => rfl
  | false =>
  simp only [cond_false, Sum.elim_inl, Bool.not_false, Bool.true_and]
  rw [loop_anyD (step := fun s : Int => ref04_May_L2 d s) d.Wait (badW d.Blocks.length) (Sum.inr ()) (Sum.inl ()) (by omega) (fun k hk => by
    unfold ref04_May_L2 badW
    rw [decide_eq_true (show (k : Int) < (d.Wait.length : Int) by omega), idx_nat, List.getElem?_eq_getElem hk, wI_succ (by omega)]
    simp only [cond_true, Option.bind_some, rsized_eq]
    cases h1 : decide (d.Wait[k].At < 0) with
    | true => simp [gO]
    | false =>
      simp only [gO, Bool.not_false, cond_true, Option.bind_some, Bool.false_or]
      cases h2 : decide (d.Wait[k].At ≥ ((d.Blocks.length : Nat) : Int)) with
      | true => simp
      | false => simp only [Bool.not_false, cond_true, Option.bind_some, Bool.false_or, rsized_eq]; cases szB d.Wait[k].Data <;> rfl) (by
    unfold ref04_May_L2
    rw [decide_eq_false (by omega)]; rfl)]
  simp only [Option.bind_some]
  cases d.Wait.any (badW d.Blocks.length) <;> rfl
end Go.Proofs.Ytgkhjpfnmbdchaa
