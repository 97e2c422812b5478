/- Plain laws, in one text. -/
import Derived.Test.YtgkhjpfnmbdchaaGac1
namespace Go.Proofs.Ytgkhjpfnmbdchaa
open Go GL
/- Plain law: devices: which may be, copies, blocks. -/

theorem fuel_ltD {n : Nat} (h : n < 4294967296) : n < FUEL := by unfold FUEL; omega
theorem loop_anyD {α B : Type} (l : List α) (p : α → Bool) {step : Int → Option (Ctl Int B)} (yes no : B) (hl : l.length < 4294967296)
    (h1 : ∀ k (hk : k < l.length), step (k : Int) = some (bif p l[k] then .brk yes else .next ((k + 1 : Nat) : Int))) (h2 : step (l.length : Int) = some (.brk no)) :
    loopM step FUEL (0 : Int) = some (bif l.any p then yes else no) := by
  have := loop_any (step := step) (fun k => (k : Int)) l.length (fun k => (l[k]?.map p).getD false) yes no (fuel_ltD hl) (fun k hk => by
    rw [h1 k hk]; simp [hk]) h2
  rw [any_range l p _ (fun k hk => by simp [hk])] at this
  simpa using this
/-- The same for two lists of one length. -/
theorem loop_any2 {α β B : Type} (l : List α) (m : List β) (p : α → β → Bool) {step : Int → Option (Ctl Int B)} (yes no : B) (hl : l.length < 4294967296) (hm : l.length = m.length)
    (h1 : ∀ k (hk : k < l.length) (hk' : k < m.length), step (k : Int) = some (bif p l[k] m[k] then .brk yes else .next ((k + 1 : Nat) : Int))) (h2 : step (l.length : Int) = some (.brk no)) :
    loopM step FUEL (0 : Int) = some (bif (l.zip m).any (fun x => p x.1 x.2) then yes else no) := by
  have hz : (l.zip m).length = l.length := by simp; omega
  have := loop_anyD (l.zip m) (fun x => p x.1 x.2) (step := step) yes no (by omega) (fun k hk => by
    rw [h1 k (by omega) (by omega)]; simp) (by rw [hz]; exact h2)
  exact this
theorem zip_any_ne {α γ : Type} [DecidableEq γ] (f : α → γ) : ∀ (l m : List α), l.length = m.length → ((l.zip m).any (fun x => !decide (f x.1 = f x.2))) = !decide (l.map f = m.map f)
  | [], [], _ => by simp
  | [], _ :: _, h => by simp at h
  | _ :: _, [], h => by simp at h
  | a :: l, b :: m, h => by
    simp only [List.zip_cons_cons, List.any_cons, List.map_cons, zip_any_ne f l m (by simpa using h)]
    rw [Bool.eq_iff_iff]
    simp only [Bool.or_eq_true, Bool.not_eq_true', decide_eq_false_iff_not, List.cons.injEq]
    by_cases h1 : f a = f b <;> by_cases h2 : l.map f = m.map f <;> simp [h1, h2]

def fullB (b : List UInt8) : List UInt8 := if b.length = 0 then List.replicate 128 0 else b
def szB (b : List UInt8) : Bool := b.length == 0 || b.length == 128
theorem fullB_len {b : List UInt8} (h : szB b = true) : (fullB b).length = 128 := by
  unfold szB at h; unfold fullB
  simp at h
  split
  · simp
  · rcases h with h | h
    · subst h; simp at *
    · exact h
theorem fullB_ne (b : List UInt8) : (fullB b).length ≠ 0 := by
  unfold fullB
  split
  · rw [List.length_replicate]; omega
  · assumption
theorem fullB_full (b : List UInt8) : fullB (fullB b) = fullB b := by
  rw [show fullB (fullB b) = if (fullB b).length = 0 then List.replicate 128 0 else fullB b from rfl, if_neg (fullB_ne b)]
theorem szB_full {b : List UInt8} (h : szB b = true) : szB (fullB b) = true := by
  have := fullB_len h
  unfold szB; rw [this]; rfl

theorem rfull_eq {b : List UInt8} (h : b.length < 4294967296) : ref04_Full b = some (fullB b) := by
  unfold ref04_Full fullB
  by_cases h0 : b.length = 0
  · rw [if_pos h0, show (((b.length : Nat) : Int) == 0) = true by simp [h0]]
    rw [show (128 : Int) = ((128 : Nat) : Int) from rfl, makeL_some _ _ (by omega)]; rfl
  · rw [if_neg h0, show (((b.length : Nat) : Int) == 0) = false by simp; intro hb; apply h0; simp [hb]]
    rw [app_some _ _ (by simpa using h)]; rfl
theorem podd_eq (b : List UInt8) : disk_odd b = some (!szB b) := by
  unfold disk_odd szB
  congr 1
  rw [Bool.eq_iff_iff]; simp only [Bool.and_eq_true, bne_iff_ne, ne_eq, Bool.not_eq_true', Bool.or_eq_false_iff, beq_eq_false_iff_ne]; omega
theorem rsized_eq (b : List UInt8) : ref04_Sized b = some (szB b) := by
  unfold ref04_Sized szB
  congr 1
  rw [Bool.eq_iff_iff]; simp only [Bool.or_eq_true, beq_iff_eq]; omega

/-- Devices of sizes that are gone through. -/
structure SmallD (d : Disk) : Prop where
  nb : d.Blocks.length ≤ 100000
  nw : d.Wait.length ≤ 100000
  lb : ∀ b ∈ d.Blocks, b.length ≤ 1000000
  lw : ∀ w ∈ d.Wait, w.Data.length ≤ 1000000

theorem sum_loop {α : Type} (l : List α) (len : α → Nat) (m : Nat) (hm : m ≤ 2000) {step : Int × Int → Option (Ctl (Int × Int) Int)} (n0 : Int) (h0 : 0 ≤ n0) (h0' : n0 ≤ 1000000000)
    (h1 : ∀ k (hk : k < l.length) (n : Int), k < m → step (n, (k : Int)) = some (.next (wI (n + wI (8 + min ((len l[k] : Nat) : Int) 100000)), wI ((k : Int) + 1))))
    (h2 : ∀ (n : Int) (k : Nat), ¬(k < l.length ∧ k < m) → step (n, (k : Int)) = some (.brk n)) :
    ∃ b, loopM step FUEL (n0, (0 : Int)) = some b ∧ n0 ≤ b ∧ b ≤ n0 + 200000 * m ∧ ∀ j (hj : j < l.length), j < m → min ((len l[j] : Nat) : Int) 100000 ≤ b := by
  refine loop_inv (step := step) (min l.length m)
    (fun k s => s.2 = (k : Int) ∧ n0 ≤ s.1 ∧ s.1 ≤ n0 + 200000 * (k : Int) ∧ ∀ j (hj : j < l.length), j < k → min ((len l[j] : Nat) : Int) 100000 ≤ s.1) _ (fun k s hk hI => ?_) FUEL 0 (n0, 0) (Nat.zero_le _) (by unfold FUEL; omega) ⟨rfl, by simp, by simp, fun j _ hj => by omega⟩
  obtain ⟨s1, s2⟩ := s
  obtain ⟨e1, e2, e3, e4⟩ := hI
  simp only at e1 e2 e3 e4
  subst e1
  by_cases hlt : k < l.length ∧ k < m
  · refine .inl ⟨_, h1 k hlt.1 s1 hlt.2, by omega, ?_⟩
    rw [wI_id (x := 8 + min ((len l[k] : Nat) : Int) 100000) (by omega) (by omega), wI_id (by omega) (by omega), wI_succ (by omega)]
    refine ⟨rfl, by simp only; omega, by simp only; omega, fun j hj hjk => ?_⟩
    simp only
    by_cases hjk' : j = k
    · subst hjk'; omega
    · have := e4 j hj (by omega); omega
  · exact .inr ⟨s1, h2 s1 k hlt, e2, by omega, fun j hj hjm => e4 j hj (by omega)⟩

theorem dgreat_eq (d : Disk) : ∃ g, ref04_Great d = some g ∧ (g = false → SmallD d ∧ d.Blocks.length ≤ 300 ∧ d.Wait.length ≤ 1100) := by
  unfold ref04_Great
  obtain ⟨b5, hb, h1, h2, h3⟩ := sum_loop d.Blocks List.length 400 (by omega) (step := fun s : Int × Int => ref04_Great_L1 d s.1 s.2) 0 (by omega) (by omega) (fun k hk n hm => by
      show ref04_Great_L1 d n (k : Int) = _
      unfold ref04_Great_L1
      rw [show (decide ((k : Int) < (d.Blocks.length : Int)) && decide ((k : Int) < (400 : Int))) = true by simp; omega, idx_nat, List.getElem?_eq_getElem hk]; rfl) (fun n k hk => by
      show ref04_Great_L1 d n (k : Int) = _
      unfold ref04_Great_L1
      rw [show (decide ((k : Int) < (d.Blocks.length : Int)) && decide ((k : Int) < (400 : Int))) = false by simp; omega]; rfl)
  rw [hb]
  simp only [Option.bind_some]
  obtain ⟨b6, hc, k1, k2, k3⟩ := sum_loop d.Wait (fun w => w.Data.length) 1200 (by omega) (step := fun s : Int × Int => ref04_Great_L2 d s.1 s.2) b5 (by omega) (by omega) (fun k hk n hm => by
      show ref04_Great_L2 d n (k : Int) = _
      unfold ref04_Great_L2
      rw [show (decide ((k : Int) < (d.Wait.length : Int)) && decide ((k : Int) < (1200 : Int))) = true by simp; omega, idx_nat, List.getElem?_eq_getElem hk]; rfl) (fun n k hk => by
      show ref04_Great_L2 d n (k : Int) = _
      unfold ref04_Great_L2
      rw [show (decide ((k : Int) < (d.Wait.length : Int)) && decide ((k : Int) < (1200 : Int))) = false by simp; omega]; rfl)
  rw [hc]
  simp only [Option.bind_some]
  refine ⟨_, rfl, fun hg => ?_⟩
  simp only [Bool.or_eq_false_iff, decide_eq_false_iff_not, Int.not_lt] at hg
  obtain ⟨⟨g1, g2⟩, g3⟩ := hg
  refine ⟨⟨by omega, by omega, fun b hb => ?_, fun w hw => ?_⟩, by omega, by omega⟩
  · obtain ⟨j, hj, rfl⟩ := List.getElem_of_mem hb
    have := h3 j hj (by omega); omega
  · obtain ⟨j, hj, rfl⟩ := List.getElem_of_mem hw
    have := k3 j hj (by omega); omega

theorem rtwin_eq {d : Disk} (h : SmallD d) : ref04_Twin d = some d := by
  have hnb := h.nb
  have hnw := h.nw
  unfold ref04_Twin
  have t1 := loop_run (step := fun s : Int × (List (List UInt8)) => ref04_Twin_L1 d s.1 s.2) (fun k => ((k : Int), d.Blocks.take k)) d.Blocks.length d.Blocks (fuel_ltD (by omega)) (fun k hk => by
    obtain ⟨x, hx⟩ : ∃ x, d.Blocks[k]? = some x := ⟨_, List.getElem?_eq_getElem hk⟩
    have hxl := h.lb x (List.mem_of_getElem? hx)
    unfold ref04_Twin_L1
    simp only [decide_eq_true (show (k : Int) < (d.Blocks.length : Int) by omega), cond_true, idx_nat, hx, Option.bind_some, wI_succ (show k < 9223372036854775807 by omega)]
    rw [app_some _ _ (by simp; omega)]
    simp only [Option.bind_some, List.nil_append]
    rw [app_some _ _ (by simp; omega), take_succ_get _ _ _ hx]
    rfl) (by
    unfold ref04_Twin_L1
    rw [decide_eq_false (by omega), List.take_length]; rfl)
  have h0 : ((0 : Int), ([] : List (List UInt8))) = (fun k : Nat => ((k : Int), d.Blocks.take k)) 0 := by simp
  rw [h0, t1]
  simp only [Option.bind_some]
  have t2 := loop_run (step := fun s : Int × (List Write) => ref04_Twin_L2 d s.1 s.2) (fun k => ((k : Int), d.Wait.take k)) d.Wait.length d.Wait (fuel_ltD (by omega)) (fun k hk => by
    obtain ⟨x, hx⟩ : ∃ x, d.Wait[k]? = some x := ⟨_, List.getElem?_eq_getElem hk⟩
    have hxl := h.lw x (List.mem_of_getElem? hx)
    unfold ref04_Twin_L2
    simp only [decide_eq_true (show (k : Int) < (d.Wait.length : Int) by omega), cond_true, idx_nat, hx, Option.bind_some, wI_succ (show k < 9223372036854775807 by omega)]
    rw [app_some _ _ (by simp; omega)]
    simp only [Option.bind_some, List.nil_append]
    rw [app_some _ _ (by simp; omega), take_succ_get _ _ _ hx]
    rfl) (by
    unfold ref04_Twin_L2
    rw [decide_eq_false (by omega), List.take_length]; rfl)
  have h1 : ((0 : Int), ([] : List Write)) = (fun k : Nat => ((k : Int), d.Wait.take k)) 0 := by simp
  rw [h1, t2]; rfl
theorem ptwin_eq {d : Disk} (h : SmallD d) : disk_Twin d = some d := by
  have hnb := h.nb
  have hnw := h.nw
  unfold disk_Twin
  have t1 := loop_run (step := fun s : Int × (List (List UInt8)) => disk_Twin_L1 d s.1 s.2) (fun k => ((k : Int), d.Blocks.take k)) d.Blocks.length d.Blocks (fuel_ltD (by omega)) (fun k hk => by
    obtain ⟨x, hx⟩ : ∃ x, d.Blocks[k]? = some x := ⟨_, List.getElem?_eq_getElem hk⟩
    have hxl := h.lb x (List.mem_of_getElem? hx)
    unfold disk_Twin_L1 slices_Clone_byte_byte
    simp only [decide_eq_true (show (k : Int) < (d.Blocks.length : Int) by omega), cond_true, idx_nat, hx, Option.bind_some, wI_succ (show k < 9223372036854775807 by omega)]
    rw [app_some _ _ (by simp; omega)]
    simp only [Option.bind_some, List.nil_append]
    rw [app_some _ _ (by simp; omega), take_succ_get _ _ _ hx]
    rfl) (by
    unfold disk_Twin_L1
    rw [decide_eq_false (by omega), List.take_length]; rfl)
  have h0 : ((0 : Int), ([] : List (List UInt8))) = (fun k : Nat => ((k : Int), d.Blocks.take k)) 0 := by simp
  rw [h0, t1]
  simp only [Option.bind_some]
  have t2 := loop_run (step := fun s : Int × (List Write) => disk_Twin_L2 d s.1 s.2) (fun k => ((k : Int), d.Wait.take k)) d.Wait.length d.Wait (fuel_ltD (by omega)) (fun k hk => by
    obtain ⟨x, hx⟩ : ∃ x, d.Wait[k]? = some x := ⟨_, List.getElem?_eq_getElem hk⟩
    have hxl := h.lw x (List.mem_of_getElem? hx)
    unfold disk_Twin_L2 slices_Clone_byte_byte
    simp only [decide_eq_true (show (k : Int) < (d.Wait.length : Int) by omega), cond_true, idx_nat, hx, Option.bind_some, wI_succ (show k < 9223372036854775807 by omega)]
    rw [app_some _ _ (by simp; omega)]
    simp only [Option.bind_some, List.nil_append]
    rw [app_some _ _ (by simp; omega), take_succ_get _ _ _ hx]
    rfl) (by
    unfold disk_Twin_L2
    rw [decide_eq_false (by omega), List.take_length]; rfl)
  have h1 : ((0 : Int), ([] : List Write)) = (fun k : Nat => ((k : Int), d.Wait.take k)) 0 := by simp
  rw [h1, t2]; rfl

/-! ### which devices may be -/
def badW (n : Nat) (w : Write) : Bool := decide (w.At < 0) || (decide (w.At ≥ (n : Int)) || !szB w.Data)
def mayD (d : Disk) : Bool :=
  decide (1 ≤ d.Blocks.length) && (decide (d.Blocks.length ≤ 256) && (decide (d.Wait.length ≤ 1024) && (!(d.Dead && decide (0 < d.Wait.length)) && (!(d.Blocks.any fun b => !szB b || (d.Dead && decide (0 < b.length))) && !(d.Wait.any (badW d.Blocks.length))))))
structure MayD (d : Disk) : Prop where
  n1 : 1 ≤ d.Blocks.length
  n2 : d.Blocks.length ≤ 256
  nw : d.Wait.length ≤ 1024
  dw : d.Dead = true → d.Wait = []
  db : d.Dead = true → ∀ b ∈ d.Blocks, b = []
  sz : ∀ b ∈ d.Blocks, szB b = true
  wt : ∀ w ∈ d.Wait, 0 ≤ w.At ∧ w.At < (d.Blocks.length : Int) ∧ szB w.Data = true
theorem mayD_iff (d : Disk) : mayD d = true ↔ MayD d := by
  unfold mayD
  simp only [Bool.and_eq_true, decide_eq_true_eq, Bool.not_eq_true', List.any_eq_false, Bool.or_eq_true, not_or, Bool.and_eq_false_iff, decide_eq_false_iff_not, badW, not_and]
  constructor
  · rintro ⟨h1, h2, h3, h4, h5, h6⟩
    refine ⟨h1, h2, h3, fun hd => ?_, fun hd b hb => ?_, fun b hb => ?_, fun w hw => ?_⟩
    · rcases h4 with h4 | h4
      · rw [hd] at h4; cases h4
      · exact List.eq_nil_of_length_eq_zero (by omega)
    · have := (h5 b hb).2 hd
      exact List.eq_nil_of_length_eq_zero (by omega)
    · have := (h5 b hb).1
      simpa using this
    · obtain ⟨k1, k2, k3⟩ := h6 w hw
      exact ⟨by omega, by omega, by simpa using k3⟩
  · rintro ⟨h1, h2, h3, h4, h5, h6, h7⟩
    refine ⟨h1, h2, h3, ?_, fun b hb => ⟨by rw [h6 b hb]; simp, fun hd => by rw [h5 hd b hb]; simp⟩, fun w hw => ?_⟩
    · cases hd : d.Dead with
      | false => exact .inl rfl
      | true => right; rw [h4 hd]; simp
    · obtain ⟨k1, k2, k3⟩ := h7 w hw
      exact ⟨by omega, by omega, by rw [k3]; simp⟩
theorem MayD.small {d : Disk} (h : MayD d) : SmallD d :=
  ⟨by have := h.n2; omega, by have := h.nw; omega, fun b hb => by have := h.sz b hb; unfold szB at this; simp at this; rcases this with e | e <;> simp_all,
    fun w hw => by have := (h.wt w hw).2.2; unfold szB at this; simp at this; rcases this with e | e <;> simp_all⟩

/-- A loop that looks for the first element with p. -/
theorem loop_first {α B : Type} (l : List α) (p : α → Bool) {step : Int → Option (Ctl Int B)} (yes : Nat → B) (no : B) (hl : l.length < 4294967296)
    (h1 : ∀ k (hk : k < l.length), step (k : Int) = some (bif p l[k] then .brk (yes k) else .next ((k + 1 : Nat) : Int))) (h2 : step (l.length : Int) = some (.brk no)) :
    ∃ b, loopM step FUEL (0 : Int) = some b ∧ ((∃ k, b = yes k ∧ ∃ hk : k < l.length, p l[k] = true ∧ ∀ j (hj : j < l.length), j < k → p l[j] = false) ∨ (b = no ∧ ∀ x ∈ l, p x = false)) := by
  refine loop_inv (step := step) l.length (fun k s => s = (k : Int) ∧ ∀ j (hj : j < l.length), j < k → p l[j] = false) _ (fun k s hk hI => ?_) FUEL 0 0 (Nat.zero_le _) (by have := fuel_ltD hl; omega) ⟨rfl, fun j _ hj => by omega⟩
  obtain ⟨rfl, hI⟩ := hI
  by_cases hlt : k < l.length
  · rw [h1 k hlt]
    cases hp : p l[k] with
    | true => exact .inr ⟨_, rfl, .inl ⟨k, rfl, hlt, hp, hI⟩⟩
    | false =>
      refine .inl ⟨_, rfl, hlt, rfl, fun j hj hjk => ?_⟩
      by_cases he : j = k
      · subst he; exact hp
      · exact hI j hj (by omega)
  · obtain rfl : k = l.length := by omega
    refine .inr ⟨_, h2, .inr ⟨rfl, fun x hx => ?_⟩⟩
    obtain ⟨j, hj, rfl⟩ := List.getElem_of_mem hx
    exact hI j hj hj
theorem contB_eq (l : List (List UInt8)) (f : List UInt8 → Option Bool) (p : List UInt8 → Bool) (hl : l.length < 4294967296) (hf : ∀ x ∈ l, f x = some (p x)) : slices_ContainsFunc_byte_byte l f = some (l.any p) := by
  unfold slices_ContainsFunc_byte_byte slices_IndexFunc_byte_byte
  obtain ⟨b, hb, hq⟩ := loop_first l p (step := fun s : Int => slices_IndexFunc_byte_byte_L1 l f s) (fun k => Sum.inr (k : Int)) (Sum.inl ()) hl (fun k hk => by
      unfold slices_IndexFunc_byte_byte_L1
      rw [decide_eq_true (show (k : Int) < (l.length : Int) by omega), idx_nat, List.getElem?_eq_getElem hk, wI_succ (by omega)]
      simp only [cond_true, Option.bind_some, hf l[k] (List.getElem_mem _)]
      cases p l[k] <;> rfl) (by
      unfold slices_IndexFunc_byte_byte_L1
      rw [decide_eq_false (show ¬(l.length : Int) < (l.length : Int) by omega)]; rfl)
  rw [hb]
  rcases hq with ⟨k, rfl, hk, hp, _⟩ | ⟨rfl, hn⟩
  · rw [List.any_eq_true.2 ⟨l[k], List.getElem_mem _, hp⟩]; simp
  · rw [List.any_eq_false.2 (fun x hx => by rw [hn x hx]; simp)]; rfl
theorem indexW_eq (l : List Write) (f : Write → Option Bool) (p : Write → Bool) (hl : l.length < 4294967296) (hf : ∀ x ∈ l, f x = some (p x)) :
    ∃ i, slices_IndexFunc_api_Write_api_Write l f = some i ∧ ((∃ k : Nat, i = (k : Int) ∧ ∃ hk : k < l.length, p l[k] = true ∧ ∀ j (hj : j < l.length), j < k → p l[j] = false) ∨ (i = -1 ∧ ∀ x ∈ l, p x = false)) := by
  unfold slices_IndexFunc_api_Write_api_Write
  obtain ⟨b, hb, hq⟩ := loop_first l p (step := fun s : Int => slices_IndexFunc_api_Write_api_Write_L1 l f s) (fun k => Sum.inr (k : Int)) (Sum.inl ()) hl (fun k hk => by
      unfold slices_IndexFunc_api_Write_api_Write_L1
      rw [decide_eq_true (show (k : Int) < (l.length : Int) by omega), idx_nat, List.getElem?_eq_getElem hk, wI_succ (by omega)]
      simp only [cond_true, Option.bind_some, hf l[k] (List.getElem_mem _)]
      cases p l[k] <;> rfl) (by
      unfold slices_IndexFunc_api_Write_api_Write_L1
      rw [decide_eq_false (show ¬(l.length : Int) < (l.length : Int) by omega)]; rfl)
  rw [hb]
  rcases hq with ⟨k, rfl, hk, hp, hm⟩ | ⟨rfl, hn⟩
  · exact ⟨_, rfl, .inl ⟨k, rfl, hk, hp, hm⟩⟩
  · exact ⟨_, rfl, .inr ⟨rfl, hn⟩⟩
theorem contW_eq (l : List Write) (f : Write → Option Bool) (p : Write → Bool) (hl : l.length < 4294967296) (hf : ∀ x ∈ l, f x = some (p x)) : slices_ContainsFunc_api_Write_api_Write l f = some (l.any p) := by
  unfold slices_ContainsFunc_api_Write_api_Write
  obtain ⟨i, hi, hq⟩ := indexW_eq l f p hl hf
  rw [hi]
  rcases hq with ⟨k, rfl, hk, hp, _⟩ | ⟨rfl, hn⟩
  · rw [List.any_eq_true.2 ⟨l[k], List.getElem_mem _, hp⟩]; simp
  · rw [List.any_eq_false.2 (fun x hx => by rw [hn x hx]; simp)]; rfl

theorem any_orD {α : Type} (l : List α) (p q : α → Bool) : (l.any fun x => p x || q x) = (l.any p || l.any q) := by
  induction l with
  | nil => rfl
  | cons a l ih => simp only [List.any_cons, ih]; cases p a <;> cases q a <;> cases l.any p <;> rfl

theorem pcheck_eq (d : Disk) : disk_Check d = some (bif mayD d then 0 else 8) := by
  unfold disk_Check mayD
  by_cases h1 : 1 ≤ d.Blocks.length
  case neg =>
    rw [decide_eq_true (show ((d.Blocks.length : Nat) : Int) < 1 by omega), decide_eq_false h1]; rfl
  by_cases h2 : d.Blocks.length ≤ 256
  case neg =>
    rw [decide_eq_true (show ((d.Blocks.length : Nat) : Int) > 256 by omega), decide_eq_false h2]; simp [gO]
  by_cases h3 : d.Wait.length ≤ 1024
  case neg =>
    rw [decide_eq_true (show ((d.Wait.length : Nat) : Int) > 1024 by omega), decide_eq_false h3]; simp [gO]
  rw [decide_eq_false (show ¬((d.Blocks.length : Nat) : Int) < 1 by omega), decide_eq_false (show ¬((d.Blocks.length : Nat) : Int) > 256 by omega), decide_eq_false (show ¬((d.Wait.length : Nat) : Int) > 1024 by omega)]
  rw [decide_eq_true h1, decide_eq_true h2, decide_eq_true h3]
  simp only [Bool.or_self, Bool.not_false, gO, cond_true, Bool.false_or, Bool.true_and]
  rw [contB_eq d.Blocks _ (fun b => !szB b) (by omega) (fun x _ => podd_eq x)]
  simp only [Option.bind_some]
  rw [any_orD]
  cases hs : (d.Blocks.any fun b => !szB b) with
  | true => simp
  | false =>
  simp only [cond_false, Bool.false_or]
  rw [contW_eq d.Wait _ (badW d.Blocks.length) (by omega) (fun w _ => by
    unfold disk_Check_1 badW
    rw [podd_eq]
    cases decide (w.At < 0) <;> cases decide (w.At ≥ ((d.Blocks.length : Nat) : Int)) <;> simp [gO])]
  simp only [Option.bind_some]
  cases hw : d.Wait.any (badW d.Blocks.length) with
  | true => simp
  | false =>
  simp only [cond_false, Bool.not_false, Bool.and_true]
  rw [contB_eq d.Blocks _ (fun b => decide (0 < b.length)) (by omega) (fun x _ => by
    unfold disk_Check_2; congr 1; exact decide_eq_decide.2 (by omega))]
  rw [show decide (((d.Wait.length : Nat) : Int) > 0) = decide (0 < d.Wait.length) from decide_eq_decide.2 (by omega)]
  cases hd : d.Dead with
  | false =>
    have hf : (d.Blocks.any fun b => (false && decide (0 < b.length))) = false := List.any_eq_false.2 (fun _ _ => by simp)
    simp only [Bool.false_and, cond_false, Option.bind_some, Bool.not_false, Bool.true_and] at hf ⊢
    rw [hf]; rfl
  | true =>
    cases hn : decide (0 < d.Wait.length) with
    | true => simp
    | false =>
      simp only [Bool.true_and, Bool.not_false, cond_true, Option.bind_some, Bool.false_or]
      cases d.Blocks.any (fun b => decide (0 < b.length)) <;> rfl

theorem rmay_eq (d : Disk) : ref04_May d = some (mayD d) := by
  unfold ref04_May mayD
  by_cases h1 : 1 ≤ d.Blocks.length
  case neg =>
    rw [decide_eq_true (show ((d.Blocks.length : Nat) : Int) < 1 by omega), decide_eq_false h1]; rfl
  by_cases h2 : d.Blocks.length ≤ 256
  case neg =>
    rw [decide_eq_true (show ((d.Blocks.length : Nat) : Int) > 256 by omega), decide_eq_false h2]; simp
  by_cases h3 : d.Wait.length ≤ 1024
  case neg =>
    rw [decide_eq_true (show ((d.Wait.length : Nat) : Int) > 1024 by omega), decide_eq_false h3]; simp
  rw [decide_eq_false (show ¬((d.Blocks.length : Nat) : Int) < 1 by omega), decide_eq_false (show ¬((d.Blocks.length : Nat) : Int) > 256 by omega), decide_eq_false (show ¬((d.Wait.length : Nat) : Int) > 1024 by omega)]
  rw [decide_eq_true h1, decide_eq_true h2, decide_eq_true h3]
  rw [show decide (((d.Wait.length : Nat) : Int) > 0) = decide (0 < d.Wait.length) from decide_eq_decide.2 (by omega)]
  simp only [Bool.or_self, Bool.false_or, Bool.true_and]
  cases hdw : (d.Dead && decide (0 < d.Wait.length)) with
  | true => rfl
  | false =>
  simp only [cond_false, Bool.not_false, Bool.true_and]
  rw [loop_anyD (step := fun s : Int => ref04_May_L1 d s) d.Blocks (fun b => !szB b || (d.Dead && decide (0 < b.length))) (Sum.inr ()) (Sum.inl ()) (by omega) (fun k hk => by
    unfold ref04_May_L1
    rw [decide_eq_true (show (k : Int) < (d.Blocks.length : Int) by omega), idx_nat, List.getElem?_eq_getElem hk, wI_succ (by omega)]
    simp only [cond_true, Option.bind_some, rsized_eq]
    cases szB d.Blocks[k] <;> cases d.Dead <;> simp only [gO, Bool.not_true, Bool.not_false, Bool.and_true, Bool.and_false, cond_true, cond_false, Option.bind_some, Bool.true_or, Bool.false_or, Bool.true_and, Bool.false_and]
    rw [show decide (((d.Blocks[k].length : Nat) : Int) > 0) = decide (0 < d.Blocks[k].length) from decide_eq_decide.2 (by omega)]
    cases decide (0 < d.Blocks[k].length) <;> rfl) (by
    unfold ref04_May_L1
    rw [decide_eq_false (by omega)]; rfl)]
  simp only [Option.bind_some]
  cases hb : (d.Blocks.any fun b => !szB b || (d.Dead && decide (0 < b.length))) with
  | true => rfl
  | false =>
  simp only [cond_false, Sum.elim_inl, Bool.not_false, Bool.true_and]
  rw [loop_anyD (step := fun s : Int => ref04_May_L2 d s) d.Wait (badW d.Blocks.length) (Sum.inr ()) (Sum.inl ()) (by omega) (fun k hk => by
    unfold ref04_May_L2 badW
    rw [decide_eq_true (show (k : Int) < (d.Wait.length : Int) by omega), idx_nat, List.getElem?_eq_getElem hk, wI_succ (by omega)]
    simp only [cond_true, Option.bind_some, rsized_eq]
    cases h1 : decide (d.Wait[k].At < 0) with
    | true => simp [gO]
    | false =>
      simp only [gO, Bool.not_false, cond_true, Option.bind_some, Bool.false_or]
      cases h2 : decide (d.Wait[k].At ≥ ((d.Blocks.length : Nat) : Int)) with
      | true => simp
      | false => simp only [Bool.not_false, cond_true, Option.bind_some, Bool.false_or, rsized_eq]; cases szB d.Wait[k].Data <;> rfl) (by
    unfold ref04_May_L2
    rw [decide_eq_false (by omega)]; rfl)]
  simp only [Option.bind_some]
  cases d.Wait.any (badW d.Blocks.length) <;> rfl
/- Plain law: devices: comparing, reading, writing. -/

def viewW (w : Write) : Int × List UInt8 := (w.At, fullB w.Data)
def viewD (d : Disk) : List (List UInt8) × List (Int × List UInt8) × Bool := (d.Blocks.map fullB, d.Wait.map viewW, d.Dead)

theorem beqL (a b : List UInt8) : (a == b) = decide (a = b) := by rw [Bool.eq_iff_iff]; simp

theorem rsame_eq {a b : Disk} (ha : SmallD a) (hb : SmallD b) : ref04_Same a b = some (decide (viewD a = viewD b)) := by
  have a1 := ha.nb; have a2 := ha.nw; have b1 := hb.nb; have b2 := hb.nw
  unfold ref04_Same
  by_cases h1 : a.Blocks.length = b.Blocks.length
  case neg =>
    rw [show (((a.Blocks.length : Nat) : Int) != ((b.Blocks.length : Nat) : Int)) = true by simp; omega]
    rw [decide_eq_false (fun e => h1 (by have := congrArg (fun v => v.1.length) e; simpa [viewD] using this))]; rfl
  by_cases h2 : a.Wait.length = b.Wait.length
  case neg =>
    rw [show (((a.Wait.length : Nat) : Int) != ((b.Wait.length : Nat) : Int)) = true by simp; omega]
    rw [decide_eq_false (fun e => h2 (by have := congrArg (fun v => v.2.1.length) e; simpa [viewD] using this))]; simp
  by_cases h3 : a.Dead = b.Dead
  case neg =>
    rw [show (a.Dead != b.Dead) = true by simpa using h3]
    rw [decide_eq_false (fun e => h3 (congrArg (fun v => v.2.2) e))]; simp
  rw [show (((a.Blocks.length : Nat) : Int) != ((b.Blocks.length : Nat) : Int)) = false by simp; omega, show (((a.Wait.length : Nat) : Int) != ((b.Wait.length : Nat) : Int)) = false by simp; omega, show (a.Dead != b.Dead) = false by simpa using h3]
  simp only [Bool.or_self, cond_false]
  rw [loop_any2 a.Blocks b.Blocks (fun x y => !decide (fullB x = fullB y)) (step := fun s : Int => ref04_Same_L1 a b s) (Sum.inr ()) (Sum.inl ()) (by omega) h1 (fun k hk hk' => by
    unfold ref04_Same_L1
    have k1 := ha.lb _ (List.getElem_mem hk)
    have k2 := hb.lb _ (List.getElem_mem hk')
    rw [decide_eq_true (show (k : Int) < (a.Blocks.length : Int) by omega), idx_nat, idx_nat, List.getElem?_eq_getElem hk, List.getElem?_eq_getElem hk', wI_succ (by omega)]
    simp only [cond_true, Option.bind_some]
    rw [rfull_eq (by omega), rfull_eq (by omega)]
    simp only [Option.bind_some, beqL]
    cases decide (fullB a.Blocks[k] = fullB b.Blocks[k]) <;> rfl) (by
    unfold ref04_Same_L1
    rw [decide_eq_false (by omega)]; rfl), zip_any_ne fullB _ _ h1]
  simp only [Option.bind_some]
  by_cases e1 : a.Blocks.map fullB = b.Blocks.map fullB
  case neg =>
    rw [decide_eq_false e1, decide_eq_false (fun e => e1 (congrArg (fun v => v.1) e))]; rfl
  rw [decide_eq_true e1]
  simp only [Bool.not_true, cond_false, Sum.elim_inl]
  rw [loop_any2 a.Wait b.Wait (fun x y => !decide (viewW x = viewW y)) (step := fun s : Int => ref04_Same_L2 a b s) (Sum.inr ()) (Sum.inl ()) (by omega) h2 (fun k hk hk' => by
    unfold ref04_Same_L2 viewW
    have k1 := ha.lw _ (List.getElem_mem hk)
    have k2 := hb.lw _ (List.getElem_mem hk')
    rw [decide_eq_true (show (k : Int) < (a.Wait.length : Int) by omega), idx_nat, idx_nat, List.getElem?_eq_getElem hk, List.getElem?_eq_getElem hk', wI_succ (by omega)]
    simp only [cond_true, Option.bind_some]
    by_cases hat : a.Wait[k].At = b.Wait[k].At
    · rw [show (a.Wait[k].At != b.Wait[k].At) = false by simpa using hat]
      simp only [gO, Bool.not_false, cond_true, Option.bind_some, Bool.false_or]
      rw [rfull_eq (by omega), rfull_eq (by omega)]
      simp only [Option.bind_some, beqL]
      rw [show decide ((a.Wait[k].At, fullB a.Wait[k].Data) = (b.Wait[k].At, fullB b.Wait[k].Data)) = decide (fullB a.Wait[k].Data = fullB b.Wait[k].Data) from decide_eq_decide.2 (by simp [hat])]
      cases decide (fullB a.Wait[k].Data = fullB b.Wait[k].Data) <;> rfl
    · rw [show (a.Wait[k].At != b.Wait[k].At) = true by simpa using hat]
      rw [decide_eq_false (fun e => hat (congrArg Prod.fst e))]
      simp [gO]) (by
    unfold ref04_Same_L2
    rw [decide_eq_false (by omega)]; rfl), zip_any_ne viewW _ _ h2]
  simp only [Option.bind_some]
  by_cases e2 : a.Wait.map viewW = b.Wait.map viewW
  · rw [decide_eq_true e2, decide_eq_true (by simp [viewD, e1, e2, h3])]; rfl
  · rw [decide_eq_false e2, decide_eq_false (fun e => e2 (congrArg (fun v => v.2.1) e))]; rfl

/-! ### reading -/
def liesD (d : Disk) (at_ : Nat) : List UInt8 := fullB (d.Blocks.getD at_ [])
def overW (at_ : Int) (acc : List UInt8) (w : Write) : List UInt8 := if w.At = at_ then fullB w.Data else acc
def seenD (d : Disk) (at_ : Nat) : List UInt8 := d.Wait.foldl (overW (at_ : Int)) (liesD d at_)
def askD (d : Disk) (at_ : Int) : Int := bif mayD d then (bif decide (at_ < 0) || decide (at_ ≥ (d.Blocks.length : Int)) then 2 else 0) else 8

theorem over_none (at_ : Int) : ∀ (l : List Write) (acc : List UInt8), (∀ w ∈ l, w.At ≠ at_) → l.foldl (overW at_) acc = acc
  | [], _, _ => rfl
  | w :: l, acc, h => by
    rw [List.foldl_cons, show overW at_ acc w = acc from if_neg (h w (by simp))]
    exact over_none at_ l acc (fun x hx => h x (by simp [hx]))
theorem over_last (at_ : Int) (l : List Write) (acc : List UInt8) (i : Nat) (hi : i < l.length) (h1 : l[i].At = at_) (h2 : ∀ j (hj : j < l.length), i < j → l[j].At ≠ at_) : l.foldl (overW at_) acc = fullB l[i].Data := by
  have hsplit : l = l.take i ++ (l[i] :: l.drop (i + 1)) := by rw [List.getElem_cons_drop, List.take_append_drop]
  rw [show l.foldl (overW at_) acc = (l.take i ++ (l[i] :: l.drop (i + 1))).foldl (overW at_) acc by rw [← hsplit]]
  rw [List.foldl_append, List.foldl_cons, show overW at_ ((l.take i).foldl (overW at_) acc) l[i] = fullB l[i].Data from if_pos h1]
  refine over_none at_ _ _ (fun w hw => ?_)
  obtain ⟨j, hj, rfl⟩ := List.getElem_of_mem hw
  rw [List.getElem_drop]
  exact h2 _ _ (by omega)

theorem askD_ok {d : Disk} {at_ : Int} (h : askD d at_ = 0) : MayD d ∧ ∃ k : Nat, at_ = (k : Int) ∧ k < d.Blocks.length := by
  unfold askD at h
  cases hm : mayD d with
  | false => rw [hm] at h; simp at h
  | true =>
    rw [hm] at h
    simp only [cond_true] at h
    cases hc : (decide (at_ < 0) || decide (at_ ≥ (d.Blocks.length : Int))) with
    | true => rw [hc] at h; simp at h
    | false =>
      simp only [Bool.or_eq_false_iff, decide_eq_false_iff_not] at hc
      exact ⟨(mayD_iff d).1 hm, at_.toNat, by omega, by omega⟩

def lastD (d : Disk) (at_ : Int) : List UInt8 × Int := bif (askD d at_ != 0) then ([], askD d at_) else bif d.Dead then ([], 40) else (liesD d at_.toNat, 0)
def readD (d : Disk) (at_ : Int) : List UInt8 × Int := bif (askD d at_ != 0) then ([], askD d at_) else bif d.Dead then ([], 40) else (seenD d at_.toNat, 0)
/- Plain law: devices: writes, flushes, deaths. -/

def noD : Disk := Disk.mk [] [] false
def errD (d : Disk) (at_ : Int) (data : List UInt8) : Int := bif (askD d at_ != 0) then askD d at_ else bif !szB data then 3 else bif d.Dead then 40 else 0
theorem askD_cases (d : Disk) (at_ : Int) : askD d at_ = 8 ∨ askD d at_ = 2 ∨ askD d at_ = 0 := by
  unfold askD
  cases mayD d with
  | false => exact .inl rfl
  | true => cases (decide (at_ < 0) || decide (at_ ≥ (d.Blocks.length : Int))) <;> simp
theorem errD_ok {d : Disk} {at_ : Int} {data : List UInt8} (h : errD d at_ data = 0) : MayD d ∧ d.Dead = false ∧ szB data = true ∧ ∃ k : Nat, at_ = (k : Int) ∧ k < d.Blocks.length := by
  unfold errD at h
  rcases askD_cases d at_ with e | e | e
  · rw [e] at h; simp at h
  · rw [e] at h; simp at h
  · obtain ⟨h1, h2⟩ := askD_ok e
    rw [e] at h
    simp only [bne_self_eq_false, cond_false] at h
    cases hs : szB data with
    | false => rw [hs] at h; simp at h
    | true =>
      cases hd : d.Dead with
      | true => rw [hs, hd] at h; simp at h
      | false => exact ⟨h1, rfl, rfl, h2⟩
theorem szB_len {b : List UInt8} (h : szB b = true) : b.length < 4294967296 := by unfold szB at h; simp at h; rcases h with h | h <;> simp_all

def putD (d : Disk) (at_ : Int) (data : List UInt8) : Disk := { d with Wait := d.Wait ++ [⟨at_, fullB data⟩] }
def writeD (d : Disk) (at_ : Int) (data : List UInt8) : Disk × Int := bif (errD d at_ data != 0) then (noD, errD d at_ data) else bif decide (1024 ≤ d.Wait.length) then (noD, 9) else (putD d at_ data, 0)
def keepW (at_ : Int) (w : Write) : Bool := !(w.At == at_)
def pfuaD (d : Disk) (k : Nat) (data : List UInt8) : Disk := ⟨d.Blocks.set k (fullB data), d.Wait.filter (keepW (k : Int)), d.Dead⟩
def rfuaD (d : Disk) (k : Nat) (data : List UInt8) : Disk := ⟨d.Blocks.set k (fullB data), (d.Wait.filter (keepW (k : Int))).map fun w => ⟨w.At, fullB w.Data⟩, d.Dead⟩
theorem fua_view (d : Disk) (k : Nat) (data : List UInt8) : viewD (pfuaD d k data) = viewD (rfuaD d k data) := by
  unfold viewD pfuaD rfuaD
  simp only [List.map_map]
  congr 2
  refine List.map_congr_left (fun w _ => ?_)
  show viewW w = viewW ⟨w.At, fullB w.Data⟩
  unfold viewW
  rw [fullB_full]
/-! ### flushes -/
def setW (bs : List (List UInt8)) (w : Write) : List (List UInt8) := bs.set w.At.toNat w.Data
def pflushD (d : Disk) : Disk := ⟨d.Wait.foldl setW d.Blocks, [], d.Dead⟩
def rflushD (d : Disk) : Disk := ⟨(List.range d.Blocks.length).map (seenD d), [], d.Dead⟩
theorem setW_len : ∀ (l : List Write) (bs : List (List UInt8)), (l.foldl setW bs).length = bs.length
  | [], _ => rfl
  | w :: l, bs => by rw [List.foldl_cons, setW_len l]; simp [setW]
theorem setW_mem : ∀ (l : List Write) (bs : List (List UInt8)), ∀ b ∈ l.foldl setW bs, b ∈ bs ∨ ∃ w ∈ l, b = w.Data
  | [], _, b, h => .inl h
  | w :: l, bs, b, h => by
    rw [List.foldl_cons] at h
    rcases setW_mem l _ b h with h | ⟨x, hx, rfl⟩
    · rcases List.mem_or_eq_of_mem_set h with h | h
      · exact .inl h
      · exact .inr ⟨w, by simp, h⟩
    · exact .inr ⟨x, by simp [hx], rfl⟩
theorem setW_get (k : Nat) : ∀ (l : List Write) (bs : List (List UInt8)), k < bs.length → (∀ w ∈ l, 0 ≤ w.At) → fullB ((l.foldl setW bs).getD k []) = l.foldl (overW (k : Int)) (fullB (bs.getD k []))
  | [], _, _, _ => rfl
  | w :: l, bs, hk, h => by
    rw [List.foldl_cons, List.foldl_cons, setW_get k l _ (by simpa [setW] using hk) (fun x hx => h x (by simp [hx]))]
    congr 1
    have hw := h w (by simp)
    unfold setW overW
    by_cases he : w.At = (k : Int)
    · rw [if_pos he, he]; simp [hk]
    · rw [if_neg he, List.getD_eq_getElem?_getD, List.getElem?_set_ne (by omega), ← List.getD_eq_getElem?_getD]
theorem flush_view {d : Disk} (h : MayD d) : viewD (pflushD d) = viewD (rflushD d) := by
  unfold viewD pflushD rflushD
  have : (d.Wait.foldl setW d.Blocks).map fullB = ((List.range d.Blocks.length).map (seenD d)).map fullB := by
    apply List.ext_getElem
    · simp [setW_len]
    · intro k h1 h2
      simp only [List.length_map, setW_len] at h1
      have hk2 : k < (d.Wait.foldl setW d.Blocks).length := by rw [setW_len]; exact h1
      have := setW_get k d.Wait d.Blocks h1 (fun w hw => (h.wt w hw).1)
      rw [List.getD_eq_getElem?_getD, List.getElem?_eq_getElem (by rw [setW_len]; exact h1)] at this
      simp only [List.getElem_map, List.getElem_range]
      rw [show (some (d.Wait.foldl setW d.Blocks)[k]).getD [] = (d.Wait.foldl setW d.Blocks)[k] from rfl] at this
      rw [this]
      show seenD d k = fullB (seenD d k)
      have : ∀ (l : List Write) (acc : List UInt8), fullB acc = acc → fullB (l.foldl (overW (k : Int)) acc) = l.foldl (overW (k : Int)) acc := by
        intro l
        induction l with
        | nil => intro acc h; exact h
        | cons w l ih =>
          intro acc h
          rw [List.foldl_cons]
          refine ih _ ?_
          unfold overW
          split
          · exact fullB_full _
          · exact h
      exact (this d.Wait (liesD d k) (fullB_full _)).symm
  rw [this]
theorem pflush_may {d : Disk} (h : MayD d) (hd : d.Dead = false) : MayD (pflushD d) := by
  have hdd : (pflushD d).Dead = false := hd
  refine ⟨by unfold pflushD; simp only [setW_len]; exact h.n1, by unfold pflushD; simp only [setW_len]; exact h.n2, by unfold pflushD; simp, fun _ => rfl, fun h2 => (by rw [hdd] at h2; cases h2), fun b hb => ?_, fun w hw => by unfold pflushD at hw; simp at hw⟩
  rcases setW_mem d.Wait d.Blocks b hb with hb | ⟨w, hw, rfl⟩
  · exact h.sz b hb
  · exact (h.wt w hw).2.2
def killD (d : Disk) : Disk × Int := bif !mayD d then (noD, 8) else (⟨List.replicate d.Blocks.length [], [], true⟩, 0)
theorem makeL_len {α β : Type} (z : α) (l : List β) (h : l.length ≤ 256) : makeL z ((l.length : Nat) : Int) = some (List.replicate l.length z) := by
  have h2 : l.length < 4294967296 := by omega
  exact makeL_some z l.length h2
def newD (n : Int) : Disk × Int := bif decide (n < 1) || decide (n > 256) then (noD, 2) else (⟨List.replicate n.toNat [], [], false⟩, 0)
theorem makeL_ok {α : Type} (z : α) (n : Int) (h : (decide (n < 1) || decide (n > 256)) = false) : makeL z n = some (List.replicate n.toNat z) := by
  simp only [Bool.or_eq_false_iff, decide_eq_false_iff_not] at h
  unfold makeL
  have h1 : 0 ≤ n := by omega
  have h2 : n < 4294967296 := by omega
  simp only [h1, h2, and_self, if_true]
/- Plain law: devices: the laws that ask no reference. -/

theorem beqS (a b : List UInt8) : ((Str.mk a).s == (Str.mk b).s) = decide (a = b) := str_eq a b

theorem ask_may {d e : Disk} (h1 : mayD e = mayD d) (h2 : e.Blocks.length = d.Blocks.length) (at_ : Int) : askD e at_ = askD d at_ := by unfold askD; rw [h1, h2]
/-- Reads of a place at which two devices are alike. -/
theorem read_like {d e : Disk} (h1 : mayD e = mayD d) (h2 : e.Blocks.length = d.Blocks.length) (h3 : e.Dead = d.Dead) (at_ : Int) (h4 : ∀ k : Nat, at_ = (k : Int) → k < d.Blocks.length → seenD e k = seenD d k) : readD e at_ = readD d at_ := by
  unfold readD
  rw [ask_may h1 h2, h3]
  cases h : (askD d at_ != 0) with
  | true => rfl
  | false =>
    obtain ⟨hm, k, rfl, hk⟩ := askD_ok (by simpa using h)
    simp only [Int.toNat_natCast]
    rw [h4 k rfl hk]
theorem last_like {d e : Disk} (h1 : mayD e = mayD d) (h2 : e.Blocks.length = d.Blocks.length) (h3 : e.Dead = d.Dead) (at_ : Int) (h4 : ∀ k : Nat, at_ = (k : Int) → k < d.Blocks.length → liesD e k = liesD d k) : lastD e at_ = lastD d at_ := by
  unfold lastD
  rw [ask_may h1 h2, h3]
  cases h : (askD d at_ != 0) with
  | true => rfl
  | false =>
    obtain ⟨hm, k, rfl, hk⟩ := askD_ok (by simpa using h)
    simp only [Int.toNat_natCast]
    rw [h4 k rfl hk]

theorem put_may {d : Disk} {k : Nat} {data : List UInt8} (hm : MayD d) (hd : d.Dead = false) (hs : szB data = true) (hk : k < d.Blocks.length) (hf : ¬ 1024 ≤ d.Wait.length) : MayD (putD d (k : Int) data) := by
  refine ⟨hm.n1, hm.n2, by simp [putD]; omega, fun h => ?_, fun h => ?_, hm.sz, fun w hw => ?_⟩
  · have h : d.Dead = true := h
    rw [hd] at h; cases h
  · have h : d.Dead = true := h
    rw [hd] at h; cases h
  · simp only [putD, List.mem_append, List.mem_singleton] at hw
    rcases hw with hw | rfl
    · exact hm.wt w hw
    · exact ⟨by simp, by simpa [putD] using hk, szB_full hs⟩
theorem fua_may {d : Disk} {k : Nat} {data : List UInt8} (hm : MayD d) (hd : d.Dead = false) (hs : szB data = true) : MayD (pfuaD d k data) := by
  have hl : (pfuaD d k data).Blocks.length = d.Blocks.length := by simp [pfuaD]
  refine ⟨by rw [hl]; exact hm.n1, by rw [hl]; exact hm.n2, Nat.le_trans (List.length_filter_le _ _) hm.nw, fun h => ?_, fun h => ?_, fun b hb => ?_, fun w hw => ?_⟩
  · have h : d.Dead = true := h
    rw [hd] at h; cases h
  · have h : d.Dead = true := h
    rw [hd] at h; cases h
  · rcases List.mem_or_eq_of_mem_set hb with hb | rfl
    · exact hm.sz b hb
    · exact szB_full hs
  · rw [hl]; exact hm.wt w (List.mem_filter.1 hw).1
theorem may_t {d : Disk} (h : MayD d) : mayD d = true := (mayD_iff d).2 h

theorem put_seen (d : Disk) (k j : Nat) (data : List UInt8) (h : k ≠ j) : seenD (putD d (k : Int) data) j = seenD d j := by
  unfold seenD putD liesD
  rw [List.foldl_append]
  simp only [List.foldl_cons, List.foldl_nil]
  unfold overW
  rw [if_neg (by simp only; omega)]
theorem over_filter (k j : Nat) (h : k ≠ j) : ∀ (l : List Write) (acc : List UInt8), (l.filter (keepW (k : Int))).foldl (overW (j : Int)) acc = l.foldl (overW (j : Int)) acc
  | [], _ => rfl
  | w :: l, acc => by
    rw [List.filter_cons]
    cases hk : keepW (k : Int) w with
    | true => simp only [if_true, List.foldl_cons]; exact over_filter k j h l _
    | false =>
      have : w.At = (k : Int) := by unfold keepW at hk; simpa using hk
      simp only [Bool.false_eq_true, if_false, List.foldl_cons]
      rw [show overW (j : Int) acc w = acc from if_neg (by omega)]
      exact over_filter k j h l acc
theorem fua_lies (d : Disk) (k j : Nat) (data : List UInt8) (h : k ≠ j) : liesD (pfuaD d k data) j = liesD d j := by
  unfold liesD pfuaD
  rw [List.getD_eq_getElem?_getD, List.getElem?_set_ne h, ← List.getD_eq_getElem?_getD]
theorem fua_seen (d : Disk) (k j : Nat) (data : List UInt8) (h : k ≠ j) : seenD (pfuaD d k data) j = seenD d j := by
  unfold seenD
  rw [fua_lies d k j data h]
  exact over_filter k j h d.Wait _

theorem pflush_lies (d : Disk) (hm : MayD d) {k : Nat} (hk : k < d.Blocks.length) : liesD (pflushD d) k = seenD d k := by
  have := congrArg (fun v => v.1) (flush_view hm)
  simp only [viewD] at this
  have h2 := congrArg (fun l => l[k]?) this
  simp only [List.getElem?_map] at h2
  have hk2 : k < (pflushD d).Blocks.length := by unfold pflushD; simp only [setW_len]; exact hk
  rw [List.getElem?_eq_getElem hk2] at h2
  unfold liesD
  rw [List.getD_eq_getElem?_getD, List.getElem?_eq_getElem hk2]
  simp only [Option.map_some, rflushD, List.getElem?_map, List.getElem?_range hk] at h2
  have h3 := Option.some.inj h2
  simp only [Option.getD_some]
  rw [h3]
  have : ∀ (l : List Write) (acc : List UInt8), fullB acc = acc → fullB (l.foldl (overW (k : Int)) acc) = l.foldl (overW (k : Int)) acc := by
    intro l
    induction l with
    | nil => intro acc h; exact h
    | cons w l ih =>
      intro acc h
      rw [List.foldl_cons]
      refine ih _ ?_
      unfold overW
      split
      · exact fullB_full _
      · exact h
  exact this d.Wait (liesD d k) (fullB_full _)
/- Plain law: lists of devices: sizes, copies, comparing. -/

theorem sum_loop2 {α : Type} (l : List α) (len : α → Nat) (hl : l.length ≤ 100000) (hlen : ∀ x ∈ l, len x ≤ 1000000) {step : Int × Int → Option (Ctl (Int × Int) Int)} (n0 : Int) (h0 : 0 ≤ n0) (h0' : n0 ≤ 1000000000000)
    (h1 : ∀ k (hk : k < l.length) (n : Int), step (n, (k : Int)) = some (.next (wI (n + wI (8 + ((len l[k] : Nat) : Int))), wI ((k : Int) + 1))))
    (h2 : ∀ (n : Int), step (n, (l.length : Int)) = some (.brk n)) :
    ∃ b, loopM step FUEL (n0, (0 : Int)) = some b ∧ n0 ≤ b ∧ b ≤ n0 + 2000000 * (l.length : Int) := by
  refine loop_inv (step := step) l.length
    (fun k s => s.2 = (k : Int) ∧ n0 ≤ s.1 ∧ s.1 ≤ n0 + 2000000 * (k : Int)) _ (fun k s hk hI => ?_) FUEL 0 (n0, 0) (Nat.zero_le _) (by unfold FUEL; omega) ⟨rfl, by simp, by simp⟩
  obtain ⟨s1, s2⟩ := s
  obtain ⟨e1, e2, e3⟩ := hI
  simp only at e1 e2 e3
  subst e1
  by_cases hlt : k < l.length
  · have hb := hlen _ (List.getElem_mem hlt)
    refine .inl ⟨_, h1 k hlt s1, hlt, ?_⟩
    rw [wI_id (x := 8 + ((len l[k] : Nat) : Int)) (by omega) (by omega), wI_id (by omega) (by omega), wI_succ (by omega)]
    exact ⟨rfl, by simp only; omega, by simp only; omega⟩
  · obtain rfl : k = l.length := by omega
    exact .inr ⟨s1, h2 s1, e2, e3⟩

theorem agreat_eq (ds : List Disk) : ∃ g, ref05_Great ds = some g ∧ (g = false → ds.length ≤ 30 ∧ ∀ d ∈ ds, SmallD d) := by
  unfold ref05_Great
  obtain ⟨b, hb, hq⟩ := loop_inv (step := fun s : Int × Int => ref05_Great_L1 ds s.1 s.2) (min ds.length 30)
    (fun k s => s.2 = (k : Int) ∧ 0 ≤ s.1 ∧ s.1 ≤ 60000 ∧ ∀ j (hj : j < ds.length), j < k → SmallD ds[j])
    (fun b => b = Sum.inr () ∨ (b = Sum.inl () ∧ (ds.length ≤ 30 → ∀ d ∈ ds, SmallD d))) (fun k s hk hI => by
    obtain ⟨s1, s2⟩ := s
    obtain ⟨e1, e2, e3, e4⟩ := hI
    simp only at e1 e2 e3 e4
    subst e1
    show (∃ s', ref05_Great_L1 ds s1 (k : Int) = some (.next s') ∧ _) ∨ ∃ b, ref05_Great_L1 ds s1 (k : Int) = some (.brk b) ∧ _
    unfold ref05_Great_L1
    by_cases hlt : k < ds.length ∧ k < 30
    · rw [show (decide ((k : Int) < (ds.length : Int)) && decide ((k : Int) < (30 : Int))) = true by simp; omega, idx_nat, List.getElem?_eq_getElem hlt.1]
      simp only [cond_true, Option.bind_some]
      obtain ⟨g, hg, hs⟩ := dgreat_eq ds[k]
      rw [hg]
      simp only [Option.bind_some]
      cases g with
      | true => exact .inr ⟨_, rfl, .inl rfl⟩
      | false =>
        obtain ⟨hs, _, _⟩ := hs rfl
        simp only [cond_false]
        obtain ⟨b1, hb1, q1, q2⟩ := sum_loop2 ds[k].Blocks List.length hs.nb hs.lb (step := fun s : Int × Int => ref05_Great_L2 ds (k : Int) s.1 s.2) s1 e2 (by omega) (fun j hj n => by
          show ref05_Great_L2 ds (k : Int) n (j : Int) = _
          unfold ref05_Great_L2
          rw [idx_nat, List.getElem?_eq_getElem hlt.1]
          simp only [Option.bind_some]
          rw [decide_eq_true (by omega), idx_nat, List.getElem?_eq_getElem hj]; rfl) (fun n => by
          show ref05_Great_L2 ds (k : Int) n _ = _
          unfold ref05_Great_L2
          rw [idx_nat, List.getElem?_eq_getElem hlt.1]
          simp only [Option.bind_some]
          rw [decide_eq_false (by omega)]; rfl)
        rw [hb1]
        simp only [Option.bind_some]
        have hnb := hs.nb
        have hnw := hs.nw
        obtain ⟨b2, hb2, q3, q4⟩ := sum_loop2 ds[k].Wait (fun w => w.Data.length) hs.nw hs.lw (step := fun s : Int × Int => ref05_Great_L3 ds (k : Int) s.1 s.2) b1 (by omega) (by omega) (fun j hj n => by
          show ref05_Great_L3 ds (k : Int) n (j : Int) = _
          unfold ref05_Great_L3
          rw [idx_nat, List.getElem?_eq_getElem hlt.1]
          simp only [Option.bind_some]
          rw [decide_eq_true (by omega), idx_nat, List.getElem?_eq_getElem hj]; rfl) (fun n => by
          show ref05_Great_L3 ds (k : Int) n _ = _
          unfold ref05_Great_L3
          rw [idx_nat, List.getElem?_eq_getElem hlt.1]
          simp only [Option.bind_some]
          rw [decide_eq_false (by omega)]; rfl)
        rw [hb2]
        simp only [Option.bind_some]
        by_cases hbig : b2 > 60000
        · rw [decide_eq_true hbig]; exact .inr ⟨_, rfl, .inl rfl⟩
        · rw [decide_eq_false hbig, wI_succ (by omega)]
          refine .inl ⟨_, rfl, by omega, rfl, by simp only; omega, by simp only; omega, fun j hj hjk => ?_⟩
          by_cases he : j = k
          · subst he; exact hs
          · exact e4 j hj (by omega)
    · rw [show (decide ((k : Int) < (ds.length : Int)) && decide ((k : Int) < (30 : Int))) = false by simp; omega]
      refine .inr ⟨_, rfl, .inr ⟨rfl, fun hle d hd => ?_⟩⟩
      obtain ⟨j, hj, rfl⟩ := List.getElem_of_mem hd
      exact e4 j hj (by omega)) FUEL 0 (0, 0) (Nat.zero_le _) (by unfold FUEL; omega) ⟨rfl, by simp, by simp, fun j _ hj => by omega⟩
  rw [hb]
  rcases hq with rfl | ⟨rfl, h⟩
  · exact ⟨_, rfl, fun h => by cases h⟩
  · refine ⟨_, rfl, fun hg => ?_⟩
    have := of_decide_eq_false hg
    exact ⟨by omega, h (by omega)⟩

theorem atwin_eq {ds : List Disk} (hl : ds.length ≤ 100000) (h : ∀ d ∈ ds, SmallD d) : ref05_Twin ds = some ds := by
  unfold ref05_Twin
  have := loop_run (step := fun s : (List Disk) × Int => ref05_Twin_L1 ds s.1 s.2) (fun k => (ds.take k, (k : Int))) ds.length ds (fuel_ltD (by omega)) (fun k hk => by
    unfold ref05_Twin_L1
    simp only
    rw [decide_eq_true (by omega), idx_nat, List.getElem?_eq_getElem hk]
    simp only [cond_true, Option.bind_some]
    rw [rtwin_eq (h _ (List.getElem_mem hk)), wI_succ (by omega)]
    simp only [Option.bind_some]
    rw [app_some _ _ (by simp; omega), take_succ_get _ _ _ (List.getElem?_eq_getElem hk)]; rfl) (by
    unfold ref05_Twin_L1
    simp only
    rw [decide_eq_false (by omega), List.take_length]; rfl)
  have h0 : (([] : List Disk), (0 : Int)) = (fun k : Nat => (ds.take k, (k : Int))) 0 := by simp
  rw [h0, this]; rfl
theorem asame_eq {a b : List Disk} (hl : a.length ≤ 100000) (ha : ∀ d ∈ a, SmallD d) (hb : ∀ d ∈ b, SmallD d) : ref05_SameDisks a b = some (decide (a.map viewD = b.map viewD)) := by
  unfold ref05_SameDisks
  by_cases h1 : a.length = b.length
  case neg =>
    rw [show (((a.length : Nat) : Int) != ((b.length : Nat) : Int)) = true by simp; omega]
    rw [decide_eq_false (fun e => h1 (by have := congrArg List.length e; simpa using this))]; rfl
  rw [show (((a.length : Nat) : Int) != ((b.length : Nat) : Int)) = false by simp; omega]
  simp only [cond_false]
  rw [loop_any2 a b (fun x y => !decide (viewD x = viewD y)) (step := fun s : Int => ref05_SameDisks_L1 a b s) (Sum.inr ()) (Sum.inl ()) (by omega) h1 (fun k hk hk' => by
    unfold ref05_SameDisks_L1
    rw [decide_eq_true (show (k : Int) < (a.length : Int) by omega), idx_nat, idx_nat, List.getElem?_eq_getElem hk, List.getElem?_eq_getElem hk', wI_succ (by omega)]
    simp only [cond_true, Option.bind_some]
    rw [rsame_eq (ha _ (List.getElem_mem hk)) (hb _ (List.getElem_mem hk'))]
    simp only [Option.bind_some]
    cases decide (viewD a[k] = viewD b[k]) <;> rfl) (by
    unfold ref05_SameDisks_L1
    rw [decide_eq_false (by omega)]; rfl), zip_any_ne viewD _ _ h1]
  simp only [Option.bind_some]
  cases decide (a.map viewD = b.map viewD) <;> rfl
/- Plain law: acts on devices: which may be done, and what they do. -/

theorem contDs_eq (l : List Disk) (f : Disk → Option Bool) (p : Disk → Bool) (hl : l.length < 4294967296) (hf : ∀ x ∈ l, f x = some (p x)) : slices_ContainsFunc_api_Disk_api_Disk l f = some (l.any p) := by
  unfold slices_ContainsFunc_api_Disk_api_Disk slices_IndexFunc_api_Disk_api_Disk
  obtain ⟨b, hb, hq⟩ := loop_first l p (step := fun s : Int => slices_IndexFunc_api_Disk_api_Disk_L1 l f s) (fun k => Sum.inr (k : Int)) (Sum.inl ()) hl (fun k hk => by
      unfold slices_IndexFunc_api_Disk_api_Disk_L1
      rw [decide_eq_true (show (k : Int) < (l.length : Int) by omega), idx_nat, List.getElem?_eq_getElem hk, wI_succ (by omega)]
      simp only [cond_true, Option.bind_some, hf l[k] (List.getElem_mem _)]
      cases p l[k] <;> rfl) (by
      unfold slices_IndexFunc_api_Disk_api_Disk_L1
      rw [decide_eq_false (show ¬(l.length : Int) < (l.length : Int) by omega)]; rfl)
  rw [hb]
  rcases hq with ⟨k, rfl, hk, hp, _⟩ | ⟨rfl, hn⟩
  · rw [List.any_eq_true.2 ⟨l[k], List.getElem_mem _, hp⟩]; simp
  · rw [List.any_eq_false.2 (fun x hx => by rw [hn x hx]; simp)]; rfl

def mayDs (ds : List Disk) : Bool := decide (1 ≤ ds.length) && (decide (ds.length ≤ 17) && !(ds.any fun d => !mayD d))
structure MayDs (ds : List Disk) : Prop where
  n1 : 1 ≤ ds.length
  n2 : ds.length ≤ 17
  m : ∀ d ∈ ds, MayD d
theorem mayDs_ok {ds : List Disk} (h : mayDs ds = true) : MayDs ds := by
  unfold mayDs at h
  simp only [Bool.and_eq_true, decide_eq_true_eq, Bool.not_eq_true', List.any_eq_false] at h
  exact ⟨h.1, h.2.1, fun d hd => (mayD_iff d).1 (by simpa using h.2.2 d hd)⟩
theorem MayDs.t {ds : List Disk} (h : MayDs ds) : mayDs ds = true := by
  unfold mayDs
  simp only [Bool.and_eq_true, decide_eq_true_eq, Bool.not_eq_true', List.any_eq_false]
  exact ⟨h.n1, h.n2, fun d hd => by rw [(mayD_iff d).2 (h.m d hd)]; simp⟩
theorem MayDs.small {ds : List Disk} (h : MayDs ds) : ∀ d ∈ ds, SmallD d := fun d hd => (h.m d hd).small
theorem pdevs_eq (ds : List Disk) : acts_devices ds = some (bif mayDs ds then 0 else 8) := by
  unfold acts_devices mayDs
  by_cases h1 : 1 ≤ ds.length
  case neg => rw [decide_eq_true (show (ds.length : Int) < 1 by omega), decide_eq_false h1]; simp [gO]
  by_cases h2 : ds.length ≤ 17
  case neg => rw [decide_eq_true (show (ds.length : Int) > 17 by omega), decide_eq_false h2]; simp [gO]
  rw [decide_eq_false (show ¬(ds.length : Int) < 1 by omega), decide_eq_false (show ¬(ds.length : Int) > 17 by omega), decide_eq_true h1, decide_eq_true h2,
    contDs_eq ds _ (fun d => !mayD d) (by omega) (fun d _ => by
      unfold acts_devices_1
      rw [pcheck_eq]
      cases mayD d <;> rfl)]
  cases ds.any (fun d => !mayD d) <;> rfl
theorem rdevs_eq {ds : List Disk} (hl : ds.length < 4294967296) : ref05_May ds = some (mayDs ds) := by
  unfold ref05_May mayDs
  rw [loop_anyD ds (fun d => !mayD d) (step := fun s : Int => ref05_May_L1 ds s) (Sum.inr ()) (Sum.inl ()) hl (fun k hk => by
    unfold ref05_May_L1
    rw [decide_eq_true (show (k : Int) < (ds.length : Int) by omega), idx_nat, List.getElem?_eq_getElem hk, wI_succ (by omega)]
    simp only [cond_true, Option.bind_some]
    rw [rmay_eq]
    cases mayD ds[k] <;> rfl) (by
    unfold ref05_May_L1
    rw [decide_eq_false (by omega)]; rfl)]
  simp only [Option.bind_some]
  cases ds.any (fun d => !mayD d) with
  | true => simp
  | false =>
    simp only [cond_false, Sum.elim_inl, Bool.not_false, Bool.and_true]
    rw [show decide ((ds.length : Int) ≥ 1) = decide (1 ≤ ds.length) from decide_eq_decide.2 (by omega), show decide ((ds.length : Int) ≤ 17) = decide (ds.length ≤ 17) from decide_eq_decide.2 (by omega)]

def lensD (ds : List Disk) : List Nat := ds.map fun d => d.Blocks.length
/-! ### what acts do -/
theorem errD_zero {d : Disk} {k : Nat} {data : List UInt8} (h : MayD d) (hd : d.Dead = false) (hs : szB data = true) (hk : k < d.Blocks.length) : errD d (k : Int) data = 0 := by
  unfold errD askD
  rw [may_t h, hd, hs, decide_eq_false (show ¬(k : Int) < 0 by omega), decide_eq_false (show ¬(k : Int) ≥ (d.Blocks.length : Int) by omega)]; rfl
theorem rfua_may {d : Disk} {k : Nat} {data : List UInt8} (hm : MayD d) (hd : d.Dead = false) (hs : szB data = true) : MayD (rfuaD d k data) := by
  have hl : (rfuaD d k data).Blocks.length = d.Blocks.length := by simp [rfuaD]
  refine ⟨by rw [hl]; exact hm.n1, by rw [hl]; exact hm.n2, by unfold rfuaD; simp only [List.length_map]; exact Nat.le_trans (List.length_filter_le _ _) hm.nw, fun h => ?_, fun h => ?_, fun b hb => ?_, fun w hw => ?_⟩
  · have h : d.Dead = true := h
    rw [hd] at h; cases h
  · have h : d.Dead = true := h
    rw [hd] at h; cases h
  · rcases List.mem_or_eq_of_mem_set hb with hb | rfl
    · exact hm.sz b hb
    · exact szB_full hs
  · rw [hl]
    obtain ⟨x, hx, rfl⟩ := List.mem_map.1 hw
    obtain ⟨h1, h2, h3⟩ := hm.wt x (List.mem_filter.1 hx).1
    exact ⟨h1, h2, szB_full h3⟩
theorem seen_sz {d : Disk} (h : MayD d) (k : Nat) : szB (seenD d k) = true := by
  unfold seenD
  have h0 : szB (liesD d k) = true := by
    unfold liesD
    refine szB_full ?_
    rw [List.getD_eq_getElem?_getD]
    by_cases hk : k < d.Blocks.length
    · rw [List.getElem?_eq_getElem hk]; exact h.sz _ (List.getElem_mem hk)
    · rw [List.getElem?_eq_none (by omega)]; rfl
  have : ∀ (l : List Write) (acc : List UInt8), (∀ w ∈ l, szB w.Data = true) → szB acc = true → szB (l.foldl (overW (k : Int)) acc) = true := by
    intro l
    induction l with
    | nil => intro acc _ h; exact h
    | cons w l ih =>
      intro acc hl ha
      rw [List.foldl_cons]
      refine ih _ (fun x hx => hl x (by simp [hx])) ?_
      unfold overW
      split
      · exact szB_full (hl w (by simp))
      · exact ha
  exact this d.Wait _ (fun w hw => (h.wt w hw).2.2) h0
theorem rflush_may {d : Disk} (h : MayD d) (hd : d.Dead = false) : MayD (rflushD d) := by
  have hdd : (rflushD d).Dead = false := hd
  refine ⟨by unfold rflushD; simp; exact h.n1, by unfold rflushD; simp; exact h.n2, by unfold rflushD; simp, fun _ => rfl, fun h2 => (by rw [hdd] at h2; cases h2), fun b hb => ?_, fun w hw => by unfold rflushD at hw; simp at hw⟩
  unfold rflushD at hb
  obtain ⟨k, _, rfl⟩ := List.mem_map.1 hb
  exact seen_sz h k
/- Plain law: acts.Run and the document's answer. -/

/-- Devices that may be, of given sizes. -/
def LikeDs (ns : List Nat) (ds : List Disk) : Prop := MayDs ds ∧ lensD ds = ns
theorem like_set {ns : List Nat} {ds : List Disk} (h : LikeDs ns ds) {i : Nat} (hi : i < ds.length) {d : Disk} (hd : MayD d) (hl : d.Blocks.length = ds[i].Blocks.length) : LikeDs ns (ds.set i d) := by
  obtain ⟨hm, rfl⟩ := h
  refine ⟨⟨by simpa using hm.n1, by simpa using hm.n2, fun e he => ?_⟩, ?_⟩
  · rcases List.mem_or_eq_of_mem_set he with he | rfl
    · exact hm.m e he
    · exact hd
  · unfold lensD
    rw [List.map_set, hl]
    have : (ds.map fun d => d.Blocks.length)[i]? = some ds[i].Blocks.length := by simp [hi]
    exact List.ext_getElem? fun j => by
      rw [List.getElem?_set]
      split
      · next h => subst h; rw [this]; simp [hi]
      · rfl

theorem slc_take {α : Type} (l : List α) {n : Int} (h : (decide (n < 0) || decide (n > (l.length : Int))) = false) : slc l 0 n = some (l.take n.toNat) := by
  simp only [Bool.or_eq_false_iff, decide_eq_false_iff_not] at h
  unfold slc
  rw [if_pos (by omega)]
  simp
/-! ### what is seen of devices -/
theorem view_len {d e : Disk} (h : viewD d = viewD e) : d.Blocks.length = e.Blocks.length := by
  have := congrArg (fun v => v.1.length) h
  simpa [viewD] using this
theorem view_wait {d e : Disk} (h : viewD d = viewD e) : d.Wait.length = e.Wait.length := by
  have := congrArg (fun v => v.2.1.length) h
  simpa [viewD] using this
theorem view_dead {d e : Disk} (h : viewD d = viewD e) : d.Dead = e.Dead := congrArg (fun v => v.2.2) h
theorem view_blocks {d e : Disk} (h : viewD d = viewD e) : d.Blocks.map fullB = e.Blocks.map fullB := congrArg (fun v => v.1) h
theorem view_waits {d e : Disk} (h : viewD d = viewD e) : d.Wait.map viewW = e.Wait.map viewW := congrArg (fun v => v.2.1) h
theorem view_put {d e : Disk} (h : viewD d = viewD e) (at_ : Int) (data : List UInt8) : viewD (putD d at_ data) = viewD (putD e at_ data) := by
  have h1 := view_blocks h
  have h2 := view_waits h
  have h3 := view_dead h
  unfold viewD putD
  simp only [List.map_append, h1, h2, h3]
theorem view_filter (k : Int) (l : List Write) : (l.filter (keepW k)).map viewW = (l.map viewW).filter fun v => !(v.1 == k) := by
  rw [List.filter_map]; rfl
theorem view_fua {d e : Disk} (h : viewD d = viewD e) (k : Nat) (data : List UInt8) : viewD (pfuaD d k data) = viewD (pfuaD e k data) := by
  have h1 := view_blocks h
  have h2 := view_waits h
  have h3 := view_dead h
  unfold viewD pfuaD
  simp only [List.map_set, view_filter, h1, h2, h3]
theorem view_over (k : Int) : ∀ (l : List Write) (acc : List UInt8), l.foldl (overW k) acc = (l.map viewW).foldl (fun acc v => if v.1 = k then v.2 else acc) acc
  | [], _ => rfl
  | w :: l, acc => by rw [List.foldl_cons, view_over k l]; rfl
theorem view_lies {d e : Disk} (h : viewD d = viewD e) (k : Nat) : liesD d k = liesD e k := by
  have : ∀ f : Disk, liesD f k = ((f.Blocks.map fullB)[k]?).getD (fullB []) := fun f => by
    unfold liesD
    rw [List.getD_eq_getElem?_getD, List.getElem?_map]
    cases f.Blocks[k]? <;> rfl
  rw [this, this, view_blocks h]
theorem view_seen {d e : Disk} (h : viewD d = viewD e) (k : Nat) : seenD d k = seenD e k := by
  unfold seenD
  rw [view_over, view_over, view_waits h, view_lies h]
theorem view_rflush {d e : Disk} (h : viewD d = viewD e) : viewD (rflushD d) = viewD (rflushD e) := by
  unfold rflushD
  rw [view_len h, view_dead h, show seenD d = seenD e from funext fun k => view_seen h k]
theorem views_lens {ds es : List Disk} (h : ds.map viewD = es.map viewD) : lensD ds = lensD es := by
  have := congrArg (List.map fun v : List (List UInt8) × List (Int × List UInt8) × Bool => v.1.length) h
  simp only [List.map_map] at this
  have hf : ((fun v : List (List UInt8) × List (Int × List UInt8) × Bool => v.1.length) ∘ viewD) = fun d : Disk => d.Blocks.length := by funext d; simp [viewD]
  rw [hf] at this
  exact this
/- Plain law: power that fails. -/

def waitsN : List Disk → Nat
  | [] => 0
  | d :: ds => d.Wait.length + waitsN ds
theorem waitsN_app : ∀ (a b : List Disk), waitsN (a ++ b) = waitsN a + waitsN b
  | [], b => by simp [waitsN]
  | d :: a, b => by simp only [List.cons_append, waitsN, waitsN_app a b]; omega
theorem waitsN_le {ds : List Disk} (h : ∀ d ∈ ds, MayD d) : waitsN ds ≤ 1024 * ds.length := by
  induction ds with
  | nil => exact Nat.le_refl _
  | cons d ds ih =>
    have h1 := (h d (by simp)).nw
    have h2 := ih (fun x hx => h x (by simp [hx]))
    simp only [waitsN, List.length_cons]; omega
theorem waitsN_take (ds : List Disk) (k : Nat) : waitsN (ds.take k) ≤ waitsN ds := by
  have := waitsN_app (ds.take k) (ds.drop k)
  rw [List.take_append_drop] at this; omega
theorem waitsN_succ {ds : List Disk} {k : Nat} (hk : k < ds.length) : waitsN (ds.take (k + 1)) = waitsN (ds.take k) + ds[k].Wait.length := by
  rw [take_succ_get _ _ _ (List.getElem?_eq_getElem hk), waitsN_app]; rfl
theorem pwaits_eq (ds : List Disk) : acts_Waits ds = some (bif mayDs ds then ((waitsN ds : Int), 0) else (0, 8)) := by
  unfold acts_Waits
  rw [pdevs_eq]
  cases hm : mayDs ds with
  | false => rfl
  | true =>
    have h := mayDs_ok hm
    have hn2 := h.n2
    have hw := waitsN_le h.m
    simp only [Option.bind_some, cond_true, bne_self_eq_false, cond_false]
    have := loop_run (step := fun s : Int × Int => acts_Waits_L1 ds s.1 s.2) (fun k => ((waitsN (ds.take k) : Int), (k : Int))) ds.length (waitsN ds : Int) (fuel_ltD (by omega)) (fun k hk => by
      have h1 := waitsN_succ hk
      have h2 := waitsN_take ds (k + 1)
      unfold acts_Waits_L1
      simp only
      rw [decide_eq_true (by omega), idx_nat, List.getElem?_eq_getElem hk, wI_succ (by omega)]
      simp only [cond_true, Option.bind_some]
      rw [wI_id (by omega) (by omega), h1]
      simp) (by
      unfold acts_Waits_L1
      simp only
      rw [decide_eq_false (by omega), List.take_length]; rfl)
    have h0 : ((0 : Int), (0 : Int)) = (fun k : Nat => ((waitsN (ds.take k) : Int), (k : Int))) 0 := by simp [waitsN]
    rw [h0, this]; rfl

/-! ### crashes -/
def setK (bs : List (List UInt8)) (p : Write × Bool) : List (List UInt8) := bif p.2 then setW bs p.1 else bs
def crashD (d : Disk) (m : List Bool) : Disk := ⟨(d.Wait.zip m).foldl setK d.Blocks, [], d.Dead⟩
def crashL : List Disk → List Bool → List Disk
  | [], _ => []
  | d :: ds, m => crashD d m :: crashL ds (m.drop d.Wait.length)
theorem crashL_len : ∀ (ds : List Disk) (m : List Bool), (crashL ds m).length = ds.length
  | [], _ => rfl
  | d :: ds, m => by simp [crashL, crashL_len ds]
theorem crashL_get : ∀ (ds : List Disk) (m : List Bool) (k : Nat) (hk : k < ds.length), (crashL ds m)[k]? = some (crashD ds[k] (m.drop (waitsN (ds.take k))))
  | [], _, k, hk => by simp at hk
  | d :: ds, m, 0, hk => by simp [crashL, waitsN]
  | d :: ds, m, k + 1, hk => by
    simp only [crashL, List.getElem?_cons_succ, List.getElem_cons_succ, List.take_succ_cons, waitsN]
    rw [crashL_get ds _ k (by simpa using hk), List.drop_drop]
theorem setK_len : ∀ (l : List (Write × Bool)) (bs : List (List UInt8)), (l.foldl setK bs).length = bs.length
  | [], _ => rfl
  | p :: l, bs => by
    rw [List.foldl_cons, setK_len l]
    unfold setK setW
    cases p.2 <;> simp
theorem setK_mem : ∀ (l : List (Write × Bool)) (bs : List (List UInt8)), ∀ b ∈ l.foldl setK bs, b ∈ bs ∨ ∃ p ∈ l, b = p.1.Data
  | [], _, b, h => .inl h
  | p :: l, bs, b, h => by
    rw [List.foldl_cons] at h
    rcases setK_mem l _ b h with h | ⟨x, hx, rfl⟩
    · unfold setK setW at h
      cases hp : p.2 with
      | false => rw [hp] at h; exact .inl h
      | true =>
        rw [hp] at h
        rcases List.mem_or_eq_of_mem_set h with h | h
        · exact .inl h
        · exact .inr ⟨p, by simp, h⟩
    · exact .inr ⟨x, by simp [hx], rfl⟩
theorem crash_may {d : Disk} (h : MayD d) (m : List Bool) : MayD (crashD d m) ∧ (crashD d m).Blocks.length = d.Blocks.length := by
  have hl : (crashD d m).Blocks.length = d.Blocks.length := setK_len _ _
  refine ⟨⟨by rw [hl]; exact h.n1, by rw [hl]; exact h.n2, by simp [crashD], fun _ => rfl, fun hd b hb => ?_, fun b hb => ?_, fun w hw => by simp [crashD] at hw⟩, hl⟩
  · have hd : d.Dead = true := hd
    have : (crashD d m).Blocks = d.Blocks := by
      unfold crashD
      rw [h.dw hd]; rfl
    rw [this] at hb
    exact h.db hd b hb
  · rcases setK_mem _ _ b hb with hb | ⟨p, hp, rfl⟩
    · exact h.sz b hb
    · have hp : (p.1, p.2) ∈ d.Wait.zip m := hp
      exact (h.wt p.1 (List.of_mem_zip hp).1).2.2
theorem crashL_may : ∀ (ds : List Disk) (m : List Bool), (∀ d ∈ ds, MayD d) → ∀ d ∈ crashL ds m, MayD d
  | [], _, _, d, hd => by simp [crashL] at hd
  | x :: ds, m, h, d, hd => by
    simp only [crashL, List.mem_cons] at hd
    rcases hd with rfl | hd
    · exact (crash_may (h x (by simp)) m).1
    · exact crashL_may ds _ (fun y hy => h y (by simp [hy])) d hd
theorem crashL_mays {ds : List Disk} (h : MayDs ds) (m : List Bool) : MayDs (crashL ds m) := ⟨by rw [crashL_len]; exact h.n1, by rw [crashL_len]; exact h.n2, crashL_may ds m h.m⟩
theorem crashL_waits : ∀ (ds : List Disk) (m : List Bool), waitsN (crashL ds m) = 0
  | [], _ => rfl
  | d :: ds, m => by simp [crashL, waitsN, crashL_waits ds, crashD]

theorem ptwins5_eq {ds : List Disk} (hl : ds.length ≤ 100000) (h : ∀ d ∈ ds, SmallD d) : loopM (fun s : (List Disk) × Int => acts_Crash_L5 ds s.1 s.2) FUEL (([] : List Disk), (0 : Int)) = some ds := by
  have := loop_run (step := fun s : (List Disk) × Int => acts_Crash_L5 ds s.1 s.2) (fun k => (ds.take k, (k : Int))) ds.length ds (fuel_ltD (by omega)) (fun k hk => by
    unfold acts_Crash_L5
    simp only
    rw [decide_eq_true (by omega), idx_nat, List.getElem?_eq_getElem hk]
    simp only [cond_true, Option.bind_some]
    rw [ptwin_eq (h _ (List.getElem_mem hk)), wI_succ (by omega)]
    simp only [Option.bind_some]
    rw [app_some _ _ (by simp; omega), take_succ_get _ _ _ (List.getElem?_eq_getElem hk)]; rfl) (by
    unfold acts_Crash_L5
    simp only
    rw [decide_eq_false (by omega), List.take_length]; rfl)
  have h0 : (([] : List Disk), (0 : Int)) = (fun k : Nat => (ds.take k, (k : Int))) 0 := by simp
  rw [h0, this]
theorem cut_loop {d : Disk} (h : MayD d) (m : List Bool) (hm : d.Wait.length ≤ m.length) :
    loopM (fun s : Int × (List (List UInt8)) => acts_Crash_L3 m d s.1 s.2) FUEL ((0 : Int), d.Blocks) = some (crashD d m).Blocks := by
  have hw := h.nw
  have hz : (d.Wait.zip m).length = d.Wait.length := by simp; omega
  have := loop_run (step := fun s : Int × (List (List UInt8)) => acts_Crash_L3 m d s.1 s.2) (fun k => ((k : Int), ((d.Wait.zip m).take k).foldl setK d.Blocks)) d.Wait.length (crashD d m).Blocks (fuel_ltD (by omega)) (fun k hk => by
    obtain ⟨g1, g2, g3⟩ := h.wt _ (List.getElem_mem hk)
    have hkm : k < m.length := by omega
    have hzk : (d.Wait.zip m)[k]? = some (d.Wait[k], m[k]) := by
      rw [List.getElem?_eq_getElem (by omega)]
      simp
    unfold acts_Crash_L3 acts_Crash_J4
    simp only
    rw [decide_eq_true (by omega), idx_nat, List.getElem?_eq_getElem hk, idx_nat, List.getElem?_eq_getElem hkm, wI_succ (by omega)]
    simp only [cond_true, Option.bind_some]
    rw [take_succ_get _ _ _ hzk, List.foldl_append]
    simp only [List.foldl_cons, List.foldl_nil]
    unfold setK setW
    cases hmk : m[k] with
    | false => rfl
    | true =>
      simp only [cond_true]
      obtain ⟨j, hj⟩ : ∃ j : Nat, d.Wait[k].At = (j : Int) := ⟨d.Wait[k].At.toNat, by omega⟩
      have hlen := setK_len ((d.Wait.zip m).take k) d.Blocks
      unfold setK setW at hlen
      rw [hj, bnd_nat (by rw [hlen]; omega)]; rfl) (by
    unfold acts_Crash_L3
    simp only
    rw [decide_eq_false (by omega), List.take_of_length_le (by omega)]; rfl)
  have h0 : ((0 : Int), d.Blocks) = (fun k : Nat => ((k : Int), ((d.Wait.zip m).take k).foldl setK d.Blocks)) 0 := by simp
  rw [h0, this]
theorem crash_loop {ds : List Disk} (h : MayDs ds) (m : List Bool) (hm : m.length = waitsN ds) : acts_Crash_J1 m ds = some (crashL ds m, 0) := by
  have hn2 := h.n2
  have hw := waitsN_le h.m
  have hcl := crashL_len ds m
  unfold acts_Crash_J1
  have := loop_run (step := fun s : (List Bool) × (List Disk) × Int => acts_Crash_L2 ds s.1 s.2.1 s.2.2) (fun k => (m.drop (waitsN (ds.take k)), (crashL ds m).take k ++ ds.drop k, (k : Int))) ds.length (crashL ds m) (fuel_ltD (by omega)) (fun k hk => by
    have hd := h.m _ (List.getElem_mem hk)
    have h1 := waitsN_succ hk
    have h2 := waitsN_take ds (k + 1)
    have hml : ds[k].Wait.length ≤ (m.drop (waitsN (ds.take k))).length := by rw [List.length_drop, hm]; omega
    have hlen : ((crashL ds m).take k ++ ds.drop k).length = ds.length := mix_len _ _ _ hcl
    unfold acts_Crash_L2
    simp only
    rw [decide_eq_true (by omega), bnd_nat (by rw [hlen]; exact hk)]
    simp only [cond_true, Option.bind_some]
    rw [mix_get _ _ _ hcl, List.getElem?_eq_getElem hk]
    simp only [Option.bind_some]
    rw [cut_loop hd _ hml]
    simp only [Option.bind_some]
    rw [show slc (m.drop (waitsN (ds.take k))) ((ds[k].Wait.length : Nat) : Int) (((m.drop (waitsN (ds.take k))).length : Nat) : Int) = some ((m.drop (waitsN (ds.take k))).drop ds[k].Wait.length) by
      unfold slc
      rw [if_pos (by omega), Int.toNat_natCast, Int.toNat_natCast, List.take_length]]
    simp only [Option.bind_some]
    rw [show (Disk.mk (crashD ds[k] (m.drop (waitsN (ds.take k)))).Blocks ([] : List Write) ds[k].Dead) = crashD ds[k] (m.drop (waitsN (ds.take k))) from rfl, ptwin_eq (crash_may hd _).1.small, wI_succ (by omega)]
    simp only [Option.bind_some]
    rw [mix_set _ _ _ hcl _ (crashL_get ds m k hk), List.drop_drop, h1]) (by
    unfold acts_Crash_L2
    simp only
    rw [decide_eq_false (by omega), mix_end _ _ _ hcl rfl]; rfl)
  have h0 : (m, ds, (0 : Int)) = (fun k : Nat => (m.drop (waitsN (ds.take k)), (crashL ds m).take k ++ ds.drop k, (k : Int))) 0 := by simp [waitsN]
  rw [h0, this]; rfl
def marksC (ds : List Disk) (keep : List Bool) : List Bool := keep ++ List.replicate (waitsN ds - keep.length) false
def crashR (ds : List Disk) (keep : List Bool) : List Disk × Int := bif !mayDs ds then ([], 8) else bif decide (waitsN ds < keep.length) then ([], 2) else (crashL ds (marksC ds keep), 0)
theorem pcrash_eq (ds : List Disk) (keep : List Bool) : acts_Crash ds keep = some (crashR ds keep) := by
  unfold acts_Crash crashR
  rw [pwaits_eq]
  cases hm : mayDs ds with
  | false => rfl
  | true =>
    have h := mayDs_ok hm
    have hn2 := h.n2
    have hw := waitsN_le h.m
    simp only [Option.bind_some, cond_true, bne_self_eq_false, cond_false, Bool.not_true]
    by_cases hk : waitsN ds < keep.length
    · rw [decide_eq_true hk, decide_eq_true (by omega)]; rfl
    · rw [decide_eq_false hk, decide_eq_false (by omega)]
      simp only [cond_false]
      rw [show slc keep 0 ((keep.length : Nat) : Int) = some keep by unfold slc; rw [if_pos (by omega)]; simp]
      simp only [Option.bind_some]
      rw [wI_id (by omega) (by omega), show appZ false keep ((waitsN ds : Int) - (keep.length : Int)) = some (marksC ds keep) by
        unfold appZ marksC
        rw [if_pos (by omega)]
        congr 3
        omega]
      simp only [Option.bind_some]
      rw [ptwins5_eq (by omega) h.small]
      simp only [Option.bind_some]
      exact crash_loop h _ (by unfold marksC; simp; omega)
/- Plain law: ActsCrash. -/

theorem rmany_eq {ds : List Disk} (h : MayDs ds) : ref05_Many ds = some (waitsN ds : Int) := by
  have hn2 := h.n2
  have hw := waitsN_le h.m
  unfold ref05_Many
  have := loop_run (step := fun s : Int × Int => ref05_Many_L1 ds s.1 s.2) (fun k => ((waitsN (ds.take k) : Int), (k : Int))) ds.length (waitsN ds : Int) (fuel_ltD (by omega)) (fun k hk => by
    have h1 := waitsN_succ hk
    have h2 := waitsN_take ds (k + 1)
    unfold ref05_Many_L1
    simp only
    rw [decide_eq_true (by omega), idx_nat, List.getElem?_eq_getElem hk, wI_succ (by omega)]
    simp only [cond_true, Option.bind_some]
    rw [wI_id (by omega) (by omega), h1]
    simp) (by
    unfold ref05_Many_L1
    simp only
    rw [decide_eq_false (by omega), List.take_length]; rfl)
  have h0 : ((0 : Int), (0 : Int)) = (fun k : Nat => ((waitsN (ds.take k) : Int), (k : Int))) 0 := by simp [waitsN]
  rw [h0, this]; rfl
theorem rwaits_eq {ds : List Disk} (hl : ds.length < 4294967296) : ref05_Waits ds = some (bif mayDs ds then ((waitsN ds : Int), 0) else (0, 8)) := by
  unfold ref05_Waits
  rw [rdevs_eq hl]
  cases hm : mayDs ds with
  | false => rfl
  | true =>
    simp only [Option.bind_some, Bool.not_true, cond_false, cond_true]
    rw [rmany_eq (mayDs_ok hm)]; rfl

/-- What the document's cut makes of a device: blocks written full. -/
def setR (bs : List (List UInt8)) (p : Write × Bool) : List (List UInt8) := bif p.2 then bs.set p.1.At.toNat (fullB p.1.Data) else bs
def cutR (d : Disk) (m : List Bool) : Disk := ⟨(d.Wait.zip m).foldl setR d.Blocks, [], d.Dead⟩
def cutL : List Disk → List Bool → List Disk
  | [], _ => []
  | d :: ds, m => cutR d m :: cutL ds (m.drop d.Wait.length)
theorem setR_len : ∀ (l : List (Write × Bool)) (bs : List (List UInt8)), (l.foldl setR bs).length = bs.length
  | [], _ => rfl
  | p :: l, bs => by
    rw [List.foldl_cons, setR_len l]
    unfold setR
    cases p.2 <;> simp
theorem set_view : ∀ (l : List (Write × Bool)) (bs cs : List (List UInt8)), bs.map fullB = cs.map fullB → (l.foldl setK bs).map fullB = (l.foldl setR cs).map fullB
  | [], _, _, h => h
  | p :: l, bs, cs, h => by
    rw [List.foldl_cons, List.foldl_cons]
    refine set_view l _ _ ?_
    unfold setK setR setW
    cases p.2 with
    | false => exact h
    | true => simp only [cond_true, List.map_set, h, fullB_full]
theorem crash_view (d : Disk) (m : List Bool) : viewD (crashD d m) = viewD (cutR d m) := by
  unfold viewD crashD cutR
  rw [set_view _ _ _ rfl]
theorem crash_views : ∀ (ds : List Disk) (m : List Bool), (crashL ds m).map viewD = (cutL ds m).map viewD
  | [], _ => rfl
  | d :: ds, m => by simp only [crashL, cutL, List.map_cons, crash_view, crash_views ds]
theorem cutL_len : ∀ (ds : List Disk) (m : List Bool), (cutL ds m).length = ds.length
  | [], _ => rfl
  | d :: ds, m => by simp [cutL, cutL_len ds]
theorem cutL_get : ∀ (ds : List Disk) (m : List Bool) (k : Nat) (hk : k < ds.length), (cutL ds m)[k]? = some (cutR ds[k] (m.drop (waitsN (ds.take k))))
  | [], _, k, hk => by simp at hk
  | d :: ds, m, 0, hk => by simp [cutL, waitsN]
  | d :: ds, m, k + 1, hk => by
    simp only [cutL, List.getElem?_cons_succ, List.getElem_cons_succ, List.take_succ_cons, waitsN]
    rw [cutL_get ds _ k (by simpa using hk), List.drop_drop]
theorem setR_mem : ∀ (l : List (Write × Bool)) (bs : List (List UInt8)), ∀ b ∈ l.foldl setR bs, b ∈ bs ∨ ∃ p ∈ l, b = fullB p.1.Data
  | [], _, b, h => .inl h
  | p :: l, bs, b, h => by
    rw [List.foldl_cons] at h
    rcases setR_mem l _ b h with h | ⟨x, hx, rfl⟩
    · unfold setR at h
      cases hp : p.2 with
      | false => rw [hp] at h; exact .inl h
      | true =>
        rw [hp] at h
        rcases List.mem_or_eq_of_mem_set h with h | h
        · exact .inl h
        · exact .inr ⟨p, by simp, h⟩
    · exact .inr ⟨x, by simp [hx], rfl⟩
theorem cut_small {d : Disk} (h : MayD d) (m : List Bool) : SmallD (cutR d m) := by
  have hs := h.small
  have hl : (cutR d m).Blocks.length = d.Blocks.length := setR_len _ _
  refine ⟨by rw [hl]; exact hs.nb, by simp [cutR], fun b hb => ?_, fun w hw => by simp [cutR] at hw⟩
  rcases setR_mem _ _ b hb with hb | ⟨p, hp, rfl⟩
  · exact hs.lb b hb
  · have hp : (p.1, p.2) ∈ d.Wait.zip m := hp
    have := fullB_len (h.wt p.1 (List.of_mem_zip hp).1).2.2
    omega
theorem cutL_small : ∀ (ds : List Disk) (m : List Bool), (∀ d ∈ ds, MayD d) → ∀ d ∈ cutL ds m, SmallD d
  | [], _, _, d, hd => by simp [cutL] at hd
  | x :: ds, m, h, d, hd => by
    simp only [cutL, List.mem_cons] at hd
    rcases hd with rfl | hd
    · exact cut_small (h x (by simp)) m
    · exact cutL_small ds _ (fun y hy => h y (by simp [hy])) d hd
/-- The marks from a place on; what lacks is false. -/
def marksAt (m : List Bool) (k : Nat) : Bool := m.getD k false
theorem cut_inner {ds : List Disk} (h : MayDs ds) (keep : List Bool) (hk30 : keep.length ≤ 30000) {i : Nat} (hi : i < ds.length) (m : List Bool) (hm : m.length = waitsN ds) (hmk : ∀ k, marksAt keep k = marksAt m k) :
    loopM (fun s : Int × Int × (List (List UInt8)) => ref05_Cut_L2 ds keep (i : Int) s.1 s.2.1 s.2.2) FUEL ((waitsN (ds.take i) : Int), (0 : Int), ds[i].Blocks) = some ((waitsN (ds.take (i + 1)) : Int), (cutR ds[i] (m.drop (waitsN (ds.take i)))).Blocks) := by
  have hd := h.m _ (List.getElem_mem hi)
  have hw := hd.nw
  have hn2 := h.n2
  have hws := waitsN_le h.m
  have h1 := waitsN_succ hi
  have h2 := waitsN_take ds (i + 1)
  generalize hW : waitsN (ds.take i) = W at h1
  have hz : (ds[i].Wait.zip (m.drop W)).length = ds[i].Wait.length := by simp; omega
  have := loop_run (step := fun s : Int × Int × (List (List UInt8)) => ref05_Cut_L2 ds keep (i : Int) s.1 s.2.1 s.2.2) (fun k => (((W + k : Nat) : Int), (k : Int), ((ds[i].Wait.zip (m.drop W)).take k).foldl setR ds[i].Blocks)) ds[i].Wait.length ((waitsN (ds.take (i + 1)) : Int), (cutR ds[i] (m.drop W)).Blocks) (fuel_ltD (by omega)) (fun k hk => by
    obtain ⟨g1, g2, g3⟩ := hd.wt _ (List.getElem_mem hk)
    have hkm : W + k < m.length := by omega
    have hzk : (ds[i].Wait.zip (m.drop W))[k]? = some (ds[i].Wait[k], m[W + k]) := by
      rw [List.getElem?_eq_getElem (by omega)]
      simp
    have hmm : m[W + k] = marksAt keep (W + k) := by
      rw [hmk]
      unfold marksAt
      rw [List.getD_eq_getElem?_getD, List.getElem?_eq_getElem hkm]; rfl
    unfold ref05_Cut_L2 ref05_Cut_J3
    simp only
    rw [idx_nat, List.getElem?_eq_getElem hi]
    simp only [Option.bind_some]
    rw [decide_eq_true (show ((k : Nat) : Int) < (ds[i].Wait.length : Int) by omega), idx_nat, idx_nat, List.getElem?_eq_getElem hk, wI_succ (by omega), wI_succ (by omega)]
    simp only [cond_true]
    rw [take_succ_get _ _ _ hzk, List.foldl_append]
    simp only [List.foldl_cons, List.foldl_nil]
    unfold setR
    rw [hmm]
    obtain ⟨j, hj⟩ : ∃ j : Nat, ds[i].Wait[k].At = (j : Int) := ⟨ds[i].Wait[k].At.toNat, by omega⟩
    have hlen := setR_len ((ds[i].Wait.zip (m.drop W)).take k) ds[i].Blocks
    unfold setR at hlen
    by_cases hkl : W + k < keep.length
    · rw [decide_eq_true (show (((W + k : Nat) : Nat) : Int) < (keep.length : Int) by omega), List.getElem?_eq_getElem hkl]
      have : marksAt keep (W + k) = keep[W + k] := by
        unfold marksAt
        rw [List.getD_eq_getElem?_getD, List.getElem?_eq_getElem hkl]; rfl
      rw [this]
      simp only [gO, cond_true, Option.bind_some, Bool.true_and]
      cases keep[W + k] with
      | false => rfl
      | true =>
        simp only [cond_true]
        rw [rfull_eq (szB_len g3)]
        simp only [Option.bind_some]
        rw [hj, bnd_nat (by rw [hlen]; omega)]; rfl
    · rw [decide_eq_false (show ¬ (((W + k : Nat) : Nat) : Int) < (keep.length : Int) by omega)]
      have : marksAt keep (W + k) = false := by
        unfold marksAt
        rw [List.getD_eq_getElem?_getD, List.getElem?_eq_none (by omega)]; rfl
      rw [this]; rfl) (by
    unfold ref05_Cut_L2
    simp only
    rw [idx_nat, List.getElem?_eq_getElem hi]
    simp only [Option.bind_some]
    rw [decide_eq_false (by omega), List.take_of_length_le (by omega), ← h1]; rfl)
  have h0 : ((W : Int), (0 : Int), ds[i].Blocks) = (fun k : Nat => (((W + k : Nat) : Int), (k : Int), ((ds[i].Wait.zip (m.drop W)).take k).foldl setR ds[i].Blocks)) 0 := by simp
  rw [h0, this]
theorem rcut_eq {ds : List Disk} (h : MayDs ds) (keep : List Bool) (hk30 : keep.length ≤ 30000) (m : List Bool) (hm : m.length = waitsN ds) (hmk : ∀ k, marksAt keep k = marksAt m k) : ref05_Cut ds keep = some (cutL ds m) := by
  have hn2 := h.n2
  have hcl := cutL_len ds m
  unfold ref05_Cut
  have := loop_run (step := fun s : (List Disk) × Int × Int => ref05_Cut_L1 ds keep s.1 s.2.1 s.2.2) (fun k => ((cutL ds m).take k, ((waitsN (ds.take k) : Nat) : Int), (k : Int))) ds.length (cutL ds m) (fuel_ltD (by omega)) (fun k hk => by
    have hd := h.m _ (List.getElem_mem hk)
    have hs := hd.small.nb
    unfold ref05_Cut_L1
    simp only
    rw [decide_eq_true (by omega), idx_nat, List.getElem?_eq_getElem hk]
    simp only [cond_true, Option.bind_some]
    rw [app_some _ _ (by simp; omega)]
    simp only [List.nil_append, Option.bind_some]
    rw [cut_inner h keep hk30 hk m hm hmk]
    simp only [Option.bind_some]
    rw [app_some _ _ (by simp; omega), wI_succ (by omega), take_succ_get _ _ _ (cutL_get ds m k hk)]; rfl) (by
    unfold ref05_Cut_L1
    simp only
    rw [decide_eq_false (by omega), List.take_of_length_le (l := cutL ds m) (by omega)]; rfl)
  have h0 : (([] : List Disk), (0 : Int), (0 : Int)) = (fun k : Nat => ((cutL ds m).take k, ((waitsN (ds.take k) : Nat) : Int), (k : Int))) 0 := by simp [waitsN]
  rw [h0, this]; rfl
def cutRR (ds : List Disk) (keep : List Bool) : List Disk × Int := bif !mayDs ds then ([], 8) else bif decide (waitsN ds < keep.length) then ([], 2) else (cutL ds (marksC ds keep), 0)
theorem rcrash_eq {ds : List Disk} (hl : ds.length < 4294967296) (keep : List Bool) (hk30 : keep.length ≤ 30000) : ref05_Crash ds keep = some (cutRR ds keep) := by
  unfold ref05_Crash cutRR
  rw [rdevs_eq hl]
  cases hm : mayDs ds with
  | false => rfl
  | true =>
    have h := mayDs_ok hm
    simp only [Option.bind_some, Bool.not_true, cond_false]
    rw [rmany_eq h]
    simp only [Option.bind_some]
    by_cases hk : waitsN ds < keep.length
    · rw [decide_eq_true hk, decide_eq_true (by omega)]; rfl
    · rw [decide_eq_false hk, decide_eq_false (by omega)]
      simp only [cond_false]
      rw [rcut_eq h keep hk30 (marksC ds keep) (by unfold marksC; simp; omega) (fun k => by
        unfold marksAt marksC
        rw [List.getD_eq_getElem?_getD, List.getD_eq_getElem?_getD]
        by_cases hkl : k < keep.length
        · rw [List.getElem?_append_left hkl]
        · rw [List.getElem?_eq_none (by omega), List.getElem?_append_right (by omega)]
          rw [List.getElem?_replicate]
          split <;> rfl)]
      rfl

theorem loop_idC {B : Type} {step : Int → Option (Ctl Int B)} (n : Nat) (b : B) (hn : n < 4294967296) (h1 : ∀ k, k < n → step (k : Int) = some (.next ((k + 1 : Nat) : Int))) (h2 : step (n : Int) = some (.brk b)) : loopM step FUEL (0 : Int) = some b := by
  have := loop_run (step := step) (fun k => (k : Int)) n b (fuel_ltD hn) h1 h2
  simpa using this
theorem spoilC_eq (x : List Disk × Int) (hl : x.1.length ≤ 100000) (h : ∀ d ∈ x.1, SmallD d) : loopM (fun s : Int => law05_ActsCrash_L3 x s) FUEL (0 : Int) = some () := by
  refine loop_idC x.1.length () (by omega) (fun k hk => ?_) ?_
  · have hs := h _ (List.getElem_mem hk)
    have hnb := hs.nb; have hnw := hs.nw
    unfold law05_ActsCrash_L3
    rw [decide_eq_true (by omega)]
    simp only [cond_true]
    rw [loop_idC x.1[k].Blocks.length () (by omega) (fun i hi => by
      have hb := hs.lb _ (List.getElem_mem hi)
      unfold law05_ActsCrash_L4
      rw [idx_nat, List.getElem?_eq_getElem hk]
      simp only [Option.bind_some]
      rw [decide_eq_true (by omega)]
      simp only [cond_true]
      rw [loop_idC x.1[k].Blocks[i].length () (by omega) (fun j hj => by
        unfold law05_ActsCrash_L5
        rw [idx_nat, List.getElem?_eq_getElem hk]
        simp only [Option.bind_some]
        rw [idx_nat, List.getElem?_eq_getElem hi]
        simp only [Option.bind_some]
        rw [decide_eq_true (by omega), idx_nat, List.getElem?_eq_getElem hj, wI_succ (by omega)]; rfl) (by
        unfold law05_ActsCrash_L5
        rw [idx_nat, List.getElem?_eq_getElem hk]
        simp only [Option.bind_some]
        rw [idx_nat, List.getElem?_eq_getElem hi]
        simp only [Option.bind_some]
        rw [decide_eq_false (by omega)]; rfl), wI_succ (by omega)]; rfl) (by
      unfold law05_ActsCrash_L4
      rw [idx_nat, List.getElem?_eq_getElem hk]
      simp only [Option.bind_some]
      rw [decide_eq_false (by omega)]; rfl)]
    simp only [Option.bind_some]
    rw [loop_idC x.1[k].Wait.length () (by omega) (fun i hi => by
      have hb := hs.lw _ (List.getElem_mem hi)
      unfold law05_ActsCrash_L6
      rw [idx_nat, List.getElem?_eq_getElem hk]
      simp only [Option.bind_some]
      rw [decide_eq_true (by omega)]
      simp only [cond_true]
      rw [loop_idC x.1[k].Wait[i].Data.length () (by omega) (fun j hj => by
        unfold law05_ActsCrash_L7
        rw [idx_nat, List.getElem?_eq_getElem hk]
        simp only [Option.bind_some]
        rw [idx_nat, List.getElem?_eq_getElem hi]
        simp only [Option.bind_some]
        rw [decide_eq_true (by omega), idx_nat, List.getElem?_eq_getElem hj, wI_succ (by omega)]; rfl) (by
        unfold law05_ActsCrash_L7
        rw [idx_nat, List.getElem?_eq_getElem hk]
        simp only [Option.bind_some]
        rw [idx_nat, List.getElem?_eq_getElem hi]
        simp only [Option.bind_some]
        rw [decide_eq_false (by omega)]; rfl), wI_succ (by omega)]; rfl) (by
      unfold law05_ActsCrash_L6
      rw [idx_nat, List.getElem?_eq_getElem hk]
      simp only [Option.bind_some]
      rw [decide_eq_false (by omega)]; rfl), wI_succ (by omega)]; rfl
  · unfold law05_ActsCrash_L3
    rw [decide_eq_false (by omega)]; rfl
theorem sameC_loop {ds : List Disk} (hl : ds.length ≤ 100000) (hs : ∀ d ∈ ds, SmallD d) (x : List Disk × Int) :
    loopM (fun s : Bool × Int => law05_ActsCrash_L2 ds ds x s.1 s.2) FUEL (true, (0 : Int)) = some true := by
  have := loop_run (step := fun s : Bool × Int => law05_ActsCrash_L2 ds ds x s.1 s.2) (fun k => (true, (k : Int))) (min x.1.length ds.length) true (fuel_ltD (by omega)) (fun k hk => by
    have hk2 : k < ds.length := by omega
    unfold law05_ActsCrash_L2
    simp only
    rw [decide_eq_true (by omega), decide_eq_true (by omega), idx_nat, List.getElem?_eq_getElem hk2]
    simp only [Bool.and_self, cond_true, gO, Option.bind_some]
    rw [rsame_eq (hs _ (List.getElem_mem hk2)) (hs _ (List.getElem_mem hk2)), decide_eq_true rfl, wI_succ (by omega)]; rfl) (by
    unfold law05_ActsCrash_L2
    simp only
    rw [show (decide (((min x.1.length ds.length : Nat) : Int) < (x.1.length : Int)) && decide (((min x.1.length ds.length : Nat) : Int) < (ds.length : Int))) = false by simp; omega]
    rfl)
  have h0 : (true, (0 : Int)) = (fun k : Nat => (true, (k : Int))) 0 := rfl
  rw [h0, this]
theorem actscrash_true (ds : List Disk) (keep : List Bool) : law05_ActsCrash ds keep = some true := by
  unfold law05_ActsCrash
  obtain ⟨g1, e1, h1⟩ := agreat_eq ds
  rw [e1]
  simp only [Option.bind_some]
  cases hg : (g1 || decide (((keep.length : Nat) : Int) > 30000)) with
  | true => rfl
  | false =>
  simp only [Bool.or_eq_false_iff, decide_eq_false_iff_not] at hg
  obtain ⟨d1, d2⟩ := h1 hg.1
  simp only [cond_false]
  rw [atwin_eq (by omega) d2]
  simp only [Option.bind_some]
  rw [pcrash_eq, rcrash_eq (by omega) keep (by omega), pwaits_eq, rwaits_eq (by omega)]
  simp only [Option.bind_some]
  have hP : (crashR ds keep).1.length ≤ 100000 ∧ (∀ d ∈ (crashR ds keep).1, SmallD d) ∧ (∀ d ∈ (cutRR ds keep).1, SmallD d) ∧ (crashR ds keep).1.map viewD = (cutRR ds keep).1.map viewD ∧ (crashR ds keep).2 = (cutRR ds keep).2 := by
    unfold crashR cutRR
    cases hm : mayDs ds with
    | false => simp
    | true =>
      have h := mayDs_ok hm
      simp only [Bool.not_true, cond_false]
      cases decide (waitsN ds < keep.length) with
      | true => simp
      | false =>
        have hx := crashL_mays h (marksC ds keep)
        have := hx.n2
        exact ⟨by simp only [cond_false]; omega, hx.small, cutL_small _ _ h.m, crash_views _ _, rfl⟩
  obtain ⟨q1, q2, q3, q4, q5⟩ := hP
  rw [asame_eq q1 q2 q3, decide_eq_true q4]
  simp only [Option.bind_some]
  rw [spoilC_eq _ q1 q2]
  simp only [Option.bind_some]
  unfold law05_ActsCrash_J1
  rw [q5]
  simp only [beq_self_eq_true, Bool.and_self]
  rw [sameC_loop (by omega) d2]
  simp only [Option.bind_some, gO, cond_true]
  rw [asame_eq (by omega) d2 d2]
  simp
end Go.Proofs.Ytgkhjpfnmbdchaa
