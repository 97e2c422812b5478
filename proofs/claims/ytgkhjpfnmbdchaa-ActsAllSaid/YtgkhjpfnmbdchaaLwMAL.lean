/- Plain laws, in one text. -/
import Derived.Test.YtgkhjpfnmbdchaaGaa2
namespace Go.Proofs.Ytgkhjpfnmbdchaa
open Go GL
/- Plain law: devices: which may be, copies, blocks. -/

theorem fuel_ltD {n : Nat} (h : n < 4294967296) : n < FUEL := by unfold FUEL; omega
theorem loop_anyD {α B : Type} (l : List α) (p : α → Bool) {step : Int → Option (Ctl Int B)} (yes no : B) (hl : l.length < 4294967296)
    (h1 : ∀ k (hk : k < l.length), step (k : Int) = some (bif p l[k] then .brk yes else .next ((k + 1 : Nat) : Int))) (h2 : step (l.length : Int) = some (.brk no)) :
    loopM step FUEL (0 : Int) = some (bif l.any p then yes else no) := by
  have := loop_any (step := step) (fun k => (k : Int)) l.length (fun k => (l[k]?.map p).getD false) yes no (fuel_ltD hl) (fun k hk => by
    rw [h1 k hk]; simp [hk]) h2
  rw [any_range l p _ (fun k hk => by simp [hk])] at this
  simpa using this
/-- The same for two lists of one length. -/
theorem loop_any2 {α β B : Type} (l : List α) (m : List β) (p : α → β → Bool) {step : Int → Option (Ctl Int B)} (yes no : B) (hl : l.length < 4294967296) (hm : l.length = m.length)
    (h1 : ∀ k (hk : k < l.length) (hk' : k < m.length), step (k : Int) = some (bif p l[k] m[k] then .brk yes else .next ((k + 1 : Nat) : Int))) (h2 : step (l.length : Int) = some (.brk no)) :
    loopM step FUEL (0 : Int) = some (bif (l.zip m).any (fun x => p x.1 x.2) then yes else no) := by
  have hz : (l.zip m).length = l.length := by simp; omega
  have := loop_anyD (l.zip m) (fun x => p x.1 x.2) (step := step) yes no (by omega) (fun k hk => by
    rw [h1 k (by omega) (by omega)]; simp) (by rw [hz]; exact h2)
  exact this
theorem zip_any_ne {α γ : Type} [DecidableEq γ] (f : α → γ) : ∀ (l m : List α), l.length = m.length → ((l.zip m).any (fun x => !decide (f x.1 = f x.2))) = !decide (l.map f = m.map f)
  | [], [], _ => by simp
  | [], _ :: _, h => by simp at h
  | _ :: _, [], h => by simp at h
  | a :: l, b :: m, h => by
    simp only [List.zip_cons_cons, List.any_cons, List.map_cons, zip_any_ne f l m (by simpa using h)]
    rw [Bool.eq_iff_iff]
    simp only [Bool.or_eq_true, Bool.not_eq_true', decide_eq_false_iff_not, List.cons.injEq]
    by_cases h1 : f a = f b <;> by_cases h2 : l.map f = m.map f <;> simp [h1, h2]

def fullB (b : List UInt8) : List UInt8 := if b.length = 0 then List.replicate 128 0 else b
def szB (b : List UInt8) : Bool := b.length == 0 || b.length == 128
theorem fullB_len {b : List UInt8} (h : szB b = true) : (fullB b).length = 128 := by
  unfold szB at h; unfold fullB
  simp at h
  split
  · simp
  · rcases h with h | h
    · subst h; simp at *
    · exact h
theorem fullB_ne (b : List UInt8) : (fullB b).length ≠ 0 := by
  unfold fullB
  split
  · rw [List.length_replicate]; omega
  · assumption
theorem fullB_full (b : List UInt8) : fullB (fullB b) = fullB b := by
  rw [show fullB (fullB b) = if (fullB b).length = 0 then List.replicate 128 0 else fullB b from rfl, if_neg (fullB_ne b)]
theorem szB_full {b : List UInt8} (h : szB b = true) : szB (fullB b) = true := by
  have := fullB_len h
  unfold szB; rw [this]; rfl

theorem pblock_eq {b : List UInt8} (h : b.length < 4294967296) : disk_block b = some (fullB b) := by
  unfold disk_block slices_Clone_byte_byte fullB
  by_cases h0 : b.length = 0
  · rw [if_pos h0, show (((b.length : Nat) : Int) == 0) = true by simp [h0]]
    rw [show (128 : Int) = ((128 : Nat) : Int) from rfl, makeL_some _ _ (by omega)]; rfl
  · rw [if_neg h0, show (((b.length : Nat) : Int) == 0) = false by simp; intro hb; apply h0; simp [hb]]
    rw [app_some _ _ (by simpa using h)]; rfl
theorem podd_eq (b : List UInt8) : disk_odd b = some (!szB b) := by
  unfold disk_odd szB
  congr 1
  rw [Bool.eq_iff_iff]; simp only [Bool.and_eq_true, bne_iff_ne, ne_eq, Bool.not_eq_true', Bool.or_eq_false_iff, beq_eq_false_iff_ne]; omega
/-- Devices of sizes that are gone through. -/
structure SmallD (d : Disk) : Prop where
  nb : d.Blocks.length ≤ 100000
  nw : d.Wait.length ≤ 100000
  lb : ∀ b ∈ d.Blocks, b.length ≤ 1000000
  lw : ∀ w ∈ d.Wait, w.Data.length ≤ 1000000

theorem sum_loop {α : Type} (l : List α) (len : α → Nat) (m : Nat) (hm : m ≤ 2000) {step : Int × Int → Option (Ctl (Int × Int) Int)} (n0 : Int) (h0 : 0 ≤ n0) (h0' : n0 ≤ 1000000000)
    (h1 : ∀ k (hk : k < l.length) (n : Int), k < m → step (n, (k : Int)) = some (.next (wI (n + wI (8 + min ((len l[k] : Nat) : Int) 100000)), wI ((k : Int) + 1))))
    (h2 : ∀ (n : Int) (k : Nat), ¬(k < l.length ∧ k < m) → step (n, (k : Int)) = some (.brk n)) :
    ∃ b, loopM step FUEL (n0, (0 : Int)) = some b ∧ n0 ≤ b ∧ b ≤ n0 + 200000 * m ∧ ∀ j (hj : j < l.length), j < m → min ((len l[j] : Nat) : Int) 100000 ≤ b := by
  refine loop_inv (step := step) (min l.length m)
    (fun k s => s.2 = (k : Int) ∧ n0 ≤ s.1 ∧ s.1 ≤ n0 + 200000 * (k : Int) ∧ ∀ j (hj : j < l.length), j < k → min ((len l[j] : Nat) : Int) 100000 ≤ s.1) _ (fun k s hk hI => ?_) FUEL 0 (n0, 0) (Nat.zero_le _) (by unfold FUEL; omega) ⟨rfl, by simp, by simp, fun j _ hj => by omega⟩
  obtain ⟨s1, s2⟩ := s
  obtain ⟨e1, e2, e3, e4⟩ := hI
  simp only at e1 e2 e3 e4
  subst e1
  by_cases hlt : k < l.length ∧ k < m
  · refine .inl ⟨_, h1 k hlt.1 s1 hlt.2, by omega, ?_⟩
    rw [wI_id (x := 8 + min ((len l[k] : Nat) : Int) 100000) (by omega) (by omega), wI_id (by omega) (by omega), wI_succ (by omega)]
    refine ⟨rfl, by simp only; omega, by simp only; omega, fun j hj hjk => ?_⟩
    simp only
    by_cases hjk' : j = k
    · subst hjk'; omega
    · have := e4 j hj (by omega); omega
  · exact .inr ⟨s1, h2 s1 k hlt, e2, by omega, fun j hj hjm => e4 j hj (by omega)⟩

theorem dgreat_eq (d : Disk) : ∃ g, ref04_Great d = some g ∧ (g = false → SmallD d ∧ d.Blocks.length ≤ 300 ∧ d.Wait.length ≤ 1100) := by
  unfold ref04_Great
  obtain ⟨b5, hb, h1, h2, h3⟩ := sum_loop d.Blocks List.length 400 (by omega) (step := fun s : Int × Int => ref04_Great_L1 d s.1 s.2) 0 (by omega) (by omega) (fun k hk n hm => by
      show ref04_Great_L1 d n (k : Int) = _
      unfold ref04_Great_L1
      rw [show (decide ((k : Int) < (d.Blocks.length : Int)) && decide ((k : Int) < (400 : Int))) = true by simp; omega, idx_nat, List.getElem?_eq_getElem hk]; rfl) (fun n k hk => by
      show ref04_Great_L1 d n (k : Int) = _
      unfold ref04_Great_L1
      rw [show (decide ((k : Int) < (d.Blocks.length : Int)) && decide ((k : Int) < (400 : Int))) = false by simp; omega]; rfl)
  rw [hb]
  simp only [Option.bind_some]
  obtain ⟨b6, hc, k1, k2, k3⟩ := sum_loop d.Wait (fun w => w.Data.length) 1200 (by omega) (step := fun s : Int × Int => ref04_Great_L2 d s.1 s.2) b5 (by omega) (by omega) (fun k hk n hm => by
      show ref04_Great_L2 d n (k : Int) = _
      unfold ref04_Great_L2
      rw [show (decide ((k : Int) < (d.Wait.length : Int)) && decide ((k : Int) < (1200 : Int))) = true by simp; omega, idx_nat, List.getElem?_eq_getElem hk]; rfl) (fun n k hk => by
      show ref04_Great_L2 d n (k : Int) = _
      unfold ref04_Great_L2
      rw [show (decide ((k : Int) < (d.Wait.length : Int)) && decide ((k : Int) < (1200 : Int))) = false by simp; omega]; rfl)
  rw [hc]
  simp only [Option.bind_some]
  refine ⟨_, rfl, fun hg => ?_⟩
  simp only [Bool.or_eq_false_iff, decide_eq_false_iff_not, Int.not_lt] at hg
  obtain ⟨⟨g1, g2⟩, g3⟩ := hg
  refine ⟨⟨by omega, by omega, fun b hb => ?_, fun w hw => ?_⟩, by omega, by omega⟩
  · obtain ⟨j, hj, rfl⟩ := List.getElem_of_mem hb
    have := h3 j hj (by omega); omega
  · obtain ⟨j, hj, rfl⟩ := List.getElem_of_mem hw
    have := k3 j hj (by omega); omega

theorem ptwin_eq {d : Disk} (h : SmallD d) : disk_Twin d = some d := by
  have hnb := h.nb
  have hnw := h.nw
  unfold disk_Twin
  have t1 := loop_run (step := fun s : Int × (List (List UInt8)) => disk_Twin_L1 d s.1 s.2) (fun k => ((k : Int), d.Blocks.take k)) d.Blocks.length d.Blocks (fuel_ltD (by omega)) (fun k hk => by
    obtain ⟨x, hx⟩ : ∃ x, d.Blocks[k]? = some x := ⟨_, List.getElem?_eq_getElem hk⟩
    have hxl := h.lb x (List.mem_of_getElem? hx)
    unfold disk_Twin_L1 slices_Clone_byte_byte
    simp only [decide_eq_true (show (k : Int) < (d.Blocks.length : Int) by omega), cond_true, idx_nat, hx, Option.bind_some, wI_succ (show k < 9223372036854775807 by omega)]
    rw [app_some _ _ (by simp; omega)]
    simp only [Option.bind_some, List.nil_append]
    rw [app_some _ _ (by simp; omega), take_succ_get _ _ _ hx]
    rfl) (by
    unfold disk_Twin_L1
    rw [decide_eq_false (by omega), List.take_length]; rfl)
  have h0 : ((0 : Int), ([] : List (List UInt8))) = (fun k : Nat => ((k : Int), d.Blocks.take k)) 0 := by simp
  rw [h0, t1]
  simp only [Option.bind_some]
  have t2 := loop_run (step := fun s : Int × (List Write) => disk_Twin_L2 d s.1 s.2) (fun k => ((k : Int), d.Wait.take k)) d.Wait.length d.Wait (fuel_ltD (by omega)) (fun k hk => by
    obtain ⟨x, hx⟩ : ∃ x, d.Wait[k]? = some x := ⟨_, List.getElem?_eq_getElem hk⟩
    have hxl := h.lw x (List.mem_of_getElem? hx)
    unfold disk_Twin_L2 slices_Clone_byte_byte
    simp only [decide_eq_true (show (k : Int) < (d.Wait.length : Int) by omega), cond_true, idx_nat, hx, Option.bind_some, wI_succ (show k < 9223372036854775807 by omega)]
    rw [app_some _ _ (by simp; omega)]
    simp only [Option.bind_some, List.nil_append]
    rw [app_some _ _ (by simp; omega), take_succ_get _ _ _ hx]
    rfl) (by
    unfold disk_Twin_L2
    rw [decide_eq_false (by omega), List.take_length]; rfl)
  have h1 : ((0 : Int), ([] : List Write)) = (fun k : Nat => ((k : Int), d.Wait.take k)) 0 := by simp
  rw [h1, t2]; rfl

/-! ### which devices may be -/
def badW (n : Nat) (w : Write) : Bool := decide (w.At < 0) || (decide (w.At ≥ (n : Int)) || !szB w.Data)
def mayD (d : Disk) : Bool :=
  decide (1 ≤ d.Blocks.length) && (decide (d.Blocks.length ≤ 256) && (decide (d.Wait.length ≤ 1024) && (!(d.Dead && decide (0 < d.Wait.length)) && (!(d.Blocks.any fun b => !szB b || (d.Dead && decide (0 < b.length))) && !(d.Wait.any (badW d.Blocks.length))))))
structure MayD (d : Disk) : Prop where
  n1 : 1 ≤ d.Blocks.length
  n2 : d.Blocks.length ≤ 256
  nw : d.Wait.length ≤ 1024
  dw : d.Dead = true → d.Wait = []
  db : d.Dead = true → ∀ b ∈ d.Blocks, b = []
  sz : ∀ b ∈ d.Blocks, szB b = true
  wt : ∀ w ∈ d.Wait, 0 ≤ w.At ∧ w.At < (d.Blocks.length : Int) ∧ szB w.Data = true
theorem mayD_iff (d : Disk) : mayD d = true ↔ MayD d := by
  unfold mayD
  simp only [Bool.and_eq_true, decide_eq_true_eq, Bool.not_eq_true', List.any_eq_false, Bool.or_eq_true, not_or, Bool.and_eq_false_iff, decide_eq_false_iff_not, badW, not_and]
  constructor
  · rintro ⟨h1, h2, h3, h4, h5, h6⟩
    refine ⟨h1, h2, h3, fun hd => ?_, fun hd b hb => ?_, fun b hb => ?_, fun w hw => ?_⟩
    · rcases h4 with h4 | h4
      · rw [hd] at h4; cases h4
      · exact List.eq_nil_of_length_eq_zero (by omega)
    · have := (h5 b hb).2 hd
      exact List.eq_nil_of_length_eq_zero (by omega)
    · have := (h5 b hb).1
      simpa using this
    · obtain ⟨k1, k2, k3⟩ := h6 w hw
      exact ⟨by omega, by omega, by simpa using k3⟩
  · rintro ⟨h1, h2, h3, h4, h5, h6, h7⟩
    refine ⟨h1, h2, h3, ?_, fun b hb => ⟨by rw [h6 b hb]; simp, fun hd => by rw [h5 hd b hb]; simp⟩, fun w hw => ?_⟩
    · cases hd : d.Dead with
      | false => exact .inl rfl
      | true => right; rw [h4 hd]; simp
    · obtain ⟨k1, k2, k3⟩ := h7 w hw
      exact ⟨by omega, by omega, by rw [k3]; simp⟩
theorem MayD.small {d : Disk} (h : MayD d) : SmallD d :=
  ⟨by have := h.n2; omega, by have := h.nw; omega, fun b hb => by have := h.sz b hb; unfold szB at this; simp at this; rcases this with e | e <;> simp_all,
    fun w hw => by have := (h.wt w hw).2.2; unfold szB at this; simp at this; rcases this with e | e <;> simp_all⟩

/-- A loop that looks for the first element with p. -/
theorem loop_first {α B : Type} (l : List α) (p : α → Bool) {step : Int → Option (Ctl Int B)} (yes : Nat → B) (no : B) (hl : l.length < 4294967296)
    (h1 : ∀ k (hk : k < l.length), step (k : Int) = some (bif p l[k] then .brk (yes k) else .next ((k + 1 : Nat) : Int))) (h2 : step (l.length : Int) = some (.brk no)) :
    ∃ b, loopM step FUEL (0 : Int) = some b ∧ ((∃ k, b = yes k ∧ ∃ hk : k < l.length, p l[k] = true ∧ ∀ j (hj : j < l.length), j < k → p l[j] = false) ∨ (b = no ∧ ∀ x ∈ l, p x = false)) := by
  refine loop_inv (step := step) l.length (fun k s => s = (k : Int) ∧ ∀ j (hj : j < l.length), j < k → p l[j] = false) _ (fun k s hk hI => ?_) FUEL 0 0 (Nat.zero_le _) (by have := fuel_ltD hl; omega) ⟨rfl, fun j _ hj => by omega⟩
  obtain ⟨rfl, hI⟩ := hI
  by_cases hlt : k < l.length
  · rw [h1 k hlt]
    cases hp : p l[k] with
    | true => exact .inr ⟨_, rfl, .inl ⟨k, rfl, hlt, hp, hI⟩⟩
    | false =>
      refine .inl ⟨_, rfl, hlt, rfl, fun j hj hjk => ?_⟩
      by_cases he : j = k
      · subst he; exact hp
      · exact hI j hj (by omega)
  · obtain rfl : k = l.length := by omega
    refine .inr ⟨_, h2, .inr ⟨rfl, fun x hx => ?_⟩⟩
    obtain ⟨j, hj, rfl⟩ := List.getElem_of_mem hx
    exact hI j hj hj
theorem contB_eq (l : List (List UInt8)) (f : List UInt8 → Option Bool) (p : List UInt8 → Bool) (hl : l.length < 4294967296) (hf : ∀ x ∈ l, f x = some (p x)) : slices_ContainsFunc_byte_byte l f = some (l.any p) := by
  unfold slices_ContainsFunc_byte_byte slices_IndexFunc_byte_byte
  obtain ⟨b, hb, hq⟩ := loop_first l p (step := fun s : Int => slices_IndexFunc_byte_byte_L1 l f s) (fun k => Sum.inr (k : Int)) (Sum.inl ()) hl (fun k hk => by
      unfold slices_IndexFunc_byte_byte_L1
      rw [decide_eq_true (show (k : Int) < (l.length : Int) by omega), idx_nat, List.getElem?_eq_getElem hk, wI_succ (by omega)]
      simp only [cond_true, Option.bind_some, hf l[k] (List.getElem_mem _)]
      cases p l[k] <;> rfl) (by
      unfold slices_IndexFunc_byte_byte_L1
      rw [decide_eq_false (show ¬(l.length : Int) < (l.length : Int) by omega)]; rfl)
  rw [hb]
  rcases hq with ⟨k, rfl, hk, hp, _⟩ | ⟨rfl, hn⟩
  · rw [List.any_eq_true.2 ⟨l[k], List.getElem_mem _, hp⟩]; simp
  · rw [List.any_eq_false.2 (fun x hx => by rw [hn x hx]; simp)]; rfl
theorem indexW_eq (l : List Write) (f : Write → Option Bool) (p : Write → Bool) (hl : l.length < 4294967296) (hf : ∀ x ∈ l, f x = some (p x)) :
    ∃ i, slices_IndexFunc_api_Write_api_Write l f = some i ∧ ((∃ k : Nat, i = (k : Int) ∧ ∃ hk : k < l.length, p l[k] = true ∧ ∀ j (hj : j < l.length), j < k → p l[j] = false) ∨ (i = -1 ∧ ∀ x ∈ l, p x = false)) := by
  unfold slices_IndexFunc_api_Write_api_Write
  obtain ⟨b, hb, hq⟩ := loop_first l p (step := fun s : Int => slices_IndexFunc_api_Write_api_Write_L1 l f s) (fun k => Sum.inr (k : Int)) (Sum.inl ()) hl (fun k hk => by
      unfold slices_IndexFunc_api_Write_api_Write_L1
      rw [decide_eq_true (show (k : Int) < (l.length : Int) by omega), idx_nat, List.getElem?_eq_getElem hk, wI_succ (by omega)]
      simp only [cond_true, Option.bind_some, hf l[k] (List.getElem_mem _)]
      cases p l[k] <;> rfl) (by
      unfold slices_IndexFunc_api_Write_api_Write_L1
      rw [decide_eq_false (show ¬(l.length : Int) < (l.length : Int) by omega)]; rfl)
  rw [hb]
  rcases hq with ⟨k, rfl, hk, hp, hm⟩ | ⟨rfl, hn⟩
  · exact ⟨_, rfl, .inl ⟨k, rfl, hk, hp, hm⟩⟩
  · exact ⟨_, rfl, .inr ⟨rfl, hn⟩⟩
theorem contW_eq (l : List Write) (f : Write → Option Bool) (p : Write → Bool) (hl : l.length < 4294967296) (hf : ∀ x ∈ l, f x = some (p x)) : slices_ContainsFunc_api_Write_api_Write l f = some (l.any p) := by
  unfold slices_ContainsFunc_api_Write_api_Write
  obtain ⟨i, hi, hq⟩ := indexW_eq l f p hl hf
  rw [hi]
  rcases hq with ⟨k, rfl, hk, hp, _⟩ | ⟨rfl, hn⟩
  · rw [List.any_eq_true.2 ⟨l[k], List.getElem_mem _, hp⟩]; simp
  · rw [List.any_eq_false.2 (fun x hx => by rw [hn x hx]; simp)]; rfl

theorem any_orD {α : Type} (l : List α) (p q : α → Bool) : (l.any fun x => p x || q x) = (l.any p || l.any q) := by
  induction l with
  | nil => rfl
  | cons a l ih => simp only [List.any_cons, ih]; cases p a <;> cases q a <;> cases l.any p <;> rfl

theorem pcheck_eq (d : Disk) : disk_Check d = some (bif mayD d then 0 else 8) := by
  unfold disk_Check mayD
  by_cases h1 : 1 ≤ d.Blocks.length
  case neg =>
    rw [decide_eq_true (show ((d.Blocks.length : Nat) : Int) < 1 by omega), decide_eq_false h1]; rfl
  by_cases h2 : d.Blocks.length ≤ 256
  case neg =>
    rw [decide_eq_true (show ((d.Blocks.length : Nat) : Int) > 256 by omega), decide_eq_false h2]; simp [gO]
  by_cases h3 : d.Wait.length ≤ 1024
  case neg =>
    rw [decide_eq_true (show ((d.Wait.length : Nat) : Int) > 1024 by omega), decide_eq_false h3]; simp [gO]
  rw [decide_eq_false (show ¬((d.Blocks.length : Nat) : Int) < 1 by omega), decide_eq_false (show ¬((d.Blocks.length : Nat) : Int) > 256 by omega), decide_eq_false (show ¬((d.Wait.length : Nat) : Int) > 1024 by omega)]
  rw [decide_eq_true h1, decide_eq_true h2, decide_eq_true h3]
  simp only [Bool.or_self, Bool.not_false, gO, cond_true, Bool.false_or, Bool.true_and]
  rw [contB_eq d.Blocks _ (fun b => !szB b) (by omega) (fun x _ => podd_eq x)]
  simp only [Option.bind_some]
  rw [any_orD]
  cases hs : (d.Blocks.any fun b => !szB b) with
  | true => simp
  | false =>
  simp only [cond_false, Bool.false_or]
  rw [contW_eq d.Wait _ (badW d.Blocks.length) (by omega) (fun w _ => by
    unfold disk_Check_1 badW
    rw [podd_eq]
    cases decide (w.At < 0) <;> cases decide (w.At ≥ ((d.Blocks.length : Nat) : Int)) <;> simp [gO])]
  simp only [Option.bind_some]
  cases hw : d.Wait.any (badW d.Blocks.length) with
  | true => simp
  | false =>
  simp only [cond_false, Bool.not_false, Bool.and_true]
  rw [contB_eq d.Blocks _ (fun b => decide (0 < b.length)) (by omega) (fun x _ => by
    unfold disk_Check_2; congr 1; exact decide_eq_decide.2 (by omega))]
  rw [show decide (((d.Wait.length : Nat) : Int) > 0) = decide (0 < d.Wait.length) from decide_eq_decide.2 (by omega)]
  cases hd : d.Dead with
  | false =>
    have hf : (d.Blocks.any fun b => (false && decide (0 < b.length))) = false := List.any_eq_false.2 (fun _ _ => by simp)
    simp only [Bool.false_and, cond_false, Option.bind_some, Bool.not_false, Bool.true_and] at hf ⊢
    rw [hf]; rfl
  | true =>
    cases hn : decide (0 < d.Wait.length) with
    | true => simp
    | false =>
      simp only [Bool.true_and, Bool.not_false, cond_true, Option.bind_some, Bool.false_or]
      cases d.Blocks.any (fun b => decide (0 < b.length)) <;> rfl

/- Plain law: devices: comparing, reading, writing. -/

def viewW (w : Write) : Int × List UInt8 := (w.At, fullB w.Data)
def viewD (d : Disk) : List (List UInt8) × List (Int × List UInt8) × Bool := (d.Blocks.map fullB, d.Wait.map viewW, d.Dead)

theorem beqL (a b : List UInt8) : (a == b) = decide (a = b) := by rw [Bool.eq_iff_iff]; simp

/-! ### reading -/
def liesD (d : Disk) (at_ : Nat) : List UInt8 := fullB (d.Blocks.getD at_ [])
def overW (at_ : Int) (acc : List UInt8) (w : Write) : List UInt8 := if w.At = at_ then fullB w.Data else acc
def seenD (d : Disk) (at_ : Nat) : List UInt8 := d.Wait.foldl (overW (at_ : Int)) (liesD d at_)
def askD (d : Disk) (at_ : Int) : Int := bif mayD d then (bif decide (at_ < 0) || decide (at_ ≥ (d.Blocks.length : Int)) then 2 else 0) else 8

theorem over_none (at_ : Int) : ∀ (l : List Write) (acc : List UInt8), (∀ w ∈ l, w.At ≠ at_) → l.foldl (overW at_) acc = acc
  | [], _, _ => rfl
  | w :: l, acc, h => by
    rw [List.foldl_cons, show overW at_ acc w = acc from if_neg (h w (by simp))]
    exact over_none at_ l acc (fun x hx => h x (by simp [hx]))
theorem over_last (at_ : Int) (l : List Write) (acc : List UInt8) (i : Nat) (hi : i < l.length) (h1 : l[i].At = at_) (h2 : ∀ j (hj : j < l.length), i < j → l[j].At ≠ at_) : l.foldl (overW at_) acc = fullB l[i].Data := by
  have hsplit : l = l.take i ++ (l[i] :: l.drop (i + 1)) := by rw [List.getElem_cons_drop, List.take_append_drop]
  rw [show l.foldl (overW at_) acc = (l.take i ++ (l[i] :: l.drop (i + 1))).foldl (overW at_) acc by rw [← hsplit]]
  rw [List.foldl_append, List.foldl_cons, show overW at_ ((l.take i).foldl (overW at_) acc) l[i] = fullB l[i].Data from if_pos h1]
  refine over_none at_ _ _ (fun w hw => ?_)
  obtain ⟨j, hj, rfl⟩ := List.getElem_of_mem hw
  rw [List.getElem_drop]
  exact h2 _ _ (by omega)

theorem pplace_eq (d : Disk) (at_ : Int) : disk_place d at_ = some (askD d at_) := by
  unfold disk_place askD
  rw [pcheck_eq]
  simp only [Option.bind_some]
  cases mayD d with
  | false => rfl
  | true => cases (decide (at_ < 0) || decide (at_ ≥ (d.Blocks.length : Int))) <;> rfl
theorem askD_ok {d : Disk} {at_ : Int} (h : askD d at_ = 0) : MayD d ∧ ∃ k : Nat, at_ = (k : Int) ∧ k < d.Blocks.length := by
  unfold askD at h
  cases hm : mayD d with
  | false => rw [hm] at h; simp at h
  | true =>
    rw [hm] at h
    simp only [cond_true] at h
    cases hc : (decide (at_ < 0) || decide (at_ ≥ (d.Blocks.length : Int))) with
    | true => rw [hc] at h; simp at h
    | false =>
      simp only [Bool.or_eq_false_iff, decide_eq_false_iff_not] at hc
      exact ⟨(mayD_iff d).1 hm, at_.toNat, by omega, by omega⟩

def lastD (d : Disk) (at_ : Int) : List UInt8 × Int := bif (askD d at_ != 0) then ([], askD d at_) else bif d.Dead then ([], 40) else (liesD d at_.toNat, 0)
def readD (d : Disk) (at_ : Int) : List UInt8 × Int := bif (askD d at_ != 0) then ([], askD d at_) else bif d.Dead then ([], 40) else (seenD d at_.toNat, 0)
theorem plast_eq (d : Disk) (at_ : Int) : disk_Lasting d at_ = some (lastD d at_) := by
  unfold disk_Lasting lastD
  rw [pplace_eq]
  simp only [Option.bind_some]
  cases h : (askD d at_ != 0) with
  | true => rfl
  | false =>
    obtain ⟨hm, k, rfl, hk⟩ := askD_ok (by simpa using h)
    cases d.Dead with
    | true => rfl
    | false =>
      have := hm.small.lb _ (List.getElem_mem hk)
      simp only [cond_false, idx_nat, List.getElem?_eq_getElem hk, Option.bind_some]
      rw [pblock_eq (by omega)]
      simp [liesD, hk]
theorem pread_eq (d : Disk) (at_ : Int) : disk_Read d at_ = some (readD d at_) := by
  unfold disk_Read
  rw [plast_eq]
  simp only [Option.bind_some]
  unfold lastD readD
  cases h : (askD d at_ != 0) with
  | true => simp only [cond_true, h]
  | false =>
    obtain ⟨hm, k, rfl, hk⟩ := askD_ok (by simpa using h)
    cases d.Dead with
    | true => rfl
    | false =>
      simp only [cond_false, bne_self_eq_false, Int.toNat_natCast]
      unfold disk_Read_J1
      have hw := hm.small.nw
      obtain ⟨b, hb, hq⟩ := loop_inv (step := fun s : Int => disk_Read_L2 d (k : Int) s) d.Wait.length (fun i s => s = (d.Wait.length : Int) - 1 - (i : Int) ∧ ∀ j (hj : j < d.Wait.length), d.Wait.length - i ≤ j → d.Wait[j].At ≠ (k : Int))
        (fun b => (b = Sum.inl () ∧ seenD d k = liesD d k) ∨ b = Sum.inr (seenD d k)) (fun i s hi hI => by
        obtain ⟨rfl, hI⟩ := hI
        unfold disk_Read_L2
        by_cases hlt : i < d.Wait.length
        · have hj : d.Wait.length - 1 - i < d.Wait.length := by omega
          have hd := hm.small.lw _ (List.getElem_mem hj)
          rw [decide_eq_true (by omega), show (d.Wait.length : Int) - 1 - (i : Int) = ((d.Wait.length - 1 - i : Nat) : Int) by omega, idx_nat, List.getElem?_eq_getElem hj]
          simp only [cond_true, Option.bind_some]
          by_cases hat : d.Wait[d.Wait.length - 1 - i].At = (k : Int)
          · rw [show (d.Wait[d.Wait.length - 1 - i].At == (k : Int)) = true by simpa using hat, pblock_eq (by omega)]
            refine .inr ⟨_, rfl, .inr ?_⟩
            unfold seenD
            rw [over_last (k : Int) d.Wait _ _ hj hat (fun j hj' hlt' => hI j hj' (by omega))]
          · rw [show (d.Wait[d.Wait.length - 1 - i].At == (k : Int)) = false by simpa using hat, wI_id (by omega) (by omega)]
            refine .inl ⟨_, rfl, hlt, by omega, fun j hj' hle => ?_⟩
            by_cases he : j = d.Wait.length - 1 - i
            · subst he; exact hat
            · exact hI j hj' (by omega)
        · rw [decide_eq_false (by omega)]
          refine .inr ⟨_, rfl, .inl ⟨rfl, ?_⟩⟩
          unfold seenD
          refine over_none _ _ _ (fun w hw => ?_)
          obtain ⟨j, hj, rfl⟩ := List.getElem_of_mem hw
          exact hI j hj (by omega)) FUEL 0 ((d.Wait.length : Int) - 1) (Nat.zero_le _) (by have := fuel_ltD (show d.Wait.length < 4294967296 by omega); omega) ⟨by simp, fun j hj h => by omega⟩
      rw [wI_id (by omega) (by omega), hb]
      rcases hq with ⟨rfl, h1⟩ | rfl
      · rw [h1]; rfl
      · rfl
/- Plain law: devices: writes, flushes, deaths. -/

def noD : Disk := Disk.mk [] [] false
def errD (d : Disk) (at_ : Int) (data : List UInt8) : Int := bif (askD d at_ != 0) then askD d at_ else bif !szB data then 3 else bif d.Dead then 40 else 0
theorem askD_cases (d : Disk) (at_ : Int) : askD d at_ = 8 ∨ askD d at_ = 2 ∨ askD d at_ = 0 := by
  unfold askD
  cases mayD d with
  | false => exact .inl rfl
  | true => cases (decide (at_ < 0) || decide (at_ ≥ (d.Blocks.length : Int))) <;> simp
theorem pwerr_eq (d : Disk) (at_ : Int) (data : List UInt8) : disk_write d at_ data = some (errD d at_ data) := by
  unfold disk_write errD
  rw [pplace_eq]
  simp only [Option.bind_some]
  cases (askD d at_ != 0) with
  | true => rfl
  | false => rw [podd_eq]; simp only [cond_false, Option.bind_some]; cases szB data <;> cases d.Dead <;> rfl
theorem errD_ok {d : Disk} {at_ : Int} {data : List UInt8} (h : errD d at_ data = 0) : MayD d ∧ d.Dead = false ∧ szB data = true ∧ ∃ k : Nat, at_ = (k : Int) ∧ k < d.Blocks.length := by
  unfold errD at h
  rcases askD_cases d at_ with e | e | e
  · rw [e] at h; simp at h
  · rw [e] at h; simp at h
  · obtain ⟨h1, h2⟩ := askD_ok e
    rw [e] at h
    simp only [bne_self_eq_false, cond_false] at h
    cases hs : szB data with
    | false => rw [hs] at h; simp at h
    | true =>
      cases hd : d.Dead with
      | true => rw [hs, hd] at h; simp at h
      | false => exact ⟨h1, rfl, rfl, h2⟩
theorem szB_len {b : List UInt8} (h : szB b = true) : b.length < 4294967296 := by unfold szB at h; simp at h; rcases h with h | h <;> simp_all

def putD (d : Disk) (at_ : Int) (data : List UInt8) : Disk := { d with Wait := d.Wait ++ [⟨at_, fullB data⟩] }
def writeD (d : Disk) (at_ : Int) (data : List UInt8) : Disk × Int := bif (errD d at_ data != 0) then (noD, errD d at_ data) else bif decide (1024 ≤ d.Wait.length) then (noD, 9) else (putD d at_ data, 0)
theorem pwrite_eq (d : Disk) (at_ : Int) (data : List UInt8) : disk_Write d at_ data = some (writeD d at_ data) := by
  unfold disk_Write writeD
  rw [pwerr_eq]
  simp only [Option.bind_some]
  cases h : (errD d at_ data != 0) with
  | true => rfl
  | false =>
    obtain ⟨hm, hd, hs, k, rfl, hk⟩ := errD_ok (by simpa using h)
    have hw := hm.nw
    simp only [cond_false]
    rw [show (((d.Wait.length : Nat) : Int) == 1024) = decide (1024 ≤ d.Wait.length) by rw [Bool.eq_iff_iff]; simp; omega]
    cases hf : decide (1024 ≤ d.Wait.length) with
    | true => rfl
    | false =>
      have hf' := of_decide_eq_false hf
      rw [ptwin_eq hm.small, pblock_eq (szB_len hs)]
      simp only [cond_false, Option.bind_some]
      rw [app_some _ _ (by simp; omega)]; rfl
def keepW (at_ : Int) (w : Write) : Bool := !(w.At == at_)
theorem del_loop (at_ : Int) (l : List Write) (i0 : Nat) (hi : i0 < l.length) (hl : l.length ≤ 100000) (h0 : ∀ j (hj : j < l.length), j < i0 → (l[j].At == at_) = false) (h1 : (l[i0].At == at_) = true) :
    ∃ s : List Write, loopM (fun s : (List Write) × Int × Int => disk_Fua_L2 at_ s.1 s.2.1 s.2.2) FUEL (l, ((i0 : Nat) : Int), (((i0 + 1 : Nat)) : Int)) = some (s, (((l.filter (keepW at_)).length : Nat) : Int)) ∧
      s.length = l.length ∧ s.take (l.filter (keepW at_)).length = l.filter (keepW at_) := by
  have hf0 : (l.take (i0 + 1)).filter (keepW at_) = l.take i0 := by
    rw [take_succ_get _ _ _ (List.getElem?_eq_getElem hi), List.filter_append]
    have ha : (l.take i0).filter (keepW at_) = l.take i0 := by
      rw [List.filter_eq_self]
      intro w hw
      obtain ⟨j, hj, rfl⟩ := List.getElem_of_mem hw
      rw [List.getElem_take]
      unfold keepW
      rw [h0 j (by simp at hj; omega) (by simp at hj; omega)]; rfl
    rw [ha]
    simp [keepW, h1]
  obtain ⟨b, hb, hq⟩ := loop_inv (step := fun s : (List Write) × Int × Int => disk_Fua_L2 at_ s.1 s.2.1 s.2.2) l.length
    (fun k s => s.1.length = l.length ∧ s.2.1 = ((((l.take k).filter (keepW at_)).length : Nat) : Int) ∧ s.2.2 = (k : Int) ∧ i0 + 1 ≤ k ∧ ((l.take k).filter (keepW at_)).length < k ∧ s.1.take ((l.take k).filter (keepW at_)).length = (l.take k).filter (keepW at_) ∧ s.1.drop k = l.drop k)
    (fun b => b.2 = (((l.filter (keepW at_)).length : Nat) : Int) ∧ b.1.length = l.length ∧ b.1.take (l.filter (keepW at_)).length = l.filter (keepW at_))
    (fun k s hk hI => by
      obtain ⟨s1, s2, s3⟩ := s
      obtain ⟨e1, e2, e3, e4, e5, e6, e7⟩ := hI
      simp only at e1 e2 e3 e4 e5 e6 e7
      subst e2; subst e3
      show (∃ s', disk_Fua_L2 at_ s1 _ (k : Int) = some (.next s') ∧ _) ∨ ∃ b, disk_Fua_L2 at_ s1 _ (k : Int) = some (.brk b) ∧ _
      unfold disk_Fua_L2 disk_Fua_J4 disk_Fua_J3
      by_cases hlt : k < l.length
      · have hget : s1[k]? = some l[k] := by
          have := congrArg (fun x => x[0]?) e7
          simpa [hlt] using this
        rw [decide_eq_true (by omega), idx_nat, hget]
        simp only [cond_true, Option.bind_some]
        rw [wI_succ (show k < 9223372036854775807 by omega)]
        have htk : l.take (k + 1) = l.take k ++ [l[k]] := take_succ_get _ _ _ (List.getElem?_eq_getElem hlt)
        refine .inl ?_
        cases hat : (l[k].At == at_) with
        | true =>
          have hkp : (l.take (k + 1)).filter (keepW at_) = (l.take k).filter (keepW at_) := by rw [htk, List.filter_append]; simp [keepW, hat]
          refine ⟨_, rfl, hlt, e1, ?_, rfl, by omega, ?_, ?_, ?_⟩
          · rw [hkp]
          · rw [hkp]; omega
          · rw [hkp]; exact e6
          · simp only
            rw [← List.drop_drop, ← List.drop_drop, e7]
        | false =>
          have hkp : (l.take (k + 1)).filter (keepW at_) = (l.take k).filter (keepW at_) ++ [l[k]] := by rw [htk, List.filter_append]; simp [keepW, hat]
          have hcl : ((l.take k).filter (keepW at_)).length < s1.length := by omega
          rw [bnd_nat hcl, wI_succ (show ((l.take k).filter (keepW at_)).length < 9223372036854775807 by omega)]
          refine ⟨_, rfl, hlt, by simpa using e1, ?_, rfl, by omega, ?_, ?_, ?_⟩
          · rw [hkp, List.length_append]; rfl
          · rw [hkp, List.length_append]; simp; omega
          · rw [hkp, List.length_append]
            simp only [List.length_singleton]
            rw [take_succ_get _ _ l[k] (by rw [List.getElem?_set]; simp [hcl]), List.take_set_of_le (Nat.le_refl _), e6]
          · simp only
            rw [List.drop_set_of_lt (by omega), ← List.drop_drop, ← List.drop_drop, e7]
      · obtain rfl : k = l.length := by omega
        rw [decide_eq_false (by omega)]
        rw [List.take_length] at e6 ⊢
        exact .inr ⟨_, rfl, rfl, e1, e6⟩)
    FUEL (i0 + 1) (l, (i0 : Int), ((i0 + 1 : Nat) : Int)) (by omega) (by have := fuel_ltD (show l.length < 4294967296 by omega); omega)
    ⟨rfl, by rw [hf0]; simp; omega, rfl, Nat.le_refl _, by rw [hf0]; simp; omega, by rw [hf0]; simp, rfl⟩
  exact ⟨b.1, by rw [hb, ← hq.1], hq.2.1, hq.2.2⟩

def pfuaD (d : Disk) (k : Nat) (data : List UInt8) : Disk := ⟨d.Blocks.set k (fullB data), d.Wait.filter (keepW (k : Int)), d.Dead⟩
def rfuaD (d : Disk) (k : Nat) (data : List UInt8) : Disk := ⟨d.Blocks.set k (fullB data), (d.Wait.filter (keepW (k : Int))).map fun w => ⟨w.At, fullB w.Data⟩, d.Dead⟩
theorem fua_view (d : Disk) (k : Nat) (data : List UInt8) : viewD (pfuaD d k data) = viewD (rfuaD d k data) := by
  unfold viewD pfuaD rfuaD
  simp only [List.map_map]
  congr 2
  refine List.map_congr_left (fun w _ => ?_)
  show viewW w = viewW ⟨w.At, fullB w.Data⟩
  unfold viewW
  rw [fullB_full]
theorem pfua_eq (d : Disk) (at_ : Int) (data : List UInt8) : disk_Fua d at_ data = some (bif (errD d at_ data != 0) then (noD, errD d at_ data) else (pfuaD d at_.toNat data, 0)) := by
  unfold disk_Fua
  rw [pwerr_eq]
  simp only [Option.bind_some]
  cases h : (errD d at_ data != 0) with
  | true => rfl
  | false =>
    obtain ⟨hm, hd, hs, k, rfl, hk⟩ := errD_ok (by simpa using h)
    have hw := hm.small.nw
    simp only [cond_false, Int.toNat_natCast]
    rw [ptwin_eq hm.small, pblock_eq (szB_len hs)]
    simp only [Option.bind_some]
    rw [bnd_nat hk]
    simp only [Option.bind_some]
    obtain ⟨i, hi, hq⟩ := indexW_eq d.Wait (fun y => disk_Fua_1 y (k : Int)) (fun w => w.At == (k : Int)) (by omega) (fun w _ => rfl)
    rw [hi]
    simp only [Option.bind_some]
    unfold disk_Fua_J1 pfuaD
    rcases hq with ⟨i0, rfl, hi0, h1, h0⟩ | ⟨rfl, hn⟩
    · rw [show (((i0 : Nat) : Int) == -1) = false from beq_eq_false_iff_ne.2 (by omega)]
      simp only [cond_false]
      rw [wI_succ (by omega)]
      obtain ⟨s, hs1, hs2, hs3⟩ := del_loop (k : Int) d.Wait i0 hi0 hw h0 h1
      rw [hs1]
      simp only [Option.bind_some, Int.toNat_natCast]
      have hfl : (d.Wait.filter (keepW (k : Int))).length ≤ d.Wait.length := List.length_filter_le _ _
      unfold slc
      rw [if_pos (by omega)]
      simp only [Option.bind_some]
      rw [if_pos (by simp; omega)]
      simp only [Option.bind_some, Int.toNat_natCast]
      rw [show List.drop (Int.toNat 0) (List.take (d.Wait.filter (keepW (k : Int))).length (List.take (d.Wait.filter (keepW (k : Int))).length s ++ List.replicate (s.length - (d.Wait.filter (keepW (k : Int))).length) ⟨0, []⟩)) = d.Wait.filter (keepW (k : Int)) by
        rw [List.take_append_of_le_length (by rw [List.length_take]; omega), List.take_take, Nat.min_self, hs3]; simp]
    · rw [show ((-1 : Int) == -1) = true from rfl]
      simp only [cond_true]
      rw [List.filter_eq_self.2 (fun w hw => by unfold keepW; rw [hn w hw]; rfl)]
/-! ### flushes -/
def setW (bs : List (List UInt8)) (w : Write) : List (List UInt8) := bs.set w.At.toNat w.Data
def pflushD (d : Disk) : Disk := ⟨d.Wait.foldl setW d.Blocks, [], d.Dead⟩
def rflushD (d : Disk) : Disk := ⟨(List.range d.Blocks.length).map (seenD d), [], d.Dead⟩
theorem setW_len : ∀ (l : List Write) (bs : List (List UInt8)), (l.foldl setW bs).length = bs.length
  | [], _ => rfl
  | w :: l, bs => by rw [List.foldl_cons, setW_len l]; simp [setW]
theorem setW_mem : ∀ (l : List Write) (bs : List (List UInt8)), ∀ b ∈ l.foldl setW bs, b ∈ bs ∨ ∃ w ∈ l, b = w.Data
  | [], _, b, h => .inl h
  | w :: l, bs, b, h => by
    rw [List.foldl_cons] at h
    rcases setW_mem l _ b h with h | ⟨x, hx, rfl⟩
    · rcases List.mem_or_eq_of_mem_set h with h | h
      · exact .inl h
      · exact .inr ⟨w, by simp, h⟩
    · exact .inr ⟨x, by simp [hx], rfl⟩
theorem setW_get (k : Nat) : ∀ (l : List Write) (bs : List (List UInt8)), k < bs.length → (∀ w ∈ l, 0 ≤ w.At) → fullB ((l.foldl setW bs).getD k []) = l.foldl (overW (k : Int)) (fullB (bs.getD k []))
  | [], _, _, _ => rfl
  | w :: l, bs, hk, h => by
    rw [List.foldl_cons, List.foldl_cons, setW_get k l _ (by simpa [setW] using hk) (fun x hx => h x (by simp [hx]))]
    congr 1
    have hw := h w (by simp)
    unfold setW overW
    by_cases he : w.At = (k : Int)
    · rw [if_pos he, he]; simp [hk]
    · rw [if_neg he, List.getD_eq_getElem?_getD, List.getElem?_set_ne (by omega), ← List.getD_eq_getElem?_getD]
theorem flush_view {d : Disk} (h : MayD d) : viewD (pflushD d) = viewD (rflushD d) := by
  unfold viewD pflushD rflushD
  have : (d.Wait.foldl setW d.Blocks).map fullB = ((List.range d.Blocks.length).map (seenD d)).map fullB := by
    apply List.ext_getElem
    · simp [setW_len]
    · intro k h1 h2
      simp only [List.length_map, setW_len] at h1
      have hk2 : k < (d.Wait.foldl setW d.Blocks).length := by rw [setW_len]; exact h1
      have := setW_get k d.Wait d.Blocks h1 (fun w hw => (h.wt w hw).1)
      rw [List.getD_eq_getElem?_getD, List.getElem?_eq_getElem (by rw [setW_len]; exact h1)] at this
      simp only [List.getElem_map, List.getElem_range]
      rw [show (some (d.Wait.foldl setW d.Blocks)[k]).getD [] = (d.Wait.foldl setW d.Blocks)[k] from rfl] at this
      rw [this]
      show seenD d k = fullB (seenD d k)
      have : ∀ (l : List Write) (acc : List UInt8), fullB acc = acc → fullB (l.foldl (overW (k : Int)) acc) = l.foldl (overW (k : Int)) acc := by
        intro l
        induction l with
        | nil => intro acc h; exact h
        | cons w l ih =>
          intro acc h
          rw [List.foldl_cons]
          refine ih _ ?_
          unfold overW
          split
          · exact fullB_full _
          · exact h
      exact (this d.Wait (liesD d k) (fullB_full _)).symm
  rw [this]
theorem pflush_may {d : Disk} (h : MayD d) (hd : d.Dead = false) : MayD (pflushD d) := by
  have hdd : (pflushD d).Dead = false := hd
  refine ⟨by unfold pflushD; simp only [setW_len]; exact h.n1, by unfold pflushD; simp only [setW_len]; exact h.n2, by unfold pflushD; simp, fun _ => rfl, fun h2 => (by rw [hdd] at h2; cases h2), fun b hb => ?_, fun w hw => by unfold pflushD at hw; simp at hw⟩
  rcases setW_mem d.Wait d.Blocks b hb with hb | ⟨w, hw, rfl⟩
  · exact h.sz b hb
  · exact (h.wt w hw).2.2
theorem pflush_eq (d : Disk) : disk_Flush d = some (bif !mayD d then (noD, 8) else bif d.Dead then (noD, 40) else (pflushD d, 0)) := by
  unfold disk_Flush
  rw [pcheck_eq]
  simp only [Option.bind_some]
  cases hmd : mayD d with
  | false => rfl
  | true =>
    have hm := (mayD_iff d).1 hmd
    simp only [cond_true, bne_self_eq_false, cond_false, Bool.not_true]
    cases hd : d.Dead with
    | true => rfl
    | false =>
      have hw := hm.small.nw
      rw [ptwin_eq hm.small]
      simp only [cond_false, Option.bind_some]
      have := loop_run (step := fun s : Int × (List (List UInt8)) => disk_Flush_L1 d s.1 s.2) (fun i => ((i : Int), (d.Wait.take i).foldl setW d.Blocks)) d.Wait.length (d.Wait.foldl setW d.Blocks) (fuel_ltD (by omega)) (fun i hi => by
        obtain ⟨g1, g2, g3⟩ := hm.wt _ (List.getElem_mem hi)
        unfold disk_Flush_L1
        simp only [decide_eq_true (show (i : Int) < (d.Wait.length : Int) by omega), cond_true, idx_nat, List.getElem?_eq_getElem hi, Option.bind_some]
        rw [take_succ_get _ _ _ (List.getElem?_eq_getElem hi), List.foldl_append, wI_succ (by omega)]
        obtain ⟨k, hk⟩ : ∃ k : Nat, d.Wait[i].At = (k : Int) := ⟨d.Wait[i].At.toNat, by omega⟩
        rw [hk, bnd_nat (by rw [setW_len]; omega)]
        simp [setW, hk]) (by
        unfold disk_Flush_L1
        rw [decide_eq_false (by omega), List.take_length]; rfl)
      have h0 : ((0 : Int), d.Blocks) = (fun i : Nat => ((i : Int), (d.Wait.take i).foldl setW d.Blocks)) 0 := by simp
      rw [h0, this]
      simp only [Option.bind_some]
      have hp := ptwin_eq (pflush_may hm hd).small
      unfold pflushD at hp
      rw [hp]; rfl
def killD (d : Disk) : Disk × Int := bif !mayD d then (noD, 8) else (⟨List.replicate d.Blocks.length [], [], true⟩, 0)
theorem makeL_len {α β : Type} (z : α) (l : List β) (h : l.length ≤ 256) : makeL z ((l.length : Nat) : Int) = some (List.replicate l.length z) := by
  have h2 : l.length < 4294967296 := by omega
  exact makeL_some z l.length h2
def newD (n : Int) : Disk × Int := bif decide (n < 1) || decide (n > 256) then (noD, 2) else (⟨List.replicate n.toNat [], [], false⟩, 0)
theorem makeL_ok {α : Type} (z : α) (n : Int) (h : (decide (n < 1) || decide (n > 256)) = false) : makeL z n = some (List.replicate n.toNat z) := by
  simp only [Bool.or_eq_false_iff, decide_eq_false_iff_not] at h
  unfold makeL
  have h1 : 0 ≤ n := by omega
  have h2 : n < 4294967296 := by omega
  simp only [h1, h2, and_self, if_true]
theorem pnew_eq (n : Int) : disk_New n = some (newD n) := by
  unfold disk_New newD noD
  cases h : (decide (n < 1) || decide (n > 256)) with
  | true => simp only [cond_true]
  | false => simp only [cond_false, makeL_ok _ _ h, Option.bind_some]
/- Plain law: devices: the laws that ask no reference. -/

theorem pflush_eqD (d : Disk) : disk_Flush d = some (bif !mayD d then (noD, 8) else bif d.Dead then (noD, 40) else (pflushD d, 0)) := pflush_eq d
theorem beqS (a b : List UInt8) : ((Str.mk a).s == (Str.mk b).s) = decide (a = b) := str_eq a b

theorem ask_may {d e : Disk} (h1 : mayD e = mayD d) (h2 : e.Blocks.length = d.Blocks.length) (at_ : Int) : askD e at_ = askD d at_ := by unfold askD; rw [h1, h2]
/-- Reads of a place at which two devices are alike. -/
theorem read_like {d e : Disk} (h1 : mayD e = mayD d) (h2 : e.Blocks.length = d.Blocks.length) (h3 : e.Dead = d.Dead) (at_ : Int) (h4 : ∀ k : Nat, at_ = (k : Int) → k < d.Blocks.length → seenD e k = seenD d k) : readD e at_ = readD d at_ := by
  unfold readD
  rw [ask_may h1 h2, h3]
  cases h : (askD d at_ != 0) with
  | true => rfl
  | false =>
    obtain ⟨hm, k, rfl, hk⟩ := askD_ok (by simpa using h)
    simp only [Int.toNat_natCast]
    rw [h4 k rfl hk]
theorem last_like {d e : Disk} (h1 : mayD e = mayD d) (h2 : e.Blocks.length = d.Blocks.length) (h3 : e.Dead = d.Dead) (at_ : Int) (h4 : ∀ k : Nat, at_ = (k : Int) → k < d.Blocks.length → liesD e k = liesD d k) : lastD e at_ = lastD d at_ := by
  unfold lastD
  rw [ask_may h1 h2, h3]
  cases h : (askD d at_ != 0) with
  | true => rfl
  | false =>
    obtain ⟨hm, k, rfl, hk⟩ := askD_ok (by simpa using h)
    simp only [Int.toNat_natCast]
    rw [h4 k rfl hk]

theorem put_may {d : Disk} {k : Nat} {data : List UInt8} (hm : MayD d) (hd : d.Dead = false) (hs : szB data = true) (hk : k < d.Blocks.length) (hf : ¬ 1024 ≤ d.Wait.length) : MayD (putD d (k : Int) data) := by
  refine ⟨hm.n1, hm.n2, by simp [putD]; omega, fun h => ?_, fun h => ?_, hm.sz, fun w hw => ?_⟩
  · have h : d.Dead = true := h
    rw [hd] at h; cases h
  · have h : d.Dead = true := h
    rw [hd] at h; cases h
  · simp only [putD, List.mem_append, List.mem_singleton] at hw
    rcases hw with hw | rfl
    · exact hm.wt w hw
    · exact ⟨by simp, by simpa [putD] using hk, szB_full hs⟩
theorem fua_may {d : Disk} {k : Nat} {data : List UInt8} (hm : MayD d) (hd : d.Dead = false) (hs : szB data = true) : MayD (pfuaD d k data) := by
  have hl : (pfuaD d k data).Blocks.length = d.Blocks.length := by simp [pfuaD]
  refine ⟨by rw [hl]; exact hm.n1, by rw [hl]; exact hm.n2, Nat.le_trans (List.length_filter_le _ _) hm.nw, fun h => ?_, fun h => ?_, fun b hb => ?_, fun w hw => ?_⟩
  · have h : d.Dead = true := h
    rw [hd] at h; cases h
  · have h : d.Dead = true := h
    rw [hd] at h; cases h
  · rcases List.mem_or_eq_of_mem_set hb with hb | rfl
    · exact hm.sz b hb
    · exact szB_full hs
  · rw [hl]; exact hm.wt w (List.mem_filter.1 hw).1
theorem may_t {d : Disk} (h : MayD d) : mayD d = true := (mayD_iff d).2 h

theorem put_seen (d : Disk) (k j : Nat) (data : List UInt8) (h : k ≠ j) : seenD (putD d (k : Int) data) j = seenD d j := by
  unfold seenD putD liesD
  rw [List.foldl_append]
  simp only [List.foldl_cons, List.foldl_nil]
  unfold overW
  rw [if_neg (by simp only; omega)]
theorem over_filter (k j : Nat) (h : k ≠ j) : ∀ (l : List Write) (acc : List UInt8), (l.filter (keepW (k : Int))).foldl (overW (j : Int)) acc = l.foldl (overW (j : Int)) acc
  | [], _ => rfl
  | w :: l, acc => by
    rw [List.filter_cons]
    cases hk : keepW (k : Int) w with
    | true => simp only [if_true, List.foldl_cons]; exact over_filter k j h l _
    | false =>
      have : w.At = (k : Int) := by unfold keepW at hk; simpa using hk
      simp only [Bool.false_eq_true, if_false, List.foldl_cons]
      rw [show overW (j : Int) acc w = acc from if_neg (by omega)]
      exact over_filter k j h l acc
theorem fua_lies (d : Disk) (k j : Nat) (data : List UInt8) (h : k ≠ j) : liesD (pfuaD d k data) j = liesD d j := by
  unfold liesD pfuaD
  rw [List.getD_eq_getElem?_getD, List.getElem?_set_ne h, ← List.getD_eq_getElem?_getD]
theorem fua_seen (d : Disk) (k j : Nat) (data : List UInt8) (h : k ≠ j) : seenD (pfuaD d k data) j = seenD d j := by
  unfold seenD
  rw [fua_lies d k j data h]
  exact over_filter k j h d.Wait _

theorem pflush_lies (d : Disk) (hm : MayD d) {k : Nat} (hk : k < d.Blocks.length) : liesD (pflushD d) k = seenD d k := by
  have := congrArg (fun v => v.1) (flush_view hm)
  simp only [viewD] at this
  have h2 := congrArg (fun l => l[k]?) this
  simp only [List.getElem?_map] at h2
  have hk2 : k < (pflushD d).Blocks.length := by unfold pflushD; simp only [setW_len]; exact hk
  rw [List.getElem?_eq_getElem hk2] at h2
  unfold liesD
  rw [List.getD_eq_getElem?_getD, List.getElem?_eq_getElem hk2]
  simp only [Option.map_some, rflushD, List.getElem?_map, List.getElem?_range hk] at h2
  have h3 := Option.some.inj h2
  simp only [Option.getD_some]
  rw [h3]
  have : ∀ (l : List Write) (acc : List UInt8), fullB acc = acc → fullB (l.foldl (overW (k : Int)) acc) = l.foldl (overW (k : Int)) acc := by
    intro l
    induction l with
    | nil => intro acc h; exact h
    | cons w l ih =>
      intro acc h
      rw [List.foldl_cons]
      refine ih _ ?_
      unfold overW
      split
      · exact fullB_full _
      · exact h
  exact this d.Wait (liesD d k) (fullB_full _)
/- Plain law: lists of devices: sizes, copies, comparing. -/

theorem sum_loop2 {α : Type} (l : List α) (len : α → Nat) (hl : l.length ≤ 100000) (hlen : ∀ x ∈ l, len x ≤ 1000000) {step : Int × Int → Option (Ctl (Int × Int) Int)} (n0 : Int) (h0 : 0 ≤ n0) (h0' : n0 ≤ 1000000000000)
    (h1 : ∀ k (hk : k < l.length) (n : Int), step (n, (k : Int)) = some (.next (wI (n + wI (8 + ((len l[k] : Nat) : Int))), wI ((k : Int) + 1))))
    (h2 : ∀ (n : Int), step (n, (l.length : Int)) = some (.brk n)) :
    ∃ b, loopM step FUEL (n0, (0 : Int)) = some b ∧ n0 ≤ b ∧ b ≤ n0 + 2000000 * (l.length : Int) := by
  refine loop_inv (step := step) l.length
    (fun k s => s.2 = (k : Int) ∧ n0 ≤ s.1 ∧ s.1 ≤ n0 + 2000000 * (k : Int)) _ (fun k s hk hI => ?_) FUEL 0 (n0, 0) (Nat.zero_le _) (by unfold FUEL; omega) ⟨rfl, by simp, by simp⟩
  obtain ⟨s1, s2⟩ := s
  obtain ⟨e1, e2, e3⟩ := hI
  simp only at e1 e2 e3
  subst e1
  by_cases hlt : k < l.length
  · have hb := hlen _ (List.getElem_mem hlt)
    refine .inl ⟨_, h1 k hlt s1, hlt, ?_⟩
    rw [wI_id (x := 8 + ((len l[k] : Nat) : Int)) (by omega) (by omega), wI_id (by omega) (by omega), wI_succ (by omega)]
    exact ⟨rfl, by simp only; omega, by simp only; omega⟩
  · obtain rfl : k = l.length := by omega
    exact .inr ⟨s1, h2 s1, e2, e3⟩

theorem agreat_eq (ds : List Disk) : ∃ g, ref05_Great ds = some g ∧ (g = false → ds.length ≤ 30 ∧ ∀ d ∈ ds, SmallD d) := by
  unfold ref05_Great
  obtain ⟨b, hb, hq⟩ := loop_inv (step := fun s : Int × Int => ref05_Great_L1 ds s.1 s.2) (min ds.length 30)
    (fun k s => s.2 = (k : Int) ∧ 0 ≤ s.1 ∧ s.1 ≤ 60000 ∧ ∀ j (hj : j < ds.length), j < k → SmallD ds[j])
    (fun b => b = Sum.inr () ∨ (b = Sum.inl () ∧ (ds.length ≤ 30 → ∀ d ∈ ds, SmallD d))) (fun k s hk hI => by
    obtain ⟨s1, s2⟩ := s
    obtain ⟨e1, e2, e3, e4⟩ := hI
    simp only at e1 e2 e3 e4
    subst e1
    show (∃ s', ref05_Great_L1 ds s1 (k : Int) = some (.next s') ∧ _) ∨ ∃ b, ref05_Great_L1 ds s1 (k : Int) = some (.brk b) ∧ _
    unfold ref05_Great_L1
    by_cases hlt : k < ds.length ∧ k < 30
    · rw [show (decide ((k : Int) < (ds.length : Int)) && decide ((k : Int) < (30 : Int))) = true by simp; omega, idx_nat, List.getElem?_eq_getElem hlt.1]
      simp only [cond_true, Option.bind_some]
      obtain ⟨g, hg, hs⟩ := dgreat_eq ds[k]
      rw [hg]
      simp only [Option.bind_some]
      cases g with
      | true => exact .inr ⟨_, rfl, .inl rfl⟩
      | false =>
        obtain ⟨hs, _, _⟩ := hs rfl
        simp only [cond_false]
        obtain ⟨b1, hb1, q1, q2⟩ := sum_loop2 ds[k].Blocks List.length hs.nb hs.lb (step := fun s : Int × Int => ref05_Great_L2 ds (k : Int) s.1 s.2) s1 e2 (by omega) (fun j hj n => by
          show ref05_Great_L2 ds (k : Int) n (j : Int) = _
          unfold ref05_Great_L2
          rw [idx_nat, List.getElem?_eq_getElem hlt.1]
          simp only [Option.bind_some]
          rw [decide_eq_true (by omega), idx_nat, List.getElem?_eq_getElem hj]; rfl) (fun n => by
          show ref05_Great_L2 ds (k : Int) n _ = _
          unfold ref05_Great_L2
          rw [idx_nat, List.getElem?_eq_getElem hlt.1]
          simp only [Option.bind_some]
          rw [decide_eq_false (by omega)]; rfl)
        rw [hb1]
        simp only [Option.bind_some]
        have hnb := hs.nb
        have hnw := hs.nw
        obtain ⟨b2, hb2, q3, q4⟩ := sum_loop2 ds[k].Wait (fun w => w.Data.length) hs.nw hs.lw (step := fun s : Int × Int => ref05_Great_L3 ds (k : Int) s.1 s.2) b1 (by omega) (by omega) (fun j hj n => by
          show ref05_Great_L3 ds (k : Int) n (j : Int) = _
          unfold ref05_Great_L3
          rw [idx_nat, List.getElem?_eq_getElem hlt.1]
          simp only [Option.bind_some]
          rw [decide_eq_true (by omega), idx_nat, List.getElem?_eq_getElem hj]; rfl) (fun n => by
          show ref05_Great_L3 ds (k : Int) n _ = _
          unfold ref05_Great_L3
          rw [idx_nat, List.getElem?_eq_getElem hlt.1]
          simp only [Option.bind_some]
          rw [decide_eq_false (by omega)]; rfl)
        rw [hb2]
        simp only [Option.bind_some]
        by_cases hbig : b2 > 60000
        · rw [decide_eq_true hbig]; exact .inr ⟨_, rfl, .inl rfl⟩
        · rw [decide_eq_false hbig, wI_succ (by omega)]
          refine .inl ⟨_, rfl, by omega, rfl, by simp only; omega, by simp only; omega, fun j hj hjk => ?_⟩
          by_cases he : j = k
          · subst he; exact hs
          · exact e4 j hj (by omega)
    · rw [show (decide ((k : Int) < (ds.length : Int)) && decide ((k : Int) < (30 : Int))) = false by simp; omega]
      refine .inr ⟨_, rfl, .inr ⟨rfl, fun hle d hd => ?_⟩⟩
      obtain ⟨j, hj, rfl⟩ := List.getElem_of_mem hd
      exact e4 j hj (by omega)) FUEL 0 (0, 0) (Nat.zero_le _) (by unfold FUEL; omega) ⟨rfl, by simp, by simp, fun j _ hj => by omega⟩
  rw [hb]
  rcases hq with rfl | ⟨rfl, h⟩
  · exact ⟨_, rfl, fun h => by cases h⟩
  · refine ⟨_, rfl, fun hg => ?_⟩
    have := of_decide_eq_false hg
    exact ⟨by omega, h (by omega)⟩

/- Plain law: acts on devices: which may be done, and what they do. -/

theorem contDs_eq (l : List Disk) (f : Disk → Option Bool) (p : Disk → Bool) (hl : l.length < 4294967296) (hf : ∀ x ∈ l, f x = some (p x)) : slices_ContainsFunc_api_Disk_api_Disk l f = some (l.any p) := by
  unfold slices_ContainsFunc_api_Disk_api_Disk slices_IndexFunc_api_Disk_api_Disk
  obtain ⟨b, hb, hq⟩ := loop_first l p (step := fun s : Int => slices_IndexFunc_api_Disk_api_Disk_L1 l f s) (fun k => Sum.inr (k : Int)) (Sum.inl ()) hl (fun k hk => by
      unfold slices_IndexFunc_api_Disk_api_Disk_L1
      rw [decide_eq_true (show (k : Int) < (l.length : Int) by omega), idx_nat, List.getElem?_eq_getElem hk, wI_succ (by omega)]
      simp only [cond_true, Option.bind_some, hf l[k] (List.getElem_mem _)]
      cases p l[k] <;> rfl) (by
      unfold slices_IndexFunc_api_Disk_api_Disk_L1
      rw [decide_eq_false (show ¬(l.length : Int) < (l.length : Int) by omega)]; rfl)
  rw [hb]
  rcases hq with ⟨k, rfl, hk, hp, _⟩ | ⟨rfl, hn⟩
  · rw [List.any_eq_true.2 ⟨l[k], List.getElem_mem _, hp⟩]; simp
  · rw [List.any_eq_false.2 (fun x hx => by rw [hn x hx]; simp)]; rfl

def mayDs (ds : List Disk) : Bool := decide (1 ≤ ds.length) && (decide (ds.length ≤ 17) && !(ds.any fun d => !mayD d))
structure MayDs (ds : List Disk) : Prop where
  n1 : 1 ≤ ds.length
  n2 : ds.length ≤ 17
  m : ∀ d ∈ ds, MayD d
theorem mayDs_ok {ds : List Disk} (h : mayDs ds = true) : MayDs ds := by
  unfold mayDs at h
  simp only [Bool.and_eq_true, decide_eq_true_eq, Bool.not_eq_true', List.any_eq_false] at h
  exact ⟨h.1, h.2.1, fun d hd => (mayD_iff d).1 (by simpa using h.2.2 d hd)⟩
theorem MayDs.t {ds : List Disk} (h : MayDs ds) : mayDs ds = true := by
  unfold mayDs
  simp only [Bool.and_eq_true, decide_eq_true_eq, Bool.not_eq_true', List.any_eq_false]
  exact ⟨h.n1, h.n2, fun d hd => by rw [(mayD_iff d).2 (h.m d hd)]; simp⟩
theorem MayDs.small {ds : List Disk} (h : MayDs ds) : ∀ d ∈ ds, SmallD d := fun d hd => (h.m d hd).small
theorem pdevs_eq (ds : List Disk) : acts_devices ds = some (bif mayDs ds then 0 else 8) := by
  unfold acts_devices mayDs
  by_cases h1 : 1 ≤ ds.length
  case neg => rw [decide_eq_true (show (ds.length : Int) < 1 by omega), decide_eq_false h1]; simp [gO]
  by_cases h2 : ds.length ≤ 17
  case neg => rw [decide_eq_true (show (ds.length : Int) > 17 by omega), decide_eq_false h2]; simp [gO]
  rw [decide_eq_false (show ¬(ds.length : Int) < 1 by omega), decide_eq_false (show ¬(ds.length : Int) > 17 by omega), decide_eq_true h1, decide_eq_true h2,
    contDs_eq ds _ (fun d => !mayD d) (by omega) (fun d _ => by
      unfold acts_devices_1
      rw [pcheck_eq]
      cases mayD d <;> rfl)]
  cases ds.any (fun d => !mayD d) <;> rfl
def lensD (ds : List Disk) : List Nat := ds.map fun d => d.Blocks.length
def outA (a : Act64) (n : Nat) : Bool := decide (a.Disk < 0) || decide (a.Disk ≥ (n : Int))
def mayAct (a : Act64) (ns : List Nat) : Bool :=
  !outA a ns.length && (bif a.Kind == 3 then (a.At == 0) && decide (a.Data.length = 0) else (a.Kind == 1 || a.Kind == 2) && (decide (0 ≤ a.At) && (decide (a.At < ((ns.getD a.Disk.toNat 0 : Nat) : Int)) && szB a.Data)))
def OkAct (a : Act64) (nb : Nat) : Prop := (a.Kind = 3 ∧ a.At = 0 ∧ a.Data = []) ∨ ((a.Kind = 1 ∨ a.Kind = 2) ∧ szB a.Data = true ∧ ∃ k : Nat, a.At = (k : Int) ∧ k < nb)
theorem outA_ok {a : Act64} {n : Nat} (h : outA a n = false) : ∃ i : Nat, a.Disk = (i : Int) ∧ i < n := by
  unfold outA at h
  simp only [Bool.or_eq_false_iff, decide_eq_false_iff_not] at h
  exact ⟨a.Disk.toNat, by omega, by omega⟩
theorem mayAct_ok {a : Act64} {ns : List Nat} (h : mayAct a ns = true) : ∃ (i : Nat) (hi : i < ns.length), a.Disk = (i : Int) ∧ OkAct a ns[i] := by
  unfold mayAct at h
  simp only [Bool.and_eq_true, Bool.not_eq_true'] at h
  obtain ⟨h1, h2⟩ := h
  obtain ⟨i, e, hi⟩ := outA_ok h1
  refine ⟨i, hi, e, ?_⟩
  rw [e, Int.toNat_natCast, List.getD_eq_getElem?_getD, List.getElem?_eq_getElem hi] at h2
  by_cases hk : a.Kind = 3
  · rw [show (a.Kind == 3) = true by simpa using hk] at h2
    simp only [cond_true, Bool.and_eq_true, decide_eq_true_eq] at h2
    exact .inl ⟨hk, by simpa using h2.1, List.eq_nil_of_length_eq_zero h2.2⟩
  · rw [show (a.Kind == 3) = false by simpa using hk] at h2
    simp only [cond_false, Bool.and_eq_true, decide_eq_true_eq, Bool.or_eq_true, beq_iff_eq, Option.getD_some] at h2
    exact .inr ⟨h2.1, h2.2.2.2, a.At.toNat, by omega, by omega⟩

theorem does_eq (k : UInt8) : acts_does k = some (if k = 1 then ⟨1⟩ else if k = 2 then ⟨2⟩ else if k = 3 then ⟨3⟩ else ⟨0⟩) := by
  by_cases h0 : k = 0
  · subst h0; rfl
  by_cases h1 : k = 1
  · subst h1; rfl
  by_cases h2 : k = 2
  · subst h2; rfl
  by_cases h3 : k = 3
  · subst h3; rfl
  rw [if_neg h1, if_neg h2, if_neg h3]
  unfold acts_does
  have e0 : k.toNat ≠ 0 := fun e => h0 (UInt8.toNat_inj.1 (by rw [e]; rfl))
  have e1 : k.toNat ≠ 1 := fun e => h1 (UInt8.toNat_inj.1 (by rw [e]; rfl))
  have e2 : k.toNat ≠ 2 := fun e => h2 (UInt8.toNat_inj.1 (by rw [e]; rfl))
  have e3 : k.toNat ≠ 3 := fun e => h3 (UInt8.toNat_inj.1 (by rw [e]; rfl))
  have h4 : k.toNat < 256 := k.toNat_lt
  rw [wI_id (by omega) (by omega), decide_eq_true (by omega)]; rfl
theorem pmayAct_eq (a : Act64) (ds : List Disk) : acts_act_may a ds = some (mayAct a (lensD ds)) := by
  unfold acts_act_may mayAct
  rw [show (decide (a.Disk < 0) || decide (a.Disk ≥ ((ds.length : Nat) : Int))) = outA a (lensD ds).length by unfold outA lensD; rw [List.length_map]]
  cases ho : outA a (lensD ds).length with
  | true => rfl
  | false =>
    obtain ⟨i, e, hi⟩ := outA_ok ho
    have hi' : i < ds.length := by simpa [lensD] using hi
    have hg : (lensD ds).getD a.Disk.toNat 0 = ds[i].Blocks.length := by
      rw [e, Int.toNat_natCast, List.getD_eq_getElem?_getD, List.getElem?_eq_getElem hi]
      simp [lensD]
    rw [hg, does_eq, e, idx_nat, List.getElem?_eq_getElem hi']
    simp only [gO, Bool.not_false, cond_true, Option.bind_some, Bool.false_or, Bool.true_and]
    by_cases h3 : a.Kind = 3
    · rw [h3]
      simp only [if_neg (show ¬(3 : UInt8) = 1 by decide), if_neg (show ¬(3 : UInt8) = 2 by decide), if_pos, beq_self_eq_true, cond_true]
      rw [show (((a.Data.length : Nat) : Int) == 0) = decide (a.Data.length = 0) by rw [Bool.eq_iff_iff]; simp]
      rfl
    · rw [show (a.Kind == 3) = false by simpa using h3]
      have hsz : ((((a.Data.length : Nat) : Int) == 0) || (((a.Data.length : Nat) : Int) == 128)) = szB a.Data := by unfold szB; rw [Bool.eq_iff_iff]; simp only [Bool.or_eq_true, beq_iff_eq]; omega
      rw [hsz]
      simp only [cond_false, if_neg h3]
      by_cases h1 : a.Kind = 1
      · rw [h1]
        simp only [if_pos, beq_self_eq_true, Bool.true_or, Bool.true_and]
        rw [show (fnAt [59, 60, 61] 1).isNone = false from rfl]
        by_cases hat : 0 ≤ a.At
        · rw [decide_eq_true hat]; simp
        · rw [decide_eq_false hat]; rfl
      · simp only [if_neg h1, show (a.Kind == 1) = false by simpa using h1, Bool.false_or]
        by_cases h2 : a.Kind = 2
        · rw [h2]
          simp only [if_pos, beq_self_eq_true, Bool.true_and]
          rw [show (fnAt [59, 60, 61] 2).isNone = false from rfl]
          by_cases hat : 0 ≤ a.At
          · rw [decide_eq_true hat]; simp
          · rw [decide_eq_false hat]; rfl
        · simp only [if_neg h2, show (a.Kind == 2) = false by simpa using h2]
          rw [show (fnAt [59, 60, 61] 0).isNone = true from rfl]; rfl
def checkActs (l : List Act64) (ds : List Disk) : Int := bif mayDs ds then (bif decide (1024 < l.length) then 4 else bif l.any (fun a => !mayAct a (lensD ds)) then 2 else 0) else 8
theorem pcheckActs_eq (l : List Act64) (ds : List Disk) : acts_Check l ds = some (checkActs l ds) := by
  unfold acts_Check checkActs
  rw [pdevs_eq]
  simp only [Option.bind_some]
  cases mayDs ds with
  | false => rfl
  | true =>
    simp only [cond_true, bne_self_eq_false, cond_false]
    by_cases hl : 1024 < l.length
    · rw [decide_eq_true hl, decide_eq_true (by omega)]; rfl
    · rw [decide_eq_false hl, decide_eq_false (by omega)]
      simp only [cond_false]
      rw [loop_anyD l (fun a => !mayAct a (lensD ds)) (step := fun s : Int => acts_Check_L1 l ds s) (Sum.inr ()) (Sum.inl ()) (by omega) (fun k hk => by
        unfold acts_Check_L1
        rw [decide_eq_true (show (k : Int) < (l.length : Int) by omega), idx_nat, List.getElem?_eq_getElem hk, wI_succ (by omega)]
        simp only [cond_true, Option.bind_some, pmayAct_eq]
        cases mayAct l[k] (lensD ds) <;> rfl) (by
        unfold acts_Check_L1
        rw [decide_eq_false (by omega)]; rfl)]
      cases l.any (fun a => !mayAct a (lensD ds)) <;> rfl
theorem checkActs_ok {l : List Act64} {ds : List Disk} (h : checkActs l ds = 0) : MayDs ds ∧ l.length ≤ 1024 ∧ ∀ a ∈ l, mayAct a (lensD ds) = true := by
  unfold checkActs at h
  cases hm : mayDs ds with
  | false => rw [hm] at h; simp at h
  | true =>
    rw [hm] at h
    simp only [cond_true] at h
    by_cases hl : 1024 < l.length
    · rw [decide_eq_true hl] at h; simp at h
    · rw [decide_eq_false hl] at h
      simp only [cond_false] at h
      cases ha : l.any (fun a => !mayAct a (lensD ds)) with
      | true => rw [ha] at h; simp at h
      | false =>
        refine ⟨mayDs_ok hm, by omega, fun a h2 => ?_⟩
        have := List.any_eq_false.1 ha a h2
        simpa using this

/-! ### what acts do -/
def fullA (d : Disk) (a : Act64) : Bool := !d.Dead && ((a.Kind == 1) && decide (1024 ≤ d.Wait.length))
def stepP (d : Disk) (a : Act64) : Disk := bif d.Dead then d else bif a.Kind == 1 then putD d a.At a.Data else bif a.Kind == 2 then pfuaD d a.At.toNat a.Data else pflushD d
def stepR (d : Disk) (a : Act64) : Disk := bif d.Dead then d else bif a.Kind == 1 then putD d a.At a.Data else bif a.Kind == 2 then rfuaD d a.At.toNat a.Data else rflushD d
def runA (stp : Disk → Act64 → Disk) : List Act64 → List Disk → Option (List Disk)
  | [], ds => some ds
  | a :: l, ds => bif fullA (ds.getD a.Disk.toNat noD) a then none else runA stp l (ds.set a.Disk.toNat (stp (ds.getD a.Disk.toNat noD) a))
theorem errD_zero {d : Disk} {k : Nat} {data : List UInt8} (h : MayD d) (hd : d.Dead = false) (hs : szB data = true) (hk : k < d.Blocks.length) : errD d (k : Int) data = 0 := by
  unfold errD askD
  rw [may_t h, hd, hs, decide_eq_false (show ¬(k : Int) < 0 by omega), decide_eq_false (show ¬(k : Int) ≥ (d.Blocks.length : Int) by omega)]; rfl
theorem pact_eq {d : Disk} {a : Act64} (h : MayD d) (hd : d.Dead = false) (ha : OkAct a d.Blocks.length) :
    ∃ m, acts_does a.Kind = some m ∧ fncall75 m a d = some (bif fullA d a then (noD, 9) else (stepP d a, 0)) := by
  rw [does_eq]
  unfold fullA stepP
  rw [hd]
  rcases ha with ⟨hk, _, _⟩ | ⟨hk, hs, k, e, hkn⟩
  · rw [hk]
    refine ⟨⟨3⟩, rfl, ?_⟩
    show acts_act_flush a d = _
    unfold acts_act_flush
    rw [pflush_eq, may_t h, hd]; rfl
  · rcases hk with hk | hk
    · rw [hk]
      refine ⟨⟨1⟩, rfl, ?_⟩
      show acts_act_write a d = _
      unfold acts_act_write
      rw [pwrite_eq, e]
      unfold writeD
      rw [errD_zero h hd hs hkn]
      cases decide (1024 ≤ d.Wait.length) <;> rfl
    · rw [hk]
      refine ⟨⟨2⟩, rfl, ?_⟩
      show acts_act_fua a d = _
      unfold acts_act_fua
      rw [pfua_eq, e, errD_zero h hd hs hkn]; rfl
theorem rfua_may {d : Disk} {k : Nat} {data : List UInt8} (hm : MayD d) (hd : d.Dead = false) (hs : szB data = true) : MayD (rfuaD d k data) := by
  have hl : (rfuaD d k data).Blocks.length = d.Blocks.length := by simp [rfuaD]
  refine ⟨by rw [hl]; exact hm.n1, by rw [hl]; exact hm.n2, by unfold rfuaD; simp only [List.length_map]; exact Nat.le_trans (List.length_filter_le _ _) hm.nw, fun h => ?_, fun h => ?_, fun b hb => ?_, fun w hw => ?_⟩
  · have h : d.Dead = true := h
    rw [hd] at h; cases h
  · have h : d.Dead = true := h
    rw [hd] at h; cases h
  · rcases List.mem_or_eq_of_mem_set hb with hb | rfl
    · exact hm.sz b hb
    · exact szB_full hs
  · rw [hl]
    obtain ⟨x, hx, rfl⟩ := List.mem_map.1 hw
    obtain ⟨h1, h2, h3⟩ := hm.wt x (List.mem_filter.1 hx).1
    exact ⟨h1, h2, szB_full h3⟩
theorem seen_sz {d : Disk} (h : MayD d) (k : Nat) : szB (seenD d k) = true := by
  unfold seenD
  have h0 : szB (liesD d k) = true := by
    unfold liesD
    refine szB_full ?_
    rw [List.getD_eq_getElem?_getD]
    by_cases hk : k < d.Blocks.length
    · rw [List.getElem?_eq_getElem hk]; exact h.sz _ (List.getElem_mem hk)
    · rw [List.getElem?_eq_none (by omega)]; rfl
  have : ∀ (l : List Write) (acc : List UInt8), (∀ w ∈ l, szB w.Data = true) → szB acc = true → szB (l.foldl (overW (k : Int)) acc) = true := by
    intro l
    induction l with
    | nil => intro acc _ h; exact h
    | cons w l ih =>
      intro acc hl ha
      rw [List.foldl_cons]
      refine ih _ (fun x hx => hl x (by simp [hx])) ?_
      unfold overW
      split
      · exact szB_full (hl w (by simp))
      · exact ha
  exact this d.Wait _ (fun w hw => (h.wt w hw).2.2) h0
theorem rflush_may {d : Disk} (h : MayD d) (hd : d.Dead = false) : MayD (rflushD d) := by
  have hdd : (rflushD d).Dead = false := hd
  refine ⟨by unfold rflushD; simp; exact h.n1, by unfold rflushD; simp; exact h.n2, by unfold rflushD; simp, fun _ => rfl, fun h2 => (by rw [hdd] at h2; cases h2), fun b hb => ?_, fun w hw => by unfold rflushD at hw; simp at hw⟩
  unfold rflushD at hb
  obtain ⟨k, _, rfl⟩ := List.mem_map.1 hb
  exact seen_sz h k
theorem stepP_may {d : Disk} {a : Act64} (h : MayD d) (ha : OkAct a d.Blocks.length) (hf : fullA d a = false) : MayD (stepP d a) ∧ (stepP d a).Blocks.length = d.Blocks.length := by
  unfold fullA at hf
  unfold stepP
  cases hd : d.Dead with
  | true => exact ⟨h, rfl⟩
  | false =>
    rw [hd] at hf
    rcases ha with ⟨hk, _, _⟩ | ⟨hk, hs, k, e, hkn⟩
    · rw [hk]; exact ⟨pflush_may h hd, by show (pflushD d).Blocks.length = _; unfold pflushD; simp only [setW_len]⟩
    · rcases hk with hk | hk
      · rw [hk] at hf ⊢
        have hw : ¬ 1024 ≤ d.Wait.length := by simpa using hf
        rw [e]; exact ⟨put_may h hd hs hkn hw, rfl⟩
      · rw [hk, e]; exact ⟨fua_may h hd hs, by show (pfuaD d _ _).Blocks.length = _; simp [pfuaD]⟩
theorem stepR_may {d : Disk} {a : Act64} (h : MayD d) (ha : OkAct a d.Blocks.length) (hf : fullA d a = false) : MayD (stepR d a) ∧ (stepR d a).Blocks.length = d.Blocks.length := by
  unfold fullA at hf
  unfold stepR
  cases hd : d.Dead with
  | true => exact ⟨h, rfl⟩
  | false =>
    rw [hd] at hf
    rcases ha with ⟨hk, _, _⟩ | ⟨hk, hs, k, e, hkn⟩
    · rw [hk]; exact ⟨rflush_may h hd, by show (rflushD d).Blocks.length = _; unfold rflushD; simp⟩
    · rcases hk with hk | hk
      · rw [hk] at hf ⊢
        have hw : ¬ 1024 ≤ d.Wait.length := by simpa using hf
        rw [e]; exact ⟨put_may h hd hs hkn hw, rfl⟩
      · rw [hk, e]; exact ⟨rfua_may h hd hs, by show (rfuaD d _ _).Blocks.length = _; simp [rfuaD]⟩
/- Plain law: acts.Run and the document's answer. -/

theorem ptwins_eq {ds : List Disk} (hl : ds.length ≤ 100000) (h : ∀ d ∈ ds, SmallD d) : acts_twins ds = some ds := by
  unfold acts_twins
  have := loop_run (step := fun s : (List Disk) × Int => acts_twins_L1 ds s.1 s.2) (fun k => (ds.take k, (k : Int))) ds.length ds (fuel_ltD (by omega)) (fun k hk => by
    unfold acts_twins_L1
    simp only
    rw [decide_eq_true (by omega), idx_nat, List.getElem?_eq_getElem hk]
    simp only [cond_true, Option.bind_some]
    rw [ptwin_eq (h _ (List.getElem_mem hk)), wI_succ (by omega)]
    simp only [Option.bind_some]
    rw [app_some _ _ (by simp; omega), take_succ_get _ _ _ (List.getElem?_eq_getElem hk)]; rfl) (by
    unfold acts_twins_L1
    simp only
    rw [decide_eq_false (by omega), List.take_length]; rfl)
  have h0 : (([] : List Disk), (0 : Int)) = (fun k : Nat => (ds.take k, (k : Int))) 0 := by simp
  rw [h0, this]; rfl

theorem runA_cons (stp : Disk → Act64 → Disk) (a : Act64) (l : List Act64) (ds : List Disk) : runA stp (a :: l) ds = bif fullA (ds.getD a.Disk.toNat noD) a then none else runA stp l (ds.set a.Disk.toNat (stp (ds.getD a.Disk.toNat noD) a)) := rfl
/-- Devices that may be, of given sizes. -/
def LikeDs (ns : List Nat) (ds : List Disk) : Prop := MayDs ds ∧ lensD ds = ns
theorem like_at {ns : List Nat} {ds : List Disk} (h : LikeDs ns ds) {a : Act64} (ha : mayAct a ns = true) :
    ∃ (i : Nat) (hi : i < ds.length), a.Disk = (i : Int) ∧ ds.getD a.Disk.toNat noD = ds[i] ∧ MayD ds[i] ∧ OkAct a ds[i].Blocks.length := by
  obtain ⟨hm, rfl⟩ := h
  obtain ⟨i, hi, e, hok⟩ := mayAct_ok ha
  have hi' : i < ds.length := by simpa [lensD] using hi
  refine ⟨i, hi', e, ?_, hm.m _ (List.getElem_mem hi'), ?_⟩
  · rw [e, Int.toNat_natCast, List.getD_eq_getElem?_getD, List.getElem?_eq_getElem hi']; rfl
  · simpa [lensD] using hok
theorem like_set {ns : List Nat} {ds : List Disk} (h : LikeDs ns ds) {i : Nat} (hi : i < ds.length) {d : Disk} (hd : MayD d) (hl : d.Blocks.length = ds[i].Blocks.length) : LikeDs ns (ds.set i d) := by
  obtain ⟨hm, rfl⟩ := h
  refine ⟨⟨by simpa using hm.n1, by simpa using hm.n2, fun e he => ?_⟩, ?_⟩
  · rcases List.mem_or_eq_of_mem_set he with he | rfl
    · exact hm.m e he
    · exact hd
  · unfold lensD
    rw [List.map_set, hl]
    have : (ds.map fun d => d.Blocks.length)[i]? = some ds[i].Blocks.length := by simp [hi]
    exact List.ext_getElem? fun j => by
      rw [List.getElem?_set]
      split
      · next h => subst h; rw [this]; simp [hi]
      · rfl

theorem loop_acts {B : Type} {step : List Disk × Int → Option (Ctl (List Disk × Int) B)} (stp : Disk → Act64 → Disk) (l : List Act64) (Inv : List Disk → Prop) (yes : List Disk → B) (no : B) (hl : l.length < 4294967296)
    (h1 : ∀ k (hk : k < l.length) ds, Inv ds → (fullA (ds.getD l[k].Disk.toNat noD) l[k] = true ∧ step (ds, (k : Int)) = some (.brk no)) ∨
      (fullA (ds.getD l[k].Disk.toNat noD) l[k] = false ∧ step (ds, (k : Int)) = some (.next (ds.set l[k].Disk.toNat (stp (ds.getD l[k].Disk.toNat noD) l[k]), ((k + 1 : Nat) : Int))) ∧ Inv (ds.set l[k].Disk.toNat (stp (ds.getD l[k].Disk.toNat noD) l[k]))))
    (h2 : ∀ ds, step (ds, (l.length : Int)) = some (.brk (yes ds))) (ds0 : List Disk) (h0 : Inv ds0) :
    ∃ b, loopM step FUEL (ds0, (0 : Int)) = some b ∧ ((∃ o, runA stp l ds0 = some o ∧ Inv o ∧ b = yes o) ∨ (runA stp l ds0 = none ∧ b = no)) := by
  refine loop_inv (step := step) l.length (fun k s => s.2 = (k : Int) ∧ Inv s.1 ∧ runA stp (l.drop k) s.1 = runA stp l ds0) _ (fun k s hk hI => ?_) FUEL 0 (ds0, 0) (Nat.zero_le _) (by have := fuel_ltD hl; omega) ⟨rfl, h0, by simp⟩
  obtain ⟨ds, s2⟩ := s
  obtain ⟨e1, e2, e3⟩ := hI
  simp only at e1 e2 e3
  subst e1
  by_cases hlt : k < l.length
  · rw [List.drop_eq_getElem_cons hlt] at e3
    rw [runA_cons] at e3
    rcases h1 k hlt ds e2 with ⟨hf, hs⟩ | ⟨hf, hs, hi⟩
    · rw [hf] at e3
      exact .inr ⟨_, hs, .inr ⟨e3.symm, rfl⟩⟩
    · rw [hf] at e3
      exact .inl ⟨_, hs, hlt, rfl, hi, e3⟩
  · obtain rfl : k = l.length := by omega
    rw [List.drop_length] at e3
    exact .inr ⟨_, h2 ds, .inl ⟨ds, e3.symm, e2, rfl⟩⟩

def runD (stp : Disk → Act64 → Disk) (ds : List Disk) (l : List Act64) (n : Int) : List Disk × Int :=
  bif (checkActs l ds != 0) then ([], checkActs l ds) else bif decide (n < 0) || decide (n > (l.length : Int)) then ([], 2) else ((runA stp (l.take n.toNat) ds).elim ([], 9) fun o => (o, 0))
theorem slc_take {α : Type} (l : List α) {n : Int} (h : (decide (n < 0) || decide (n > (l.length : Int))) = false) : slc l 0 n = some (l.take n.toNat) := by
  simp only [Bool.or_eq_false_iff, decide_eq_false_iff_not] at h
  unfold slc
  rw [if_pos (by omega)]
  simp
theorem prun_eq (ds : List Disk) (l : List Act64) (n : Int) : acts_Run ds l n = some (runD stepP ds l n) ∧ ∀ o, runA stepP (l.take n.toNat) ds = some o → checkActs l ds = 0 → LikeDs (lensD ds) o := by
  unfold acts_Run runD
  rw [pcheckActs_eq]
  simp only [Option.bind_some]
  cases hc : (checkActs l ds != 0) with
  | true => exact ⟨rfl, fun o _ h => by rw [h] at hc; cases hc⟩
  | false =>
    obtain ⟨hm, hl, ha⟩ := checkActs_ok (l := l) (ds := ds) (by simpa using hc)
    have hmem : ∀ k (hk : k < (l.take n.toNat).length), mayAct (l.take n.toNat)[k] (lensD ds) = true := fun k hk => ha _ (List.mem_of_mem_take (List.getElem_mem hk))
    obtain ⟨b, hb, hq⟩ := loop_acts (step := fun s : (List Disk) × Int => acts_Run_L1 (l.take n.toNat) s.1 s.2) stepP (l.take n.toNat) (LikeDs (lensD ds)) Sum.inl (Sum.inr 9) (by simp; omega) (fun k hk es hI => by
      obtain ⟨i, hi, e, hg, hmay, hok⟩ := like_at hI (hmem k hk)
      rw [hg, e, Int.toNat_natCast]
      show (_ ∧ acts_Run_L1 (l.take n.toNat) es (k : Int) = _) ∨ (_ ∧ acts_Run_L1 (l.take n.toNat) es (k : Int) = _ ∧ _)
      have hstep : acts_Run_L1 (l.take n.toNat) es (k : Int) = some (bif fullA es[i] (l.take n.toNat)[k] then .brk (.inr 9) else .next (es.set i (stepP es[i] (l.take n.toNat)[k]), ((k + 1 : Nat) : Int))) := by
        unfold acts_Run_L1 acts_Run_J2
        rw [decide_eq_true (by omega), idx_nat, List.getElem?_eq_getElem hk, wI_succ (by simp at hk; omega)]
        simp only [cond_true, Option.bind_some]
        rw [e, idx_nat, List.getElem?_eq_getElem hi]
        simp only [Option.bind_some]
        cases hd : es[i].Dead with
        | true =>
          simp only [cond_true]
          rw [show fullA es[i] (l.take n.toNat)[k] = false by unfold fullA; rw [hd]; rfl, show stepP es[i] (l.take n.toNat)[k] = es[i] by unfold stepP; rw [hd]; rfl]
          simp
        | false =>
          obtain ⟨m, hm1, hm2⟩ := pact_eq hmay hd hok
          rw [hm1]
          simp only [cond_false, Option.bind_some]
          rw [hm2]
          simp only [Option.bind_some]
          cases fullA es[i] (l.take n.toNat)[k] with
          | true => rfl
          | false =>
            simp only [cond_false, bne_self_eq_false]
            rw [bnd_nat hi]; rfl
      rw [hstep]
      cases hf : fullA es[i] (l.take n.toNat)[k] with
      | true => exact .inl ⟨rfl, rfl⟩
      | false =>
        obtain ⟨h1, h2⟩ := stepP_may hmay hok hf
        exact .inr ⟨rfl, rfl, like_set hI hi h1 h2⟩) (fun es => by
      show acts_Run_L1 (l.take n.toNat) es _ = _
      unfold acts_Run_L1
      rw [decide_eq_false (by omega)]; rfl) ds ⟨hm, rfl⟩
    refine ⟨?_, fun o ho _ => ?_⟩
    · simp only [cond_false]
      cases hn : (decide (n < 0) || decide (n > (l.length : Int))) with
      | true => rfl
      | false =>
        simp only [cond_false]
        rw [ptwins_eq (by have := hm.n2; omega) hm.small, slc_take l hn]
        simp only [Option.bind_some]
        rw [hb]
        rcases hq with ⟨o, ho, _, rfl⟩ | ⟨ho, rfl⟩
        · rw [ho]; rfl
        · rw [ho]; rfl
    · rcases hq with ⟨o', ho', hL, _⟩ | ⟨ho', _⟩
      · rw [ho'] at ho; cases ho; exact hL
      · rw [ho'] at ho; cases ho
/-! ### what is seen of devices -/
theorem view_len {d e : Disk} (h : viewD d = viewD e) : d.Blocks.length = e.Blocks.length := by
  have := congrArg (fun v => v.1.length) h
  simpa [viewD] using this
theorem view_wait {d e : Disk} (h : viewD d = viewD e) : d.Wait.length = e.Wait.length := by
  have := congrArg (fun v => v.2.1.length) h
  simpa [viewD] using this
theorem view_dead {d e : Disk} (h : viewD d = viewD e) : d.Dead = e.Dead := congrArg (fun v => v.2.2) h
theorem view_blocks {d e : Disk} (h : viewD d = viewD e) : d.Blocks.map fullB = e.Blocks.map fullB := congrArg (fun v => v.1) h
theorem view_waits {d e : Disk} (h : viewD d = viewD e) : d.Wait.map viewW = e.Wait.map viewW := congrArg (fun v => v.2.1) h
theorem view_full {d e : Disk} (h : viewD d = viewD e) (a : Act64) : fullA d a = fullA e a := by
  unfold fullA
  rw [view_wait h, view_dead h]
theorem view_put {d e : Disk} (h : viewD d = viewD e) (at_ : Int) (data : List UInt8) : viewD (putD d at_ data) = viewD (putD e at_ data) := by
  have h1 := view_blocks h
  have h2 := view_waits h
  have h3 := view_dead h
  unfold viewD putD
  simp only [List.map_append, h1, h2, h3]
theorem view_filter (k : Int) (l : List Write) : (l.filter (keepW k)).map viewW = (l.map viewW).filter fun v => !(v.1 == k) := by
  rw [List.filter_map]; rfl
theorem view_fua {d e : Disk} (h : viewD d = viewD e) (k : Nat) (data : List UInt8) : viewD (pfuaD d k data) = viewD (pfuaD e k data) := by
  have h1 := view_blocks h
  have h2 := view_waits h
  have h3 := view_dead h
  unfold viewD pfuaD
  simp only [List.map_set, view_filter, h1, h2, h3]
theorem view_over (k : Int) : ∀ (l : List Write) (acc : List UInt8), l.foldl (overW k) acc = (l.map viewW).foldl (fun acc v => if v.1 = k then v.2 else acc) acc
  | [], _ => rfl
  | w :: l, acc => by rw [List.foldl_cons, view_over k l]; rfl
theorem view_lies {d e : Disk} (h : viewD d = viewD e) (k : Nat) : liesD d k = liesD e k := by
  have : ∀ f : Disk, liesD f k = ((f.Blocks.map fullB)[k]?).getD (fullB []) := fun f => by
    unfold liesD
    rw [List.getD_eq_getElem?_getD, List.getElem?_map]
    cases f.Blocks[k]? <;> rfl
  rw [this, this, view_blocks h]
theorem view_seen {d e : Disk} (h : viewD d = viewD e) (k : Nat) : seenD d k = seenD e k := by
  unfold seenD
  rw [view_over, view_over, view_waits h, view_lies h]
theorem view_rflush {d e : Disk} (h : viewD d = viewD e) : viewD (rflushD d) = viewD (rflushD e) := by
  unfold rflushD
  rw [view_len h, view_dead h, show seenD d = seenD e from funext fun k => view_seen h k]
theorem view_step {d e : Disk} (h : viewD d = viewD e) (hm : MayD d) (a : Act64) : viewD (stepP d a) = viewD (stepR e a) := by
  unfold stepP stepR
  rw [← view_dead h]
  cases d.Dead with
  | true => exact h
  | false =>
    simp only [cond_false]
    cases (a.Kind == 1) with
    | true => exact view_put h _ _
    | false =>
      cases (a.Kind == 2) with
      | true => simp only [cond_true, cond_false]; rw [view_fua h]; exact fua_view _ _ _
      | false => simp only [cond_false]; rw [flush_view hm]; exact view_rflush h
theorem view_stepP {d e : Disk} (h : viewD d = viewD e) (hm : MayD d) (hm' : MayD e) (a : Act64) : viewD (stepP d a) = viewD (stepP e a) := by
  rw [view_step h hm a, view_step rfl hm' a]
theorem views_lens {ds es : List Disk} (h : ds.map viewD = es.map viewD) : lensD ds = lensD es := by
  have := congrArg (List.map fun v : List (List UInt8) × List (Int × List UInt8) × Bool => v.1.length) h
  simp only [List.map_map] at this
  have hf : ((fun v : List (List UInt8) × List (Int × List UInt8) × Bool => v.1.length) ∘ viewD) = fun d : Disk => d.Blocks.length := by funext d; simp [viewD]
  rw [hf] at this
  exact this
theorem view_run {p q : Disk → Act64 → Disk} (hpq : ∀ d e a, viewD d = viewD e → MayD d → MayD e → viewD (p d a) = viewD (q e a))
    (hp : ∀ d a, MayD d → OkAct a d.Blocks.length → fullA d a = false → MayD (p d a) ∧ (p d a).Blocks.length = d.Blocks.length)
    (hq : ∀ d a, MayD d → OkAct a d.Blocks.length → fullA d a = false → MayD (q d a) ∧ (q d a).Blocks.length = d.Blocks.length) (ns : List Nat) :
    ∀ (l : List Act64) (ds es : List Disk), ds.map viewD = es.map viewD → LikeDs ns ds → LikeDs ns es → (∀ a ∈ l, mayAct a ns = true) → (runA p l ds).map (List.map viewD) = (runA q l es).map (List.map viewD)
  | [], ds, es, h, _, _, _ => congrArg some h
  | a :: l, ds, es, h, hd, he, ha => by
    obtain ⟨i, hi, e, hg, hmay, hok⟩ := like_at hd (ha a (by simp))
    obtain ⟨j, hj, e', hg', hmay', hok'⟩ := like_at he (ha a (by simp))
    obtain rfl : i = j := by omega
    have hv : viewD ds[i] = viewD es[i] := by
      have := congrArg (fun l => l[i]?) h
      simpa [hi, hj] using this
    rw [runA_cons, runA_cons, hg, hg', view_full hv]
    cases hf : fullA es[i] a with
    | true => rfl
    | false =>
      simp only [cond_false]
      rw [e, Int.toNat_natCast]
      obtain ⟨h1, h2⟩ := hp _ _ hmay hok (by rw [view_full hv]; exact hf)
      obtain ⟨h3, h4⟩ := hq _ _ hmay' hok' hf
      refine view_run hpq hp hq ns l _ _ ?_ (like_set hd hi h1 h2) (like_set he hj h3 h4) (fun b hb => ha b (by simp [hb]))
      rw [List.map_set, List.map_set, h, hpq _ _ a hv hmay hmay']
/-- What acts.Run answers is seen as the document's answer. -/
theorem run_same (ds : List Disk) (l : List Act64) (n : Int) : (runD stepP ds l n).1.map viewD = (runD stepR ds l n).1.map viewD ∧ (runD stepP ds l n).2 = (runD stepR ds l n).2 := by
  unfold runD
  cases hc : (checkActs l ds != 0) with
  | true => exact ⟨rfl, rfl⟩
  | false =>
    obtain ⟨hm, _, ha⟩ := checkActs_ok (l := l) (ds := ds) (by simpa using hc)
    have := view_run (p := stepP) (q := stepR) (fun d e a h h1 _ => view_step h h1 a) (fun d a h h1 h2 => stepP_may h h1 h2) (fun d a h h1 h2 => stepR_may h h1 h2) (lensD ds) (l.take n.toNat) ds ds rfl ⟨hm, rfl⟩ ⟨hm, rfl⟩ (fun a h => ha a (List.mem_of_mem_take h))
    simp only [cond_false]
    cases (decide (n < 0) || decide (n > (l.length : Int))) with
    | true => exact ⟨rfl, rfl⟩
    | false =>
      simp only [cond_false]
      cases h1 : runA stepP (l.take n.toNat) ds with
      | none =>
        rw [h1] at this
        cases h2 : runA stepR (l.take n.toNat) ds with
        | none => exact ⟨rfl, rfl⟩
        | some o => rw [h2] at this; cases this
      | some o =>
        rw [h1] at this
        cases h2 : runA stepR (l.take n.toNat) ds with
        | none => rw [h2] at this; cases this
        | some o' => rw [h2] at this; exact ⟨Option.some.inj this, rfl⟩
theorem runD_small {stp : Disk → Act64 → Disk} {ds : List Disk} {l : List Act64} {n : Int} (h : ∀ o, runA stp (l.take n.toNat) ds = some o → checkActs l ds = 0 → LikeDs (lensD ds) o) : (runD stp ds l n).1.length ≤ 17 ∧ ∀ d ∈ (runD stp ds l n).1, SmallD d := by
  unfold runD
  cases hc : (checkActs l ds != 0) with
  | true => simp
  | false =>
    simp only [cond_false]
    cases (decide (n < 0) || decide (n > (l.length : Int))) with
    | true => simp
    | false =>
      simp only [cond_false]
      cases h1 : runA stp (l.take n.toNat) ds with
      | none => simp
      | some o =>
        have := (h o h1 (by simpa using hc)).1
        exact ⟨this.n2, this.small⟩
/- Plain law: power that fails. -/

def waitsN : List Disk → Nat
  | [] => 0
  | d :: ds => d.Wait.length + waitsN ds
theorem waitsN_app : ∀ (a b : List Disk), waitsN (a ++ b) = waitsN a + waitsN b
  | [], b => by simp [waitsN]
  | d :: a, b => by simp only [List.cons_append, waitsN, waitsN_app a b]; omega
theorem waitsN_le {ds : List Disk} (h : ∀ d ∈ ds, MayD d) : waitsN ds ≤ 1024 * ds.length := by
  induction ds with
  | nil => exact Nat.le_refl _
  | cons d ds ih =>
    have h1 := (h d (by simp)).nw
    have h2 := ih (fun x hx => h x (by simp [hx]))
    simp only [waitsN, List.length_cons]; omega
theorem waitsN_take (ds : List Disk) (k : Nat) : waitsN (ds.take k) ≤ waitsN ds := by
  have := waitsN_app (ds.take k) (ds.drop k)
  rw [List.take_append_drop] at this; omega
theorem waitsN_succ {ds : List Disk} {k : Nat} (hk : k < ds.length) : waitsN (ds.take (k + 1)) = waitsN (ds.take k) + ds[k].Wait.length := by
  rw [take_succ_get _ _ _ (List.getElem?_eq_getElem hk), waitsN_app]; rfl
theorem pwaits_eq (ds : List Disk) : acts_Waits ds = some (bif mayDs ds then ((waitsN ds : Int), 0) else (0, 8)) := by
  unfold acts_Waits
  rw [pdevs_eq]
  cases hm : mayDs ds with
  | false => rfl
  | true =>
    have h := mayDs_ok hm
    have hn2 := h.n2
    have hw := waitsN_le h.m
    simp only [Option.bind_some, cond_true, bne_self_eq_false, cond_false]
    have := loop_run (step := fun s : Int × Int => acts_Waits_L1 ds s.1 s.2) (fun k => ((waitsN (ds.take k) : Int), (k : Int))) ds.length (waitsN ds : Int) (fuel_ltD (by omega)) (fun k hk => by
      have h1 := waitsN_succ hk
      have h2 := waitsN_take ds (k + 1)
      unfold acts_Waits_L1
      simp only
      rw [decide_eq_true (by omega), idx_nat, List.getElem?_eq_getElem hk, wI_succ (by omega)]
      simp only [cond_true, Option.bind_some]
      rw [wI_id (by omega) (by omega), h1]
      simp) (by
      unfold acts_Waits_L1
      simp only
      rw [decide_eq_false (by omega), List.take_length]; rfl)
    have h0 : ((0 : Int), (0 : Int)) = (fun k : Nat => ((waitsN (ds.take k) : Int), (k : Int))) 0 := by simp [waitsN]
    rw [h0, this]; rfl

/-! ### crashes -/
def setK (bs : List (List UInt8)) (p : Write × Bool) : List (List UInt8) := bif p.2 then setW bs p.1 else bs
def crashD (d : Disk) (m : List Bool) : Disk := ⟨(d.Wait.zip m).foldl setK d.Blocks, [], d.Dead⟩
def crashL : List Disk → List Bool → List Disk
  | [], _ => []
  | d :: ds, m => crashD d m :: crashL ds (m.drop d.Wait.length)
theorem crashL_len : ∀ (ds : List Disk) (m : List Bool), (crashL ds m).length = ds.length
  | [], _ => rfl
  | d :: ds, m => by simp [crashL, crashL_len ds]
theorem crashL_get : ∀ (ds : List Disk) (m : List Bool) (k : Nat) (hk : k < ds.length), (crashL ds m)[k]? = some (crashD ds[k] (m.drop (waitsN (ds.take k))))
  | [], _, k, hk => by simp at hk
  | d :: ds, m, 0, hk => by simp [crashL, waitsN]
  | d :: ds, m, k + 1, hk => by
    simp only [crashL, List.getElem?_cons_succ, List.getElem_cons_succ, List.take_succ_cons, waitsN]
    rw [crashL_get ds _ k (by simpa using hk), List.drop_drop]
theorem setK_len : ∀ (l : List (Write × Bool)) (bs : List (List UInt8)), (l.foldl setK bs).length = bs.length
  | [], _ => rfl
  | p :: l, bs => by
    rw [List.foldl_cons, setK_len l]
    unfold setK setW
    cases p.2 <;> simp
theorem setK_mem : ∀ (l : List (Write × Bool)) (bs : List (List UInt8)), ∀ b ∈ l.foldl setK bs, b ∈ bs ∨ ∃ p ∈ l, b = p.1.Data
  | [], _, b, h => .inl h
  | p :: l, bs, b, h => by
    rw [List.foldl_cons] at h
    rcases setK_mem l _ b h with h | ⟨x, hx, rfl⟩
    · unfold setK setW at h
      cases hp : p.2 with
      | false => rw [hp] at h; exact .inl h
      | true =>
        rw [hp] at h
        rcases List.mem_or_eq_of_mem_set h with h | h
        · exact .inl h
        · exact .inr ⟨p, by simp, h⟩
    · exact .inr ⟨x, by simp [hx], rfl⟩
theorem crash_may {d : Disk} (h : MayD d) (m : List Bool) : MayD (crashD d m) ∧ (crashD d m).Blocks.length = d.Blocks.length := by
  have hl : (crashD d m).Blocks.length = d.Blocks.length := setK_len _ _
  refine ⟨⟨by rw [hl]; exact h.n1, by rw [hl]; exact h.n2, by simp [crashD], fun _ => rfl, fun hd b hb => ?_, fun b hb => ?_, fun w hw => by simp [crashD] at hw⟩, hl⟩
  · have hd : d.Dead = true := hd
    have : (crashD d m).Blocks = d.Blocks := by
      unfold crashD
      rw [h.dw hd]; rfl
    rw [this] at hb
    exact h.db hd b hb
  · rcases setK_mem _ _ b hb with hb | ⟨p, hp, rfl⟩
    · exact h.sz b hb
    · have hp : (p.1, p.2) ∈ d.Wait.zip m := hp
      exact (h.wt p.1 (List.of_mem_zip hp).1).2.2
theorem crashL_may : ∀ (ds : List Disk) (m : List Bool), (∀ d ∈ ds, MayD d) → ∀ d ∈ crashL ds m, MayD d
  | [], _, _, d, hd => by simp [crashL] at hd
  | x :: ds, m, h, d, hd => by
    simp only [crashL, List.mem_cons] at hd
    rcases hd with rfl | hd
    · exact (crash_may (h x (by simp)) m).1
    · exact crashL_may ds _ (fun y hy => h y (by simp [hy])) d hd
theorem crashL_mays {ds : List Disk} (h : MayDs ds) (m : List Bool) : MayDs (crashL ds m) := ⟨by rw [crashL_len]; exact h.n1, by rw [crashL_len]; exact h.n2, crashL_may ds m h.m⟩
theorem crashL_waits : ∀ (ds : List Disk) (m : List Bool), waitsN (crashL ds m) = 0
  | [], _ => rfl
  | d :: ds, m => by simp [crashL, waitsN, crashL_waits ds, crashD]

theorem ptwins5_eq {ds : List Disk} (hl : ds.length ≤ 100000) (h : ∀ d ∈ ds, SmallD d) : loopM (fun s : (List Disk) × Int => acts_Crash_L5 ds s.1 s.2) FUEL (([] : List Disk), (0 : Int)) = some ds := by
  have := loop_run (step := fun s : (List Disk) × Int => acts_Crash_L5 ds s.1 s.2) (fun k => (ds.take k, (k : Int))) ds.length ds (fuel_ltD (by omega)) (fun k hk => by
    unfold acts_Crash_L5
    simp only
    rw [decide_eq_true (by omega), idx_nat, List.getElem?_eq_getElem hk]
    simp only [cond_true, Option.bind_some]
    rw [ptwin_eq (h _ (List.getElem_mem hk)), wI_succ (by omega)]
    simp only [Option.bind_some]
    rw [app_some _ _ (by simp; omega), take_succ_get _ _ _ (List.getElem?_eq_getElem hk)]; rfl) (by
    unfold acts_Crash_L5
    simp only
    rw [decide_eq_false (by omega), List.take_length]; rfl)
  have h0 : (([] : List Disk), (0 : Int)) = (fun k : Nat => (ds.take k, (k : Int))) 0 := by simp
  rw [h0, this]
theorem cut_loop {d : Disk} (h : MayD d) (m : List Bool) (hm : d.Wait.length ≤ m.length) :
    loopM (fun s : Int × (List (List UInt8)) => acts_Crash_L3 m d s.1 s.2) FUEL ((0 : Int), d.Blocks) = some (crashD d m).Blocks := by
  have hw := h.nw
  have hz : (d.Wait.zip m).length = d.Wait.length := by simp; omega
  have := loop_run (step := fun s : Int × (List (List UInt8)) => acts_Crash_L3 m d s.1 s.2) (fun k => ((k : Int), ((d.Wait.zip m).take k).foldl setK d.Blocks)) d.Wait.length (crashD d m).Blocks (fuel_ltD (by omega)) (fun k hk => by
    obtain ⟨g1, g2, g3⟩ := h.wt _ (List.getElem_mem hk)
    have hkm : k < m.length := by omega
    have hzk : (d.Wait.zip m)[k]? = some (d.Wait[k], m[k]) := by
      rw [List.getElem?_eq_getElem (by omega)]
      simp
    unfold acts_Crash_L3 acts_Crash_J4
    simp only
    rw [decide_eq_true (by omega), idx_nat, List.getElem?_eq_getElem hk, idx_nat, List.getElem?_eq_getElem hkm, wI_succ (by omega)]
    simp only [cond_true, Option.bind_some]
    rw [take_succ_get _ _ _ hzk, List.foldl_append]
    simp only [List.foldl_cons, List.foldl_nil]
    unfold setK setW
    cases hmk : m[k] with
    | false => rfl
    | true =>
      simp only [cond_true]
      obtain ⟨j, hj⟩ : ∃ j : Nat, d.Wait[k].At = (j : Int) := ⟨d.Wait[k].At.toNat, by omega⟩
      have hlen := setK_len ((d.Wait.zip m).take k) d.Blocks
      unfold setK setW at hlen
      rw [hj, bnd_nat (by rw [hlen]; omega)]; rfl) (by
    unfold acts_Crash_L3
    simp only
    rw [decide_eq_false (by omega), List.take_of_length_le (by omega)]; rfl)
  have h0 : ((0 : Int), d.Blocks) = (fun k : Nat => ((k : Int), ((d.Wait.zip m).take k).foldl setK d.Blocks)) 0 := by simp
  rw [h0, this]
theorem crash_loop {ds : List Disk} (h : MayDs ds) (m : List Bool) (hm : m.length = waitsN ds) : acts_Crash_J1 m ds = some (crashL ds m, 0) := by
  have hn2 := h.n2
  have hw := waitsN_le h.m
  have hcl := crashL_len ds m
  unfold acts_Crash_J1
  have := loop_run (step := fun s : (List Bool) × (List Disk) × Int => acts_Crash_L2 ds s.1 s.2.1 s.2.2) (fun k => (m.drop (waitsN (ds.take k)), (crashL ds m).take k ++ ds.drop k, (k : Int))) ds.length (crashL ds m) (fuel_ltD (by omega)) (fun k hk => by
    have hd := h.m _ (List.getElem_mem hk)
    have h1 := waitsN_succ hk
    have h2 := waitsN_take ds (k + 1)
    have hml : ds[k].Wait.length ≤ (m.drop (waitsN (ds.take k))).length := by rw [List.length_drop, hm]; omega
    have hlen : ((crashL ds m).take k ++ ds.drop k).length = ds.length := mix_len _ _ _ hcl
    unfold acts_Crash_L2
    simp only
    rw [decide_eq_true (by omega), bnd_nat (by rw [hlen]; exact hk)]
    simp only [cond_true, Option.bind_some]
    rw [mix_get _ _ _ hcl, List.getElem?_eq_getElem hk]
    simp only [Option.bind_some]
    rw [cut_loop hd _ hml]
    simp only [Option.bind_some]
    rw [show slc (m.drop (waitsN (ds.take k))) ((ds[k].Wait.length : Nat) : Int) (((m.drop (waitsN (ds.take k))).length : Nat) : Int) = some ((m.drop (waitsN (ds.take k))).drop ds[k].Wait.length) by
      unfold slc
      rw [if_pos (by omega), Int.toNat_natCast, Int.toNat_natCast, List.take_length]]
    simp only [Option.bind_some]
    rw [show (Disk.mk (crashD ds[k] (m.drop (waitsN (ds.take k)))).Blocks ([] : List Write) ds[k].Dead) = crashD ds[k] (m.drop (waitsN (ds.take k))) from rfl, ptwin_eq (crash_may hd _).1.small, wI_succ (by omega)]
    simp only [Option.bind_some]
    rw [mix_set _ _ _ hcl _ (crashL_get ds m k hk), List.drop_drop, h1]) (by
    unfold acts_Crash_L2
    simp only
    rw [decide_eq_false (by omega), mix_end _ _ _ hcl rfl]; rfl)
  have h0 : (m, ds, (0 : Int)) = (fun k : Nat => (m.drop (waitsN (ds.take k)), (crashL ds m).take k ++ ds.drop k, (k : Int))) 0 := by simp [waitsN]
  rw [h0, this]; rfl
def marksC (ds : List Disk) (keep : List Bool) : List Bool := keep ++ List.replicate (waitsN ds - keep.length) false
def crashR (ds : List Disk) (keep : List Bool) : List Disk × Int := bif !mayDs ds then ([], 8) else bif decide (waitsN ds < keep.length) then ([], 2) else (crashL ds (marksC ds keep), 0)
theorem pcrash_eq (ds : List Disk) (keep : List Bool) : acts_Crash ds keep = some (crashR ds keep) := by
  unfold acts_Crash crashR
  rw [pwaits_eq]
  cases hm : mayDs ds with
  | false => rfl
  | true =>
    have h := mayDs_ok hm
    have hn2 := h.n2
    have hw := waitsN_le h.m
    simp only [Option.bind_some, cond_true, bne_self_eq_false, cond_false, Bool.not_true]
    by_cases hk : waitsN ds < keep.length
    · rw [decide_eq_true hk, decide_eq_true (by omega)]; rfl
    · rw [decide_eq_false hk, decide_eq_false (by omega)]
      simp only [cond_false]
      rw [show slc keep 0 ((keep.length : Nat) : Int) = some keep by unfold slc; rw [if_pos (by omega)]; simp]
      simp only [Option.bind_some]
      rw [wI_id (by omega) (by omega), show appZ false keep ((waitsN ds : Int) - (keep.length : Int)) = some (marksC ds keep) by
        unfold appZ marksC
        rw [if_pos (by omega)]
        congr 3
        omega]
      simp only [Option.bind_some]
      rw [ptwins5_eq (by omega) h.small]
      simp only [Option.bind_some]
      exact crash_loop h _ (by unfold marksC; simp; omega)
/- Plain law: ActsKept. -/

theorem alive05_true : law05_alive = some true := by kernel_rfl
theorem full05_zero : law05_full 0 = some (List.replicate 128 0) := by kernel_rfl
theorem crash_again : ∀ (ds : List Disk) (m m' : List Bool), crashL (crashL ds m) m' = crashL ds m
  | [], _, _ => rfl
  | d :: ds, m, m' => by
    simp only [crashL]
    rw [show crashD (crashD d m) m' = crashD d m from rfl, crash_again ds]
/-- Behind a crash a block is what lay there, or what was written there and waited. -/
theorem crash_lies (k : Nat) : ∀ (l : List (Write × Bool)) (bs : List (List UInt8)), (∀ p ∈ l, 0 ≤ p.1.At) → fullB ((l.foldl setK bs).getD k []) = fullB (bs.getD k []) ∨ ∃ p ∈ l, p.1.At = (k : Int) ∧ p.2 = true ∧ fullB ((l.foldl setK bs).getD k []) = fullB p.1.Data
  | [], _, _ => .inl rfl
  | p :: l, bs, h => by
    rw [List.foldl_cons]
    rcases crash_lies k l (setK bs p) (fun x hx => h x (by simp [hx])) with e | ⟨x, hx, e1, e2, e3⟩
    · rw [e]
      unfold setK setW
      cases hp : p.2 with
      | false => exact .inl rfl
      | true =>
        have h0 := h p (by simp)
        simp only [cond_true]
        by_cases hk : p.1.At = (k : Int)
        · by_cases hlt : k < bs.length
          · right
            refine ⟨p, by simp, hk, hp, ?_⟩
            rw [hk, Int.toNat_natCast, List.getD_eq_getElem?_getD, List.getElem?_set]
            simp [hlt]
          · left
            rw [hk, Int.toNat_natCast, List.getD_eq_getElem?_getD, List.getElem?_set]
            simp [hlt]
        · left
          rw [List.getD_eq_getElem?_getD, List.getElem?_set_ne (by omega), ← List.getD_eq_getElem?_getD]
    · exact .inr ⟨x, by simp [hx], e1, e2, e3⟩
theorem last_in {d : Disk} (h : MayD d) (hd : d.Dead = false) {k : Nat} (hk : k < d.Blocks.length) : disk_Lasting d (k : Int) = some (liesD d k, 0) := by
  rw [plast_eq]
  unfold lastD askD
  rw [may_t h, hd, decide_eq_false (show ¬ (k : Int) < 0 by omega), decide_eq_false (show ¬ (k : Int) ≥ (d.Blocks.length : Int) by omega)]
  rfl
theorem crashR_ok {ds : List Disk} {keep : List Bool} (h : (crashR ds keep).2 = 0) : MayDs ds ∧ keep.length ≤ waitsN ds ∧ crashR ds keep = (crashL ds (marksC ds keep), 0) := by
  unfold crashR at h ⊢
  cases hm : mayDs ds with
  | false => rw [hm] at h; cases h
  | true =>
    rw [hm] at h
    simp only [Bool.not_true, cond_false] at h ⊢
    by_cases hk : waitsN ds < keep.length
    · rw [decide_eq_true hk] at h; cases h
    · rw [decide_eq_false hk]
      exact ⟨mayDs_ok hm, by omega, rfl⟩
theorem crashR_bad {ds : List Disk} {keep : List Bool} (h : (crashR ds keep).2 ≠ 0) : (crashR ds keep).1 = [] := by
  unfold crashR at h ⊢
  cases hm : mayDs ds with
  | false => rfl
  | true =>
    rw [hm] at h
    simp only [Bool.not_true, cond_false] at h ⊢
    by_cases hk : waitsN ds < keep.length
    · rw [decide_eq_true hk]; rfl
    · rw [decide_eq_false hk] at h; exact (h rfl).elim
/- Plain law: ActsAll. -/

theorem setK_all : ∀ (l : List Write) (n : Nat) (bs : List (List UInt8)), l.length ≤ n → (l.zip (List.replicate n true)).foldl setK bs = l.foldl setW bs
  | [], _, _, _ => rfl
  | w :: l, 0, _, h => by simp at h
  | w :: l, n + 1, bs, h => by
    rw [List.replicate_succ, List.zip_cons_cons, List.foldl_cons, List.foldl_cons]
    exact setK_all l n _ (by simpa using h)
theorem setK_none : ∀ (l : List Write) (n : Nat) (bs : List (List UInt8)), (l.zip (List.replicate n false)).foldl setK bs = bs
  | [], _, _ => rfl
  | w :: l, 0, _ => rfl
  | w :: l, n + 1, bs => by
    rw [List.replicate_succ, List.zip_cons_cons, List.foldl_cons]
    exact setK_none l n _
theorem crash_all (d : Disk) (n : Nat) (h : d.Wait.length ≤ n) : crashD d (List.replicate n true) = pflushD d := by
  unfold crashD pflushD
  rw [setK_all _ _ _ h]
theorem crash_none (d : Disk) (n : Nat) : crashD d (List.replicate n false) = ⟨d.Blocks, [], d.Dead⟩ := by
  unfold crashD
  rw [setK_none]
/-- Read and Lasting of devices that are alike in what is asked. -/
theorem rd_last {d e : Disk} (hd : MayD d) (he : MayD e) (hl : e.Blocks.length = d.Blocks.length) (hdd : e.Dead = d.Dead) (h : ∀ k, k < d.Blocks.length → d.Dead = false → seenD d k = liesD e k) (at_ : Int) : readD d at_ = lastD e at_ := by
  unfold readD lastD askD
  rw [may_t hd, may_t he, hl, hdd]
  simp only [cond_true]
  cases hc : (decide (at_ < 0) || decide (at_ ≥ (d.Blocks.length : Int))) with
  | true => rfl
  | false =>
    simp only [Bool.or_eq_false_iff, decide_eq_false_iff_not] at hc
    simp only [cond_false, bne_self_eq_false]
    cases hx : d.Dead with
    | true => rfl
    | false =>
      simp only [cond_false]
      rw [h _ (by omega) hx]
theorem last_last {d e : Disk} (hd : MayD d) (he : MayD e) (hb : e.Blocks = d.Blocks) (hdd : e.Dead = d.Dead) (at_ : Int) : lastD e at_ = lastD d at_ := by
  unfold lastD askD liesD
  rw [may_t hd, may_t he, hb, hdd]
theorem all_loop (n : Nat) (hn : n < 4294967296) (e : Int) : loopM (fun s : Int × (List Bool) => law05_ActsAll_L1 ((n : Int), e) s.1 s.2) FUEL ((0 : Int), List.replicate n false) = some (List.replicate n true) := by
  have := loop_run (step := fun s : Int × (List Bool) => law05_ActsAll_L1 ((n : Int), e) s.1 s.2) (fun k => ((k : Int), (List.replicate n true).take k ++ (List.replicate n false).drop k)) n (List.replicate n true) (fuel_ltD hn) (fun k hk => by
    unfold law05_ActsAll_L1
    simp only
    rw [decide_eq_true (by omega), bnd_nat (by rw [mix_len _ _ _ (by simp)]; simpa using hk), wI_succ (by omega)]
    simp only [cond_true, Option.bind_some]
    rw [mix_set _ _ _ (by simp) true (by simp [hk])]) (by
    unfold law05_ActsAll_L1
    simp only
    rw [decide_eq_false (by omega), mix_end _ _ _ (by simp) (by simp)]; rfl)
  have h0 : ((0 : Int), List.replicate n false) = (fun k : Nat => ((k : Int), (List.replicate n true).take k ++ (List.replicate n false).drop k)) 0 := by simp
  rw [h0, this]
theorem actsall_true (ds : List Disk) (at_ place : Int) : law05_ActsAll ds at_ place = some true := by
  unfold law05_ActsAll
  obtain ⟨g1, e1, h1⟩ := agreat_eq ds
  rw [alive05_true, e1, pwaits_eq]
  simp only [Option.bind_some, Bool.not_true, Bool.or_false]
  cases hm : mayDs ds with
  | false => simp only [cond_false, show ((8 : Int) != 0) = true from rfl, Bool.or_true, Bool.true_or, cond_true]
  | true =>
  have h := mayDs_ok hm
  have hn2 := h.n2
  have hw := waitsN_le h.m
  cases g1 with
  | true => simp only [Bool.true_or, cond_true]
  | false =>
  simp only [cond_true, bne_self_eq_false, Bool.or_self, Bool.false_or]
  by_cases hi : 0 ≤ at_ ∧ at_ < (ds.length : Int)
  case neg =>
    rw [show (decide (at_ < 0) || decide (at_ ≥ (ds.length : Int))) = true by simp; omega]
    simp only [cond_true]
  rw [show (decide (at_ < 0) || decide (at_ ≥ (ds.length : Int))) = false by simp; omega]
  obtain ⟨i, rfl⟩ : ∃ i : Nat, at_ = (i : Int) := ⟨at_.toNat, by omega⟩
  have hil : i < ds.length := by omega
  have hmi := h.m _ (List.getElem_mem hil)
  have hws : waitsN (ds.take i) + ds[i].Wait.length ≤ waitsN ds := by
    have h1 := waitsN_succ hil
    have h2 := waitsN_take ds (i + 1)
    omega
  rw [cond_false, makeL_some false (waitsN ds) (by omega)]
  simp only [Option.bind_some]
  rw [all_loop (waitsN ds) (by omega)]
  simp only [Option.bind_some, pcrash_eq]
  have hA : crashR ds (List.replicate (waitsN ds) true) = (crashL ds (List.replicate (waitsN ds) true), 0) := by
    unfold crashR marksC
    rw [hm, decide_eq_false (by simp)]
    simp
  have hB : crashR ds [] = (crashL ds (List.replicate (waitsN ds) false), 0) := by
    unfold crashR marksC
    rw [hm, decide_eq_false (by simp)]
    simp
  rw [hA, hB]
  simp only [bne_self_eq_false, Bool.or_self, Bool.false_or]
  rw [show ((((crashL ds (List.replicate (waitsN ds) true)).length : Nat) : Int) != ((ds.length : Nat) : Int)) = false by rw [crashL_len]; simp, show ((((crashL ds (List.replicate (waitsN ds) false)).length : Nat) : Int) != ((ds.length : Nat) : Int)) = false by rw [crashL_len]; simp]
  simp only [Bool.or_self, cond_false]
  rw [idx_nat, idx_nat, idx_nat, List.getElem?_eq_getElem hil, crashL_get ds _ i hil, crashL_get ds _ i hil]
  simp only [Option.bind_some, pread_eq, plast_eq]
  rw [List.drop_replicate, List.drop_replicate, crash_all _ _ (by omega), crash_none]
  have r1 : readD ds[i] place = lastD (pflushD ds[i]) place := by
    cases hd : ds[i].Dead with
    | true =>
      refine rd_last (e := pflushD ds[i]) hmi ?_ (by unfold pflushD; simp only [setW_len]) rfl (fun k _ hx => by rw [hd] at hx; cases hx) place
      have : pflushD ds[i] = ds[i] := by
        have hw0 := hmi.dw hd
        generalize ds[i] = d at hw0 ⊢
        obtain ⟨a, b, c⟩ := d
        simp only at hw0
        subst hw0; rfl
      rw [this]; exact hmi
    | false => exact rd_last hmi (pflush_may hmi hd) (by unfold pflushD; simp only [setW_len]) rfl (fun k hk _ => (pflush_lies _ hmi hk).symm) place
  have r2 : lastD (Disk.mk ds[i].Blocks [] ds[i].Dead) place = lastD ds[i] place := by
    refine last_last (d := ds[i]) (e := Disk.mk ds[i].Blocks [] ds[i].Dead) hmi ?_ rfl rfl place
    have := (crash_may hmi (List.replicate 0 false)).1
    rw [crash_none] at this
    exact this
  rw [r1, r2]
  simp
end Go.Proofs.Ytgkhjpfnmbdchaa
