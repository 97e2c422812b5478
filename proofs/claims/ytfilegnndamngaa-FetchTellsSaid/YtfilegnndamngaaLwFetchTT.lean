/- Plain law: blocks off devices, by the reference. -/
import Derived.Test.YtfilegnndamngaaLwFetchAT
import Derived.Test.YtfilegnndamngaaLwActsAT
namespace Go.Proofs.Ytfilegnndamngaa
open Go GL

/-! ### sums of members -/
def sumF (f : Nat → Int) : Nat → Int
  | 0 => 0
  | n + 1 => sumF f n + f n
theorem sumF_shift (f : Nat → Int) : ∀ n, sumF (fun i => f (i + 1)) n = sumF f n + f n - f 0
  | 0 => by simp [sumF]
  | n + 1 => by
    have := sumF_shift f n
    simp only [sumF] at this ⊢
    omega
theorem sumF_congr {f g : Nat → Int} : ∀ n, (∀ i, i < n → f i = g i) → sumF f n = sumF g n
  | 0, _ => rfl
  | n + 1, h => by
    simp only [sumF]
    rw [sumF_congr n (fun i hi => h i (by omega)), h n (by omega)]
theorem sumF_id : ∀ n : Nat, 2 * sumF (fun i => (i : Int)) n = (n : Int) * ((n : Int) - 1)
  | 0 => by simp [sumF]
  | n + 1 => by
    have := sumF_id n
    simp only [sumF]
    rw [Int.mul_add, this]
    push_cast
    simp only [Int.add_sub_cancel, Int.mul_sub, Int.add_mul, Int.mul_one, Int.one_mul]
    omega
theorem sum_round (M : Nat) : ∀ a : Nat, sumF (fun i => (((a + i : Nat) : Int)) % (M : Int)) M = sumF (fun i => (i : Int)) M
  | 0 => sumF_congr M (fun i hi => by rw [Nat.zero_add]; exact Int.emod_eq_of_lt (by omega) (by omega))
  | a + 1 => by
    rw [← sum_round M a]
    have := sumF_shift (fun i => (((a + i : Nat) : Int)) % (M : Int)) M
    rw [show (fun i => (((a + 1 + i : Nat) : Int)) % (M : Int)) = (fun i => (fun i => (((a + i : Nat) : Int)) % (M : Int)) (i + 1)) by funext i; simp only; congr 2; omega, this]
    simp only [Nat.add_zero]
    rw [show ((a + M : Nat) : Int) = (a : Int) + (M : Int) by push_cast; rfl, Int.add_emod_right]
    omega
theorem sumF_le (f : Nat → Int) (B : Int) (hB : 0 ≤ B) : ∀ n, (∀ i, i < n → 0 ≤ f i ∧ f i ≤ B) → 0 ≤ sumF f n ∧ sumF f n ≤ B * n
  | 0, _ => by simp [sumF]
  | n + 1, h => by
    have h1 := sumF_le f B hB n (fun i hi => h i (by omega))
    have h2 := h n (by omega)
    simp only [sumF]
    push_cast
    rw [Int.mul_add, Int.mul_one]
    omega

theorem same_round {M : Int} (hM : 0 < M) (r k : Int) : (r * (M - 1) + k) % M = (M - 1 - r % M + 1 + k) % M := by
  apply Int.emod_eq_emod_iff_emod_sub_eq_zero.2
  have h := Int.mul_ediv_add_emod r M
  rw [show r * (M - 1) + k - (M - 1 - r % M + 1 + k) = M * (r - 1 - r / M) by
    rw [Int.mul_sub, Int.mul_sub, Int.mul_sub, Int.mul_comm r M]
    omega]
  exact Int.mul_emod_right M _
theorem on_low {c : Config} (hm : MayC c) {stripe k : Int} (s0 : 0 ≤ stripe) (s1 : stripe < c.Chunk * c.Rows) (h0 : 0 ≤ k) (h1 : k < c.Members) :
    Option.bind (quoI stripe c.Chunk) (fun x1 => Option.bind (remI (wI ((wI (x1 * (wI (c.Members - (1 : Int))))) + k)) c.Members) (fun x8 => some x8)) = some (memF c stripe k) := by
  have hM := hm.1
  have hs := wI_str hm
  have hc := hm.2.1
  have h1' : 0 ≤ stripe / c.Chunk := Int.ediv_nonneg s0 (by omega)
  have h2' : stripe / c.Chunk ≤ stripe := Int.ediv_le_self c.Chunk s0
  unfold quoI remI memF parF
  rw [if_neg (by omega), Int.tdiv_eq_ediv_of_nonneg s0, wI_id (x := stripe / c.Chunk) (by omega) (by omega)]
  simp only [Option.bind_some]
  rw [if_neg (by omega), wI_id (x := c.Members - 1) (by omega) (by omega)]
  have p0 : 0 ≤ stripe / c.Chunk * (c.Members - 1) := Int.mul_nonneg h1' (by omega)
  have p1 : stripe / c.Chunk * (c.Members - 1) ≤ 64 * 16 := Int.mul_le_mul (by omega) (by omega) (by omega) (by omega)
  rw [wI_id (x := stripe / c.Chunk * (c.Members - 1)) (by omega) (by omega), wI_id (by omega) (by omega), Int.tmod_eq_emod_of_nonneg (by omega), same_round (by omega)]
  simp only [Option.bind_some]
theorem on_r1 {c : Config} (hm : MayC c) {stripe k : Int} (s0 : 0 ≤ stripe) (s1 : stripe < c.Chunk * c.Rows) (h0 : 0 ≤ k) (h1 : k < c.Members - 1) : ref07_On_r1 c stripe k = some (memF c stripe k) := by
  have hM := hm.1
  rw [← on_low hm s0 s1 h0 (by omega)]
  unfold ref07_On_r1
  rw [wI_id (x := c.Members - 1) (by omega) (by omega), show (k == c.Members - 1) = false by simp; omega]
  simp only [cond_false]
theorem on_eq {c : Config} (hm : MayC c) {stripe k : Int} (s0 : 0 ≤ stripe) (s1 : stripe < c.Chunk * c.Rows) (h0 : 0 ≤ k) (h1 : k < c.Members) : ref07_On c stripe k = some (memF c stripe k) := by
  have hM := hm.1
  by_cases hk : k = c.Members - 1
  case neg =>
    rw [← on_low hm s0 s1 h0 h1]
    unfold ref07_On
    rw [wI_id (x := c.Members - 1) (by omega) (by omega), show (k == c.Members - 1) = false by simpa using hk]
    simp only [cond_false]
  obtain ⟨M, hMn⟩ : ∃ M : Nat, c.Members = ((M + 1 : Nat) : Int) := ⟨(c.Members - 1).toNat, by omega⟩
  have hle : ∀ i : Nat, 0 ≤ memF c stripe (i : Int) ∧ memF c stripe (i : Int) ≤ 16 := fun i => by have := memF_in hm stripe (i : Int); omega
  unfold ref07_On
  rw [wI_id (x := c.Members - 1) (by omega) (by omega), show (k == c.Members - 1) = true by simpa using hk]
  simp only [cond_true]
  have hL := loop_run (step := fun q : Int × Int => ref07_On_L1 c stripe q.1 q.2) (fun i => (sumF (fun j => memF c stripe (j : Int)) i, (i : Int))) M (sumF (fun j => memF c stripe (j : Int)) M) (fuel_ltD (by omega)) (fun i hi => by
    unfold ref07_On_L1
    simp only
    rw [wI_id (x := c.Members - 1) (by omega) (by omega), decide_eq_true (by omega), on_r1 hm s0 s1 (by omega) (by omega), wI_succ (by omega)]
    simp only [cond_true, Option.bind_some]
    have b1 := sumF_le (fun j => memF c stripe (j : Int)) 16 (by omega) i (fun j _ => hle j)
    have b2 := hle i
    rw [wI_id (by omega) (by omega)]
    rfl) (by
    unfold ref07_On_L1
    simp only
    rw [wI_id (x := c.Members - 1) (by omega) (by omega), decide_eq_false (by omega)]; rfl)
  have e0 : ((0 : Int), (0 : Int)) = (fun i : Nat => (sumF (fun j => memF c stripe (j : Int)) i, (i : Int))) 0 := rfl
  rw [e0, hL]
  have hq : ∃ x, quoI stripe c.Chunk = some x := by
    unfold quoI
    have hc := hm.2.1
    rw [if_neg (by omega)]
    exact ⟨_, rfl⟩
  obtain ⟨x, hx⟩ := hq
  rw [hx]
  simp only [Option.bind_some]
  have p0 : 0 ≤ c.Members * (c.Members - 1) := Int.mul_nonneg (by omega) (by omega)
  have p1 : c.Members * (c.Members - 1) ≤ 16 * 16 := Int.mul_le_mul (by omega) (by omega) (by omega) (by omega)
  unfold quoI
  rw [wI_id (x := c.Members * (c.Members - 1)) (by omega) (by omega), if_neg (by omega), Int.tdiv_eq_ediv_of_nonneg p0]
  simp only [Option.bind_some]
  have hp := parF_in hm stripe
  obtain ⟨a, ha⟩ : ∃ a : Nat, parF c stripe + 1 = (a : Int) := ⟨(parF c stripe + 1).toNat, by omega⟩
  have hall : sumF (fun j => memF c stripe (j : Int)) (M + 1) = sumF (fun i => (i : Int)) (M + 1) := by
    rw [← sum_round (M + 1) a]
    refine sumF_congr _ (fun i _ => ?_)
    unfold memF
    rw [ha, hMn]; push_cast; rfl
  have hid := sumF_id (M + 1)
  rw [← hall] at hid
  have hcm : c.Members * (c.Members - 1) = 2 * sumF (fun j => memF c stripe (j : Int)) (M + 1) := by rw [hid, hMn]
  rw [hcm, Int.mul_ediv_cancel_left _ (by omega)]
  have hkM : k = (M : Int) := by omega
  have b1 := sumF_le (fun j => memF c stripe (j : Int)) 16 (by omega) (M + 1) (fun j _ => hle j)
  have b2 := hle M
  rw [wI_id (x := sumF _ _) (by omega) (by omega)]
  simp only [sumF, hkM]
  rw [show sumF (fun j => memF c stripe (j : Int)) M + memF c stripe (M : Int) - sumF (fun j => memF c stripe (j : Int)) M = memF c stripe (M : Int) by omega, wI_id (by omega) (by omega)]

/-! ### checks -/
theorem rcheckF_eq (c : Config) (ds : List Disk) : ref20_Check c ds = some (bif okA c ds then 0 else 8) := by
  unfold ref20_Check okA
  rw [may_eq]
  cases hc : mayC c with
  | false => rfl
  | true =>
    have hm := (mayC_iff c).1 hc
    have hm1 := hm.1
    have hA : ref20_May c ds = some (decide ((ds.length : Int) = c.Members + 1) && !((List.range ds.length).any fun i => !goodA c ds i)) := by
      unfold ref20_May
      rw [wI_id (by omega) (by omega)]
      by_cases hl : (ds.length : Int) = c.Members + 1
      case neg =>
        rw [decide_eq_false hl, show ((ds.length : Int) != c.Members + 1) = true by simpa using hl]; rfl
      rw [decide_eq_true hl, show ((ds.length : Int) != c.Members + 1) = false by simpa using hl]
      simp only [cond_false, Bool.true_and]
      have := loop_any (step := fun s : Int => ref20_May_L1 c ds s) (fun k => (k : Int)) ds.length (fun i => !goodA c ds i) (Sum.inr ()) (Sum.inl ()) (fuel_ltD (by omega)) (fun k hk => by
        unfold ref20_May_L1 ref20_May_J2
        rw [decide_eq_true (by omega), idx_nat, dAt_get hk, rmember_eq hm, rjournal_eq hm]
        simp only [cond_true, Option.bind_some, rmay_eq]
        rw [wI_succ (by omega)]
        unfold goodA wantI mN
        by_cases he : (k : Int) = c.Members
        · rw [show ((k : Int) == c.Members) = true by simpa using he, if_pos (by omega)]
          by_cases hw : ((dAt ds k).Blocks.length : Int) = c.Log + 1
          · rw [decide_eq_true hw]; cases h : mayD (dAt ds k) <;> simp [hw, gO, rmay_eq, h]
          · rw [decide_eq_false hw]; have hw' := bne_iff_ne.2 hw; simp [hw', gO]
        · rw [show ((k : Int) == c.Members) = false by simpa using he, if_neg (by omega)]
          by_cases hw : ((dAt ds k).Blocks.length : Int) = c.Chunk * c.Rows + 1
          · rw [decide_eq_true hw]; cases h : mayD (dAt ds k) <;> simp [hw, gO, rmay_eq, h]
          · rw [decide_eq_false hw]; have hw' := bne_iff_ne.2 hw; simp [hw', gO]) (by
        unfold ref20_May_L1
        rw [decide_eq_false (by omega)]; rfl)
      erw [this]
      cases (List.range ds.length).any fun i => !goodA c ds i <;> rfl
    rw [hA]
    simp only [Option.bind_some, gO, Bool.not_true, Bool.not_false, cond_true, Bool.false_or, Bool.true_and]
    cases (decide ((ds.length : Int) = c.Members + 1) && !((List.range ds.length).any fun i => !goodA c ds i)) <;> rfl

/-! ### fetching -/
theorem rlost_eq {ds : List Disk} {i : Nat} (hi : i < ds.length) (missing : Int) : ref20_Lost ds missing (i : Int) = some (lostF ds missing i) := by
  unfold ref20_Lost lostF
  rw [idx_nat, dAt_get hi]
  cases ((i : Int) == missing) <;> rfl
theorem roff_loop {c : Config} {ds : List Disk} (h : OkA c ds) {s : Nat} (hs : s < sN c) (missing : Int) (m : Nat) :
    ∃ b, loopM (fun q : (List (List UInt8)) × Int => ref20_Off_L1 c ds missing (s : Int) (m : Int) q.1 q.2) FUEL (([] : List (List UInt8)), (0 : Int)) = some b ∧
      (bif alsoF c ds missing m then b = Sum.inr () else b = Sum.inl (othersF c ds s m)) := by
  obtain ⟨m1, m2, m3⟩ := h.m
  have hlen := h.len
  have hsn := h.s
  exact loop_inv (step := fun q : (List (List UInt8)) × Int => ref20_Off_L1 c ds missing (s : Int) (m : Int) q.1 q.2) (mN c)
    (fun k q => q.2 = (k : Int) ∧ q.1 = (((List.range k).filter fun i => i != m).map fun i => seenD (dAt ds i) (s + 1)) ∧ (((List.range k).filter fun i => i != m).any fun i => lostF ds missing i) = false)
    (fun b => bif alsoF c ds missing m then b = Sum.inr () else b = Sum.inl (othersF c ds s m)) (fun k q hk hI => by
    obtain ⟨q1, q2⟩ := q
    obtain ⟨e1, e2, e3⟩ := hI
    simp only at e1 e2
    subst e1
    show (∃ s', ref20_Off_L1 c ds missing (s : Int) (m : Int) q1 (k : Int) = some (.next s') ∧ _) ∨ ∃ b, ref20_Off_L1 c ds missing (s : Int) (m : Int) q1 (k : Int) = some (.brk b) ∧ _
    unfold ref20_Off_L1 ref20_Off_J2
    by_cases hlt : k < mN c
    case neg =>
      obtain rfl : k = mN c := by omega
      rw [decide_eq_false (by omega)]
      refine .inr ⟨_, rfl, ?_⟩
      have : alsoF c ds missing m = false := e3
      rw [this, e2]; rfl
    rw [decide_eq_true (by omega), wI_succ (by omega)]
    simp only [cond_true]
    by_cases hkm : k = m
    · rw [show ((k : Int) == (m : Int)) = true by simp [hkm]]
      refine .inl ⟨_, rfl, hlt, rfl, ?_, ?_⟩
      · rw [e2, List.range_succ, List.filter_append]; simp [hkm]
      · rw [List.range_succ, List.filter_append, List.any_append, e3]; simp [hkm]
    rw [show ((k : Int) == (m : Int)) = false by simp; omega]
    simp only [cond_false]
    rw [rlost_eq (by omega), idx_nat, dAt_get (by omega)]
    simp only [Option.bind_some]
    have hmem : k ∈ withoutF c m := List.mem_filter.2 ⟨List.mem_range.2 hlt, by simpa using hkm⟩
    cases hl : lostF ds missing k with
    | true =>
      refine .inr ⟨_, rfl, ?_⟩
      have : alsoF c ds missing m = true := List.any_eq_true.2 ⟨k, hmem, hl⟩
      rw [this]; rfl
    | false =>
      simp only [cond_false]
      rw [show wI ((s : Int) + 1) = ((s + 1 : Nat) : Int) from wI_succ (by omega), rseen_eq (h.may k (by omega)).small (h.mem hlt hs)]
      simp only [Option.bind_some]
      have hql : q1.length ≤ k := by
        have := List.length_filter_le (fun i => i != m) (List.range k)
        rw [e2]; simpa using this
      rw [app_some _ _ (by simp; omega)]
      refine .inl ⟨_, rfl, hlt, rfl, ?_, ?_⟩
      · simp only; rw [e2, List.range_succ, List.filter_append]; simp [hkm]
      · rw [List.range_succ, List.filter_append, List.any_append, e3]; simp [hkm, hl]) FUEL 0 (([] : List (List UInt8)), (0 : Int)) (by omega) (by have := @fuel_ltD 1000 (by omega); omega) ⟨rfl, by simp, by simp⟩
theorem rfetch_eq (c : Config) (ds : List Disk) (missing stripe slot : Int) : ref20_Block c ds missing stripe slot = some (fetchF c ds missing stripe slot) := by
  unfold ref20_Block fetchF
  rw [rcheckF_eq]
  cases hok : okA c ds with
  | false => rfl
  | true =>
  have h := (okA_iff c ds).1 hok
  obtain ⟨m1, m2, m3⟩ := h.m
  have hlen := h.len
  have hsn := h.s
  simp only [cond_true, Option.bind_some, bne_self_eq_false, cond_false]
  rw [rstripes_eq h.mc, show gO (!((decide (missing < (-1 : Int)) || decide (missing ≥ c.Members)) || decide (stripe < (0 : Int)))) (some (c.Chunk * c.Rows)) = some (bif (!((decide (missing < (-1 : Int)) || decide (missing ≥ c.Members)) || decide (stripe < (0 : Int)))) then c.Chunk * c.Rows else default) by
    cases (!((decide (missing < (-1 : Int)) || decide (missing ≥ c.Members)) || decide (stripe < (0 : Int)))) <;> rfl]
  simp only [Option.bind_some]
  rw [show (((((decide (missing < (-1 : Int)) || decide (missing ≥ c.Members)) || decide (stripe < (0 : Int))) || decide (stripe ≥ (bif (!((decide (missing < (-1 : Int)) || decide (missing ≥ c.Members)) || decide (stripe < (0 : Int)))) then c.Chunk * c.Rows else default))) || decide (slot < (0 : Int))) || decide (slot ≥ c.Members)) = !(askT c stripe slot && (decide (-1 ≤ missing) && decide (missing < c.Members))) by
    unfold askT
    cases hq : (!((decide (missing < (-1 : Int)) || decide (missing ≥ c.Members)) || decide (stripe < (0 : Int)))) with
    | true =>
      simp only [cond_true]
      rw [Bool.eq_iff_iff]; simp; simp at hq; omega
    | false =>
      have hq' : ((decide (missing < (-1 : Int)) || decide (missing ≥ c.Members)) || decide (stripe < (0 : Int))) = true := by rw [← Bool.not_not ((decide (missing < (-1 : Int)) || decide (missing ≥ c.Members)) || decide (stripe < (0 : Int))), hq]; rfl
      rw [hq']
      simp only [Bool.true_or]
      symm
      rw [Bool.not_eq_true']
      apply Bool.eq_false_iff.2
      intro hx
      simp at hx hq'
      omega]
  cases ha : askT c stripe slot && (decide (-1 ≤ missing) && decide (missing < c.Members)) with
  | false => rfl
  | true =>
  simp only [Bool.not_true, cond_false, cond_true]
  have ha' := ha
  unfold askT at ha'
  simp only [Bool.and_eq_true, decide_eq_true_eq] at ha'
  obtain ⟨⟨a1, a2, a3, a4⟩, a5, a6⟩ := ha'
  unfold ref20_Off
  rw [on_eq h.mc a1 a2 a3 a4]
  have hmi := memF_in h.mc stripe slot
  obtain ⟨m, hm⟩ : ∃ m : Nat, memF c stripe slot = (m : Int) := ⟨(memF c stripe slot).toNat, by omega⟩
  obtain ⟨s, rfl⟩ : ∃ s : Nat, stripe = (s : Int) := ⟨stripe.toNat, by omega⟩
  rw [hm] at hmi
  rw [hm]
  simp only [Int.toNat_natCast, Option.bind_some]
  have hs : s < sN c := by omega
  have hml : m < mN c := by omega
  rw [rlost_eq (by omega)]
  simp only [Option.bind_some]
  unfold offF
  cases hl : lostF ds missing m with
  | false =>
    simp only [Bool.not_false, cond_true, cond_false]
    rw [idx_nat, dAt_get (by omega)]
    simp only [Option.bind_some]
    rw [show wI ((s : Int) + 1) = ((s + 1 : Nat) : Int) from wI_succ (by omega), rseen_eq (h.may m (by omega)).small (h.mem hml hs)]
    rfl
  | true =>
    simp only [Bool.not_true, cond_true, cond_false]
    obtain ⟨b, hb, hq⟩ := roff_loop h hs missing m
    rw [hb]
    simp only [Option.bind_some]
    cases hx : alsoF c ds missing m with
    | true =>
      rw [hx] at hq
      have hq : b = Sum.inr () := hq
      subst hq
      rfl
    | false =>
      rw [hx] at hq
      have hq : b = Sum.inl (othersF c ds s m) := hq
      subst hq
      have hwl := without_len c m
      simp only [Sum.elim_inl, cond_false]
      rw [all_eq (by simp [othersF]; omega) (List.all_eq_true.2 (others_ok h hs m))]
      rfl

theorem fetch_len (c : Config) (ds : List Disk) (missing stripe slot : Int) : (fetchF c ds missing stripe slot).1.length ≤ 128 := by
  unfold fetchF
  cases hok : okA c ds with
  | false => simp
  | true =>
  have h := (okA_iff c ds).1 hok
  have hlen := h.len
  obtain ⟨m1, m2, m3⟩ := h.m
  have hsn := h.s
  simp only [cond_true]
  cases ha : askT c stripe slot && (decide (-1 ≤ missing) && decide (missing < c.Members)) with
  | false => simp
  | true =>
  have ha' := ha
  unfold askT at ha'
  simp only [Bool.and_eq_true, decide_eq_true_eq] at ha'
  obtain ⟨⟨a1, a2, a3, a4⟩, a5, a6⟩ := ha'
  have hmi := memF_in h.mc stripe slot
  have hs : stripe.toNat < sN c := by omega
  have hml : (memF c stripe slot).toNat < mN c := by omega
  simp only [cond_true]
  unfold offF
  cases lostF ds missing (memF c stripe slot).toNat with
  | false => simp only [cond_false]; rw [seen_len (h.may _ (by omega)) (h.mem hml hs)]; omega
  | true =>
    cases alsoF c ds missing (memF c stripe slot).toNat with
    | true => simp
    | false => simp only [cond_true, cond_false]; rw [foldS_len _ (others_ok h hs _)]; omega

theorem fetchtells_true (c : Config) (ds : List Disk) (missing stripe slot : Int) : law20_FetchTells c ds missing stripe slot = some true := by
  unfold law20_FetchTells
  obtain ⟨g, hg, hs⟩ := agreat_eq ds
  rw [hg]
  simp only [Option.bind_some]
  cases g with
  | true => rfl
  | false =>
  obtain ⟨hl, hsm⟩ := hs rfl
  simp only [cond_false]
  have hfl := fetch_len c ds missing stripe slot
  rw [atwin_eq (by omega) hsm]
  simp only [Option.bind_some, pfetch_eq, rfetch_eq, fcheck_eq, rcheckF_eq, beq_self_eq_true, Bool.and_self, gO, cond_true]
  have hL := loop_run (step := fun q : Int => law20_FetchTells_L1 (fetchF c ds missing stripe slot) q) (fun k => (k : Int)) (fetchF c ds missing stripe slot).1.length () (fuel_ltD (by omega)) (fun k hk => by
    unfold law20_FetchTells_L1
    rw [decide_eq_true (by omega), idx_nat, List.getElem?_eq_getElem hk, wI_succ (by omega)]; rfl) (by
    unfold law20_FetchTells_L1
    rw [decide_eq_false (by omega)]; rfl)
  erw [hL]
  simp only [Option.bind_some, asame_eq (show ds.length ≤ 100000 by omega) hsm hsm, decide_true]
  rfl
end Go.Proofs.Ytfilegnndamngaa
