/- Plain law: blocks off devices, by the program. -/
import Derived.Test.YtfilegnndamngaaLwEyeAO
namespace Go.Proofs.Ytfilegnndamngaa
open Go GL

/-! ### checks -/
theorem fcheck_eq (c : Config) (ds : List Disk) : fetch_Check c ds = some (bif okA c ds then 0 else 8) := by
  unfold fetch_Check okA
  rw [member_eq]
  cases hc : mayC c with
  | false => rfl
  | true =>
    have hm := (mayC_iff c).1 hc
    have hm1 := hm.1
    simp only [Option.bind_some, cond_true, bne_self_eq_false, Bool.false_or, Bool.true_and]
    rw [wI_id (by omega) (by omega)]
    by_cases hl : (ds.length : Int) = c.Members + 1
    case neg =>
      rw [decide_eq_false hl, show ((ds.length : Int) != c.Members + 1) = true by simpa using hl]; rfl
    rw [decide_eq_true hl, show ((ds.length : Int) != c.Members + 1) = false by simpa using hl]
    simp only [cond_false, Bool.true_and]
    have := loop_any (step := fun s : Int => fetch_Check_L1 c ds (c.Chunk * c.Rows + 1, 0) s) (fun k => (k : Int)) ds.length (fun i => !goodA c ds i) (Sum.inr ()) (Sum.inl ()) (fuel_ltD (by omega)) (fun k hk => by
      unfold fetch_Check_L1 fetch_Check_J2
      rw [decide_eq_true (by omega), idx_nat, dAt_get hk]
      simp only [cond_true, Option.bind_some, pcheck_eq, journal_eq, hc]
      rw [wI_succ (by omega)]
      unfold goodA wantI mN
      by_cases he : (k : Int) = c.Members
      · rw [show ((k : Int) == c.Members) = true by simpa using he, if_pos (by omega)]
        by_cases hw : ((dAt ds k).Blocks.length : Int) = c.Log + 1
        · rw [decide_eq_true hw]; cases mayD (dAt ds k) <;> simp [hw, gO]
        · rw [decide_eq_false hw]; have hw' := bne_iff_ne.2 hw; simp [hw', gO]
      · rw [show ((k : Int) == c.Members) = false by simpa using he, if_neg (by omega)]
        by_cases hw : ((dAt ds k).Blocks.length : Int) = c.Chunk * c.Rows + 1
        · rw [decide_eq_true hw]; cases mayD (dAt ds k) <;> simp [hw, gO]
        · rw [decide_eq_false hw]; have hw' := bne_iff_ne.2 hw; simp [hw', gO]) (by
      unfold fetch_Check_L1
      rw [decide_eq_false (by omega)]; rfl)
    erw [this]
    cases (List.range ds.length).any fun i => !goodA c ds i <;> rfl

/-! ### members of slots -/
theorem divideF {a b : Int} (ha : 0 ≤ a) (ha2 : a ≤ 1000000) (hb : 0 < b) : turn_divide a b = some (a / b, a % b) := by
  unfold turn_divide quoI remI
  rw [if_neg (by omega), if_neg (by omega), Int.tdiv_eq_ediv_of_nonneg ha, Int.tmod_eq_emod_of_nonneg ha]
  have h1 : 0 ≤ a / b := Int.ediv_nonneg ha (by omega)
  have h2 : a / b ≤ a := Int.ediv_le_self b ha
  rw [wI_id (by omega) (by omega)]
  rfl
def parF (c : Config) (stripe : Int) : Int := c.Members - 1 - (stripe / c.Chunk) % c.Members
def memF (c : Config) (stripe k : Int) : Int := (parF c stripe + 1 + k) % c.Members
theorem parF_in {c : Config} (hm : MayC c) (stripe : Int) : 0 ≤ parF c stripe ∧ parF c stripe < c.Members := by
  have := hm.1
  unfold parF
  have h1 := Int.emod_nonneg (stripe / c.Chunk) (show c.Members ≠ 0 by omega)
  have h2 := Int.emod_lt_of_pos (stripe / c.Chunk) (show 0 < c.Members by omega)
  omega
theorem memF_in {c : Config} (hm : MayC c) (stripe k : Int) : 0 ≤ memF c stripe k ∧ memF c stripe k < c.Members := by
  have := hm.1
  unfold memF
  exact ⟨Int.emod_nonneg _ (by omega), Int.emod_lt_of_pos _ (by omega)⟩
def askT (c : Config) (stripe k : Int) : Bool := decide (0 ≤ stripe) && (decide (stripe < c.Chunk * c.Rows) && (decide (0 ≤ k) && decide (k < c.Members)))
theorem stripesF (c : Config) : shape_Stripes c = some (bif mayC c then (c.Chunk * c.Rows, 0) else (0, 8)) := by
  unfold shape_Stripes shape_told
  rw [check_eq]
  cases h : mayC c with
  | false => rfl
  | true =>
    obtain ⟨h1, h2, h3⟩ := wI_str ((mayC_iff c).1 h)
    simp only [Option.bind_some, cond_true, bne_self_eq_false, cond_false, h1]
theorem memberF {c : Config} (hm : MayC c) (stripe k : Int) : turn_Member c stripe k = some (bif askT c stripe k then (memF c stripe k, 0) else (0, 2)) := by
  have hM := hm.1
  have hp := parF_in hm stripe
  have hs := wI_str hm
  have hc := hm.2.1
  unfold turn_Member turn_row_member turn_at askT
  rw [stripesF, (mayC_iff c).2 hm]
  simp only [cond_true, Option.bind_some, bne_self_eq_false, cond_false]
  by_cases s0 : 0 ≤ stripe
  case neg => rw [decide_eq_true (show stripe < 0 by omega), decide_eq_false s0]; rfl
  rw [decide_eq_false (show ¬ stripe < 0 by omega), decide_eq_true s0]
  by_cases s1 : stripe < c.Chunk * c.Rows
  case neg => rw [decide_eq_true (show stripe ≥ c.Chunk * c.Rows by omega), decide_eq_false s1]; rfl
  rw [decide_eq_false (show ¬ stripe ≥ c.Chunk * c.Rows by omega), decide_eq_true s1]
  by_cases h0 : 0 ≤ k
  case neg => rw [decide_eq_true (show k < 0 by omega), decide_eq_false h0]; rfl
  rw [decide_eq_false (show ¬ k < 0 by omega), decide_eq_true h0]
  by_cases h1 : k < c.Members
  case neg => rw [decide_eq_true (show k ≥ c.Members by omega), decide_eq_false h1]; rfl
  rw [decide_eq_false (show ¬ k ≥ c.Members by omega), decide_eq_true h1]
  have h1' : 0 ≤ stripe / c.Chunk := Int.ediv_nonneg s0 (by omega)
  have h2' : stripe / c.Chunk ≤ stripe := Int.ediv_le_self c.Chunk s0
  simp only [cond_false]
  unfold turn_at_J1 turn_row_parity
  rw [divideF s0 (by omega) (by omega)]
  simp only [cond_false, Option.bind_some, bne_self_eq_false]
  rw [divideF h1' (by omega) (by omega)]
  simp only [Option.bind_some]
  rw [wI_id (x := c.Members - 1) (by omega) (by omega)]
  unfold parF at hp
  rw [wI_id (x := c.Members - 1 - _) (by omega) (by omega), wI_id (x := c.Members - 1 - _ + 1) (by omega) (by omega), wI_id (by omega) (by omega), divideF (by omega) (by omega) (by omega)]
  rfl

/-! ### what is read -/
theorem lies_lenF {d : Disk} (h : MayD d) {k : Nat} (hk : k < d.Blocks.length) : (liesD d k).length = 128 := lies_szB h hk
theorem seen_len {d : Disk} (h : MayD d) {k : Nat} (hk : k < d.Blocks.length) : (seenD d k).length = 128 := by
  unfold seenD
  have hw := h.wt
  have h0 := lies_szB h hk
  generalize liesD d k = acc at h0 ⊢
  generalize d.Wait = l at hw ⊢
  induction l generalizing acc with
  | nil => exact h0
  | cons w l ih =>
    rw [List.foldl_cons]
    refine ih _ ?_ (fun x hx => hw x (List.mem_cons_of_mem _ hx))
    unfold overW
    split
    · exact fullB_len (hw w (by simp)).2.2
    · exact h0
theorem read_of {d : Disk} (h : MayD d) (hd : d.Dead = false) {k : Nat} (hk : k < d.Blocks.length) : disk_Read d (k : Int) = some (seenD d k, 0) := by
  rw [pread_eq]
  unfold readD askD
  rw [(mayD_iff d).2 h]
  have : (decide ((k : Int) < 0) || decide ((k : Int) ≥ (d.Blocks.length : Int))) = false := by simp; omega
  simp only [this, hd, cond_true, cond_false, bne_self_eq_false, Int.toNat_natCast]
theorem read_dead {d : Disk} (h : MayD d) (hd : d.Dead = true) {k : Nat} (hk : k < d.Blocks.length) : disk_Read d (k : Int) = some ([], 40) := by
  rw [pread_eq]
  unfold readD askD
  rw [(mayD_iff d).2 h]
  have : (decide ((k : Int) < 0) || decide ((k : Int) ≥ (d.Blocks.length : Int))) = false := by simp; omega
  simp only [this, hd, cond_true, cond_false, bne_self_eq_false]

/-! ### fetching -/
def lostF (ds : List Disk) (missing : Int) (i : Nat) : Bool := ((i : Int) == missing) || (dAt ds i).Dead
def withoutF (c : Config) (m : Nat) : List Nat := (List.range (mN c)).filter fun i => i != m
def othersF (c : Config) (ds : List Disk) (s m : Nat) : List (List UInt8) := (withoutF c m).map fun i => seenD (dAt ds i) (s + 1)
def alsoF (c : Config) (ds : List Disk) (missing : Int) (m : Nat) : Bool := (withoutF c m).any fun i => lostF ds missing i
def offF (c : Config) (ds : List Disk) (missing : Int) (s m : Nat) : List UInt8 × Int :=
  bif lostF ds missing m then (bif alsoF c ds missing m then ([], 230) else (foldS (othersF c ds s m), 0)) else (seenD (dAt ds m) (s + 1), 0)
def fetchF (c : Config) (ds : List Disk) (missing stripe slot : Int) : List UInt8 × Int :=
  bif okA c ds then (bif askT c stripe slot && (decide (-1 ≤ missing) && decide (missing < c.Members)) then offF c ds missing stripe.toNat (memF c stripe slot).toNat else ([], 2)) else ([], 8)
theorem others_ok {c : Config} {ds : List Disk} (h : OkA c ds) {s : Nat} (hs : s < sN c) (m : Nat) : ∀ b ∈ othersF c ds s m, blockB b = true := by
  intro b hb
  obtain ⟨i, hi, rfl⟩ := List.mem_map.1 hb
  have hi := List.mem_range.1 (List.mem_filter.1 hi).1
  unfold blockB
  rw [seen_len (h.may i (by have := h.len; omega)) (h.mem hi hs)]; rfl
theorem without_len (c : Config) (m : Nat) : (withoutF c m).length ≤ mN c := by
  have := List.length_filter_le (fun i => i != m) (List.range (mN c))
  simpa [withoutF] using this
/-- the fold over members with an early end -/
theorem fblock_loop {c : Config} {ds : List Disk} (h : OkA c ds) {s : Nat} (hs : s < sN c) (missing : Int) (m : Nat) (e : Int) :
    ∃ b, loopM (fun q : Int × (List (List UInt8)) => fetch_Block_L3 c ds missing (s : Int) ((m : Int), e) q.1 q.2) FUEL ((0 : Int), ([] : List (List UInt8))) = some b ∧
      (bif alsoF c ds missing m then ∃ x, b = Sum.inr x else b = Sum.inl (othersF c ds s m)) := by
  obtain ⟨m1, m2, m3⟩ := h.m
  have hlen := h.len
  have hsn := h.s
  have key := loop_inv (step := fun q : Int × (List (List UInt8)) => fetch_Block_L3 c ds missing (s : Int) ((m : Int), e) q.1 q.2) (mN c)
    (fun k q => q.1 = (k : Int) ∧ q.2 = (((List.range k).filter fun i => i != m).map fun i => seenD (dAt ds i) (s + 1)) ∧ (((List.range k).filter fun i => i != m).any fun i => lostF ds missing i) = false)
    (fun b => bif alsoF c ds missing m then ∃ x, b = Sum.inr x else b = Sum.inl (othersF c ds s m)) (fun k q hk hI => by
    obtain ⟨q1, q2⟩ := q
    obtain ⟨e1, e2, e3⟩ := hI
    simp only at e1 e2
    subst e1
    show (∃ s', fetch_Block_L3 c ds missing (s : Int) ((m : Int), e) (k : Int) q2 = some (.next s') ∧ _) ∨ ∃ b, fetch_Block_L3 c ds missing (s : Int) ((m : Int), e) (k : Int) q2 = some (.brk b) ∧ _
    unfold fetch_Block_L3 fetch_Block_J4
    by_cases hlt : k < mN c
    case neg =>
      obtain rfl : k = mN c := by omega
      rw [decide_eq_false (by omega)]
      refine .inr ⟨_, rfl, ?_⟩
      have : alsoF c ds missing m = false := e3
      rw [this, e2]; rfl
    rw [decide_eq_true (by omega), wI_succ (by omega)]
    simp only [cond_true]
    by_cases hkm : k = m
    · rw [show ((k : Int) != (m : Int)) = false by simp [hkm]]
      refine .inl ⟨_, rfl, hlt, rfl, ?_, ?_⟩
      · rw [e2, List.range_succ, List.filter_append]; simp [hkm]
      · rw [List.range_succ, List.filter_append, List.any_append, e3]; simp [hkm]
    rw [show ((k : Int) != (m : Int)) = true by simp; omega]
    simp only [cond_true]
    rw [idx_nat, dAt_get (by omega), show gO (!((k : Int) == missing)) (some (dAt ds k)) = some (bif (k : Int) == missing then default else dAt ds k) by cases ((k : Int) == missing) <;> rfl]
    simp only [Option.bind_some]
    have hL : (((k : Int) == missing) || (bif (k : Int) == missing then default else dAt ds k).Dead) = lostF ds missing k := by
      unfold lostF; cases ((k : Int) == missing) <;> rfl
    rw [hL]
    have hmem : k ∈ withoutF c m := List.mem_filter.2 ⟨List.mem_range.2 hlt, by simpa using hkm⟩
    cases hl : lostF ds missing k with
    | true =>
      refine .inr ⟨_, rfl, ?_⟩
      have : alsoF c ds missing m = true := List.any_eq_true.2 ⟨k, hmem, hl⟩
      rw [this]; exact ⟨_, rfl⟩
    | false =>
      have hd : (dAt ds k).Dead = false := by unfold lostF at hl; simp at hl; exact hl.2
      simp only [cond_false]
      rw [show wI ((s : Int) + 1) = ((s + 1 : Nat) : Int) from wI_succ (by omega), read_of (h.may k (by omega)) hd (h.mem hlt hs)]
      simp only [Option.bind_some, bne_self_eq_false, cond_false]
      have hql : q2.length ≤ k := by
        have := List.length_filter_le (fun i => i != m) (List.range k)
        rw [e2]; simpa using this
      rw [app_some _ _ (by simp; omega)]
      refine .inl ⟨_, rfl, hlt, rfl, ?_, ?_⟩
      · simp only; rw [e2, List.range_succ, List.filter_append]; simp [hkm]
      · rw [List.range_succ, List.filter_append, List.any_append, e3]; simp [hkm, hl]) FUEL 0 ((0 : Int), ([] : List (List UInt8))) (by omega) (by have := @fuel_ltD 1000 (by omega); omega) ⟨rfl, by simp, by simp⟩
  exact key
theorem pfetch_eq (c : Config) (ds : List Disk) (missing stripe slot : Int) : fetch_Block c ds missing stripe slot = some (fetchF c ds missing stripe slot) := by
  unfold fetch_Block fetchF
  rw [fcheck_eq]
  cases hok : okA c ds with
  | false => rfl
  | true =>
  have h := (okA_iff c ds).1 hok
  obtain ⟨m1, m2, m3⟩ := h.m
  have hlen := h.len
  have hsn := h.s
  simp only [cond_true, Option.bind_some, bne_self_eq_false, cond_false]
  rw [memberF h.mc]
  cases ha : askT c stripe slot with
  | false => rfl
  | true =>
  simp only [cond_true, Option.bind_some, bne_self_eq_false, Bool.false_or, Bool.true_and]
  rw [show (decide (missing < (-1 : Int)) || decide (missing ≥ c.Members)) = !(decide (-1 ≤ missing) && decide (missing < c.Members)) by rw [Bool.eq_iff_iff]; simp]
  cases hi : (decide (-1 ≤ missing) && decide (missing < c.Members)) with
  | false => rfl
  | true =>
  simp only [Bool.not_true, cond_false, cond_true]
  have ha' := ha
  unfold askT at ha'
  simp only [Bool.and_eq_true, decide_eq_true_eq] at ha'
  obtain ⟨a1, a2, a3, a4⟩ := ha'
  have hmi := memF_in h.mc stripe slot
  obtain ⟨m, hm⟩ : ∃ m : Nat, memF c stripe slot = (m : Int) := ⟨(memF c stripe slot).toNat, by omega⟩
  obtain ⟨s, rfl⟩ : ∃ s : Nat, stripe = (s : Int) := ⟨stripe.toNat, by omega⟩
  rw [hm] at hmi
  rw [hm]
  simp only [Int.toNat_natCast]
  have hs : s < sN c := by omega
  have hml : m < mN c := by omega
  rw [idx_nat, dAt_get (by omega), show gO (!((m : Int) == missing)) (some (dAt ds m)) = some (bif (m : Int) == missing then default else dAt ds m) by cases ((m : Int) == missing) <;> rfl]
  simp only [Option.bind_some]
  have hL : (((m : Int) == missing) || (bif (m : Int) == missing then default else dAt ds m).Dead) = lostF ds missing m := by
    unfold lostF; cases ((m : Int) == missing) <;> rfl
  rw [hL]
  unfold offF fetch_Block_J1
  cases hl : lostF ds missing m with
  | false =>
    have hd : (dAt ds m).Dead = false := by unfold lostF at hl; simp at hl; exact hl.2
    simp only [cond_false]
    rw [show wI ((s : Int) + 1) = ((s + 1 : Nat) : Int) from wI_succ (by omega), read_of (h.may m (by omega)) hd (h.mem hml hs)]
    rfl
  | true =>
    simp only [cond_true, show ((230 : Int) == 0) = false from rfl, cond_false]
    unfold fetch_Block_J2
    obtain ⟨b, hb, hq⟩ := fblock_loop h hs missing m 0
    rw [hb]
    simp only [Option.bind_some]
    cases hx : alsoF c ds missing m with
    | true =>
      rw [hx] at hq
      obtain ⟨x, rfl⟩ := hq
      rfl
    | false =>
      rw [hx] at hq
      have hq : b = Sum.inl (othersF c ds s m) := hq
      subst hq
      simp only [Sum.elim_inl, cond_false]
      rw [fold_eq]
      have hwl := without_len c m
      unfold FoldSpec
      rw [if_neg (by simp [othersF]; omega), if_pos (List.all_eq_true.2 (others_ok h hs m))]
      rfl
end Go.Proofs.Ytfilegnndamngaa
