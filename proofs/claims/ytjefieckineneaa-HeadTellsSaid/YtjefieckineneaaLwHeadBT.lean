/- Plain law: what is told of a head, and what it is logged as. -/
import Derived.Test.YtjefieckineneaaLwHeadAT
namespace Go.Proofs.Ytjefieckineneaa
open Go GL

theorem list_any_ne {α : Type} [DecidableEq α] (l m : List α) (h : l.length = m.length) : ((List.range l.length).any fun k => !decide (l[k]? = m[k]?)) = !decide (l = m) := by
  rw [Bool.eq_iff_iff, List.any_eq_true]
  simp only [List.mem_range, Bool.not_eq_true', decide_eq_false_iff_not]
  constructor
  · rintro ⟨k, _, h1⟩ rfl; exact h1 rfl
  · intro hne
    apply Classical.byContradiction
    intro hno
    refine hne (List.ext_getElem? fun k => ?_)
    by_cases hk : k < l.length
    · exact Classical.byContradiction fun h1 => hno ⟨k, hk, h1⟩
    · rw [List.getElem?_eq_none (by omega), List.getElem?_eq_none (by omega)]
/-- A loop that asks whether two lists differ at some place. -/
theorem loop_differ {α B : Type} [DecidableEq α] (l m : List α) {step : Int → Option (Ctl Int B)} (yes no : B) (hl : l.length < 4294967296) (hlm : l.length = m.length)
    (h1 : ∀ k x y, l[k]? = some x → m[k]? = some y → k < l.length → step (k : Int) = some (bif !decide (x = y) then .brk yes else .next ((k + 1 : Nat) : Int))) (h2 : step (l.length : Int) = some (.brk no)) :
    loopM step FUEL (0 : Int) = some (bif decide (l = m) then no else yes) := by
  have := loop_any (step := step) (fun k => (k : Int)) l.length (fun k => !decide (l[k]? = m[k]?)) yes no (fuel_lt hl) (fun k hk => by
    obtain ⟨x, hx⟩ : ∃ x, l[k]? = some x := ⟨_, List.getElem?_eq_getElem hk⟩
    obtain ⟨y, hy⟩ : ∃ y, m[k]? = some y := ⟨_, List.getElem?_eq_getElem (by omega)⟩
    rw [h1 k x y hx hy hk, hx, hy]
    simp only [Option.some.injEq]) h2
  rw [list_any_ne l m hlm] at this
  have h3 : loopM step FUEL (0 : Int) = _ := this
  rw [h3]
  cases decide (l = m) <;> rfl
/-- A loop that only counts. -/
theorem loop_count {step : Int → Option (Ctl Int Unit)} (n : Nat) (hn : n < 4294967296) (h1 : ∀ k, k < n → step (k : Int) = some (.next ((k + 1 : Nat) : Int))) (h2 : step (n : Int) = some (.brk ())) :
    loopM step FUEL (0 : Int) = some () := loop_run (fun k => (k : Int)) n () (fuel_lt hn) h1 h2

theorem rsame_eq (a b : Head) (ha : a.Blocks.length < 4294967296) (hd : a.Dirty.length < 4294967296) : ref16_Same a b = some (decide (a = b)) := by
  unfold ref16_Same
  by_cases hl : a.Stripe = b.Stripe ∧ a.Phase = b.Phase ∧ a.Deals = b.Deals ∧ a.Seq = b.Seq ∧ a.Blocks.length = b.Blocks.length ∧ a.Dirty.length = b.Dirty.length
  · obtain ⟨e1, e2, e3, e4, e5, e6⟩ := hl
    have hc : ((((((a.Stripe != b.Stripe) || (a.Phase != b.Phase)) || (a.Deals != b.Deals)) || ((a.Seq.toNat : Int) != (b.Seq.toNat : Int))) || (((a.Blocks).length : Int) != ((b.Blocks).length : Int))) || (((a.Dirty).length : Int) != ((b.Dirty).length : Int))) = false := by
      simp [e1, e2, e3, e4, e5, e6]
    rw [hc]
    simp only [cond_false]
    rw [loop_differ (step := fun s : Int => ref16_Same_L1 a b s) a.Blocks b.Blocks (Sum.inr ()) (Sum.inl ()) ha e5 (fun k x y hx hy hk => by
      unfold ref16_Same_L1
      rw [decide_eq_true (show (k : Int) < (a.Blocks.length : Int) by omega), idx_nat, idx_nat, hx, hy, wI_succ (by omega)]
      simp only [cond_true, Option.bind_some]
      rw [show decide (x = y) = (x == y) by rw [Bool.eq_iff_iff]; simp]
      cases x == y <;> rfl) (by
      unfold ref16_Same_L1
      rw [decide_eq_false (by omega)]; rfl)]
    by_cases hB : a.Blocks = b.Blocks
    case neg =>
      rw [decide_eq_false hB, decide_eq_false (fun e => hB (by rw [e]))]; rfl
    rw [decide_eq_true hB]
    simp only [cond_true, Option.bind_some, Sum.elim_inl]
    rw [loop_differ (step := fun s : Int => ref16_Same_L2 a b s) a.Dirty b.Dirty (Sum.inr ()) (Sum.inl ()) hd e6 (fun k x y hx hy hk => by
      unfold ref16_Same_L2
      rw [decide_eq_true (show (k : Int) < (a.Dirty.length : Int) by omega), idx_nat, idx_nat, hx, hy, wI_succ (by omega)]
      simp only [cond_true, Option.bind_some]
      cases x <;> cases y <;> rfl) (by
      unfold ref16_Same_L2
      rw [decide_eq_false (by omega)]; rfl)]
    by_cases hD : a.Dirty = b.Dirty
    case neg =>
      rw [decide_eq_false hD, decide_eq_false (fun e => hD (by rw [e]))]; rfl
    rw [decide_eq_true hD, decide_eq_true (show a = b by cases a; cases b; simp_all)]
    rfl
  · have hc : ((((((a.Stripe != b.Stripe) || (a.Phase != b.Phase)) || (a.Deals != b.Deals)) || ((a.Seq.toNat : Int) != (b.Seq.toNat : Int))) || (((a.Blocks).length : Int) != ((b.Blocks).length : Int))) || (((a.Dirty).length : Int) != ((b.Dirty).length : Int))) = true := by
      apply Classical.byContradiction
      intro hn
      simp only [Bool.not_eq_true, Bool.or_eq_false_iff, bne_eq_false_iff_eq] at hn
      exact hl ⟨hn.1.1.1.1.1, hn.1.1.1.1.2, hn.1.1.1.2, UInt32.toNat_inj.1 (by have := hn.1.1.2; omega), by have := hn.1.2; omega, by have := hn.2; omega⟩
    rw [hc, decide_eq_false (fun e => hl (by subst e; simp))]
    rfl
theorem rsame_self (a : Head) (ha : a.Blocks.length < 4294967296) (hd : a.Dirty.length < 4294967296) : ref16_Same a a = some true := by rw [rsame_eq a a ha hd]; simp

/-! what is told of a slot -/
def slotIn (c : Config) (slot : Int) : Bool := !(decide (slot < 0) || decide (slot ≥ c.Members - 1))
def tellS (c : Config) (h : Head) (slot : Int) : List UInt8 × Bool × Int :=
  bif mayH c h then (bif slotIn c slot then (h.Blocks.getD slot.toNat [], decide (0 < (h.Blocks.getD slot.toNat []).length), 0) else ([], false, 2)) else ([], false, 8)
structure OfH (c : Config) (h : Head) : Prop where
  m : MayC c
  s1 : 0 ≤ h.Stripe
  s2 : h.Stripe < c.Chunk * c.Rows
  nb : (h.Blocks.length : Int) = c.Members
  nd : (h.Dirty.length : Int) = c.Members - 1
  ph : h.Phase.toNat ≤ 4
  bl : ∀ x ∈ h.Blocks, x.length = 0 ∨ x.length = 128
  di : ∀ k, h.Dirty.getD k false = true → (h.Blocks.getD k []).length ≠ 0
  ok : phOk h = true
theorem mayH_of {c : Config} {h : Head} (hm : mayH c h = true) : OfH c h := by
  simp only [mayH, Bool.and_eq_true] at hm
  obtain ⟨h1, h2, h3, h4⟩ := hm
  obtain ⟨a1, a2, a3, a4, a5⟩ := (sizeOk_iff c h).1 h2
  simp only [blksOk, Bool.and_eq_true, List.all_eq_true, List.mem_range, Bool.not_eq_true'] at h3
  refine ⟨(mayC_iff c).1 h1, a1, a2, a3, a4, a5, fun x hx => ?_, fun k hk => ?_, h4⟩
  · have := h3.1 x hx
    simp only [blkOk, Bool.or_eq_true, beq_iff_eq] at this; exact this
  · have hkl : k < h.Dirty.length := by
      apply Classical.byContradiction
      intro hn
      rw [List.getD_eq_getElem?_getD, List.getElem?_eq_none (by omega)] at hk
      cases hk
    have := h3.2 k hkl
    rw [dirtyBad, hk] at this
    simpa using this
theorem slot_expr {c : Config} (hm : MayC c) (slot : Int) : ((decide (slot < (0 : Int))) || (decide (slot ≥ (wI (c.Members - (1 : Int)))))) = !slotIn c slot := by
  have := hm.1
  rw [wI_id (x := c.Members - 1) (by omega) (by omega)]
  simp [slotIn]
theorem slotIn_iff (c : Config) (slot : Int) : slotIn c slot = true ↔ 0 ≤ slot ∧ slot < c.Members - 1 := by simp [slotIn]
theorem htell_eq (c : Config) (h : Head) (slot : Int) : head_Tell c h slot = some (tellS c h slot) := by
  unfold head_Tell tellS
  rw [hcheck_eq]
  cases hm : mayH c h with
  | false => rfl
  | true =>
  have o := mayH_of hm
  have := o.m.1
  simp only [cond_true, Option.bind_some, slot_expr o.m]
  cases hs : slotIn c slot with
  | false => rfl
  | true =>
  obtain ⟨s1, s2⟩ := (slotIn_iff c slot).1 hs
  obtain ⟨k, rfl⟩ := Int.eq_ofNat_of_zero_le s1
  have hk : k < h.Blocks.length := by have := o.nb; omega
  have hx := o.bl _ (List.getElem_mem hk)
  simp only [bne_self_eq_false, Bool.not_true, cond_false, cond_true, idx_nat, List.getElem?_eq_getElem hk, Option.bind_some, slices_Clone_byte_byte]
  rw [app_some _ _ (by simp; omega)]
  simp only [List.nil_append, Option.bind_some, Int.toNat_natCast, List.getD_eq_getElem?_getD, List.getElem?_eq_getElem hk, Option.getD_some]
  rw [show decide ((h.Blocks[k].length : Int) > 0) = decide (0 < h.Blocks[k].length) from decide_eq_decide.2 (by omega)]
theorem asked_eq (c : Config) (h : Head) (slot : Int) (data : List UInt8) : ref16_asked c h slot data = some (bif mayH c h then (bif slotIn c slot then (bif blkOk data then 0 else 3) else 2) else 8) := by
  unfold ref16_asked
  rw [rcheck_eq]
  cases hm : mayH c h with
  | false => rfl
  | true =>
  have o := mayH_of hm
  simp only [cond_true, Option.bind_some, slot_expr o.m]
  cases hs : slotIn c slot with
  | false => rfl
  | true =>
  have hsz : (((data.length : Int) == 0) || ((data.length : Int) == 128)) = blkOk data := by
    unfold blkOk; rw [Bool.eq_iff_iff]; simp only [Bool.or_eq_true, beq_iff_eq]; omega
  simp only [ref04_Sized, hsz, Option.bind_some]
  cases blkOk data <;> rfl
theorem rtell_eq (c : Config) (h : Head) (slot : Int) : ref16_Tell c h slot = some (tellS c h slot) := by
  unfold ref16_Tell tellS
  rw [asked_eq]
  cases hm : mayH c h with
  | false => rfl
  | true =>
  have o := mayH_of hm
  have := o.m.1
  cases hs : slotIn c slot with
  | false => rfl
  | true =>
  obtain ⟨s1, s2⟩ := (slotIn_iff c slot).1 hs
  obtain ⟨k, rfl⟩ := Int.eq_ofNat_of_zero_le s1
  have hk : k < h.Blocks.length := by have := o.nb; omega
  have hx := o.bl _ (List.getElem_mem hk)
  simp only [cond_true, show blkOk [] = true from rfl, Option.bind_some, gO, bne_self_eq_false, Bool.not_false, Bool.false_or, idx_nat, List.getElem?_eq_getElem hk, Int.toNat_natCast, List.getD_eq_getElem?_getD, Option.getD_some]
  rcases hx with hx | hx
  · have h0 : h.Blocks[k] = [] := List.eq_nil_of_length_eq_zero hx
    rw [h0]; rfl
  · rw [show ((h.Blocks[k].length : Int) == 0) = false by simp [hx]]
    simp only [cond_false, ref04_Full]
    rw [show ((h.Blocks[k].length : Int) == 0) = false by simp [hx]]
    simp only [cond_false]
    rw [app_some _ _ (by simp [hx]), decide_eq_true (show 0 < h.Blocks[k].length by omega)]
    rfl

/-! what a stripe is logged as -/
def dslots (h : Head) (k : Nat) : List Int := ((List.range k).filter fun i => h.Dirty.getD i false).map fun i : Nat => (i : Int)
def dblocks (h : Head) (k : Nat) : List (List UInt8) := ((List.range k).filter fun i => h.Dirty.getD i false).map fun i => h.Blocks.getD i []
theorem dslots_succ (h : Head) (k : Nat) : dslots h (k + 1) = bif h.Dirty.getD k false then dslots h k ++ [(k : Int)] else dslots h k := by
  unfold dslots
  rw [List.range_succ, List.filter_append, List.map_append]
  rw [show List.filter (fun i => h.Dirty.getD i false) [k] = bif h.Dirty.getD k false then [k] else [] by simp only [List.filter]; cases h.Dirty.getD k false <;> rfl]
  cases hd : h.Dirty.getD k false <;> simp
theorem dblocks_succ (h : Head) (k : Nat) : dblocks h (k + 1) = bif h.Dirty.getD k false then dblocks h k ++ [h.Blocks.getD k []] else dblocks h k := by
  unfold dblocks
  rw [List.range_succ, List.filter_append, List.map_append]
  rw [show List.filter (fun i => h.Dirty.getD i false) [k] = bif h.Dirty.getD k false then [k] else [] by simp only [List.filter]; cases h.Dirty.getD k false <;> rfl]
  cases hd : h.Dirty.getD k false <;> simp
theorem dslots_len (h : Head) (k : Nat) : (dslots h k).length ≤ k := by unfold dslots; rw [List.length_map]; exact Nat.le_trans (List.length_filter_le _ _) (by simp)
theorem dblocks_len (h : Head) (k : Nat) : (dblocks h k).length ≤ k := by unfold dblocks; rw [List.length_map]; exact Nat.le_trans (List.length_filter_le _ _) (by simp)
def lastB (h : Head) : List UInt8 := h.Blocks.getD (h.Blocks.length - 1) []
def dealD : Deal := Deal.mk 0 [] [] []
def dealS (c : Config) (h : Head) : Deal × Int :=
  bif mayH c h then (bif decide (h.Phase.toNat = 0) then (dealD, 6) else (Deal.mk h.Stripe (dslots h h.Dirty.length) (dblocks h h.Dirty.length) (lastB h), 0)) else (dealD, 8)
theorem getD_some {α : Type} {l : List α} {k : Nat} (hk : k < l.length) (d : α) : l[k]? = some (l.getD k d) := by
  rw [List.getD_eq_getElem?_getD, List.getElem?_eq_getElem hk]; rfl
theorem OfH.blk {c : Config} {h : Head} (o : OfH c h) (k : Nat) : (h.Blocks.getD k []).length = 0 ∨ (h.Blocks.getD k []).length = 128 := by
  by_cases hk : k < h.Blocks.length
  · rw [List.getD_eq_getElem?_getD, List.getElem?_eq_getElem hk]; exact o.bl _ (List.getElem_mem hk)
  · rw [List.getD_eq_getElem?_getD, List.getElem?_eq_none (by omega)]; exact .inl rfl
theorem hdeal_eq (c : Config) (h : Head) : head_Deal c h = some (dealS c h) := by
  unfold head_Deal dealS
  rw [hcheck_eq]
  cases hm : mayH c h with
  | false => rfl
  | true =>
  have o := mayH_of hm
  have hmm := o.m.1
  have hnb := o.nb
  have hnd := o.nd
  simp only [cond_true, Option.bind_some, ph0, bne_self_eq_false, cond_false]
  cases hp : decide (h.Phase.toNat = 0) with
  | true => rfl
  | false =>
  have hw : wI (c.Members - 1) = ((h.Blocks.length - 1 : Nat) : Int) := by rw [wI_id (by omega) (by omega)]; omega
  rw [hw, idx_nat, getD_some (show h.Blocks.length - 1 < h.Blocks.length by omega) []]
  simp only [cond_false, Option.bind_some, slices_Clone_byte_byte]
  have hlb := o.blk (h.Blocks.length - 1)
  rw [app_some _ _ (by simp only [List.length_nil]; omega)]
  simp only [List.nil_append, Option.bind_some]
  have := loop_run (step := fun s : Int × (List Int) × (List (List UInt8)) => head_Deal_L1 h s.1 s.2.1 s.2.2) (fun k => ((k : Int), dslots h k, dblocks h k)) h.Dirty.length (dslots h h.Dirty.length, dblocks h h.Dirty.length) (fuel_lt (by omega)) (fun k hk => by
    unfold head_Deal_L1 head_Deal_J2
    have h1 := dslots_len h k
    have h2 := dblocks_len h k
    have h3 := o.blk k
    simp only
    rw [decide_eq_true (show (k : Int) < (h.Dirty.length : Int) by omega), idx_nat, idx_nat, getD_some hk false, getD_some (show k < h.Blocks.length by omega) [], wI_succ (by omega), dslots_succ, dblocks_succ]
    simp only [cond_true, Option.bind_some, slices_Clone_byte_byte]
    cases h.Dirty.getD k false with
    | false => rfl
    | true =>
      rw [app_some _ _ (by simp; omega), app_some _ _ (by simp only [List.length_nil]; omega)]
      simp only [Option.bind_some, cond_true, List.nil_append]
      rw [app_some _ _ (by simp; omega)]
      rfl) (by
    unfold head_Deal_L1
    simp only
    rw [decide_eq_false (by omega)]; rfl)
  replace this : loopM (fun s : Int × (List Int) × (List (List UInt8)) => head_Deal_L1 h s.1 s.2.1 s.2.2) FUEL ((0 : Int), ([] : List Int), ([] : List (List UInt8))) = _ := this
  rw [this]
  rfl
theorem full_eq {x : List UInt8} (h : x.length = 128) : ref04_Full x = some x := by
  unfold ref04_Full
  rw [show ((x.length : Int) == 0) = false by simp [h]]
  simp only [cond_false]
  rw [app_some _ _ (by simp [h])]
  rfl
theorem lastN_pos {c : Config} {h : Head} (o : OfH c h) (hp : h.Phase.toNat ≠ 0) : (lastB h).length = 128 := by
  have hk := o.ok
  have hb := o.blk (h.Blocks.length - 1)
  unfold phOk at hk
  simp only [Bool.not_eq_true', Bool.or_eq_false_iff, decide_eq_false hp] at hk
  have h1 := hk.1.1.1
  have h2 : 0 < lastN h := by
    apply Classical.byContradiction
    intro hn
    rw [decide_eq_false hn] at h1
    cases h1
  unfold lastN at h2
  unfold lastB
  omega
theorem rdealt_eq (c : Config) (h : Head) (hm : mayH c h = true) (hp : h.Phase.toNat ≠ 0) : ref16_Dealt c h = some (Deal.mk h.Stripe (dslots h h.Dirty.length) (dblocks h h.Dirty.length) (lastB h)) := by
  have o := mayH_of hm
  have hmm := o.m.1
  have hnb := o.nb
  have hnd := o.nd
  unfold ref16_Dealt
  have hw : wI (c.Members - 1) = ((h.Blocks.length - 1 : Nat) : Int) := by rw [wI_id (by omega) (by omega)]; omega
  rw [hw, idx_nat, getD_some (show h.Blocks.length - 1 < h.Blocks.length by omega) []]
  have hlb := lastN_pos o hp
  have e : h.Blocks.getD (h.Blocks.length - 1) [] = lastB h := rfl
  rw [e]
  simp only [Option.bind_some, full_eq hlb]
  have := loop_run (step := fun s : Int × (List Int) × (List (List UInt8)) => ref16_Dealt_L1 c h s.1 s.2.1 s.2.2) (fun k => ((k : Int), dslots h k, dblocks h k)) h.Dirty.length (dslots h h.Dirty.length, dblocks h h.Dirty.length) (fuel_lt (by omega)) (fun k hk => by
    unfold ref16_Dealt_L1 ref16_Dealt_J2
    have h1 := dslots_len h k
    have h2 := dblocks_len h k
    have h3 := o.blk k
    have h4 := o.di k
    simp only
    rw [wI_id (x := c.Members - 1) (by omega) (by omega), decide_eq_true (show (k : Int) < c.Members - 1 by omega), idx_nat, idx_nat, getD_some hk false, getD_some (show k < h.Blocks.length by omega) [], wI_succ (by omega), dslots_succ, dblocks_succ]
    simp only [cond_true, Option.bind_some]
    cases hd : h.Dirty.getD k false with
    | false => rfl
    | true =>
      have h5 := h4 hd
      rw [app_some _ _ (by simp; omega), full_eq (by omega)]
      simp only [Option.bind_some, cond_true]
      rw [app_some _ _ (by simp; omega)]
      rfl) (by
    unfold ref16_Dealt_L1
    simp only
    rw [wI_id (x := c.Members - 1) (by omega) (by omega), decide_eq_false (by omega)]; rfl)
  replace this : loopM (fun s : Int × (List Int) × (List (List UInt8)) => ref16_Dealt_L1 c h s.1 s.2.1 s.2.2) FUEL ((0 : Int), ([] : List Int), ([] : List (List UInt8))) = _ := this
  rw [this]
  rfl
theorem rdeal_eq (c : Config) (h : Head) : ref16_Deal c h = some (dealS c h) := by
  unfold ref16_Deal ref16_Deal_J1 dealS
  rw [rcheck_eq]
  cases hm : mayH c h with
  | false => rfl
  | true =>
  simp only [cond_true, Option.bind_some, ph0, beq_self_eq_true, Bool.true_and]
  cases hp : decide (h.Phase.toNat = 0) with
  | true => rfl
  | false =>
  simp only [cond_false]
  rw [rdealt_eq c h hm (by simpa using hp)]
  rfl
theorem samedeal_self (d : Deal) (h1 : d.Slots.length < 4294967296) (h2 : d.Blocks.length < 4294967296) : ref16_SameDeal d d = some true := by
  unfold ref16_SameDeal
  simp only [bne_self_eq_false, Bool.or_self, beq_self_eq_true, Bool.not_true, cond_false]
  rw [loop_differ (step := fun s : Int => ref16_SameDeal_L1 d d s) d.Slots d.Slots (Sum.inr ()) (Sum.inl ()) h1 rfl (fun k x y hx hy hk => by
    unfold ref16_SameDeal_L1
    rw [decide_eq_true (show (k : Int) < (d.Slots.length : Int) by omega), idx_nat, wI_succ (by omega)]
    rw [hx] at hy
    cases hy
    rw [hx]
    simp) (by
    unfold ref16_SameDeal_L1
    rw [decide_eq_false (by omega)]; rfl)]
  simp only [decide_true, cond_true, Option.bind_some, Sum.elim_inl]
  rw [loop_differ (step := fun s : Int => ref16_SameDeal_L2 d d s) d.Blocks d.Blocks (Sum.inr ()) (Sum.inl ()) h2 rfl (fun k x y hx hy hk => by
    unfold ref16_SameDeal_L2
    rw [decide_eq_true (show (k : Int) < (d.Blocks.length : Int) by omega), idx_nat, wI_succ (by omega)]
    rw [hx] at hy
    cases hy
    rw [hx]
    simp) (by
    unfold ref16_SameDeal_L2
    rw [decide_eq_false (by omega)]; rfl)]
  simp
end Go.Proofs.Ytjefieckineneaa
