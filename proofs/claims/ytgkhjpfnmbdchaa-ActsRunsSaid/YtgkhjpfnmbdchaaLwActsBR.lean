/- Plain law: acts on devices: which may be done, and what they do. -/
import Derived.Test.YtgkhjpfnmbdchaaLwActsAR
import Derived.Test.YtgkhjpfnmbdchaaLwDiskOR
namespace Go.Proofs.Ytgkhjpfnmbdchaa
open Go GL

theorem contDs_eq (l : List Disk) (f : Disk → Option Bool) (p : Disk → Bool) (hl : l.length < 4294967296) (hf : ∀ x ∈ l, f x = some (p x)) : slices_ContainsFunc_api_Disk_api_Disk l f = some (l.any p) := by
  unfold slices_ContainsFunc_api_Disk_api_Disk slices_IndexFunc_api_Disk_api_Disk
  obtain ⟨b, hb, hq⟩ := loop_first l p (step := fun s : Int => slices_IndexFunc_api_Disk_api_Disk_L1 l f s) (fun k => Sum.inr (k : Int)) (Sum.inl ()) hl (fun k hk => by
      unfold slices_IndexFunc_api_Disk_api_Disk_L1
      rw [decide_eq_true (show (k : Int) < (l.length : Int) by omega), idx_nat, List.getElem?_eq_getElem hk, wI_succ (by omega)]
      simp only [cond_true, Option.bind_some, hf l[k] (List.getElem_mem _)]
      cases p l[k] <;> rfl) (by
      unfold slices_IndexFunc_api_Disk_api_Disk_L1
      rw [decide_eq_false (show ¬(l.length : Int) < (l.length : Int) by omega)]; rfl)
  rw [hb]
  rcases hq with ⟨k, rfl, hk, hp, _⟩ | ⟨rfl, hn⟩
  · rw [List.any_eq_true.2 ⟨l[k], List.getElem_mem _, hp⟩]; simp
  · rw [List.any_eq_false.2 (fun x hx => by rw [hn x hx]; simp)]; rfl

def mayDs (ds : List Disk) : Bool := decide (1 ≤ ds.length) && (decide (ds.length ≤ 17) && !(ds.any fun d => !mayD d))
structure MayDs (ds : List Disk) : Prop where
  n1 : 1 ≤ ds.length
  n2 : ds.length ≤ 17
  m : ∀ d ∈ ds, MayD d
theorem mayDs_ok {ds : List Disk} (h : mayDs ds = true) : MayDs ds := by
  unfold mayDs at h
  simp only [Bool.and_eq_true, decide_eq_true_eq, Bool.not_eq_true', List.any_eq_false] at h
  exact ⟨h.1, h.2.1, fun d hd => (mayD_iff d).1 (by simpa using h.2.2 d hd)⟩
theorem MayDs.t {ds : List Disk} (h : MayDs ds) : mayDs ds = true := by
  unfold mayDs
  simp only [Bool.and_eq_true, decide_eq_true_eq, Bool.not_eq_true', List.any_eq_false]
  exact ⟨h.n1, h.n2, fun d hd => by rw [(mayD_iff d).2 (h.m d hd)]; simp⟩
theorem MayDs.small {ds : List Disk} (h : MayDs ds) : ∀ d ∈ ds, SmallD d := fun d hd => (h.m d hd).small
theorem pdevs_eq (ds : List Disk) : acts_devices ds = some (bif mayDs ds then 0 else 8) := by
  unfold acts_devices mayDs
  by_cases h1 : 1 ≤ ds.length
  case neg => rw [decide_eq_true (show (ds.length : Int) < 1 by omega), decide_eq_false h1]; simp [gO]
  by_cases h2 : ds.length ≤ 17
  case neg => rw [decide_eq_true (show (ds.length : Int) > 17 by omega), decide_eq_false h2]; simp [gO]
  rw [decide_eq_false (show ¬(ds.length : Int) < 1 by omega), decide_eq_false (show ¬(ds.length : Int) > 17 by omega), decide_eq_true h1, decide_eq_true h2,
    contDs_eq ds _ (fun d => !mayD d) (by omega) (fun d _ => by
      unfold acts_devices_1
      rw [pcheck_eq]
      cases mayD d <;> rfl)]
  cases ds.any (fun d => !mayD d) <;> rfl
theorem rdevs_eq {ds : List Disk} (hl : ds.length < 4294967296) : ref05_May ds = some (mayDs ds) := by
  unfold ref05_May mayDs
  rw [loop_anyD ds (fun d => !mayD d) (step := fun s : Int => ref05_May_L1 ds s) (Sum.inr ()) (Sum.inl ()) hl (fun k hk => by
    unfold ref05_May_L1
    rw [decide_eq_true (show (k : Int) < (ds.length : Int) by omega), idx_nat, List.getElem?_eq_getElem hk, wI_succ (by omega)]
    simp only [cond_true, Option.bind_some]
    rw [rmay_eq]
    cases mayD ds[k] <;> rfl) (by
    unfold ref05_May_L1
    rw [decide_eq_false (by omega)]; rfl)]
  simp only [Option.bind_some]
  cases ds.any (fun d => !mayD d) with
  | true => simp
  | false =>
    simp only [cond_false, Sum.elim_inl, Bool.not_false, Bool.and_true]
    rw [show decide ((ds.length : Int) ≥ 1) = decide (1 ≤ ds.length) from decide_eq_decide.2 (by omega), show decide ((ds.length : Int) ≤ 17) = decide (ds.length ≤ 17) from decide_eq_decide.2 (by omega)]

def lensD (ds : List Disk) : List Nat := ds.map fun d => d.Blocks.length
def outA (a : Act64) (n : Nat) : Bool := decide (a.Disk < 0) || decide (a.Disk ≥ (n : Int))
def mayA (a : Act64) (ns : List Nat) : Bool :=
  !outA a ns.length && (bif a.Kind == 3 then (a.At == 0) && decide (a.Data.length = 0) else (a.Kind == 1 || a.Kind == 2) && (decide (0 ≤ a.At) && (decide (a.At < ((ns.getD a.Disk.toNat 0 : Nat) : Int)) && szB a.Data)))
def OkA (a : Act64) (nb : Nat) : Prop := (a.Kind = 3 ∧ a.At = 0 ∧ a.Data = []) ∨ ((a.Kind = 1 ∨ a.Kind = 2) ∧ szB a.Data = true ∧ ∃ k : Nat, a.At = (k : Int) ∧ k < nb)
theorem outA_ok {a : Act64} {n : Nat} (h : outA a n = false) : ∃ i : Nat, a.Disk = (i : Int) ∧ i < n := by
  unfold outA at h
  simp only [Bool.or_eq_false_iff, decide_eq_false_iff_not] at h
  exact ⟨a.Disk.toNat, by omega, by omega⟩
theorem mayA_ok {a : Act64} {ns : List Nat} (h : mayA a ns = true) : ∃ (i : Nat) (hi : i < ns.length), a.Disk = (i : Int) ∧ OkA a ns[i] := by
  unfold mayA at h
  simp only [Bool.and_eq_true, Bool.not_eq_true'] at h
  obtain ⟨h1, h2⟩ := h
  obtain ⟨i, e, hi⟩ := outA_ok h1
  refine ⟨i, hi, e, ?_⟩
  rw [e, Int.toNat_natCast, List.getD_eq_getElem?_getD, List.getElem?_eq_getElem hi] at h2
  by_cases hk : a.Kind = 3
  · rw [show (a.Kind == 3) = true by simpa using hk] at h2
    simp only [cond_true, Bool.and_eq_true, decide_eq_true_eq] at h2
    exact .inl ⟨hk, by simpa using h2.1, List.eq_nil_of_length_eq_zero h2.2⟩
  · rw [show (a.Kind == 3) = false by simpa using hk] at h2
    simp only [cond_false, Bool.and_eq_true, decide_eq_true_eq, Bool.or_eq_true, beq_iff_eq, Option.getD_some] at h2
    exact .inr ⟨h2.1, h2.2.2.2, a.At.toNat, by omega, by omega⟩

theorem does_eq (k : UInt8) : acts_does k = some (if k = 1 then ⟨1⟩ else if k = 2 then ⟨2⟩ else if k = 3 then ⟨3⟩ else ⟨0⟩) := by
  by_cases h0 : k = 0
  · subst h0; rfl
  by_cases h1 : k = 1
  · subst h1; rfl
  by_cases h2 : k = 2
  · subst h2; rfl
  by_cases h3 : k = 3
  · subst h3; rfl
  rw [if_neg h1, if_neg h2, if_neg h3]
  unfold acts_does
  have e0 : k.toNat ≠ 0 := fun e => h0 (UInt8.toNat_inj.1 (by rw [e]; rfl))
  have e1 : k.toNat ≠ 1 := fun e => h1 (UInt8.toNat_inj.1 (by rw [e]; rfl))
  have e2 : k.toNat ≠ 2 := fun e => h2 (UInt8.toNat_inj.1 (by rw [e]; rfl))
  have e3 : k.toNat ≠ 3 := fun e => h3 (UInt8.toNat_inj.1 (by rw [e]; rfl))
  have h4 : k.toNat < 256 := k.toNat_lt
  rw [wI_id (by omega) (by omega), decide_eq_true (by omega)]; rfl
theorem pmayA_eq (a : Act64) (ds : List Disk) : acts_act_may a ds = some (mayA a (lensD ds)) := by
  unfold acts_act_may mayA
  rw [show (decide (a.Disk < 0) || decide (a.Disk ≥ ((ds.length : Nat) : Int))) = outA a (lensD ds).length by unfold outA lensD; rw [List.length_map]]
  cases ho : outA a (lensD ds).length with
  | true => rfl
  | false =>
    obtain ⟨i, e, hi⟩ := outA_ok ho
    have hi' : i < ds.length := by simpa [lensD] using hi
    have hg : (lensD ds).getD a.Disk.toNat 0 = ds[i].Blocks.length := by
      rw [e, Int.toNat_natCast, List.getD_eq_getElem?_getD, List.getElem?_eq_getElem hi]
      simp [lensD]
    rw [hg, does_eq, e, idx_nat, List.getElem?_eq_getElem hi']
    simp only [gO, Bool.not_false, cond_true, Option.bind_some, Bool.false_or, Bool.true_and]
    by_cases h3 : a.Kind = 3
    · rw [h3]
      simp only [if_neg (show ¬(3 : UInt8) = 1 by decide), if_neg (show ¬(3 : UInt8) = 2 by decide), if_pos, beq_self_eq_true, cond_true]
      rw [show (((a.Data.length : Nat) : Int) == 0) = decide (a.Data.length = 0) by rw [Bool.eq_iff_iff]; simp]
      rfl
    · rw [show (a.Kind == 3) = false by simpa using h3]
      have hsz : ((((a.Data.length : Nat) : Int) == 0) || (((a.Data.length : Nat) : Int) == 128)) = szB a.Data := by unfold szB; rw [Bool.eq_iff_iff]; simp only [Bool.or_eq_true, beq_iff_eq]; omega
      rw [hsz]
      simp only [cond_false, if_neg h3]
      by_cases h1 : a.Kind = 1
      · rw [h1]
        simp only [if_pos, beq_self_eq_true, Bool.true_or, Bool.true_and]
        rw [show (fnAt [59, 60, 61] 1).isNone = false from rfl]
        by_cases hat : 0 ≤ a.At
        · rw [decide_eq_true hat]; simp
        · rw [decide_eq_false hat]; rfl
      · simp only [if_neg h1, show (a.Kind == 1) = false by simpa using h1, Bool.false_or]
        by_cases h2 : a.Kind = 2
        · rw [h2]
          simp only [if_pos, beq_self_eq_true, Bool.true_and]
          rw [show (fnAt [59, 60, 61] 2).isNone = false from rfl]
          by_cases hat : 0 ≤ a.At
          · rw [decide_eq_true hat]; simp
          · rw [decide_eq_false hat]; rfl
        · simp only [if_neg h2, show (a.Kind == 2) = false by simpa using h2]
          rw [show (fnAt [59, 60, 61] 0).isNone = true from rfl]; rfl
theorem rmayA_eq (a : Act64) (ds : List Disk) : ref05_may a ds = some (mayA a (lensD ds)) := by
  unfold ref05_may mayA
  rw [show (decide (a.Disk < 0) || decide (a.Disk ≥ ((ds.length : Nat) : Int))) = outA a (lensD ds).length by unfold outA lensD; rw [List.length_map]]
  cases ho : outA a (lensD ds).length with
  | true => rfl
  | false =>
    obtain ⟨i, e, hi⟩ := outA_ok ho
    have hi' : i < ds.length := by simpa [lensD] using hi
    have hg : (lensD ds).getD a.Disk.toNat 0 = ds[i].Blocks.length := by
      rw [e, Int.toNat_natCast, List.getD_eq_getElem?_getD, List.getElem?_eq_getElem hi]
      simp [lensD]
    rw [hg, e, idx_nat, List.getElem?_eq_getElem hi']
    simp only [gO, Bool.not_false, cond_false, Bool.true_and, rsized_eq]
    cases (a.Kind == 3) with
    | true =>
      rw [show (((a.Data.length : Nat) : Int) == 0) = decide (a.Data.length = 0) by rw [Bool.eq_iff_iff]; simp]; rfl
    | false =>
      simp only [cond_false]
      cases (a.Kind == 1 || a.Kind == 2) with
      | false => rfl
      | true =>
        simp only [Bool.true_and]
        by_cases hat : 0 ≤ a.At
        · rw [decide_eq_true hat]
          simp only [cond_true, Option.bind_some, Bool.true_and]
          cases decide (a.At < ((ds[i].Blocks.length : Nat) : Int)) <;> rfl
        · rw [decide_eq_false hat]; rfl
def checkA (l : List Act64) (ds : List Disk) : Int := bif mayDs ds then (bif decide (1024 < l.length) then 4 else bif l.any (fun a => !mayA a (lensD ds)) then 2 else 0) else 8
theorem pcheckA_eq (l : List Act64) (ds : List Disk) : acts_Check l ds = some (checkA l ds) := by
  unfold acts_Check checkA
  rw [pdevs_eq]
  simp only [Option.bind_some]
  cases mayDs ds with
  | false => rfl
  | true =>
    simp only [cond_true, bne_self_eq_false, cond_false]
    by_cases hl : 1024 < l.length
    · rw [decide_eq_true hl, decide_eq_true (by omega)]; rfl
    · rw [decide_eq_false hl, decide_eq_false (by omega)]
      simp only [cond_false]
      rw [loop_anyD l (fun a => !mayA a (lensD ds)) (step := fun s : Int => acts_Check_L1 l ds s) (Sum.inr ()) (Sum.inl ()) (by omega) (fun k hk => by
        unfold acts_Check_L1
        rw [decide_eq_true (show (k : Int) < (l.length : Int) by omega), idx_nat, List.getElem?_eq_getElem hk, wI_succ (by omega)]
        simp only [cond_true, Option.bind_some, pmayA_eq]
        cases mayA l[k] (lensD ds) <;> rfl) (by
        unfold acts_Check_L1
        rw [decide_eq_false (by omega)]; rfl)]
      cases l.any (fun a => !mayA a (lensD ds)) <;> rfl
theorem rcheckA_eq (l : List Act64) {ds : List Disk} (hd : ds.length < 4294967296) : ref05_Check l ds = some (checkA l ds) := by
  unfold ref05_Check checkA
  rw [rdevs_eq hd]
  simp only [Option.bind_some]
  cases mayDs ds with
  | false => rfl
  | true =>
    simp only [cond_true, Bool.not_true, cond_false]
    by_cases hl : 1024 < l.length
    · rw [decide_eq_true hl, decide_eq_true (by omega)]; rfl
    · rw [decide_eq_false hl, decide_eq_false (by omega)]
      simp only [cond_false]
      rw [loop_anyD l (fun a => !mayA a (lensD ds)) (step := fun s : Int => ref05_Check_L1 l ds s) (Sum.inr ()) (Sum.inl ()) (by omega) (fun k hk => by
        unfold ref05_Check_L1
        rw [decide_eq_true (show (k : Int) < (l.length : Int) by omega), idx_nat, List.getElem?_eq_getElem hk, wI_succ (by omega)]
        simp only [cond_true, Option.bind_some, rmayA_eq]
        cases mayA l[k] (lensD ds) <;> rfl) (by
        unfold ref05_Check_L1
        rw [decide_eq_false (by omega)]; rfl)]
      cases l.any (fun a => !mayA a (lensD ds)) <;> rfl
theorem checkA_ok {l : List Act64} {ds : List Disk} (h : checkA l ds = 0) : MayDs ds ∧ l.length ≤ 1024 ∧ ∀ a ∈ l, mayA a (lensD ds) = true := by
  unfold checkA at h
  cases hm : mayDs ds with
  | false => rw [hm] at h; simp at h
  | true =>
    rw [hm] at h
    simp only [cond_true] at h
    by_cases hl : 1024 < l.length
    · rw [decide_eq_true hl] at h; simp at h
    · rw [decide_eq_false hl] at h
      simp only [cond_false] at h
      cases ha : l.any (fun a => !mayA a (lensD ds)) with
      | true => rw [ha] at h; simp at h
      | false =>
        refine ⟨mayDs_ok hm, by omega, fun a h2 => ?_⟩
        have := List.any_eq_false.1 ha a h2
        simpa using this

/-! ### what acts do -/
def fullA (d : Disk) (a : Act64) : Bool := !d.Dead && ((a.Kind == 1) && decide (1024 ≤ d.Wait.length))
def stepP (d : Disk) (a : Act64) : Disk := bif d.Dead then d else bif a.Kind == 1 then putD d a.At a.Data else bif a.Kind == 2 then pfuaD d a.At.toNat a.Data else pflushD d
def stepR (d : Disk) (a : Act64) : Disk := bif d.Dead then d else bif a.Kind == 1 then putD d a.At a.Data else bif a.Kind == 2 then rfuaD d a.At.toNat a.Data else rflushD d
def runA (stp : Disk → Act64 → Disk) : List Act64 → List Disk → Option (List Disk)
  | [], ds => some ds
  | a :: l, ds => bif fullA (ds.getD a.Disk.toNat noD) a then none else runA stp l (ds.set a.Disk.toNat (stp (ds.getD a.Disk.toNat noD) a))
theorem errD_zero {d : Disk} {k : Nat} {data : List UInt8} (h : MayD d) (hd : d.Dead = false) (hs : szB data = true) (hk : k < d.Blocks.length) : errD d (k : Int) data = 0 := by
  unfold errD askD
  rw [may_t h, hd, hs, decide_eq_false (show ¬(k : Int) < 0 by omega), decide_eq_false (show ¬(k : Int) ≥ (d.Blocks.length : Int) by omega)]; rfl
theorem pact_eq {d : Disk} {a : Act64} (h : MayD d) (hd : d.Dead = false) (ha : OkA a d.Blocks.length) :
    ∃ m, acts_does a.Kind = some m ∧ fncall75 m a d = some (bif fullA d a then (noD, 9) else (stepP d a, 0)) := by
  rw [does_eq]
  unfold fullA stepP
  rw [hd]
  rcases ha with ⟨hk, _, _⟩ | ⟨hk, hs, k, e, hkn⟩
  · rw [hk]
    refine ⟨⟨3⟩, rfl, ?_⟩
    show acts_act_flush a d = _
    unfold acts_act_flush
    rw [pflush_eq, may_t h, hd]; rfl
  · rcases hk with hk | hk
    · rw [hk]
      refine ⟨⟨1⟩, rfl, ?_⟩
      show acts_act_write a d = _
      unfold acts_act_write
      rw [pwrite_eq, e]
      unfold writeD
      rw [errD_zero h hd hs hkn]
      cases decide (1024 ≤ d.Wait.length) <;> rfl
    · rw [hk]
      refine ⟨⟨2⟩, rfl, ?_⟩
      show acts_act_fua a d = _
      unfold acts_act_fua
      rw [pfua_eq, e, errD_zero h hd hs hkn]; rfl
theorem rsure_eq {d : Disk} (hm : MayD d) {k : Nat} (hk : k < d.Blocks.length) {data : List UInt8} (hs : szB data = true) : ref04_Sure d (k : Int) data = some (rfuaD d k data) := by
  have hw := hm.small.nw
  unfold ref04_Sure rfuaD
  rw [rtwin_eq hm.small, rfull_eq (szB_len hs)]
  simp only [Option.bind_some]
  rw [bnd_nat hk]
  simp only [Option.bind_some]
  have := loop_run (step := fun s : Int × (List Write) => ref04_Sure_L1 d (k : Int) s.1 s.2) (fun i => ((i : Int), ((d.Wait.take i).filter (keepW (k : Int))).map fun w => (⟨w.At, fullB w.Data⟩ : Write))) d.Wait.length ((d.Wait.filter (keepW (k : Int))).map fun w => ⟨w.At, fullB w.Data⟩) (fuel_ltD (by omega)) (fun i hi => by
    have hwl := hm.small.lw _ (List.getElem_mem hi)
    unfold ref04_Sure_L1 ref04_Sure_J2
    simp only [decide_eq_true (show (i : Int) < (d.Wait.length : Int) by omega), cond_true, idx_nat, List.getElem?_eq_getElem hi, Option.bind_some]
    rw [take_succ_get _ _ _ (List.getElem?_eq_getElem hi), List.filter_append, List.map_append, wI_succ (by omega)]
    cases hat : (d.Wait[i].At != (k : Int)) with
    | true =>
      rw [rfull_eq (by omega)]
      simp only [cond_true, Option.bind_some]
      have hfl : ((d.Wait.take i).filter (keepW (k : Int))).length ≤ i := by
        have := List.length_filter_le (keepW (k : Int)) (d.Wait.take i)
        simp at this; omega
      rw [app_some _ _ (by simp; omega)]
      have : [d.Wait[i]].filter (keepW (k : Int)) = [d.Wait[i]] := by simp [keepW]; simpa using hat
      rw [this]; rfl
    | false =>
      have : [d.Wait[i]].filter (keepW (k : Int)) = [] := by simp [keepW]; simpa using hat
      rw [this]; simp) (by
    unfold ref04_Sure_L1
    rw [decide_eq_false (by omega), List.take_length]; rfl)
  have h0 : ((0 : Int), ([] : List Write)) = (fun i : Nat => ((i : Int), ((d.Wait.take i).filter (keepW (k : Int))).map fun w => (⟨w.At, fullB w.Data⟩ : Write))) 0 := by simp
  rw [h0, this]; rfl
theorem rflushed_eq {d : Disk} (hm : MayD d) : ref04_Flushed d = some (rflushD d) := by
  have hb := hm.small.nb
  unfold ref04_Flushed rflushD
  have := loop_run (step := fun s : Int × (List (List UInt8)) => ref04_Flushed_L1 d s.1 s.2) (fun i => ((i : Int), (List.range i).map (seenD d))) d.Blocks.length ((List.range d.Blocks.length).map (seenD d)) (fuel_ltD (by omega)) (fun i hi => by
    unfold ref04_Flushed_L1
    rw [decide_eq_true (show (i : Int) < (d.Blocks.length : Int) by omega), rseen_eq hm.small hi, wI_succ (by omega)]
    simp only [cond_true, Option.bind_some]
    rw [app_some _ _ (by simp; omega), List.range_succ, List.map_append]; rfl) (by
    unfold ref04_Flushed_L1
    rw [decide_eq_false (by omega)]; rfl)
  have h0 : ((0 : Int), ([] : List (List UInt8))) = (fun i : Nat => ((i : Int), (List.range i).map (seenD d))) 0 := by simp
  rw [h0, this]; rfl
theorem rdone_eq {ds : List Disk} (hl : ds.length ≤ 1000) {a : Act64} {i : Nat} (hi : i < ds.length) (ei : a.Disk = (i : Int)) (h : MayD ds[i]) (ha : OkA a ds[i].Blocks.length) :
    ref05_Done ds a = some (bif fullA ds[i] a then ([], false) else (ds.set i (stepR ds[i] a), true)) := by
  have hJ : ∀ e : Disk, ref05_Done_J1 ds a e.Blocks e.Wait e.Dead = some (ds.set i e, true) := fun e => by
    unfold ref05_Done_J1
    rw [app_some _ _ (by simp; omega), ei]
    simp only [List.nil_append, Option.bind_some]
    rw [bnd_nat hi]; rfl
  unfold ref05_Done
  rw [ei, idx_nat, List.getElem?_eq_getElem hi]
  simp only [Option.bind_some]
  unfold fullA stepR
  cases hd : ds[i].Dead with
  | true =>
    simp only [Bool.not_true, cond_false, Bool.false_and, cond_true]
    have := hJ ds[i]
    rw [hd] at this; exact this
  | false =>
    simp only [Bool.not_false, cond_true, Bool.true_and, cond_false]
    rcases ha with ⟨hk, _, _⟩ | ⟨hk, hs, k, e, hkn⟩
    · rw [hk]
      rw [rflushed_eq h]
      exact hJ _
    · rcases hk with hk | hk
      · rw [hk]
        simp only [beq_self_eq_true, cond_true, Bool.true_and]
        by_cases hw : 1024 ≤ ds[i].Wait.length
        · rw [decide_eq_true hw, decide_eq_true (by omega)]; rfl
        · rw [decide_eq_false hw, decide_eq_false (by omega), rput_eq h.small _ (szB_len hs)]
          simp only [cond_false, Option.bind_some]
          exact hJ _
      · rw [hk, e]
        rw [rsure_eq h hkn hs]
        exact hJ _
theorem rfua_may {d : Disk} {k : Nat} {data : List UInt8} (hm : MayD d) (hd : d.Dead = false) (hs : szB data = true) : MayD (rfuaD d k data) := by
  have hl : (rfuaD d k data).Blocks.length = d.Blocks.length := by simp [rfuaD]
  refine ⟨by rw [hl]; exact hm.n1, by rw [hl]; exact hm.n2, by unfold rfuaD; simp only [List.length_map]; exact Nat.le_trans (List.length_filter_le _ _) hm.nw, fun h => ?_, fun h => ?_, fun b hb => ?_, fun w hw => ?_⟩
  · have h : d.Dead = true := h
    rw [hd] at h; cases h
  · have h : d.Dead = true := h
    rw [hd] at h; cases h
  · rcases List.mem_or_eq_of_mem_set hb with hb | rfl
    · exact hm.sz b hb
    · exact szB_full hs
  · rw [hl]
    obtain ⟨x, hx, rfl⟩ := List.mem_map.1 hw
    obtain ⟨h1, h2, h3⟩ := hm.wt x (List.mem_filter.1 hx).1
    exact ⟨h1, h2, szB_full h3⟩
theorem seen_sz {d : Disk} (h : MayD d) (k : Nat) : szB (seenD d k) = true := by
  unfold seenD
  have h0 : szB (liesD d k) = true := by
    unfold liesD
    refine szB_full ?_
    rw [List.getD_eq_getElem?_getD]
    by_cases hk : k < d.Blocks.length
    · rw [List.getElem?_eq_getElem hk]; exact h.sz _ (List.getElem_mem hk)
    · rw [List.getElem?_eq_none (by omega)]; rfl
  have : ∀ (l : List Write) (acc : List UInt8), (∀ w ∈ l, szB w.Data = true) → szB acc = true → szB (l.foldl (overW (k : Int)) acc) = true := by
    intro l
    induction l with
    | nil => intro acc _ h; exact h
    | cons w l ih =>
      intro acc hl ha
      rw [List.foldl_cons]
      refine ih _ (fun x hx => hl x (by simp [hx])) ?_
      unfold overW
      split
      · exact szB_full (hl w (by simp))
      · exact ha
  exact this d.Wait _ (fun w hw => (h.wt w hw).2.2) h0
theorem rflush_may {d : Disk} (h : MayD d) (hd : d.Dead = false) : MayD (rflushD d) := by
  have hdd : (rflushD d).Dead = false := hd
  refine ⟨by unfold rflushD; simp; exact h.n1, by unfold rflushD; simp; exact h.n2, by unfold rflushD; simp, fun _ => rfl, fun h2 => (by rw [hdd] at h2; cases h2), fun b hb => ?_, fun w hw => by unfold rflushD at hw; simp at hw⟩
  unfold rflushD at hb
  obtain ⟨k, _, rfl⟩ := List.mem_map.1 hb
  exact seen_sz h k
theorem stepP_may {d : Disk} {a : Act64} (h : MayD d) (ha : OkA a d.Blocks.length) (hf : fullA d a = false) : MayD (stepP d a) ∧ (stepP d a).Blocks.length = d.Blocks.length := by
  unfold fullA at hf
  unfold stepP
  cases hd : d.Dead with
  | true => exact ⟨h, rfl⟩
  | false =>
    rw [hd] at hf
    rcases ha with ⟨hk, _, _⟩ | ⟨hk, hs, k, e, hkn⟩
    · rw [hk]; exact ⟨pflush_may h hd, by show (pflushD d).Blocks.length = _; unfold pflushD; simp only [setW_len]⟩
    · rcases hk with hk | hk
      · rw [hk] at hf ⊢
        have hw : ¬ 1024 ≤ d.Wait.length := by simpa using hf
        rw [e]; exact ⟨put_may h hd hs hkn hw, rfl⟩
      · rw [hk, e]; exact ⟨fua_may h hd hs, by show (pfuaD d _ _).Blocks.length = _; simp [pfuaD]⟩
theorem stepR_may {d : Disk} {a : Act64} (h : MayD d) (ha : OkA a d.Blocks.length) (hf : fullA d a = false) : MayD (stepR d a) ∧ (stepR d a).Blocks.length = d.Blocks.length := by
  unfold fullA at hf
  unfold stepR
  cases hd : d.Dead with
  | true => exact ⟨h, rfl⟩
  | false =>
    rw [hd] at hf
    rcases ha with ⟨hk, _, _⟩ | ⟨hk, hs, k, e, hkn⟩
    · rw [hk]; exact ⟨rflush_may h hd, by show (rflushD d).Blocks.length = _; unfold rflushD; simp⟩
    · rcases hk with hk | hk
      · rw [hk] at hf ⊢
        have hw : ¬ 1024 ≤ d.Wait.length := by simpa using hf
        rw [e]; exact ⟨put_may h hd hs hkn hw, rfl⟩
      · rw [hk, e]; exact ⟨rfua_may h hd hs, by show (rfuaD d _ _).Blocks.length = _; simp [rfuaD]⟩
end Go.Proofs.Ytgkhjpfnmbdchaa
