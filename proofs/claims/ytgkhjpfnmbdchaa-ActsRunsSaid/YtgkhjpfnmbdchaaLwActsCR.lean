/- Plain law: acts.Run and the document's answer. -/
import Derived.Test.YtgkhjpfnmbdchaaLwActsBR
namespace Go.Proofs.Ytgkhjpfnmbdchaa
open Go GL

theorem ptwins_eq {ds : List Disk} (hl : ds.length ≤ 100000) (h : ∀ d ∈ ds, SmallD d) : acts_twins ds = some ds := by
  unfold acts_twins
  have := loop_run (step := fun s : (List Disk) × Int => acts_twins_L1 ds s.1 s.2) (fun k => (ds.take k, (k : Int))) ds.length ds (fuel_ltD (by omega)) (fun k hk => by
    unfold acts_twins_L1
    simp only
    rw [decide_eq_true (by omega), idx_nat, List.getElem?_eq_getElem hk]
    simp only [cond_true, Option.bind_some]
    rw [ptwin_eq (h _ (List.getElem_mem hk)), wI_succ (by omega)]
    simp only [Option.bind_some]
    rw [app_some _ _ (by simp; omega), take_succ_get _ _ _ (List.getElem?_eq_getElem hk)]; rfl) (by
    unfold acts_twins_L1
    simp only
    rw [decide_eq_false (by omega), List.take_length]; rfl)
  have h0 : (([] : List Disk), (0 : Int)) = (fun k : Nat => (ds.take k, (k : Int))) 0 := by simp
  rw [h0, this]; rfl

theorem runA_cons (stp : Disk → Act64 → Disk) (a : Act64) (l : List Act64) (ds : List Disk) : runA stp (a :: l) ds = bif fullA (ds.getD a.Disk.toNat noD) a then none else runA stp l (ds.set a.Disk.toNat (stp (ds.getD a.Disk.toNat noD) a)) := rfl
/-- Devices that may be, of given sizes. -/
def LikeDs (ns : List Nat) (ds : List Disk) : Prop := MayDs ds ∧ lensD ds = ns
theorem like_at {ns : List Nat} {ds : List Disk} (h : LikeDs ns ds) {a : Act64} (ha : mayA a ns = true) :
    ∃ (i : Nat) (hi : i < ds.length), a.Disk = (i : Int) ∧ ds.getD a.Disk.toNat noD = ds[i] ∧ MayD ds[i] ∧ OkA a ds[i].Blocks.length := by
  obtain ⟨hm, rfl⟩ := h
  obtain ⟨i, hi, e, hok⟩ := mayA_ok ha
  have hi' : i < ds.length := by simpa [lensD] using hi
  refine ⟨i, hi', e, ?_, hm.m _ (List.getElem_mem hi'), ?_⟩
  · rw [e, Int.toNat_natCast, List.getD_eq_getElem?_getD, List.getElem?_eq_getElem hi']; rfl
  · simpa [lensD] using hok
theorem like_set {ns : List Nat} {ds : List Disk} (h : LikeDs ns ds) {i : Nat} (hi : i < ds.length) {d : Disk} (hd : MayD d) (hl : d.Blocks.length = ds[i].Blocks.length) : LikeDs ns (ds.set i d) := by
  obtain ⟨hm, rfl⟩ := h
  refine ⟨⟨by simpa using hm.n1, by simpa using hm.n2, fun e he => ?_⟩, ?_⟩
  · rcases List.mem_or_eq_of_mem_set he with he | rfl
    · exact hm.m e he
    · exact hd
  · unfold lensD
    rw [List.map_set, hl]
    have : (ds.map fun d => d.Blocks.length)[i]? = some ds[i].Blocks.length := by simp [hi]
    exact List.ext_getElem? fun j => by
      rw [List.getElem?_set]
      split
      · next h => subst h; rw [this]; simp [hi]
      · rfl

theorem loop_acts {B : Type} {step : List Disk × Int → Option (Ctl (List Disk × Int) B)} (stp : Disk → Act64 → Disk) (l : List Act64) (Inv : List Disk → Prop) (yes : List Disk → B) (no : B) (hl : l.length < 4294967296)
    (h1 : ∀ k (hk : k < l.length) ds, Inv ds → (fullA (ds.getD l[k].Disk.toNat noD) l[k] = true ∧ step (ds, (k : Int)) = some (.brk no)) ∨
      (fullA (ds.getD l[k].Disk.toNat noD) l[k] = false ∧ step (ds, (k : Int)) = some (.next (ds.set l[k].Disk.toNat (stp (ds.getD l[k].Disk.toNat noD) l[k]), ((k + 1 : Nat) : Int))) ∧ Inv (ds.set l[k].Disk.toNat (stp (ds.getD l[k].Disk.toNat noD) l[k]))))
    (h2 : ∀ ds, step (ds, (l.length : Int)) = some (.brk (yes ds))) (ds0 : List Disk) (h0 : Inv ds0) :
    ∃ b, loopM step FUEL (ds0, (0 : Int)) = some b ∧ ((∃ o, runA stp l ds0 = some o ∧ Inv o ∧ b = yes o) ∨ (runA stp l ds0 = none ∧ b = no)) := by
  refine loop_inv (step := step) l.length (fun k s => s.2 = (k : Int) ∧ Inv s.1 ∧ runA stp (l.drop k) s.1 = runA stp l ds0) _ (fun k s hk hI => ?_) FUEL 0 (ds0, 0) (Nat.zero_le _) (by have := fuel_ltD hl; omega) ⟨rfl, h0, by simp⟩
  obtain ⟨ds, s2⟩ := s
  obtain ⟨e1, e2, e3⟩ := hI
  simp only at e1 e2 e3
  subst e1
  by_cases hlt : k < l.length
  · rw [List.drop_eq_getElem_cons hlt] at e3
    rw [runA_cons] at e3
    rcases h1 k hlt ds e2 with ⟨hf, hs⟩ | ⟨hf, hs, hi⟩
    · rw [hf] at e3
      exact .inr ⟨_, hs, .inr ⟨e3.symm, rfl⟩⟩
    · rw [hf] at e3
      exact .inl ⟨_, hs, hlt, rfl, hi, e3⟩
  · obtain rfl : k = l.length := by omega
    rw [List.drop_length] at e3
    exact .inr ⟨_, h2 ds, .inl ⟨ds, e3.symm, e2, rfl⟩⟩

def runD (stp : Disk → Act64 → Disk) (ds : List Disk) (l : List Act64) (n : Int) : List Disk × Int :=
  bif (checkA l ds != 0) then ([], checkA l ds) else bif decide (n < 0) || decide (n > (l.length : Int)) then ([], 2) else ((runA stp (l.take n.toNat) ds).elim ([], 9) fun o => (o, 0))
theorem slc_take {α : Type} (l : List α) {n : Int} (h : (decide (n < 0) || decide (n > (l.length : Int))) = false) : slc l 0 n = some (l.take n.toNat) := by
  simp only [Bool.or_eq_false_iff, decide_eq_false_iff_not] at h
  unfold slc
  rw [if_pos (by omega)]
  simp
theorem prun_eq (ds : List Disk) (l : List Act64) (n : Int) : acts_Run ds l n = some (runD stepP ds l n) ∧ ∀ o, runA stepP (l.take n.toNat) ds = some o → checkA l ds = 0 → LikeDs (lensD ds) o := by
  unfold acts_Run runD
  rw [pcheckA_eq]
  simp only [Option.bind_some]
  cases hc : (checkA l ds != 0) with
  | true => exact ⟨rfl, fun o _ h => by rw [h] at hc; cases hc⟩
  | false =>
    obtain ⟨hm, hl, ha⟩ := checkA_ok (l := l) (ds := ds) (by simpa using hc)
    have hmem : ∀ k (hk : k < (l.take n.toNat).length), mayA (l.take n.toNat)[k] (lensD ds) = true := fun k hk => ha _ (List.mem_of_mem_take (List.getElem_mem hk))
    obtain ⟨b, hb, hq⟩ := loop_acts (step := fun s : (List Disk) × Int => acts_Run_L1 (l.take n.toNat) s.1 s.2) stepP (l.take n.toNat) (LikeDs (lensD ds)) Sum.inl (Sum.inr 9) (by simp; omega) (fun k hk es hI => by
      obtain ⟨i, hi, e, hg, hmay, hok⟩ := like_at hI (hmem k hk)
      rw [hg, e, Int.toNat_natCast]
      show (_ ∧ acts_Run_L1 (l.take n.toNat) es (k : Int) = _) ∨ (_ ∧ acts_Run_L1 (l.take n.toNat) es (k : Int) = _ ∧ _)
      have hstep : acts_Run_L1 (l.take n.toNat) es (k : Int) = some (bif fullA es[i] (l.take n.toNat)[k] then .brk (.inr 9) else .next (es.set i (stepP es[i] (l.take n.toNat)[k]), ((k + 1 : Nat) : Int))) := by
        unfold acts_Run_L1 acts_Run_J2
        rw [decide_eq_true (by omega), idx_nat, List.getElem?_eq_getElem hk, wI_succ (by simp at hk; omega)]
        simp only [cond_true, Option.bind_some]
        rw [e, idx_nat, List.getElem?_eq_getElem hi]
        simp only [Option.bind_some]
        cases hd : es[i].Dead with
        | true =>
          simp only [cond_true]
          rw [show fullA es[i] (l.take n.toNat)[k] = false by unfold fullA; rw [hd]; rfl, show stepP es[i] (l.take n.toNat)[k] = es[i] by unfold stepP; rw [hd]; rfl]
          simp
        | false =>
          obtain ⟨m, hm1, hm2⟩ := pact_eq hmay hd hok
          rw [hm1]
          simp only [cond_false, Option.bind_some]
          rw [hm2]
          simp only [Option.bind_some]
          cases fullA es[i] (l.take n.toNat)[k] with
          | true => rfl
          | false =>
            simp only [cond_false, bne_self_eq_false]
            rw [bnd_nat hi]; rfl
      rw [hstep]
      cases hf : fullA es[i] (l.take n.toNat)[k] with
      | true => exact .inl ⟨rfl, rfl⟩
      | false =>
        obtain ⟨h1, h2⟩ := stepP_may hmay hok hf
        exact .inr ⟨rfl, rfl, like_set hI hi h1 h2⟩) (fun es => by
      show acts_Run_L1 (l.take n.toNat) es _ = _
      unfold acts_Run_L1
      rw [decide_eq_false (by omega)]; rfl) ds ⟨hm, rfl⟩
    refine ⟨?_, fun o ho _ => ?_⟩
    · simp only [cond_false]
      cases hn : (decide (n < 0) || decide (n > (l.length : Int))) with
      | true => rfl
      | false =>
        simp only [cond_false]
        rw [ptwins_eq (by have := hm.n2; omega) hm.small, slc_take l hn]
        simp only [Option.bind_some]
        rw [hb]
        rcases hq with ⟨o, ho, _, rfl⟩ | ⟨ho, rfl⟩
        · rw [ho]; rfl
        · rw [ho]; rfl
    · rcases hq with ⟨o', ho', hL, _⟩ | ⟨ho', _⟩
      · rw [ho'] at ho; cases ho; exact hL
      · rw [ho'] at ho; cases ho
theorem rrun_eq {ds : List Disk} (hds : ds.length < 4294967296) (l : List Act64) (n : Int) : ref05_Run ds l n = some (runD stepR ds l n) ∧ ∀ o, runA stepR (l.take n.toNat) ds = some o → checkA l ds = 0 → LikeDs (lensD ds) o := by
  unfold ref05_Run runD
  rw [rcheckA_eq l hds]
  simp only [Option.bind_some]
  cases hc : (checkA l ds != 0) with
  | true => exact ⟨rfl, fun o _ h => by rw [h] at hc; cases hc⟩
  | false =>
    obtain ⟨hm, hl, ha⟩ := checkA_ok (l := l) (ds := ds) (by simpa using hc)
    have hmem : ∀ k (hk : k < (l.take n.toNat).length), mayA (l.take n.toNat)[k] (lensD ds) = true := fun k hk => ha _ (List.mem_of_mem_take (List.getElem_mem hk))
    obtain ⟨b, hb, hq⟩ := loop_acts (step := fun s : (List Disk) × Int => ref05_Behind_L1 (l.take n.toNat) s.1 s.2) stepR (l.take n.toNat) (LikeDs (lensD ds)) Sum.inl (Sum.inr ()) (by simp; omega) (fun k hk es hI => by
      obtain ⟨i, hi, e, hg, hmay, hok⟩ := like_at hI (hmem k hk)
      rw [hg, e, Int.toNat_natCast]
      show (_ ∧ ref05_Behind_L1 (l.take n.toNat) es (k : Int) = _) ∨ (_ ∧ ref05_Behind_L1 (l.take n.toNat) es (k : Int) = _ ∧ _)
      have hstep : ref05_Behind_L1 (l.take n.toNat) es (k : Int) = some (bif fullA es[i] (l.take n.toNat)[k] then .brk (.inr ()) else .next (es.set i (stepR es[i] (l.take n.toNat)[k]), ((k + 1 : Nat) : Int))) := by
        unfold ref05_Behind_L1
        rw [decide_eq_true (by omega), idx_nat, List.getElem?_eq_getElem hk, wI_succ (by simp at hk; omega)]
        simp only [cond_true, Option.bind_some]
        rw [rdone_eq (by have := hI.1.n2; omega) hi e hmay hok]
        simp only [Option.bind_some]
        cases fullA es[i] (l.take n.toNat)[k] <;> rfl
      rw [hstep]
      cases hf : fullA es[i] (l.take n.toNat)[k] with
      | true => exact .inl ⟨rfl, rfl⟩
      | false =>
        obtain ⟨h1, h2⟩ := stepR_may hmay hok hf
        exact .inr ⟨rfl, rfl, like_set hI hi h1 h2⟩) (fun es => by
      show ref05_Behind_L1 (l.take n.toNat) es _ = _
      unfold ref05_Behind_L1
      rw [decide_eq_false (by omega)]; rfl) ds ⟨hm, rfl⟩
    refine ⟨?_, fun o ho _ => ?_⟩
    · simp only [cond_false]
      cases hn : (decide (n < 0) || decide (n > (l.length : Int))) with
      | true => rfl
      | false =>
        simp only [cond_false]
        rw [slc_take l hn]
        simp only [Option.bind_some]
        unfold ref05_Behind
        rw [hb]
        rcases hq with ⟨o, ho, _, rfl⟩ | ⟨ho, rfl⟩
        · rw [ho]; rfl
        · rw [ho]; rfl
    · rcases hq with ⟨o', ho', hL, _⟩ | ⟨ho', _⟩
      · rw [ho'] at ho; cases ho; exact hL
      · rw [ho'] at ho; cases ho

/-! ### what is seen of devices -/
theorem view_len {d e : Disk} (h : viewD d = viewD e) : d.Blocks.length = e.Blocks.length := by
  have := congrArg (fun v => v.1.length) h
  simpa [viewD] using this
theorem view_wait {d e : Disk} (h : viewD d = viewD e) : d.Wait.length = e.Wait.length := by
  have := congrArg (fun v => v.2.1.length) h
  simpa [viewD] using this
theorem view_dead {d e : Disk} (h : viewD d = viewD e) : d.Dead = e.Dead := congrArg (fun v => v.2.2) h
theorem view_blocks {d e : Disk} (h : viewD d = viewD e) : d.Blocks.map fullB = e.Blocks.map fullB := congrArg (fun v => v.1) h
theorem view_waits {d e : Disk} (h : viewD d = viewD e) : d.Wait.map viewW = e.Wait.map viewW := congrArg (fun v => v.2.1) h
theorem view_full {d e : Disk} (h : viewD d = viewD e) (a : Act64) : fullA d a = fullA e a := by
  unfold fullA
  rw [view_wait h, view_dead h]
theorem view_put {d e : Disk} (h : viewD d = viewD e) (at_ : Int) (data : List UInt8) : viewD (putD d at_ data) = viewD (putD e at_ data) := by
  have h1 := view_blocks h
  have h2 := view_waits h
  have h3 := view_dead h
  unfold viewD putD
  simp only [List.map_append, h1, h2, h3]
theorem view_filter (k : Int) (l : List Write) : (l.filter (keepW k)).map viewW = (l.map viewW).filter fun v => !(v.1 == k) := by
  rw [List.filter_map]; rfl
theorem view_fua {d e : Disk} (h : viewD d = viewD e) (k : Nat) (data : List UInt8) : viewD (pfuaD d k data) = viewD (pfuaD e k data) := by
  have h1 := view_blocks h
  have h2 := view_waits h
  have h3 := view_dead h
  unfold viewD pfuaD
  simp only [List.map_set, view_filter, h1, h2, h3]
theorem view_over (k : Int) : ∀ (l : List Write) (acc : List UInt8), l.foldl (overW k) acc = (l.map viewW).foldl (fun acc v => if v.1 = k then v.2 else acc) acc
  | [], _ => rfl
  | w :: l, acc => by rw [List.foldl_cons, view_over k l]; rfl
theorem view_lies {d e : Disk} (h : viewD d = viewD e) (k : Nat) : liesD d k = liesD e k := by
  have : ∀ f : Disk, liesD f k = ((f.Blocks.map fullB)[k]?).getD (fullB []) := fun f => by
    unfold liesD
    rw [List.getD_eq_getElem?_getD, List.getElem?_map]
    cases f.Blocks[k]? <;> rfl
  rw [this, this, view_blocks h]
theorem view_seen {d e : Disk} (h : viewD d = viewD e) (k : Nat) : seenD d k = seenD e k := by
  unfold seenD
  rw [view_over, view_over, view_waits h, view_lies h]
theorem view_rflush {d e : Disk} (h : viewD d = viewD e) : viewD (rflushD d) = viewD (rflushD e) := by
  unfold rflushD
  rw [view_len h, view_dead h, show seenD d = seenD e from funext fun k => view_seen h k]
theorem view_step {d e : Disk} (h : viewD d = viewD e) (hm : MayD d) (a : Act64) : viewD (stepP d a) = viewD (stepR e a) := by
  unfold stepP stepR
  rw [← view_dead h]
  cases d.Dead with
  | true => exact h
  | false =>
    simp only [cond_false]
    cases (a.Kind == 1) with
    | true => exact view_put h _ _
    | false =>
      cases (a.Kind == 2) with
      | true => simp only [cond_true, cond_false]; rw [view_fua h]; exact fua_view _ _ _
      | false => simp only [cond_false]; rw [flush_view hm]; exact view_rflush h
theorem view_stepP {d e : Disk} (h : viewD d = viewD e) (hm : MayD d) (hm' : MayD e) (a : Act64) : viewD (stepP d a) = viewD (stepP e a) := by
  rw [view_step h hm a, view_step rfl hm' a]
theorem views_lens {ds es : List Disk} (h : ds.map viewD = es.map viewD) : lensD ds = lensD es := by
  have := congrArg (List.map fun v : List (List UInt8) × List (Int × List UInt8) × Bool => v.1.length) h
  simp only [List.map_map] at this
  have hf : ((fun v : List (List UInt8) × List (Int × List UInt8) × Bool => v.1.length) ∘ viewD) = fun d : Disk => d.Blocks.length := by funext d; simp [viewD]
  rw [hf] at this
  exact this
theorem view_run {p q : Disk → Act64 → Disk} (hpq : ∀ d e a, viewD d = viewD e → MayD d → MayD e → viewD (p d a) = viewD (q e a))
    (hp : ∀ d a, MayD d → OkA a d.Blocks.length → fullA d a = false → MayD (p d a) ∧ (p d a).Blocks.length = d.Blocks.length)
    (hq : ∀ d a, MayD d → OkA a d.Blocks.length → fullA d a = false → MayD (q d a) ∧ (q d a).Blocks.length = d.Blocks.length) (ns : List Nat) :
    ∀ (l : List Act64) (ds es : List Disk), ds.map viewD = es.map viewD → LikeDs ns ds → LikeDs ns es → (∀ a ∈ l, mayA a ns = true) → (runA p l ds).map (List.map viewD) = (runA q l es).map (List.map viewD)
  | [], ds, es, h, _, _, _ => congrArg some h
  | a :: l, ds, es, h, hd, he, ha => by
    obtain ⟨i, hi, e, hg, hmay, hok⟩ := like_at hd (ha a (by simp))
    obtain ⟨j, hj, e', hg', hmay', hok'⟩ := like_at he (ha a (by simp))
    obtain rfl : i = j := by omega
    have hv : viewD ds[i] = viewD es[i] := by
      have := congrArg (fun l => l[i]?) h
      simpa [hi, hj] using this
    rw [runA_cons, runA_cons, hg, hg', view_full hv]
    cases hf : fullA es[i] a with
    | true => rfl
    | false =>
      simp only [cond_false]
      rw [e, Int.toNat_natCast]
      obtain ⟨h1, h2⟩ := hp _ _ hmay hok (by rw [view_full hv]; exact hf)
      obtain ⟨h3, h4⟩ := hq _ _ hmay' hok' hf
      refine view_run hpq hp hq ns l _ _ ?_ (like_set hd hi h1 h2) (like_set he hj h3 h4) (fun b hb => ha b (by simp [hb]))
      rw [List.map_set, List.map_set, h, hpq _ _ a hv hmay hmay']
/-- What acts.Run answers is seen as the document's answer. -/
theorem run_same (ds : List Disk) (l : List Act64) (n : Int) : (runD stepP ds l n).1.map viewD = (runD stepR ds l n).1.map viewD ∧ (runD stepP ds l n).2 = (runD stepR ds l n).2 := by
  unfold runD
  cases hc : (checkA l ds != 0) with
  | true => exact ⟨rfl, rfl⟩
  | false =>
    obtain ⟨hm, _, ha⟩ := checkA_ok (l := l) (ds := ds) (by simpa using hc)
    have := view_run (p := stepP) (q := stepR) (fun d e a h h1 _ => view_step h h1 a) (fun d a h h1 h2 => stepP_may h h1 h2) (fun d a h h1 h2 => stepR_may h h1 h2) (lensD ds) (l.take n.toNat) ds ds rfl ⟨hm, rfl⟩ ⟨hm, rfl⟩ (fun a h => ha a (List.mem_of_mem_take h))
    simp only [cond_false]
    cases (decide (n < 0) || decide (n > (l.length : Int))) with
    | true => exact ⟨rfl, rfl⟩
    | false =>
      simp only [cond_false]
      cases h1 : runA stepP (l.take n.toNat) ds with
      | none =>
        rw [h1] at this
        cases h2 : runA stepR (l.take n.toNat) ds with
        | none => exact ⟨rfl, rfl⟩
        | some o => rw [h2] at this; cases this
      | some o =>
        rw [h1] at this
        cases h2 : runA stepR (l.take n.toNat) ds with
        | none => rw [h2] at this; cases this
        | some o' => rw [h2] at this; exact ⟨Option.some.inj this, rfl⟩
theorem runD_small {stp : Disk → Act64 → Disk} {ds : List Disk} {l : List Act64} {n : Int} (h : ∀ o, runA stp (l.take n.toNat) ds = some o → checkA l ds = 0 → LikeDs (lensD ds) o) : (runD stp ds l n).1.length ≤ 17 ∧ ∀ d ∈ (runD stp ds l n).1, SmallD d := by
  unfold runD
  cases hc : (checkA l ds != 0) with
  | true => simp
  | false =>
    simp only [cond_false]
    cases (decide (n < 0) || decide (n > (l.length : Int))) with
    | true => simp
    | false =>
      simp only [cond_false]
      cases h1 : runA stp (l.take n.toNat) ds with
      | none => simp
      | some o =>
        have := (h o h1 (by simpa using hc)).1
        exact ⟨this.n2, this.small⟩
end Go.Proofs.Ytgkhjpfnmbdchaa
