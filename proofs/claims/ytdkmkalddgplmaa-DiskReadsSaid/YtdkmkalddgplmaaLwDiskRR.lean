/- Plain law: what is read was written last. -/
import Derived.Test.YtdkmkalddgplmaaLwDiskOR
namespace Go.Proofs.Ytdkmkalddgplmaa
open Go GL

def fB (b : UInt8) : List UInt8 := List.replicate 128 b
theorem fB_sz (b : UInt8) : szB (fB b) = true := by unfold szB fB; simp
theorem fB_full (b : UInt8) : fullB (fB b) = fB b := by unfold fullB fB; simp
theorem fill_set (b : UInt8) (k : Nat) (hk : k < 128) : (List.replicate k b ++ List.replicate (128 - k) (0 : UInt8)).set k b = List.replicate (k + 1) b ++ List.replicate (128 - (k + 1)) 0 := by
  rw [List.set_append_right _ _ (by simp), List.replicate_succ', List.append_assoc]
  congr 1
  rw [List.length_replicate, Nat.sub_self, show 128 - k = (128 - (k + 1)) + 1 by omega, List.replicate_succ]
  rfl
theorem full4_eq (b : UInt8) : law04_full b = some (fB b) := by
  unfold law04_full
  rw [show makeL (0 : UInt8) (128 : Int) = some (List.replicate 128 0) from makeL_some _ 128 (by omega)]
  simp only [Option.bind_some]
  have := loop_run (step := fun s : Int × List UInt8 => law04_full_L1 b s.1 s.2) (fun k => ((k : Int), List.replicate k b ++ List.replicate (128 - k) 0)) 128 (fB b) (fuel_ltD (by omega)) (fun k hk => by
    unfold law04_full_L1
    simp only
    rw [decide_eq_true (by simp; omega), bnd_nat (by simp; omega), wI_succ (by omega)]
    simp only [cond_true, Option.bind_some]
    rw [fill_set b k hk]) (by
    unfold law04_full_L1
    simp only
    rw [decide_eq_false (by simp)]
    simp [fB])
  erw [this]
  rfl

theorem put_self (d : Disk) (k : Nat) (data : List UInt8) : seenD (putD d (k : Int) data) k = fullB data := by
  unfold seenD putD
  simp only [List.foldl_append, List.foldl_cons, List.foldl_nil]
  unfold overW
  rw [if_pos rfl, fullB_full]
theorem fua_lies_self (d : Disk) (k : Nat) (data : List UInt8) (hk : k < d.Blocks.length) : liesD (pfuaD d k data) k = fullB data := by
  unfold liesD pfuaD
  rw [List.getD_eq_getElem?_getD, List.getElem?_set]
  simp [hk, fullB_full]
theorem fua_seen_self (d : Disk) (k : Nat) (data : List UInt8) (hk : k < d.Blocks.length) : seenD (pfuaD d k data) k = fullB data := by
  unfold seenD
  rw [over_none _ _ _ (fun w hw => by
    have := (List.mem_filter.1 (show w ∈ d.Wait.filter (keepW (k : Int)) from hw)).2
    simpa [keepW] using this), fua_lies_self d k data hk]

def sel4 (a b c d : UInt8) (j : Nat) : UInt8 := if j = 0 then a else if j = 1 then b else if j = 2 then c else d
theorem sel4_upd (a b c d x : UInt8) (p j : Nat) (hp : p < 4) (hj : j < 4) : sel4 (bif Nat.beq p 0 then x else a) (bif Nat.beq p 1 then x else b) (bif Nat.beq p 2 then x else c) (bif Nat.beq p 3 then x else d) j = if j = p then x else sel4 a b c d j := by
  have h1 : p = 0 ∨ p = 1 ∨ p = 2 ∨ p = 3 := by omega
  have h2 : j = 0 ∨ j = 1 ∨ j = 2 ∨ j = 3 := by omega
  rcases h1 with rfl | rfl | rfl | rfl <;> rcases h2 with rfl | rfl | rfl | rfl <;> rfl
theorem sel4_get (a b c d : UInt8) (j : Nat) (hj : j < 4) : ([a, b, c, d] : List UInt8)[j]? = some (sel4 a b c d j) := by
  have h2 : j = 0 ∨ j = 1 ∨ j = 2 ∨ j = 3 := by omega
  rcases h2 with rfl | rfl | rfl | rfl <;> rfl

structure InvR (d : Disk) (n : Nat) (now sure : Nat → UInt8) : Prop where
  may : MayD d
  al : d.Dead = false
  len : d.Blocks.length = 4
  wait : d.Wait.length ≤ n
  seen : ∀ j, j < 4 → seenD d j = fB (now j)
  lies : ∀ j, j < 4 → liesD d j = fB (sure j)
theorem errR {d : Disk} {n : Nat} {now sure : Nat → UInt8} (h : InvR d n now sure) {p : Nat} (hp : p < 4) (b : UInt8) : errD d (p : Int) (fB b) = 0 := by
  have hl := h.len
  unfold errD askD
  rw [may_t h.may, show (decide ((p : Int) < 0) || decide ((p : Int) ≥ (d.Blocks.length : Int))) = false by simp; omega, fB_sz, h.al]
  rfl
theorem InvR.put {d : Disk} {n : Nat} {now sure now' : Nat → UInt8} (h : InvR d n now sure) (hn : n < 1000) {p : Nat} (hp : p < 4) (b : UInt8) (hnow : ∀ j, j < 4 → now' j = if j = p then b else now j) : InvR (putD d (p : Int) (fB b)) (n + 1) now' sure := by
  have hl := h.len
  have hw := h.wait
  refine ⟨put_may h.may h.al (fB_sz b) (by omega) (by omega), h.al, h.len, by simp [putD]; omega, fun j hj => ?_, fun j hj => h.lies j hj⟩
  rw [hnow j hj]
  by_cases he : j = p
  · subst he; rw [if_pos rfl, put_self, fB_full]
  · rw [if_neg he, put_seen d p j _ (fun e => he e.symm), h.seen j hj]
theorem InvR.fua {d : Disk} {n : Nat} {now sure now' sure' : Nat → UInt8} (h : InvR d n now sure) {p : Nat} (hp : p < 4) (b : UInt8) (hnow : ∀ j, j < 4 → now' j = if j = p then b else now j) (hsure : ∀ j, j < 4 → sure' j = if j = p then b else sure j) :
    InvR (pfuaD d p (fB b)) (n + 1) now' sure' := by
  have hl := h.len
  have hw := h.wait
  have hfl := List.length_filter_le (keepW (p : Int)) d.Wait
  refine ⟨fua_may h.may h.al (fB_sz b), h.al, by simp [pfuaD, hl], by simp only [pfuaD]; omega, fun j hj => ?_, fun j hj => ?_⟩
  · rw [hnow j hj]
    by_cases he : j = p
    · subst he; rw [if_pos rfl, fua_seen_self d j _ (by omega), fB_full]
    · rw [if_neg he, fua_seen d p j _ (fun e => he e.symm), h.seen j hj]
  · rw [hsure j hj]
    by_cases he : j = p
    · subst he; rw [if_pos rfl, fua_lies_self d j _ (by omega), fB_full]
    · rw [if_neg he, fua_lies d p j _ (fun e => he e.symm), h.lies j hj]
theorem InvR.flush {d : Disk} {n : Nat} {now sure : Nat → UInt8} (h : InvR d n now sure) : InvR (pflushD d) (n + 1) now now := by
  have hl := h.len
  have hfl : (pflushD d).Blocks.length = 4 := by unfold pflushD; simp only [setW_len]; exact hl
  have hlies : ∀ j, j < 4 → liesD (pflushD d) j = fB (now j) := fun j hj => by rw [pflush_lies d h.may (by omega), h.seen j hj]
  exact ⟨pflush_may h.may h.al, h.al, hfl, by simp [pflushD], fun j hj => hlies j hj, hlies⟩
theorem readR {d : Disk} {n : Nat} {now sure : Nat → UInt8} (h : InvR d n now sure) {j : Nat} (hj : j < 4) : disk_Read d (j : Int) = some (fB (now j), 0) := by
  have hl := h.len
  rw [pread_eq]
  unfold readD askD
  rw [may_t h.may, show (decide ((j : Int) < 0) || decide ((j : Int) ≥ (d.Blocks.length : Int))) = false by simp; omega, h.al]
  simp only [cond_true, cond_false, bne_self_eq_false, Int.toNat_natCast, h.seen j hj]
theorem lastR {d : Disk} {n : Nat} {now sure : Nat → UInt8} (h : InvR d n now sure) {j : Nat} (hj : j < 4) : disk_Lasting d (j : Int) = some (fB (sure j), 0) := by
  have hl := h.len
  rw [plast_eq]
  unfold lastD askD
  rw [may_t h.may, show (decide ((j : Int) < 0) || decide ((j : Int) ≥ (d.Blocks.length : Int))) = false by simp; omega, h.al]
  simp only [cond_true, cond_false, bne_self_eq_false, Int.toNat_natCast, h.lies j hj]

def goneD (d : Disk) : Disk := ⟨List.replicate d.Blocks.length [], [], true⟩
theorem goneD_may {d : Disk} (h : MayD d) : MayD (goneD d) := by
  refine ⟨by simpa [goneD] using h.n1, by simpa [goneD] using h.n2, by simp [goneD], fun _ => rfl, fun _ b hb => ?_, fun b hb => ?_, fun w hw => ?_⟩
  · simp [goneD, List.mem_replicate] at hb; exact hb.2
  · simp [goneD, List.mem_replicate] at hb; rw [hb.2]; rfl
  · simp [goneD] at hw
theorem gone_true {d : Disk} (h : MayD d) : law04_gone d = some true := by
  have hg := goneD_may h
  have hn := h.n1
  have hgl : (goneD d).Blocks.length = d.Blocks.length := by simp [goneD]
  have hk : ∀ {e : Disk}, MayD e → killD e = (goneD e, 0) := fun he => by unfold killD; rw [may_t he]; rfl
  have hgg : goneD (goneD d) = goneD d := by unfold goneD; simp
  have hask : askD (goneD d) 0 = 0 := by
    unfold askD
    rw [may_t hg, show (decide ((0 : Int) < 0) || decide ((0 : Int) ≥ ((goneD d).Blocks.length : Int))) = false by rw [decide_eq_false (by omega), decide_eq_false (by omega)]; rfl]
    rfl
  have herr : errD (goneD d) 0 [] = 40 := by unfold errD; rw [hask]; rfl
  unfold law04_gone
  simp only [pkill_eq, hk h, Option.bind_some, pwrite_eq, pfua_eq, pflush_eq, plast_eq, hk hg, hgg]
  unfold writeD lastD
  rw [herr, hask, may_t hg]
  simp only [show (goneD d).Dead = true from rfl, show ((40 : Int) != 0) = true from rfl, show ((0 : Int) != 0) = false from rfl, Bool.not_true, cond_true, cond_false, beq_self_eq_true, Bool.and_self, gO, psame_eq hg.small hg.small, decide_true, Option.bind_some, hgl]

theorem reads_true (l : List Op55) (dies : Bool) : law04_DiskReads l dies = some true := by
  unfold law04_DiskReads
  rw [alive_true]
  simp only [Option.bind_some, Bool.not_true, Bool.or_false]
  by_cases hlen : l.length ≤ 100
  case neg => rw [decide_eq_true (by omega)]; rfl
  rw [decide_eq_false (by omega), pnew_eq]
  simp only [cond_false, Option.bind_some]
  have h0 : newD 4 = (⟨List.replicate 4 [], [], false⟩, 0) := rfl
  rw [h0]
  have i0 : InvR ⟨List.replicate 4 [], [], false⟩ 0 (sel4 0 0 0 0) (sel4 0 0 0 0) := by
    have hs : ∀ j, j < 4 → sel4 0 0 0 0 j = 0 := fun j hj => by
      have h2 : j = 0 ∨ j = 1 ∨ j = 2 ∨ j = 3 := by omega
      rcases h2 with rfl | rfl | rfl | rfl <;> rfl
    refine ⟨⟨by simp, by simp, by simp, (fun h => nomatch h), (fun h => nomatch h), fun b hb => ?_, (fun w hw => nomatch hw)⟩, rfl, rfl, Nat.le_refl _, fun j hj => ?_, fun j hj => ?_⟩
    · rw [(List.mem_replicate.1 hb).2]; rfl
    · rw [hs j hj]
      have h2 : j = 0 ∨ j = 1 ∨ j = 2 ∨ j = 3 := by omega
      rcases h2 with rfl | rfl | rfl | rfl <;> rfl
    · rw [hs j hj]
      have h2 : j = 0 ∨ j = 1 ∨ j = 2 ∨ j = 3 := by omega
      rcases h2 with rfl | rfl | rfl | rfl <;> rfl
  obtain ⟨b, hb, d, n0, n1, n2, n3, u0, u1, u2, u3, rfl, hI⟩ := loop_inv (step := fun s : Int × Int × (List (List UInt8)) × (List Write) × Bool × UInt8 × UInt8 × UInt8 × UInt8 × UInt8 × UInt8 × UInt8 × UInt8 => law04_DiskReads_L1 l s.1 s.2.1 s.2.2.1 s.2.2.2.1 s.2.2.2.2.1 s.2.2.2.2.2.1 s.2.2.2.2.2.2.1 s.2.2.2.2.2.2.2.1 s.2.2.2.2.2.2.2.2.1 s.2.2.2.2.2.2.2.2.2.1 s.2.2.2.2.2.2.2.2.2.2.1 s.2.2.2.2.2.2.2.2.2.2.2.1 s.2.2.2.2.2.2.2.2.2.2.2.2) l.length
    (fun k s => ∃ d n0 n1 n2 n3 u0 u1 u2 u3, s = ((0 : Int), (k : Int), d.Blocks, d.Wait, d.Dead, n0, n1, n2, n3, u0, u1, u2, u3) ∧ InvR d k (sel4 n0 n1 n2 n3) (sel4 u0 u1 u2 u3))
    (fun b => ∃ d n0 n1 n2 n3 u0 u1 u2 u3, b = ((0 : Int), d.Blocks, d.Wait, d.Dead, n0, n1, n2, n3, u0, u1, u2, u3) ∧ InvR d l.length (sel4 n0 n1 n2 n3) (sel4 u0 u1 u2 u3)) (fun k s hk hI => by
    obtain ⟨d, n0, n1, n2, n3, u0, u1, u2, u3, rfl, hI⟩ := hI
    have hdd : Disk.mk d.Blocks d.Wait d.Dead = d := rfl
    show (∃ s', law04_DiskReads_L1 l 0 (k : Int) d.Blocks d.Wait d.Dead n0 n1 n2 n3 u0 u1 u2 u3 = some (.next s') ∧ _) ∨ ∃ b, law04_DiskReads_L1 l 0 (k : Int) d.Blocks d.Wait d.Dead n0 n1 n2 n3 u0 u1 u2 u3 = some (.brk b) ∧ _
    unfold law04_DiskReads_L1 law04_DiskReads_J2
    by_cases hlt : k < l.length
    case neg =>
      obtain rfl : k = l.length := by omega
      rw [decide_eq_false (by omega)]
      exact .inr ⟨_, rfl, d, n0, n1, n2, n3, u0, u1, u2, u3, rfl, hI⟩
    obtain ⟨p, hp, hpe⟩ : ∃ p : Nat, p < 4 ∧ remI (wI (l[k].At.toNat : Int)) 4 = some (p : Int) := by
      have h8 := l[k].At.toNat_lt
      refine ⟨l[k].At.toNat % 4, by omega, ?_⟩
      unfold remI
      rw [if_neg (by omega), wI_id (by omega) (by omega), Int.tmod_eq_emod_of_nonneg (by omega)]
      congr 1
    obtain ⟨q, hqe⟩ : ∃ q : UInt8, remB l[k].Kind 3 = some q := ⟨l[k].Kind % 3, by unfold remB; rw [if_neg (by decide)]⟩
    rw [decide_eq_true (by omega), idx_nat, List.getElem?_eq_getElem hlt]
    simp only [beq_self_eq_true, Bool.and_self, cond_true, Option.bind_some]
    rw [hpe]
    simp only [Option.bind_some]
    rw [hqe]
    simp only [Option.bind_some, hdd, full4_eq, pwrite_eq, pfua_eq, pflush_eq, bnd_nat hp]
    have hw := hI.wait
    refine .inl ?_
    cases (q == 0) with
    | true =>
      simp only [cond_true]
      unfold writeD
      rw [errR hI hp, show decide (1024 ≤ d.Wait.length) = false from decide_eq_false (by omega), wI_succ (by omega)]
      exact ⟨_, rfl, hlt, putD d (p : Int) (fB l[k].Byte), _, _, _, _, u0, u1, u2, u3, rfl, hI.put (by omega) hp _ (fun j hj => sel4_upd _ _ _ _ _ p j hp hj)⟩
    | false =>
    simp only [cond_false]
    cases (q == 1) with
    | true =>
      simp only [cond_true]
      rw [errR hI hp, wI_succ (by omega)]
      simp only [bne_self_eq_false, cond_false, Int.toNat_natCast]
      exact ⟨_, rfl, hlt, pfuaD d p (fB l[k].Byte), _, _, _, _, _, _, _, _, rfl, hI.fua hp _ (fun j hj => sel4_upd _ _ _ _ _ p j hp hj) (fun j hj => sel4_upd _ _ _ _ _ p j hp hj)⟩
    | false =>
      simp only [cond_false]
      rw [may_t hI.may, hI.al, wI_succ (by omega)]
      simp only [Bool.not_true, cond_false]
      exact ⟨_, rfl, hlt, pflushD d, n0, n1, n2, n3, n0, n1, n2, n3, rfl, hI.flush⟩) FUEL 0 ((0 : Int), (0 : Int), List.replicate 4 [], [], false, 0, 0, 0, 0, 0, 0, 0, 0) (Nat.zero_le _) (by have := @fuel_ltD 1000 (by omega); omega) ⟨_, 0, 0, 0, 0, 0, 0, 0, 0, rfl, i0⟩
  simp only
  rw [hb]
  simp only [Option.bind_some]
  have hdd : Disk.mk d.Blocks d.Wait d.Dead = d := rfl
  simp only [hdd, pcheck_eq, may_t hI.may, bne_self_eq_false, Bool.not_false, gO, cond_true, Option.bind_some, Bool.or_self, cond_false]
  have hL := loop_any (step := fun s : Int => law04_DiskReads_L3 (0, d.Blocks, d.Wait, d.Dead, n0, n1, n2, n3, u0, u1, u2, u3) s) (fun k => (k : Int)) 4 (fun _ => false) (Sum.inr ()) (Sum.inl ()) (fuel_ltD (by omega)) (fun k hk => by
    unfold law04_DiskReads_L3 law04_reads law04_lasts
    simp only [hdd]
    rw [decide_eq_true (by omega), bnd_nat hk, wI_succ (by omega)]
    simp only [cond_true, Option.bind_some]
    rw [sel4_get _ _ _ _ k hk, readR hI hk]
    simp only [Option.bind_some, full4_eq, beq_self_eq_true, gO, cond_true, Bool.and_self, Bool.not_true, Bool.not_false]
    rw [sel4_get _ _ _ _ k hk]
    simp only [Option.bind_some]
    rw [lastR hI hk]
    simp) (by
    unfold law04_DiskReads_L3
    rw [decide_eq_false (by omega)]; rfl)
  erw [hL]
  rw [show ((List.range 4).any fun _ => false) = false from rfl]
  simp only [cond_false, Option.bind_some, Sum.elim_inl]
  cases dies with
  | false => rfl
  | true =>
    simp only [Bool.not_true, Bool.not_false, cond_true, gone_true hI.may, Option.bind_some, Bool.false_or]
end Go.Proofs.Ytdkmkalddgplmaa
