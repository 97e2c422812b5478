/- Plain law: what was taken is told (three members). -/
import Derived.Test.YtjefieckineneaaLwHeadDHK
import Derived.Test.YtjefieckineneaaLwHeadEHK
namespace Go.Proofs.Ytjefieckineneaa
open Go GL

def sm3 : Config := Config.mk 0 3 2 3 12 2
theorem small16 : law16_small = some sm3 := rfl
theorem alive16 : law16_alive = some true := by kernel_rfl
theorem sm3_may : mayC sm3 = true := by decide
def f16 (b : UInt8) : List UInt8 := List.replicate 128 b
def kB (k : Bool) (y : UInt8) : List UInt8 := bif k then f16 y else []
theorem f16_len (y : UInt8) : (f16 y).length = 128 := by simp [f16]
theorem f16_ok (y : UInt8) : blkOk (f16 y) = true := by simp [blkOk, f16_len]
theorem f16_full (y : UInt8) : fullB (f16 y) = f16 y := by unfold fullB; rw [f16_len]; rfl
theorem kB_ok (k : Bool) (y : UInt8) : blkOk (kB k y) = true := by cases k <;> simp [blkOk, kB, f16_len]
theorem kB_zero (k : Bool) (y : UInt8) : ((kB k y).length == 0) = !k := by cases k <;> simp [kB, f16_len]

structure MB (st : Int) (P : List UInt8) (p : UInt8) (dl : Bool) (sq : UInt32) (k0 k1 d0 d1 : Bool) : Prop where
  s0 : 0 ≤ st
  s1 : st < 6
  p4 : p.toNat ≤ 4
  pl : P.length = 0 ∨ P.length = 128
  a0 : d0 = true → k0 = true
  a1 : d1 = true → k1 = true
  b1 : p.toNat = 0 → P.length = 0
  b2 : p.toNat ≠ 0 → 0 < P.length
  b3 : p.toNat ≠ 0 → (d0 || d1) = true
  b4 : p.toNat ≤ 1 → sq.toNat = 0
  b5 : dl = true → (d0 || d1) = true ∧ p.toNat ≤ 1
theorem may_iff3 (st : Int) (P : List UInt8) (p : UInt8) (dl : Bool) (sq : UInt32) (k0 k1 d0 d1 : Bool) (y0 y1 : UInt8) :
    mayH sm3 (Head.mk st [kB k0 y0, kB k1 y1, P] [d0, d1] p dl sq) = true ↔ MB st P p dl sq k0 k1 d0 d1 := by
  have e2 : sizeOk sm3 (Head.mk st [kB k0 y0, kB k1 y1, P] [d0, d1] p dl sq) = true ↔ 0 ≤ st ∧ st < 6 ∧ p.toNat ≤ 4 := by
    rw [sizeOk_iff]
    show (0 ≤ st ∧ st < 2 * 3 ∧ ((3 : Nat) : Int) = 3 ∧ ((2 : Nat) : Int) = 3 - 1 ∧ p.toNat ≤ 4) ↔ _
    omega
  have e3 : blksOk (Head.mk st [kB k0 y0, kB k1 y1, P] [d0, d1] p dl sq) = true ↔ (P.length = 0 ∨ P.length = 128) ∧ (d0 = true → k0 = true) ∧ (d1 = true → k1 = true) := by
    show ((blkOk (kB k0 y0) && (blkOk (kB k1 y1) && (blkOk P && true))) && ((!(d0 && ((kB k0 y0).length == 0))) && ((!(d1 && ((kB k1 y1).length == 0))) && true))) = true ↔ _
    rw [kB_ok, kB_ok, kB_zero, kB_zero]
    unfold blkOk
    cases d0 <;> cases d1 <;> cases k0 <;> cases k1 <;> simp
  have e4 : phOk (Head.mk st [kB k0 y0, kB k1 y1, P] [d0, d1] p dl sq) = true ↔ ((p.toNat = 0 → P.length = 0) ∧ (p.toNat ≠ 0 → 0 < P.length) ∧ (p.toNat ≠ 0 → (d0 || d1) = true) ∧ (p.toNat ≤ 1 → sq.toNat = 0) ∧ (dl = true → (d0 || d1) = true ∧ p.toNat ≤ 1)) := by
    have ea : anyD (Head.mk st [kB k0 y0, kB k1 y1, P] [d0, d1] p dl sq) = (d0 || d1) := by simp [anyD]
    have el : lastN (Head.mk st [kB k0 y0, kB k1 y1, P] [d0, d1] p dl sq) = P.length := rfl
    unfold phOk
    rw [ea, el]
    simp only
    generalize (d0 || d1) = dd
    generalize p.toNat = pn
    generalize sq.toNat = sn
    generalize P.length = pl
    by_cases h0 : pn = 0
    · subst h0
      by_cases h1 : 0 < pl <;> by_cases h2 : sn = 0 <;> cases dl <;> cases dd <;> simp [h1, h2] <;> omega
    · by_cases h3 : pn = 1
      · subst h3
        by_cases h1 : 0 < pl <;> by_cases h2 : sn = 0 <;> cases dl <;> cases dd <;> simp [h1, h2] <;> omega
      · by_cases h1 : 0 < pl <;> by_cases h2 : sn = 0 <;> cases dl <;> cases dd <;> simp [h0, h1, h2, h3] <;> omega
  unfold mayH
  rw [sm3_may, Bool.true_and, Bool.and_eq_true, Bool.and_eq_true, e2, e3, e4]
  constructor
  · rintro ⟨⟨a, b, c⟩, ⟨d, e, f⟩, g1, g2, g3, g4, g5⟩
    exact ⟨a, b, c, d, e, f, g1, g2, g3, g4, g5⟩
  · rintro ⟨a, b, c, d, e, f, g1, g2, g3, g4, g5⟩
    exact ⟨⟨a, b, c⟩, ⟨d, e, f⟩, g1, g2, g3, g4, g5⟩

theorem fill16 (b : UInt8) (k : Nat) (hk : k < 128) : (List.replicate k b ++ List.replicate (128 - k) (0 : UInt8)).set k b = List.replicate (k + 1) b ++ List.replicate (128 - (k + 1)) 0 := by
  rw [List.set_append_right _ _ (by simp), List.replicate_succ', List.append_assoc]
  congr 1
  rw [List.length_replicate, Nat.sub_self, show 128 - k = (128 - (k + 1)) + 1 by omega, List.replicate_succ]
  rfl
theorem full16_eq (b : UInt8) : law16_full b = some (f16 b) := by
  unfold law16_full
  rw [show makeL (0 : UInt8) (128 : Int) = some (List.replicate 128 0) from makeL_some _ 128 (by omega)]
  simp only [Option.bind_some]
  have := loop_run (step := fun s : Int × List UInt8 => law16_full_L1 b s.1 s.2) (fun k => ((k : Int), List.replicate k b ++ List.replicate (128 - k) 0)) 128 (f16 b) (fuel_lt (by omega)) (fun k hk => by
    unfold law16_full_L1
    simp only
    rw [decide_eq_true (by simp; omega), bnd_nat (by simp; omega), wI_succ (by omega)]
    simp only [cond_true, Option.bind_some]
    rw [fill16 b k hk]) (by
    unfold law16_full_L1
    simp only
    rw [decide_eq_false (by simp)]
    simp [f16])
  erw [this]
  rfl

def KInv (h : Head) (ph : Int) (k0 k1 d0 d1 : Bool) (y0 y1 : UInt8) : Prop :=
  ∃ st P p dl sq, h = Head.mk st [kB k0 y0, kB k1 y1, P] [d0, d1] p dl sq ∧ (p.toNat : Int) = ph ∧ MB st P p dl sq k0 k1 d0 d1
theorem kB_pos (k : Bool) (y : UInt8) : decide (0 < (kB k y).length) = k := by cases k <;> simp [kB, f16_len]
theorem held_ok {h : Head} {ph : Int} {k0 k1 d0 d1 : Bool} {y0 y1 : UInt8} (hI : KInv h ph k0 k1 d0 d1 y0 y1) : law16_held h ⟨k0, k1⟩ ⟨y0, y1⟩ = some true := by
  obtain ⟨st, P, p, dl, sq, rfl, hph, M⟩ := hI
  have hm := (may_iff3 st P p dl sq k0 k1 d0 d1 y0 y1).2 M
  have round : ∀ (k : Nat) (kk : Bool) (yy : UInt8), k < 2 → ([k0, k1] : List Bool)[k]? = some kk → ([y0, y1] : List UInt8)[k]? = some yy → tellS sm3 (Head.mk st [kB k0 y0, kB k1 y1, P] [d0, d1] p dl sq) (k : Int) = (kB kk yy, kk, 0) →
      law16_held_L1 (Head.mk st [kB k0 y0, kB k1 y1, P] [d0, d1] p dl sq) ⟨k0, k1⟩ ⟨y0, y1⟩ (k : Int) = some (bif false then Ctl.brk (Sum.inr ()) else Ctl.next ((k + 1 : Nat) : Int)) := fun k kk yy hk h1 h2 h3 => by
    unfold law16_held_L1
    rw [decide_eq_true (by omega), small16]
    simp only [cond_true, Option.bind_some]
    rw [htell_eq, h3, bnd_nat hk, wI_succ (by omega)]
    simp only [Option.bind_some, bne_self_eq_false, Bool.not_false, gO, cond_true, Bool.false_or]
    rw [h1]
    simp only [Option.bind_some, bne_self_eq_false, Bool.not_false, Bool.true_and, cond_false]
    cases kk with
    | false => rfl
    | true =>
      simp only [cond_true, Option.bind_some]
      rw [h2]
      simp only [Option.bind_some, full16_eq, kB, cond_true, beq_self_eq_true, Bool.not_true, Bool.and_false]
      rfl
  have hL := loop_any (step := fun s : Int => law16_held_L1 (Head.mk st [kB k0 y0, kB k1 y1, P] [d0, d1] p dl sq) ⟨k0, k1⟩ ⟨y0, y1⟩ s) (fun k => (k : Int)) 2 (fun _ => false) (Sum.inr ()) (Sum.inl ()) (fuel_lt (by omega)) (fun k hk => by
    have h2 : k = 0 ∨ k = 1 := by omega
    rcases h2 with rfl | rfl
    · refine round 0 k0 y0 (by omega) rfl rfl ?_
      unfold tellS
      rw [hm, show slotIn sm3 ((0 : Nat) : Int) = true from rfl]
      show (kB k0 y0, decide (0 < (kB k0 y0).length), (0 : Int)) = _
      rw [kB_pos]
    · refine round 1 k1 y1 (by omega) rfl rfl ?_
      unfold tellS
      rw [hm, show slotIn sm3 ((1 : Nat) : Int) = true from rfl]
      show (kB k1 y1, decide (0 < (kB k1 y1).length), (0 : Int)) = _
      rw [kB_pos]) (by
    unfold law16_held_L1
    rw [decide_eq_false (by omega)]; rfl)
  unfold law16_held
  erw [hL]
  rfl
theorem J3_ok {h : Head} {ph : Int} {k0 k1 d0 d1 : Bool} {y0 y1 : UInt8} (hI : KInv h ph k0 k1 d0 d1 y0 y1) (k : Nat) (hk : k < 1000) :
    law16_HeadKeeps_J3 (k : Int) (h, 0) ph k0 k1 d0 d1 y0 y1 = some (Ctl.next (ph, ((k + 1 : Nat) : Int), h.Stripe, h.Blocks, h.Dirty, h.Phase, h.Deals, h.Seq, k0, k1, d0, d1, y0, y1)) := by
  have hh := held_ok hI
  obtain ⟨st, P, p, dl, sq, rfl, hph, M⟩ := hI
  have hm := (may_iff3 st P p dl sq k0 k1 d0 d1 y0 y1).2 M
  have hp4 := M.p4
  unfold law16_HeadKeeps_J3 law16_HeadKeeps_J2
  rw [small16]
  simp only [Option.bind_some, hcheck_eq, hm, cond_true, bne_self_eq_false, Bool.false_or]
  rw [wI_id (by omega) (by omega), hph]
  simp only [bne_self_eq_false, Bool.not_false, gO, cond_true, show idx [d0, d1] (0 : Int) = some d0 from rfl, show idx [d0, d1] (1 : Int) = some d1 from rfl, Option.bind_some, Bool.or_self, hh, Bool.not_true, cond_false]
  rw [wI_succ (by omega)]

def mayK (q ph : Int) (d0 d1 : Bool) : Bool :=
  ((((((((q == (0 : Int)) && (decide (ph < (2 : Int)))) || (q == (1 : Int))) || (((q == (2 : Int)) && (ph == (0 : Int))) && (d0 || d1))) || ((q == (3 : Int)) && (ph == (1 : Int)))) || ((q == (4 : Int)) && (ph == (2 : Int)))) || ((q == (5 : Int)) && ((ph == (1 : Int)) || (ph == (3 : Int))))) || ((q == (6 : Int)) && (ph == (4 : Int))))
/-- What a step does, and what is said of it. -/
def StepK (h : Head) (q ph : Int) (s : Nat) (y : UInt8) (k0 k1 d0 d1 : Bool) (y0 y1 : UInt8) (R : Head × Int) : Prop :=
  (R.2 == 0) = mayK q ph d0 d1 ∧ (R.2 = 0 →
    KInv R.1 (if q = 0 then 0 else if q = 1 then ph else if q = 6 then 0 else q - 1)
      (bif (q == 0 || q == 1) && s == 0 then true else k0) (bif (q == 0 || q == 1) && s == 1 then true else k1)
      (bif q == 0 && s == 0 then true else bif q == 6 then false else d0) (bif q == 0 && s == 1 then true else bif q == 6 then false else d1)
      (bif (q == 0 || (q == 1 && !k0)) && s == 0 then y else y0) (bif (q == 0 || (q == 1 && !k1)) && s == 1 then y else y1))
theorem step_take {h : Head} {ph : Int} {k0 k1 d0 d1 : Bool} {y0 y1 : UInt8} (hI : KInv h ph k0 k1 d0 d1 y0 y1) (s : Nat) (hs : s < 2) (y : UInt8) : StepK h 0 ph s y k0 k1 d0 d1 y0 y1 (takeS sm3 h (s : Int) (f16 y)) := by
  obtain ⟨st, P, p, dl, sq, rfl, hph, M⟩ := hI
  have hm := (may_iff3 st P p dl sq k0 k1 d0 d1 y0 y1).2 M
  have hsl : slotIn sm3 (s : Int) = true := by
    have : s = 0 ∨ s = 1 := by omega
    rcases this with rfl | rfl <;> rfl
  unfold takeS StepK
  rw [hm, hsl, f16_ok, f16_full]
  simp only [Bool.and_self, cond_true]
  by_cases hp : p.toNat ≤ 1
  · rw [decide_eq_true hp]
    refine ⟨by simp [mayK]; omega, fun _ => ?_⟩
    have : s = 0 ∨ s = 1 := by omega
    rcases this with rfl | rfl
    · exact ⟨st, [], 0, dl, sq, rfl, rfl, ⟨M.s0, M.s1, by decide, .inl rfl, fun _ => rfl, M.a1, fun _ => rfl, fun h => absurd rfl h, fun h => absurd rfl h, fun _ => M.b4 hp, fun _ => ⟨rfl, by decide⟩⟩⟩
    · exact ⟨st, [], 0, dl, sq, rfl, rfl, ⟨M.s0, M.s1, by decide, .inl rfl, M.a0, fun _ => rfl, fun _ => rfl, fun h => absurd rfl h, fun h => absurd rfl h, fun _ => M.b4 hp, fun _ => ⟨by simp, by decide⟩⟩⟩
  · rw [decide_eq_false hp]
    refine ⟨by simp [mayK]; omega, fun h => absurd h (show ¬((160 : Int) = 0) by decide)⟩
theorem step_know {h : Head} {ph : Int} {k0 k1 d0 d1 : Bool} {y0 y1 : UInt8} (hI : KInv h ph k0 k1 d0 d1 y0 y1) (s : Nat) (hs : s < 2) (y : UInt8) : StepK h 1 ph s y k0 k1 d0 d1 y0 y1 (knowS sm3 h (s : Int) (f16 y)) := by
  obtain ⟨st, P, p, dl, sq, rfl, hph, M⟩ := hI
  have hm := (may_iff3 st P p dl sq k0 k1 d0 d1 y0 y1).2 M
  have hsl : slotIn sm3 (s : Int) = true := by
    have : s = 0 ∨ s = 1 := by omega
    rcases this with rfl | rfl <;> rfl
  unfold knowS StepK
  rw [hm, hsl, f16_ok, f16_full]
  simp only [Bool.and_self, cond_true]
  have : s = 0 ∨ s = 1 := by omega
  rcases this with rfl | rfl
  · cases k0 with
    | true =>
      rw [show (([kB true y0, kB k1 y1, P].getD (((0 : Nat) : Int)).toNat []).length == 0) = false from kB_zero true y0]
      exact ⟨by simp [mayK], fun _ => ⟨st, P, p, dl, sq, by cases k1 <;> rfl, hph, M⟩⟩
    | false =>
      rw [show (([kB false y0, kB k1 y1, P].getD (((0 : Nat) : Int)).toNat []).length == 0) = true from rfl]
      refine ⟨by simp [mayK], fun _ => ⟨st, P, p, dl, sq, by cases k1 <;> rfl, hph, ⟨M.s0, M.s1, M.p4, M.pl, fun _ => rfl, M.a1, M.b1, M.b2, M.b3, M.b4, M.b5⟩⟩⟩
  · cases k1 with
    | true =>
      rw [show (([kB k0 y0, kB true y1, P].getD (((1 : Nat) : Int)).toNat []).length == 0) = false from kB_zero true y1]
      exact ⟨by simp [mayK], fun _ => ⟨st, P, p, dl, sq, by cases k0 <;> rfl, hph, M⟩⟩
    | false =>
      rw [show (([kB k0 y0, kB false y1, P].getD (((1 : Nat) : Int)).toNat []).length == 0) = true from rfl]
      refine ⟨by simp [mayK], fun _ => ⟨st, P, p, dl, sq, by cases k0 <;> rfl, hph, ⟨M.s0, M.s1, M.p4, M.pl, M.a0, fun _ => rfl, M.b1, M.b2, M.b3, M.b4, M.b5⟩⟩⟩
theorem u8_eq {p q : UInt8} : (p == q) = decide (p.toNat = q.toNat) := by
  rw [Bool.eq_iff_iff, beq_iff_eq, decide_eq_true_iff, ← UInt8.toNat_inj]
theorem step_make {h : Head} {ph : Int} {k0 k1 d0 d1 : Bool} {y0 y1 : UInt8} (hI : KInv h ph k0 k1 d0 d1 y0 y1) (s : Nat) (y : UInt8) : StepK h 2 ph s y k0 k1 d0 d1 y0 y1 (makeS sm3 h (f16 y)) := by
  obtain ⟨st, P, p, dl, sq, rfl, hph, M⟩ := hI
  have hm := (may_iff3 st P p dl sq k0 k1 d0 d1 y0 y1).2 M
  have ea : anyD (Head.mk st [kB k0 y0, kB k1 y1, P] [d0, d1] p dl sq) = (d0 || d1) := by simp [anyD]
  unfold makeS StepK
  rw [hm, f16_ok, f16_full, ea, u8_eq]
  simp only [cond_true]
  by_cases hp : p.toNat = 0
  · rw [show decide (p.toNat = (0 : UInt8).toNat) = true from decide_eq_true hp]
    cases hd : (d0 || d1) with
    | false => exact ⟨by simp [mayK, hd], fun h => absurd h (show ¬((6 : Int) = 0) by decide)⟩
    | true => exact ⟨by simp [mayK, hd]; omega, fun _ => ⟨st, f16 y, 1, dl, sq, rfl, rfl, ⟨M.s0, M.s1, by decide, .inr (f16_len y), M.a0, M.a1, fun h => absurd h (by decide), fun _ => by rw [f16_len]; omega, fun _ => hd, fun _ => M.b4 (by omega), fun h => ⟨hd, by decide⟩⟩⟩⟩
  · rw [show decide (p.toNat = (0 : UInt8).toNat) = false from decide_eq_false hp]
    refine ⟨by simp [mayK]; omega, fun h => absurd h (show ¬((6 : Int) = 0) by decide)⟩
theorem step_log {h : Head} {ph : Int} {k0 k1 d0 d1 : Bool} {y0 y1 : UInt8} (hI : KInv h ph k0 k1 d0 d1 y0 y1) (s : Nat) (y : UInt8) (seq : UInt32) : StepK h 3 ph s y k0 k1 d0 d1 y0 y1 (logS sm3 h seq) := by
  obtain ⟨st, P, p, dl, sq, rfl, hph, M⟩ := hI
  have hm := (may_iff3 st P p dl sq k0 k1 d0 d1 y0 y1).2 M
  unfold logS moveS StepK
  rw [hm, u8_eq]
  simp only [cond_true]
  by_cases hp : p.toNat = 1
  · rw [show decide (p.toNat = (1 : UInt8).toNat) = true from decide_eq_true hp]
    exact ⟨by simp [mayK]; omega, fun _ => ⟨st, P, 2, false, seq, rfl, rfl, ⟨M.s0, M.s1, by decide, M.pl, M.a0, M.a1, fun h => absurd h (by decide), fun _ => M.b2 (by omega), fun _ => M.b3 (by omega), fun h => absurd h (by decide), fun h => nomatch h⟩⟩⟩
  · rw [show decide (p.toNat = (1 : UInt8).toNat) = false from decide_eq_false hp]
    exact ⟨by simp [mayK]; omega, fun h => absurd h (show ¬((6 : Int) = 0) by decide)⟩
theorem step_sure {h : Head} {ph : Int} {k0 k1 d0 d1 : Bool} {y0 y1 : UInt8} (hI : KInv h ph k0 k1 d0 d1 y0 y1) (s : Nat) (y : UInt8) : StepK h 4 ph s y k0 k1 d0 d1 y0 y1 (sureS sm3 h) := by
  obtain ⟨st, P, p, dl, sq, rfl, hph, M⟩ := hI
  have hm := (may_iff3 st P p dl sq k0 k1 d0 d1 y0 y1).2 M
  unfold sureS moveS StepK
  rw [hm, u8_eq]
  simp only [cond_true]
  by_cases hp : p.toNat = 2
  · rw [show decide (p.toNat = (2 : UInt8).toNat) = true from decide_eq_true hp]
    exact ⟨by simp [mayK]; omega, fun _ => ⟨st, P, 3, dl, sq, rfl, rfl, ⟨M.s0, M.s1, by decide, M.pl, M.a0, M.a1, fun h => absurd h (by decide), fun _ => M.b2 (by omega), fun _ => M.b3 (by omega), fun h => absurd h (by decide), fun h => absurd (M.b5 h).2 (by omega)⟩⟩⟩
  · rw [show decide (p.toNat = (2 : UInt8).toNat) = false from decide_eq_false hp]
    exact ⟨by simp [mayK]; omega, fun h => absurd h (show ¬((6 : Int) = 0) by decide)⟩
theorem step_lay {h : Head} {ph : Int} {k0 k1 d0 d1 : Bool} {y0 y1 : UInt8} (hI : KInv h ph k0 k1 d0 d1 y0 y1) (s : Nat) (y : UInt8) : StepK h 5 ph s y k0 k1 d0 d1 y0 y1 (layS sm3 h) := by
  obtain ⟨st, P, p, dl, sq, rfl, hph, M⟩ := hI
  have hm := (may_iff3 st P p dl sq k0 k1 d0 d1 y0 y1).2 M
  unfold layS moveS StepK
  rw [hm, u8_eq, u8_eq]
  simp only [cond_true]
  by_cases hp : p.toNat = 1 ∨ p.toNat = 3
  · rw [show (decide (p.toNat = (1 : UInt8).toNat) || decide (p.toNat = (3 : UInt8).toNat)) = true by simpa using hp]
    exact ⟨by simp [mayK]; omega, fun _ => ⟨st, P, 4, false, sq, rfl, rfl, ⟨M.s0, M.s1, by decide, M.pl, M.a0, M.a1, fun h => absurd h (by decide), fun _ => M.b2 (by omega), fun _ => M.b3 (by omega), fun h => absurd h (by decide), fun h => nomatch h⟩⟩⟩
  · rw [show (decide (p.toNat = (1 : UInt8).toNat) || decide (p.toNat = (3 : UInt8).toNat)) = false by simpa using hp]
    exact ⟨by simp [mayK]; omega, fun h => absurd h (show ¬((6 : Int) = 0) by decide)⟩
theorem step_home {h : Head} {ph : Int} {k0 k1 d0 d1 : Bool} {y0 y1 : UInt8} (hI : KInv h ph k0 k1 d0 d1 y0 y1) (s : Nat) (y : UInt8) : StepK h 6 ph s y k0 k1 d0 d1 y0 y1 (homeS sm3 h) := by
  obtain ⟨st, P, p, dl, sq, rfl, hph, M⟩ := hI
  have hm := (may_iff3 st P p dl sq k0 k1 d0 d1 y0 y1).2 M
  unfold homeS moveS StepK
  rw [hm, u8_eq]
  simp only [cond_true]
  by_cases hp : p.toNat = 4
  · rw [show decide (p.toNat = (4 : UInt8).toNat) = true from decide_eq_true hp]
    exact ⟨by simp [mayK]; omega, fun _ => ⟨st, [], 0, dl, 0, rfl, rfl, ⟨M.s0, M.s1, by decide, .inl rfl, (fun h => nomatch h), (fun h => nomatch h), fun _ => rfl, fun h => absurd rfl h, fun h => absurd rfl h, fun _ => rfl, fun h => absurd (M.b5 h).2 (by omega)⟩⟩⟩
  · rw [show decide (p.toNat = (4 : UInt8).toNat) = false from decide_eq_false hp]
    exact ⟨by simp [mayK]; omega, fun h => absurd h (show ¬((6 : Int) = 0) by decide)⟩

theorem round16 (l : List Op72) (k : Nat) (hk : k < l.length) (hl : l.length ≤ 100) {h : Head} {ph : Int} {k0 k1 d0 d1 : Bool} {y0 y1 : UInt8} (hI : KInv h ph k0 k1 d0 d1 y0 y1) :
    ∃ h' ph' k0' k1' d0' d1' y0' y1', law16_HeadKeeps_L1 l ph (k : Int) h.Stripe h.Blocks h.Dirty h.Phase h.Deals h.Seq k0 k1 d0 d1 y0 y1 =
      some (Ctl.next (ph', ((k + 1 : Nat) : Int), h'.Stripe, h'.Blocks, h'.Dirty, h'.Phase, h'.Deals, h'.Seq, k0', k1', d0', d1', y0', y1')) ∧ KInv h' ph' k0' k1' d0' d1' y0' y1' := by
  obtain ⟨s, hs, hse⟩ : ∃ s : Nat, s < 2 ∧ remI (wI (l[k].Slot.toNat : Int)) 2 = some (s : Int) := by
    have h8 := l[k].Slot.toNat_lt
    refine ⟨l[k].Slot.toNat % 2, by omega, ?_⟩
    unfold remI
    rw [if_neg (by omega), wI_id (by omega) (by omega), Int.tmod_eq_emod_of_nonneg (by omega)]
    congr 1
  obtain ⟨q, hq, hqe⟩ : ∃ q : UInt8, q.toNat < 7 ∧ remB l[k].Kind 7 = some q := ⟨l[k].Kind % 7, by rw [UInt8.toNat_mod]; exact Nat.mod_lt _ (by decide), by unfold remB; rw [if_neg (by decide)]⟩
  have hhh : Head.mk h.Stripe h.Blocks h.Dirty h.Phase h.Deals h.Seq = h := rfl
  have hstep : ∃ R, law16_step h l[k] = some R ∧ StepK h (q.toNat : Int) ph s l[k].Byte k0 k1 d0 d1 y0 y1 R := by
    unfold law16_step
    rw [hse, hqe]
    simp only [Option.bind_some, small16, full16_eq, htake_eq, hknow_eq, hmake_eq, hlog_eq, hsure_eq, hlay_eq, hhome_eq]
    have h7 : q.toNat = 0 ∨ q.toNat = 1 ∨ q.toNat = 2 ∨ q.toNat = 3 ∨ q.toNat = 4 ∨ q.toNat = 5 ∨ q.toNat = 6 := by omega
    rcases h7 with e | e | e | e | e | e | e
    · obtain rfl : q = 0 := UInt8.toNat_inj.1 e
      exact ⟨_, rfl, step_take hI s hs _⟩
    · obtain rfl : q = 1 := UInt8.toNat_inj.1 e
      exact ⟨_, rfl, step_know hI s hs _⟩
    · obtain rfl : q = 2 := UInt8.toNat_inj.1 e
      exact ⟨_, rfl, step_make hI s _⟩
    · obtain rfl : q = 3 := UInt8.toNat_inj.1 e
      exact ⟨_, rfl, step_log hI s _ _⟩
    · obtain rfl : q = 4 := UInt8.toNat_inj.1 e
      exact ⟨_, rfl, step_sure hI s _⟩
    · obtain rfl : q = 5 := UInt8.toNat_inj.1 e
      exact ⟨_, rfl, step_lay hI s _⟩
    · obtain rfl : q = 6 := UInt8.toNat_inj.1 e
      exact ⟨_, rfl, step_home hI s _⟩
  obtain ⟨⟨h', e⟩, hR, hS⟩ := hstep
  obtain ⟨hmay, hnew⟩ := hS
  simp only at hmay hnew
  unfold law16_HeadKeeps_L1
  rw [decide_eq_true (by omega), idx_nat, List.getElem?_eq_getElem hk]
  simp only [cond_true, Option.bind_some]
  rw [hqe]
  simp only [Option.bind_some]
  rw [hse]
  simp only [Option.bind_some, hhh]
  rw [hR]
  simp only [Option.bind_some]
  rw [wI_id (x := (q.toNat : Int)) (by omega) (by omega)]
  unfold mayK at hmay
  rw [hmay, bne_self_eq_false]
  simp only [cond_false]
  by_cases he : e = 0
  case neg =>
    rw [show (e != 0) = true by simpa using he]
    simp only [cond_true]
    unfold law16_HeadKeeps_J2
    rw [wI_succ (by omega)]
    exact ⟨h, ph, k0, k1, d0, d1, y0, y1, rfl, hI⟩
  subst he
  have hnew := hnew rfl
  simp only [bne_self_eq_false, cond_false]
  have fin : ∀ {ph' : Int} {k0' k1' d0' d1' : Bool} {y0' y1' : UInt8}, KInv h' ph' k0' k1' d0' d1' y0' y1' → ∃ h'' ph'' k0'' k1'' d0'' d1'' y0'' y1'', law16_HeadKeeps_J3 (k : Int) (h', 0) ph' k0' k1' d0' d1' y0' y1' =
      some (Ctl.next (ph'', ((k + 1 : Nat) : Int), h''.Stripe, h''.Blocks, h''.Dirty, h''.Phase, h''.Deals, h''.Seq, k0'', k1'', d0'', d1'', y0'', y1'')) ∧ KInv h'' ph'' k0'' k1'' d0'' d1'' y0'' y1'' :=
    fun hi => ⟨h', _, _, _, _, _, _, _, J3_ok hi k (by omega), hi⟩
  have h2 : s = 0 ∨ s = 1 := by omega
  have h7 : q.toNat = 0 ∨ q.toNat = 1 ∨ q.toNat = 2 ∨ q.toNat = 3 ∨ q.toNat = 4 ∨ q.toNat = 5 ∨ q.toNat = 6 := by omega
  rw [bnd_nat hs]
  rcases h7 with e | e | e | e | e | e | e <;> rw [e] at hnew ⊢ <;> rcases h2 with rfl | rfl
  · exact fin hnew
  · exact fin hnew
  · cases k0 with
    | false => exact fin (by cases k1 <;> exact hnew)
    | true => exact fin (by cases k1 <;> exact hnew)
  · cases k1 with
    | false => exact fin (by cases k0 <;> exact hnew)
    | true => exact fin (by cases k0 <;> exact hnew)
  all_goals exact fin hnew

theorem keeps_true (l : List Op72) : law16_HeadKeeps l = some true := by
  unfold law16_HeadKeeps
  rw [alive16, small16]
  simp only [Option.bind_some]
  rw [show head_New sm3 0 = some (Head.mk 0 [[], [], []] [false, false] 0 false 0, 0) by rw [hnew_eq]; rfl]
  simp only [Option.bind_some, bne_self_eq_false, Bool.or_false, Bool.not_true, beq_self_eq_true, Bool.and_self]
  by_cases hl : l.length ≤ 100
  case neg => rw [decide_eq_true (by omega)]; rfl
  rw [decide_eq_false (by omega)]
  simp only [cond_false]
  obtain ⟨b, hb, hq⟩ := loop_inv (step := fun s : Int × Int × Int × (List (List UInt8)) × (List Bool) × UInt8 × Bool × UInt32 × Bool × Bool × Bool × Bool × UInt8 × UInt8 => law16_HeadKeeps_L1 l s.1 s.2.1 s.2.2.1 s.2.2.2.1 s.2.2.2.2.1 s.2.2.2.2.2.1 s.2.2.2.2.2.2.1 s.2.2.2.2.2.2.2.1 s.2.2.2.2.2.2.2.2.1 s.2.2.2.2.2.2.2.2.2.1 s.2.2.2.2.2.2.2.2.2.2.1 s.2.2.2.2.2.2.2.2.2.2.2.1 s.2.2.2.2.2.2.2.2.2.2.2.2.1 s.2.2.2.2.2.2.2.2.2.2.2.2.2) l.length
    (fun k s => ∃ h ph k0 k1 d0 d1 y0 y1, s = (ph, (k : Int), h.Stripe, h.Blocks, h.Dirty, h.Phase, h.Deals, h.Seq, k0, k1, d0, d1, y0, y1) ∧ KInv h ph k0 k1 d0 d1 y0 y1)
    (fun b => b = Sum.inl ()) (fun k s hk hI => by
    obtain ⟨h, ph, k0, k1, d0, d1, y0, y1, rfl, hI⟩ := hI
    by_cases hlt : k < l.length
    · obtain ⟨h', ph', k0', k1', d0', d1', y0', y1', e1, e2⟩ := round16 l k hlt hl hI
      exact .inl ⟨_, e1, hlt, h', ph', k0', k1', d0', d1', y0', y1', rfl, e2⟩
    · refine .inr ⟨Sum.inl (), ?_, rfl⟩
      show law16_HeadKeeps_L1 l ph (k : Int) h.Stripe h.Blocks h.Dirty h.Phase h.Deals h.Seq k0 k1 d0 d1 y0 y1 = _
      unfold law16_HeadKeeps_L1
      rw [decide_eq_false (by omega)]; rfl) FUEL 0 ((0 : Int), (0 : Int), (0 : Int), [[], [], []], [false, false], 0, false, 0, false, false, false, false, 0, 0) (Nat.zero_le _) (by have := @fuel_lt 1000 (by omega); omega)
    ⟨Head.mk 0 [[], [], []] [false, false] 0 false 0, 0, false, false, false, false, 0, 0, rfl, 0, [], 0, false, 0, rfl, rfl, ⟨by decide, by decide, by decide, .inl rfl, (fun h => nomatch h), (fun h => nomatch h), fun _ => rfl, fun h => absurd rfl h, fun h => absurd rfl h, fun _ => rfl, fun h => nomatch h⟩⟩
  rw [hb, hq]
  rfl
end Go.Proofs.Ytjefieckineneaa
