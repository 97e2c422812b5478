/- Plain law: devices: the laws beside the references. -/
import Derived.Test.YtdkmkalddgplmaaLwDiskCB
namespace Go.Proofs.Ytdkmkalddgplmaa
open Go GL

theorem spoil_one (l : List UInt8) (hl : l.length ≤ 1000000) {step : Int → Option (Ctl Int Unit)} (h1 : ∀ k (_ : k < l.length), step (k : Int) = some (.next (wI ((k : Int) + 1)))) (h2 : step (l.length : Int) = some (.brk ())) : loopM step FUEL (0 : Int) = some () :=
  loop_run (step := step) (fun k => (k : Int)) l.length () (fuel_ltD (by omega)) (fun k hk => by rw [h1 k hk, wI_succ (by omega)]) h2
theorem spoil_two {α : Type} (bs : List α) (dat : α → List UInt8) (h : bs.length ≤ 100000) (hb : ∀ b ∈ bs, (dat b).length ≤ 1000000) {inner : Int → Int → Option (Ctl Int Unit)} {outer : Int → Option (Ctl Int Unit)}
    (hi : ∀ s t : Int, inner s t = Option.bind (idx bs s) (fun x => (bif (decide (t < ((dat x).length : Int))) then Option.bind (idx bs s) (fun y => Option.bind (idx (dat y) t) (fun _ => Option.bind (idx (dat y) t) (fun _ => some (Ctl.next (wI (t + (1 : Int))))))) else some (Ctl.brk ()))))
    (ho : ∀ (k : Nat) (_ : k < bs.length), outer (k : Int) = Option.bind (loopM (fun t : Int => inner (k : Int) t) FUEL (0 : Int)) (fun _ => some (Ctl.next (wI ((k : Int) + (1 : Int))))))
    (hn : outer (bs.length : Int) = some (.brk ())) : loopM outer FUEL (0 : Int) = some () := by
  refine loop_run (step := outer) (fun k => (k : Int)) bs.length () (fuel_ltD (by omega)) (fun k hk => ?_) hn
  rw [ho k hk, wI_succ (by omega)]
  rw [spoil_one (dat bs[k]) (hb _ (List.getElem_mem hk)) (step := fun t : Int => inner (k : Int) t) (fun j hj => by
    rw [hi, idx_nat, List.getElem?_eq_getElem hk]
    simp only [Option.bind_some]
    rw [decide_eq_true (by omega), idx_nat, List.getElem?_eq_getElem hj]; rfl) (by
    rw [hi, idx_nat, List.getElem?_eq_getElem hk]
    simp only [Option.bind_some]
    rw [decide_eq_false (by omega)]; rfl)]
  rfl

theorem small_no : SmallD noD := ⟨by simp [noD], by simp [noD], by simp [noD], by simp [noD]⟩
theorem full_small {b : List UInt8} (h : szB b = true) : (fullB b).length ≤ 1000000 := by rw [fullB_len h]; omega
theorem szB_small {b : List UInt8} (h : szB b = true) : b.length ≤ 1000000 := by unfold szB at h; simp at h; rcases h with h | h <;> simp_all
theorem small_write (d : Disk) (at_ : Int) (data : List UInt8) : SmallD (writeD d at_ data).1 := by
  unfold writeD
  cases h : (errD d at_ data != 0) with
  | true => exact small_no
  | false =>
    obtain ⟨hm, hd, hs, _⟩ := errD_ok (by simpa using h)
    cases decide (1024 ≤ d.Wait.length) with
    | true => exact small_no
    | false =>
      have hw := hm.nw
      refine ⟨hm.small.nb, by simp [putD]; omega, hm.small.lb, fun w hw => ?_⟩
      simp only [putD, cond_false, List.mem_append, List.mem_singleton] at hw
      rcases hw with hw | rfl
      · exact hm.small.lw w hw
      · exact full_small hs
theorem small_pfua {d : Disk} {at_ : Int} {data : List UInt8} (h : errD d at_ data = 0) : SmallD (pfuaD d at_.toNat data) := by
  obtain ⟨hm, hd, hs, _⟩ := errD_ok h
  refine ⟨by simp [pfuaD]; exact hm.small.nb, Nat.le_trans (List.length_filter_le _ _) hm.small.nw, fun b hb => ?_, fun w hw => hm.small.lw w (List.mem_filter.1 hw).1⟩
  rcases List.mem_or_eq_of_mem_set hb with hb | rfl
  · exact hm.small.lb b hb
  · exact full_small hs
theorem small_rfua {d : Disk} {at_ : Int} {data : List UInt8} (h : errD d at_ data = 0) : SmallD (rfuaD d at_.toNat data) := by
  obtain ⟨hm, hd, hs, _⟩ := errD_ok h
  refine ⟨by simp [rfuaD]; exact hm.small.nb, by simp only [rfuaD, List.length_map]; exact Nat.le_trans (List.length_filter_le _ _) hm.small.nw, fun b hb => ?_, fun w hw => ?_⟩
  · rcases List.mem_or_eq_of_mem_set hb with hb | rfl
    · exact hm.small.lb b hb
    · exact full_small hs
  · obtain ⟨x, hx, rfl⟩ := List.mem_map.1 hw
    exact full_small (hm.wt x (List.mem_filter.1 hx).1).2.2
theorem seen_len {d : Disk} (hm : MayD d) {k : Nat} (hk : k < d.Blocks.length) : (seenD d k).length = 128 := by
  have : ∀ (l : List Write) (acc : List UInt8), acc.length = 128 → (∀ w ∈ l, szB w.Data = true) → (l.foldl (overW (k : Int)) acc).length = 128 := by
    intro l
    induction l with
    | nil => intro acc h _; exact h
    | cons w l ih =>
      intro acc h hw
      rw [List.foldl_cons]
      refine ih _ ?_ (fun x hx => hw x (by simp [hx]))
      unfold overW
      split
      · exact fullB_len (hw w (by simp))
      · exact h
  refine this d.Wait _ ?_ (fun w hw => (hm.wt w hw).2.2)
  unfold liesD
  rw [List.getD_eq_getElem?_getD, List.getElem?_eq_getElem hk]
  exact fullB_len (hm.sz _ (List.getElem_mem hk))
theorem small_rflush {d : Disk} (hm : MayD d) : SmallD (rflushD d) := by
  refine ⟨by simp [rflushD]; exact hm.small.nb, by simp [rflushD], fun b hb => ?_, by simp [rflushD]⟩
  obtain ⟨k, hk, rfl⟩ := List.mem_map.1 hb
  rw [seen_len hm (List.mem_range.1 hk)]; omega
theorem small_kill (d : Disk) : SmallD (killD d).1 := by
  unfold killD
  cases hmd : mayD d with
  | false => exact small_no
  | true =>
    have := ((mayD_iff d).1 hmd).small.nb
    exact ⟨by simpa using this, by simp, fun b hb => by simp at hb; simp [hb.2], by simp⟩
theorem small_new (n : Int) : SmallD (newD n).1 := by
  unfold newD
  cases h : (decide (n < 1) || decide (n > 256)) with
  | true => exact small_no
  | false =>
    simp only [Bool.or_eq_false_iff, decide_eq_false_iff_not] at h
    exact ⟨by simp; omega, by simp, fun b hb => by simp at hb; simp [hb.2], by simp⟩
theorem read_len (d : Disk) (at_ : Int) : (readD d at_).1.length ≤ 1000000 := by
  unfold readD
  cases h : (askD d at_ != 0) with
  | true => simp
  | false =>
    obtain ⟨hm, k, rfl, hk⟩ := askD_ok (by simpa using h)
    cases d.Dead with
    | true => simp
    | false => simp only [cond_false, Int.toNat_natCast]; rw [seen_len hm hk]; omega
theorem last_len (d : Disk) (at_ : Int) : (lastD d at_).1.length ≤ 1000000 := by
  unfold lastD
  cases h : (askD d at_ != 0) with
  | true => simp
  | false =>
    obtain ⟨hm, k, rfl, hk⟩ := askD_ok (by simpa using h)
    cases d.Dead with
    | true => simp
    | false =>
      simp only [cond_false, Int.toNat_natCast]
      unfold liesD
      rw [List.getD_eq_getElem?_getD, List.getElem?_eq_getElem hk]
      exact full_small (hm.sz _ (List.getElem_mem hk))
theorem same_self {d : Disk} (h : SmallD d) : ref04_Same d d = some true := by rw [rsame_eq h h]; simp

theorem spoilTB {x : Disk × Int} (h : SmallD x.1) : loopM (fun s : Int => law04_DiskTurns_L5 x s) FUEL (0 : Int) = some () :=
  spoil_two x.1.Blocks id h.nb h.lb (inner := fun s t => law04_DiskTurns_L6 x s t) (fun s t => rfl) (fun k hk => by
    unfold law04_DiskTurns_L5
    rw [decide_eq_true (by omega)]; rfl) (by
    unfold law04_DiskTurns_L5
    rw [decide_eq_false (by omega)]; rfl)
theorem spoilTW {x : Disk × Int} (h : SmallD x.1) : loopM (fun s : Int => law04_DiskTurns_L7 x s) FUEL (0 : Int) = some () :=
  spoil_two x.1.Wait (fun w => w.Data) h.nw h.lw (inner := fun s t => law04_DiskTurns_L8 x s t) (fun s t => rfl) (fun k hk => by
    unfold law04_DiskTurns_L7
    rw [decide_eq_true (by omega), idx_nat, List.getElem?_eq_getElem hk]; rfl) (by
    unfold law04_DiskTurns_L7
    rw [decide_eq_false (by omega)]; rfl)
theorem spoilT9 : law04_DiskTurns_L9 = law04_DiskTurns_L5 := rfl
theorem spoilT11 : law04_DiskTurns_L11 = law04_DiskTurns_L7 := rfl
theorem spoilT13 : law04_DiskTurns_L13 = law04_DiskTurns_L5 := rfl
theorem spoilT15 : law04_DiskTurns_L15 = law04_DiskTurns_L7 := rfl
theorem spoilT17 : law04_DiskTurns_L17 = law04_DiskTurns_L5 := rfl
theorem spoilT19 : law04_DiskTurns_L19 = law04_DiskTurns_L7 := rfl
def fuaP (d : Disk) (at_ : Int) (data : List UInt8) : Disk × Int := bif (errD d at_ data != 0) then (noD, errD d at_ data) else (pfuaD d at_.toNat data, 0)
def fuaR (d : Disk) (at_ : Int) (data : List UInt8) : Disk × Int := bif (errD d at_ data != 0) then (noD, errD d at_ data) else (rfuaD d at_.toNat data, 0)
def flushP (d : Disk) : Disk × Int := bif !mayD d then (noD, 8) else bif d.Dead then (noD, 40) else (pflushD d, 0)
def flushR (d : Disk) : Disk × Int := bif !mayD d then (noD, 8) else bif d.Dead then (noD, 40) else (rflushD d, 0)
theorem fua_same (d : Disk) (at_ : Int) (data : List UInt8) : SmallD (fuaP d at_ data).1 ∧ ref04_Same (fuaP d at_ data).1 (fuaR d at_ data).1 = some true ∧ (fuaP d at_ data).2 = (fuaR d at_ data).2 := by
  unfold fuaP fuaR
  cases h : (errD d at_ data != 0) with
  | true => exact ⟨small_no, same_self small_no, rfl⟩
  | false =>
    have he : errD d at_ data = 0 := by simpa using h
    refine ⟨small_pfua he, ?_, rfl⟩
    simp only [cond_false]
    rw [rsame_eq (small_pfua he) (small_rfua he), fua_view]; simp
theorem flush_same (d : Disk) : SmallD (flushP d).1 ∧ ref04_Same (flushP d).1 (flushR d).1 = some true ∧ (flushP d).2 = (flushR d).2 := by
  unfold flushP flushR
  cases hmd : mayD d with
  | false => exact ⟨small_no, same_self small_no, rfl⟩
  | true =>
    have hm := (mayD_iff d).1 hmd
    cases hd : d.Dead with
    | true => exact ⟨small_no, same_self small_no, rfl⟩
    | false =>
      refine ⟨(pflush_may hm hd).small, ?_, rfl⟩
      simp only [Bool.not_true, cond_false]
      rw [rsame_eq (pflush_may hm hd).small (small_rflush hm), flush_view hm]; simp

theorem turns_true (d : Disk) (at_ : Int) (data : List UInt8) : law04_DiskTurns d at_ data = some true := by
  unfold law04_DiskTurns
  obtain ⟨g1, hg1, hs1⟩ := dgreat_eq d
  rw [hg1]
  simp only [Option.bind_some]
  cases g1 with
  | true => rfl
  | false =>
  cases hlen : decide (((data.length : Nat) : Int) > 1000) with
  | true => rfl
  | false =>
  have hd := (hs1 rfl).1
  obtain ⟨f1, f2, f3⟩ := fua_same d at_ data
  obtain ⟨u1, u2, u3⟩ := flush_same d
  simp only [Bool.or_self, cond_false]
  rw [rtwin_eq hd]
  simp only [Option.bind_some, pwrite_eq, rwrite_eq, pfua_eq, rfua_eq, pflush_eq, rflush_eq, pkill_eq, rkill_eq]
  show Option.bind (ref04_Same (writeD d at_ data).1 (writeD d at_ data).1) _ = _
  have e1 : (bif (errD d at_ data != 0) then (noD, errD d at_ data) else (pfuaD d at_.toNat data, 0)) = fuaP d at_ data := rfl
  have e2 : (bif (errD d at_ data != 0) then (noD, errD d at_ data) else (rfuaD d at_.toNat data, 0)) = fuaR d at_ data := rfl
  have e3 : (bif !mayD d then (noD, 8) else bif d.Dead then (noD, 40) else (pflushD d, 0)) = flushP d := rfl
  have e4 : (bif !mayD d then (noD, 8) else bif d.Dead then (noD, 40) else (rflushD d, 0)) = flushR d := rfl
  simp only [e1, e2, e3, e4]
  rw [same_self (small_write d at_ data)]
  simp only [Option.bind_some, beq_self_eq_true, Bool.and_true, gO, cond_true, f2, f3, u2, u3, same_self (small_kill d), spoilT17, spoilT19, spoilTB (x := writeD d at_ data) (small_write d at_ data), spoilTW (x := writeD d at_ data) (small_write d at_ data)]
  unfold law04_DiskTurns_J1 law04_DiskTurns_J2 law04_DiskTurns_J3 law04_DiskTurns_J4
  simp only [spoilT13, spoilT15, spoilT9, spoilT11, spoilTB f1, spoilTW f1, spoilTB u1, spoilTW u1, spoilTB (x := killD d) (small_kill d), spoilTW (x := killD d) (small_kill d), Option.bind_some, same_self hd, beq_self_eq_true, Bool.and_true, gO, cond_true, f3, u3]
end Go.Proofs.Ytdkmkalddgplmaa
