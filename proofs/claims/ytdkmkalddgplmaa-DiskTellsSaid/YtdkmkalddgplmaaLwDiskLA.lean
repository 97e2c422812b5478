/- Plain law: devices: the laws beside the references. -/
import Derived.Test.YtdkmkalddgplmaaLwDiskCA
namespace Go.Proofs.Ytdkmkalddgplmaa
open Go GL

theorem spoil_one (l : List UInt8) (hl : l.length ≤ 1000000) {step : Int → Option (Ctl Int Unit)} (h1 : ∀ k (_ : k < l.length), step (k : Int) = some (.next (wI ((k : Int) + 1)))) (h2 : step (l.length : Int) = some (.brk ())) : loopM step FUEL (0 : Int) = some () :=
  loop_run (step := step) (fun k => (k : Int)) l.length () (fuel_ltD (by omega)) (fun k hk => by rw [h1 k hk, wI_succ (by omega)]) h2
theorem spoil_two {α : Type} (bs : List α) (dat : α → List UInt8) (h : bs.length ≤ 100000) (hb : ∀ b ∈ bs, (dat b).length ≤ 1000000) {inner : Int → Int → Option (Ctl Int Unit)} {outer : Int → Option (Ctl Int Unit)}
    (hi : ∀ s t : Int, inner s t = Option.bind (idx bs s) (fun x => (bif (decide (t < ((dat x).length : Int))) then Option.bind (idx bs s) (fun y => Option.bind (idx (dat y) t) (fun _ => Option.bind (idx (dat y) t) (fun _ => some (Ctl.next (wI (t + (1 : Int))))))) else some (Ctl.brk ()))))
    (ho : ∀ (k : Nat) (_ : k < bs.length), outer (k : Int) = Option.bind (loopM (fun t : Int => inner (k : Int) t) FUEL (0 : Int)) (fun _ => some (Ctl.next (wI ((k : Int) + (1 : Int))))))
    (hn : outer (bs.length : Int) = some (.brk ())) : loopM outer FUEL (0 : Int) = some () := by
  refine loop_run (step := outer) (fun k => (k : Int)) bs.length () (fuel_ltD (by omega)) (fun k hk => ?_) hn
  rw [ho k hk, wI_succ (by omega)]
  rw [spoil_one (dat bs[k]) (hb _ (List.getElem_mem hk)) (step := fun t : Int => inner (k : Int) t) (fun j hj => by
    rw [hi, idx_nat, List.getElem?_eq_getElem hk]
    simp only [Option.bind_some]
    rw [decide_eq_true (by omega), idx_nat, List.getElem?_eq_getElem hj]; rfl) (by
    rw [hi, idx_nat, List.getElem?_eq_getElem hk]
    simp only [Option.bind_some]
    rw [decide_eq_false (by omega)]; rfl)]
  rfl

theorem small_no : SmallD noD := ⟨by simp [noD], by simp [noD], by simp [noD], by simp [noD]⟩
theorem full_small {b : List UInt8} (h : szB b = true) : (fullB b).length ≤ 1000000 := by rw [fullB_len h]; omega
theorem szB_small {b : List UInt8} (h : szB b = true) : b.length ≤ 1000000 := by unfold szB at h; simp at h; rcases h with h | h <;> simp_all
theorem small_write (d : Disk) (at_ : Int) (data : List UInt8) : SmallD (writeD d at_ data).1 := by
  unfold writeD
  cases h : (errD d at_ data != 0) with
  | true => exact small_no
  | false =>
    obtain ⟨hm, hd, hs, _⟩ := errD_ok (by simpa using h)
    cases decide (1024 ≤ d.Wait.length) with
    | true => exact small_no
    | false =>
      have hw := hm.nw
      refine ⟨hm.small.nb, by simp [putD]; omega, hm.small.lb, fun w hw => ?_⟩
      simp only [putD, cond_false, List.mem_append, List.mem_singleton] at hw
      rcases hw with hw | rfl
      · exact hm.small.lw w hw
      · exact full_small hs
theorem small_pfua {d : Disk} {at_ : Int} {data : List UInt8} (h : errD d at_ data = 0) : SmallD (pfuaD d at_.toNat data) := by
  obtain ⟨hm, hd, hs, _⟩ := errD_ok h
  refine ⟨by simp [pfuaD]; exact hm.small.nb, Nat.le_trans (List.length_filter_le _ _) hm.small.nw, fun b hb => ?_, fun w hw => hm.small.lw w (List.mem_filter.1 hw).1⟩
  rcases List.mem_or_eq_of_mem_set hb with hb | rfl
  · exact hm.small.lb b hb
  · exact full_small hs
theorem small_rfua {d : Disk} {at_ : Int} {data : List UInt8} (h : errD d at_ data = 0) : SmallD (rfuaD d at_.toNat data) := by
  obtain ⟨hm, hd, hs, _⟩ := errD_ok h
  refine ⟨by simp [rfuaD]; exact hm.small.nb, by simp only [rfuaD, List.length_map]; exact Nat.le_trans (List.length_filter_le _ _) hm.small.nw, fun b hb => ?_, fun w hw => ?_⟩
  · rcases List.mem_or_eq_of_mem_set hb with hb | rfl
    · exact hm.small.lb b hb
    · exact full_small hs
  · obtain ⟨x, hx, rfl⟩ := List.mem_map.1 hw
    exact full_small (hm.wt x (List.mem_filter.1 hx).1).2.2
theorem seen_len {d : Disk} (hm : MayD d) {k : Nat} (hk : k < d.Blocks.length) : (seenD d k).length = 128 := by
  have : ∀ (l : List Write) (acc : List UInt8), acc.length = 128 → (∀ w ∈ l, szB w.Data = true) → (l.foldl (overW (k : Int)) acc).length = 128 := by
    intro l
    induction l with
    | nil => intro acc h _; exact h
    | cons w l ih =>
      intro acc h hw
      rw [List.foldl_cons]
      refine ih _ ?_ (fun x hx => hw x (by simp [hx]))
      unfold overW
      split
      · exact fullB_len (hw w (by simp))
      · exact h
  refine this d.Wait _ ?_ (fun w hw => (hm.wt w hw).2.2)
  unfold liesD
  rw [List.getD_eq_getElem?_getD, List.getElem?_eq_getElem hk]
  exact fullB_len (hm.sz _ (List.getElem_mem hk))
theorem small_rflush {d : Disk} (hm : MayD d) : SmallD (rflushD d) := by
  refine ⟨by simp [rflushD]; exact hm.small.nb, by simp [rflushD], fun b hb => ?_, by simp [rflushD]⟩
  obtain ⟨k, hk, rfl⟩ := List.mem_map.1 hb
  rw [seen_len hm (List.mem_range.1 hk)]; omega
theorem small_kill (d : Disk) : SmallD (killD d).1 := by
  unfold killD
  cases hmd : mayD d with
  | false => exact small_no
  | true =>
    have := ((mayD_iff d).1 hmd).small.nb
    exact ⟨by simpa using this, by simp, fun b hb => by simp at hb; simp [hb.2], by simp⟩
theorem small_new (n : Int) : SmallD (newD n).1 := by
  unfold newD
  cases h : (decide (n < 1) || decide (n > 256)) with
  | true => exact small_no
  | false =>
    simp only [Bool.or_eq_false_iff, decide_eq_false_iff_not] at h
    exact ⟨by simp; omega, by simp, fun b hb => by simp at hb; simp [hb.2], by simp⟩
theorem read_len (d : Disk) (at_ : Int) : (readD d at_).1.length ≤ 1000000 := by
  unfold readD
  cases h : (askD d at_ != 0) with
  | true => simp
  | false =>
    obtain ⟨hm, k, rfl, hk⟩ := askD_ok (by simpa using h)
    cases d.Dead with
    | true => simp
    | false => simp only [cond_false, Int.toNat_natCast]; rw [seen_len hm hk]; omega
theorem last_len (d : Disk) (at_ : Int) : (lastD d at_).1.length ≤ 1000000 := by
  unfold lastD
  cases h : (askD d at_ != 0) with
  | true => simp
  | false =>
    obtain ⟨hm, k, rfl, hk⟩ := askD_ok (by simpa using h)
    cases d.Dead with
    | true => simp
    | false =>
      simp only [cond_false, Int.toNat_natCast]
      unfold liesD
      rw [List.getD_eq_getElem?_getD, List.getElem?_eq_getElem hk]
      exact full_small (hm.sz _ (List.getElem_mem hk))
theorem rcheck_eq (d : Disk) : ref04_Check d = some (bif mayD d then 0 else 8) := by
  unfold ref04_Check
  rw [rmay_eq]
  cases mayD d <;> rfl
theorem same_self {d : Disk} (h : SmallD d) : ref04_Same d d = some true := by rw [rsame_eq h h]; simp

theorem tells_true (d o : Disk) (at_ n : Int) : law04_DiskTells d o at_ n = some true := by
  unfold law04_DiskTells
  obtain ⟨g1, hg1, hs1⟩ := dgreat_eq d
  obtain ⟨g2, hg2, hs2⟩ := dgreat_eq o
  rw [hg1, hg2]
  simp only [Option.bind_some]
  cases g1 with
  | true => rfl
  | false =>
  simp only [gO, Bool.not_false, cond_true, Option.bind_some, Bool.false_or]
  cases g2 with
  | true => rfl
  | false =>
  have hd := (hs1 rfl).1
  have ho := (hs2 rfl).1
  simp only [cond_false]
  rw [rtwin_eq hd]
  simp only [Option.bind_some, pread_eq, rread_eq, plast_eq, rlast_eq, pnew_eq, rnew_eq, ptwin_eq hd, same_self (small_new n), same_self hd, pcheck_eq, rcheck_eq, beq_self_eq_true, Bool.and_true, cond_true, psame_eq hd ho, rsame_eq hd ho, psame_eq hd hd, decide_true]
  rw [spoil_two d.Blocks id hd.nb hd.lb (inner := fun s t => law04_DiskTells_L5 d s t) (outer := fun s => law04_DiskTells_L4 d s) (fun s t => rfl) (fun k hk => by
    show law04_DiskTells_L4 d (k : Int) = _
    unfold law04_DiskTells_L4
    rw [decide_eq_true (by omega)]; rfl) (by
    show law04_DiskTells_L4 d (d.Blocks.length : Int) = _
    unfold law04_DiskTells_L4
    rw [decide_eq_false (by omega)]; rfl)]
  simp only [Option.bind_some]
  rw [spoil_two d.Wait (fun w => w.Data) hd.nw hd.lw (inner := fun s t => law04_DiskTells_L7 d s t) (outer := fun s => law04_DiskTells_L6 d s) (fun s t => rfl) (fun k hk => by
    show law04_DiskTells_L6 d (k : Int) = _
    unfold law04_DiskTells_L6
    rw [decide_eq_true (by omega), idx_nat, List.getElem?_eq_getElem hk]; rfl) (by
    show law04_DiskTells_L6 d (d.Wait.length : Int) = _
    unfold law04_DiskTells_L6
    rw [decide_eq_false (by omega)]; rfl)]
  simp only [Option.bind_some]
  unfold law04_DiskTells_J1
  rw [spoil_one (readD d at_).1 (read_len d at_) (step := fun s => law04_DiskTells_L2 (readD d at_) s) (fun k hk => by
    show law04_DiskTells_L2 _ (k : Int) = _
    unfold law04_DiskTells_L2
    rw [decide_eq_true (by omega), idx_nat, List.getElem?_eq_getElem hk]; rfl) (by
    show law04_DiskTells_L2 _ _ = _
    unfold law04_DiskTells_L2
    rw [decide_eq_false (by omega)]; rfl)]
  simp only [Option.bind_some]
  rw [spoil_one (lastD d at_).1 (last_len d at_) (step := fun s => law04_DiskTells_L3 (lastD d at_) s) (fun k hk => by
    show law04_DiskTells_L3 _ (k : Int) = _
    unfold law04_DiskTells_L3
    rw [decide_eq_true (by omega), idx_nat, List.getElem?_eq_getElem hk]; rfl) (by
    show law04_DiskTells_L3 _ _ = _
    unfold law04_DiskTells_L3
    rw [decide_eq_false (by omega)]; rfl)]
  simp only [Option.bind_some, same_self hd, beq_self_eq_true, Bool.and_true, gO, cond_true]

end Go.Proofs.Ytdkmkalddgplmaa
