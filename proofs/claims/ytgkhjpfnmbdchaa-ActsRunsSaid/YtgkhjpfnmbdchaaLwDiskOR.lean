/- Plain law: devices: the laws that ask no reference. -/
import Derived.Test.YtgkhjpfnmbdchaaLwDiskCR
namespace Go.Proofs.Ytgkhjpfnmbdchaa
open Go GL

theorem pflush_eqD (d : Disk) : disk_Flush d = some (bif !mayD d then (noD, 8) else bif d.Dead then (noD, 40) else (pflushD d, 0)) := pflush_eq d
theorem beqS (a b : List UInt8) : ((Str.mk a).s == (Str.mk b).s) = decide (a = b) := str_eq a b

theorem ask_may {d e : Disk} (h1 : mayD e = mayD d) (h2 : e.Blocks.length = d.Blocks.length) (at_ : Int) : askD e at_ = askD d at_ := by unfold askD; rw [h1, h2]
/-- Reads of a place at which two devices are alike. -/
theorem read_like {d e : Disk} (h1 : mayD e = mayD d) (h2 : e.Blocks.length = d.Blocks.length) (h3 : e.Dead = d.Dead) (at_ : Int) (h4 : ∀ k : Nat, at_ = (k : Int) → k < d.Blocks.length → seenD e k = seenD d k) : readD e at_ = readD d at_ := by
  unfold readD
  rw [ask_may h1 h2, h3]
  cases h : (askD d at_ != 0) with
  | true => rfl
  | false =>
    obtain ⟨hm, k, rfl, hk⟩ := askD_ok (by simpa using h)
    simp only [Int.toNat_natCast]
    rw [h4 k rfl hk]
theorem last_like {d e : Disk} (h1 : mayD e = mayD d) (h2 : e.Blocks.length = d.Blocks.length) (h3 : e.Dead = d.Dead) (at_ : Int) (h4 : ∀ k : Nat, at_ = (k : Int) → k < d.Blocks.length → liesD e k = liesD d k) : lastD e at_ = lastD d at_ := by
  unfold lastD
  rw [ask_may h1 h2, h3]
  cases h : (askD d at_ != 0) with
  | true => rfl
  | false =>
    obtain ⟨hm, k, rfl, hk⟩ := askD_ok (by simpa using h)
    simp only [Int.toNat_natCast]
    rw [h4 k rfl hk]

theorem put_may {d : Disk} {k : Nat} {data : List UInt8} (hm : MayD d) (hd : d.Dead = false) (hs : szB data = true) (hk : k < d.Blocks.length) (hf : ¬ 1024 ≤ d.Wait.length) : MayD (putD d (k : Int) data) := by
  refine ⟨hm.n1, hm.n2, by simp [putD]; omega, fun h => ?_, fun h => ?_, hm.sz, fun w hw => ?_⟩
  · have h : d.Dead = true := h
    rw [hd] at h; cases h
  · have h : d.Dead = true := h
    rw [hd] at h; cases h
  · simp only [putD, List.mem_append, List.mem_singleton] at hw
    rcases hw with hw | rfl
    · exact hm.wt w hw
    · exact ⟨by simp, by simpa [putD] using hk, szB_full hs⟩
theorem fua_may {d : Disk} {k : Nat} {data : List UInt8} (hm : MayD d) (hd : d.Dead = false) (hs : szB data = true) : MayD (pfuaD d k data) := by
  have hl : (pfuaD d k data).Blocks.length = d.Blocks.length := by simp [pfuaD]
  refine ⟨by rw [hl]; exact hm.n1, by rw [hl]; exact hm.n2, Nat.le_trans (List.length_filter_le _ _) hm.nw, fun h => ?_, fun h => ?_, fun b hb => ?_, fun w hw => ?_⟩
  · have h : d.Dead = true := h
    rw [hd] at h; cases h
  · have h : d.Dead = true := h
    rw [hd] at h; cases h
  · rcases List.mem_or_eq_of_mem_set hb with hb | rfl
    · exact hm.sz b hb
    · exact szB_full hs
  · rw [hl]; exact hm.wt w (List.mem_filter.1 hw).1
theorem may_t {d : Disk} (h : MayD d) : mayD d = true := (mayD_iff d).2 h

theorem put_seen (d : Disk) (k j : Nat) (data : List UInt8) (h : k ≠ j) : seenD (putD d (k : Int) data) j = seenD d j := by
  unfold seenD putD liesD
  rw [List.foldl_append]
  simp only [List.foldl_cons, List.foldl_nil]
  unfold overW
  rw [if_neg (by simp only; omega)]
theorem over_filter (k j : Nat) (h : k ≠ j) : ∀ (l : List Write) (acc : List UInt8), (l.filter (keepW (k : Int))).foldl (overW (j : Int)) acc = l.foldl (overW (j : Int)) acc
  | [], _ => rfl
  | w :: l, acc => by
    rw [List.filter_cons]
    cases hk : keepW (k : Int) w with
    | true => simp only [if_true, List.foldl_cons]; exact over_filter k j h l _
    | false =>
      have : w.At = (k : Int) := by unfold keepW at hk; simpa using hk
      simp only [Bool.false_eq_true, if_false, List.foldl_cons]
      rw [show overW (j : Int) acc w = acc from if_neg (by omega)]
      exact over_filter k j h l acc
theorem fua_lies (d : Disk) (k j : Nat) (data : List UInt8) (h : k ≠ j) : liesD (pfuaD d k data) j = liesD d j := by
  unfold liesD pfuaD
  rw [List.getD_eq_getElem?_getD, List.getElem?_set_ne h, ← List.getD_eq_getElem?_getD]
theorem fua_seen (d : Disk) (k j : Nat) (data : List UInt8) (h : k ≠ j) : seenD (pfuaD d k data) j = seenD d j := by
  unfold seenD
  rw [fua_lies d k j data h]
  exact over_filter k j h d.Wait _

theorem pflush_lies (d : Disk) (hm : MayD d) {k : Nat} (hk : k < d.Blocks.length) : liesD (pflushD d) k = seenD d k := by
  have := congrArg (fun v => v.1) (flush_view hm)
  simp only [viewD] at this
  have h2 := congrArg (fun l => l[k]?) this
  simp only [List.getElem?_map] at h2
  have hk2 : k < (pflushD d).Blocks.length := by unfold pflushD; simp only [setW_len]; exact hk
  rw [List.getElem?_eq_getElem hk2] at h2
  unfold liesD
  rw [List.getD_eq_getElem?_getD, List.getElem?_eq_getElem hk2]
  simp only [Option.map_some, rflushD, List.getElem?_map, List.getElem?_range hk] at h2
  have h3 := Option.some.inj h2
  simp only [Option.getD_some]
  rw [h3]
  have : ∀ (l : List Write) (acc : List UInt8), fullB acc = acc → fullB (l.foldl (overW (k : Int)) acc) = l.foldl (overW (k : Int)) acc := by
    intro l
    induction l with
    | nil => intro acc h; exact h
    | cons w l ih =>
      intro acc h
      rw [List.foldl_cons]
      refine ih _ ?_
      unfold overW
      split
      · exact fullB_full _
      · exact h
  exact this d.Wait (liesD d k) (fullB_full _)
end Go.Proofs.Ytgkhjpfnmbdchaa
