/- Plain law: devices: writes, flushes, deaths. -/
import Derived.Test.YtgkhjpfnmbdchaaLwDiskBR
namespace Go.Proofs.Ytgkhjpfnmbdchaa
open Go GL

def noD : Disk := Disk.mk [] [] false
def errD (d : Disk) (at_ : Int) (data : List UInt8) : Int := bif (askD d at_ != 0) then askD d at_ else bif !szB data then 3 else bif d.Dead then 40 else 0
theorem askD_cases (d : Disk) (at_ : Int) : askD d at_ = 8 ∨ askD d at_ = 2 ∨ askD d at_ = 0 := by
  unfold askD
  cases mayD d with
  | false => exact .inl rfl
  | true => cases (decide (at_ < 0) || decide (at_ ≥ (d.Blocks.length : Int))) <;> simp
theorem pwerr_eq (d : Disk) (at_ : Int) (data : List UInt8) : disk_write d at_ data = some (errD d at_ data) := by
  unfold disk_write errD
  rw [pplace_eq]
  simp only [Option.bind_some]
  cases (askD d at_ != 0) with
  | true => rfl
  | false => rw [podd_eq]; simp only [cond_false, Option.bind_some]; cases szB data <;> cases d.Dead <;> rfl
theorem errD_ok {d : Disk} {at_ : Int} {data : List UInt8} (h : errD d at_ data = 0) : MayD d ∧ d.Dead = false ∧ szB data = true ∧ ∃ k : Nat, at_ = (k : Int) ∧ k < d.Blocks.length := by
  unfold errD at h
  rcases askD_cases d at_ with e | e | e
  · rw [e] at h; simp at h
  · rw [e] at h; simp at h
  · obtain ⟨h1, h2⟩ := askD_ok e
    rw [e] at h
    simp only [bne_self_eq_false, cond_false] at h
    cases hs : szB data with
    | false => rw [hs] at h; simp at h
    | true =>
      cases hd : d.Dead with
      | true => rw [hs, hd] at h; simp at h
      | false => exact ⟨h1, rfl, rfl, h2⟩
theorem szB_len {b : List UInt8} (h : szB b = true) : b.length < 4294967296 := by unfold szB at h; simp at h; rcases h with h | h <;> simp_all

def putD (d : Disk) (at_ : Int) (data : List UInt8) : Disk := { d with Wait := d.Wait ++ [⟨at_, fullB data⟩] }
def writeD (d : Disk) (at_ : Int) (data : List UInt8) : Disk × Int := bif (errD d at_ data != 0) then (noD, errD d at_ data) else bif decide (1024 ≤ d.Wait.length) then (noD, 9) else (putD d at_ data, 0)
theorem pwrite_eq (d : Disk) (at_ : Int) (data : List UInt8) : disk_Write d at_ data = some (writeD d at_ data) := by
  unfold disk_Write writeD
  rw [pwerr_eq]
  simp only [Option.bind_some]
  cases h : (errD d at_ data != 0) with
  | true => rfl
  | false =>
    obtain ⟨hm, hd, hs, k, rfl, hk⟩ := errD_ok (by simpa using h)
    have hw := hm.nw
    simp only [cond_false]
    rw [show (((d.Wait.length : Nat) : Int) == 1024) = decide (1024 ≤ d.Wait.length) by rw [Bool.eq_iff_iff]; simp; omega]
    cases hf : decide (1024 ≤ d.Wait.length) with
    | true => rfl
    | false =>
      have hf' := of_decide_eq_false hf
      rw [ptwin_eq hm.small, pblock_eq (szB_len hs)]
      simp only [cond_false, Option.bind_some]
      rw [app_some _ _ (by simp; omega)]; rfl
theorem rput_eq {d : Disk} (h : SmallD d) (at_ : Int) {data : List UInt8} (hd : data.length < 4294967296) : ref04_Put d at_ data = some (putD d at_ data) := by
  unfold ref04_Put putD
  have := h.nw
  rw [rtwin_eq h, rfull_eq hd]
  simp only [Option.bind_some]
  rw [app_some _ _ (by simp; omega)]; rfl
def keepW (at_ : Int) (w : Write) : Bool := !(w.At == at_)
theorem del_loop (at_ : Int) (l : List Write) (i0 : Nat) (hi : i0 < l.length) (hl : l.length ≤ 100000) (h0 : ∀ j (hj : j < l.length), j < i0 → (l[j].At == at_) = false) (h1 : (l[i0].At == at_) = true) :
    ∃ s : List Write, loopM (fun s : (List Write) × Int × Int => disk_Fua_L2 at_ s.1 s.2.1 s.2.2) FUEL (l, ((i0 : Nat) : Int), (((i0 + 1 : Nat)) : Int)) = some (s, (((l.filter (keepW at_)).length : Nat) : Int)) ∧
      s.length = l.length ∧ s.take (l.filter (keepW at_)).length = l.filter (keepW at_) := by
  have hf0 : (l.take (i0 + 1)).filter (keepW at_) = l.take i0 := by
    rw [take_succ_get _ _ _ (List.getElem?_eq_getElem hi), List.filter_append]
    have ha : (l.take i0).filter (keepW at_) = l.take i0 := by
      rw [List.filter_eq_self]
      intro w hw
      obtain ⟨j, hj, rfl⟩ := List.getElem_of_mem hw
      rw [List.getElem_take]
      unfold keepW
      rw [h0 j (by simp at hj; omega) (by simp at hj; omega)]; rfl
    rw [ha]
    simp [keepW, h1]
  obtain ⟨b, hb, hq⟩ := loop_inv (step := fun s : (List Write) × Int × Int => disk_Fua_L2 at_ s.1 s.2.1 s.2.2) l.length
    (fun k s => s.1.length = l.length ∧ s.2.1 = ((((l.take k).filter (keepW at_)).length : Nat) : Int) ∧ s.2.2 = (k : Int) ∧ i0 + 1 ≤ k ∧ ((l.take k).filter (keepW at_)).length < k ∧ s.1.take ((l.take k).filter (keepW at_)).length = (l.take k).filter (keepW at_) ∧ s.1.drop k = l.drop k)
    (fun b => b.2 = (((l.filter (keepW at_)).length : Nat) : Int) ∧ b.1.length = l.length ∧ b.1.take (l.filter (keepW at_)).length = l.filter (keepW at_))
    (fun k s hk hI => by
      obtain ⟨s1, s2, s3⟩ := s
      obtain ⟨e1, e2, e3, e4, e5, e6, e7⟩ := hI
      simp only at e1 e2 e3 e4 e5 e6 e7
      subst e2; subst e3
      show (∃ s', disk_Fua_L2 at_ s1 _ (k : Int) = some (.next s') ∧ _) ∨ ∃ b, disk_Fua_L2 at_ s1 _ (k : Int) = some (.brk b) ∧ _
      unfold disk_Fua_L2 disk_Fua_J4 disk_Fua_J3
      by_cases hlt : k < l.length
      · have hget : s1[k]? = some l[k] := by
          have := congrArg (fun x => x[0]?) e7
          simpa [hlt] using this
        rw [decide_eq_true (by omega), idx_nat, hget]
        simp only [cond_true, Option.bind_some]
        rw [wI_succ (show k < 9223372036854775807 by omega)]
        have htk : l.take (k + 1) = l.take k ++ [l[k]] := take_succ_get _ _ _ (List.getElem?_eq_getElem hlt)
        refine .inl ?_
        cases hat : (l[k].At == at_) with
        | true =>
          have hkp : (l.take (k + 1)).filter (keepW at_) = (l.take k).filter (keepW at_) := by rw [htk, List.filter_append]; simp [keepW, hat]
          refine ⟨_, rfl, hlt, e1, ?_, rfl, by omega, ?_, ?_, ?_⟩
          · rw [hkp]
          · rw [hkp]; omega
          · rw [hkp]; exact e6
          · simp only
            rw [← List.drop_drop, ← List.drop_drop, e7]
        | false =>
          have hkp : (l.take (k + 1)).filter (keepW at_) = (l.take k).filter (keepW at_) ++ [l[k]] := by rw [htk, List.filter_append]; simp [keepW, hat]
          have hcl : ((l.take k).filter (keepW at_)).length < s1.length := by omega
          rw [bnd_nat hcl, wI_succ (show ((l.take k).filter (keepW at_)).length < 9223372036854775807 by omega)]
          refine ⟨_, rfl, hlt, by simpa using e1, ?_, rfl, by omega, ?_, ?_, ?_⟩
          · rw [hkp, List.length_append]; rfl
          · rw [hkp, List.length_append]; simp; omega
          · rw [hkp, List.length_append]
            simp only [List.length_singleton]
            rw [take_succ_get _ _ l[k] (by rw [List.getElem?_set]; simp [hcl]), List.take_set_of_le (Nat.le_refl _), e6]
          · simp only
            rw [List.drop_set_of_lt (by omega), ← List.drop_drop, ← List.drop_drop, e7]
      · obtain rfl : k = l.length := by omega
        rw [decide_eq_false (by omega)]
        rw [List.take_length] at e6 ⊢
        exact .inr ⟨_, rfl, rfl, e1, e6⟩)
    FUEL (i0 + 1) (l, (i0 : Int), ((i0 + 1 : Nat) : Int)) (by omega) (by have := fuel_ltD (show l.length < 4294967296 by omega); omega)
    ⟨rfl, by rw [hf0]; simp; omega, rfl, Nat.le_refl _, by rw [hf0]; simp; omega, by rw [hf0]; simp, rfl⟩
  exact ⟨b.1, by rw [hb, ← hq.1], hq.2.1, hq.2.2⟩

def pfuaD (d : Disk) (k : Nat) (data : List UInt8) : Disk := ⟨d.Blocks.set k (fullB data), d.Wait.filter (keepW (k : Int)), d.Dead⟩
def rfuaD (d : Disk) (k : Nat) (data : List UInt8) : Disk := ⟨d.Blocks.set k (fullB data), (d.Wait.filter (keepW (k : Int))).map fun w => ⟨w.At, fullB w.Data⟩, d.Dead⟩
theorem fua_view (d : Disk) (k : Nat) (data : List UInt8) : viewD (pfuaD d k data) = viewD (rfuaD d k data) := by
  unfold viewD pfuaD rfuaD
  simp only [List.map_map]
  congr 2
  refine List.map_congr_left (fun w _ => ?_)
  show viewW w = viewW ⟨w.At, fullB w.Data⟩
  unfold viewW
  rw [fullB_full]
theorem pfua_eq (d : Disk) (at_ : Int) (data : List UInt8) : disk_Fua d at_ data = some (bif (errD d at_ data != 0) then (noD, errD d at_ data) else (pfuaD d at_.toNat data, 0)) := by
  unfold disk_Fua
  rw [pwerr_eq]
  simp only [Option.bind_some]
  cases h : (errD d at_ data != 0) with
  | true => rfl
  | false =>
    obtain ⟨hm, hd, hs, k, rfl, hk⟩ := errD_ok (by simpa using h)
    have hw := hm.small.nw
    simp only [cond_false, Int.toNat_natCast]
    rw [ptwin_eq hm.small, pblock_eq (szB_len hs)]
    simp only [Option.bind_some]
    rw [bnd_nat hk]
    simp only [Option.bind_some]
    obtain ⟨i, hi, hq⟩ := indexW_eq d.Wait (fun y => disk_Fua_1 y (k : Int)) (fun w => w.At == (k : Int)) (by omega) (fun w _ => rfl)
    rw [hi]
    simp only [Option.bind_some]
    unfold disk_Fua_J1 pfuaD
    rcases hq with ⟨i0, rfl, hi0, h1, h0⟩ | ⟨rfl, hn⟩
    · rw [show (((i0 : Nat) : Int) == -1) = false from beq_eq_false_iff_ne.2 (by omega)]
      simp only [cond_false]
      rw [wI_succ (by omega)]
      obtain ⟨s, hs1, hs2, hs3⟩ := del_loop (k : Int) d.Wait i0 hi0 hw h0 h1
      rw [hs1]
      simp only [Option.bind_some, Int.toNat_natCast]
      have hfl : (d.Wait.filter (keepW (k : Int))).length ≤ d.Wait.length := List.length_filter_le _ _
      unfold slc
      rw [if_pos (by omega)]
      simp only [Option.bind_some]
      rw [if_pos (by simp; omega)]
      simp only [Option.bind_some, Int.toNat_natCast]
      rw [show List.drop (Int.toNat 0) (List.take (d.Wait.filter (keepW (k : Int))).length (List.take (d.Wait.filter (keepW (k : Int))).length s ++ List.replicate (s.length - (d.Wait.filter (keepW (k : Int))).length) ⟨0, []⟩)) = d.Wait.filter (keepW (k : Int)) by
        rw [List.take_append_of_le_length (by rw [List.length_take]; omega), List.take_take, Nat.min_self, hs3]; simp]
    · rw [show ((-1 : Int) == -1) = true from rfl]
      simp only [cond_true]
      rw [List.filter_eq_self.2 (fun w hw => by unfold keepW; rw [hn w hw]; rfl)]
/-! ### flushes -/
def setW (bs : List (List UInt8)) (w : Write) : List (List UInt8) := bs.set w.At.toNat w.Data
def pflushD (d : Disk) : Disk := ⟨d.Wait.foldl setW d.Blocks, [], d.Dead⟩
def rflushD (d : Disk) : Disk := ⟨(List.range d.Blocks.length).map (seenD d), [], d.Dead⟩
theorem setW_len : ∀ (l : List Write) (bs : List (List UInt8)), (l.foldl setW bs).length = bs.length
  | [], _ => rfl
  | w :: l, bs => by rw [List.foldl_cons, setW_len l]; simp [setW]
theorem setW_mem : ∀ (l : List Write) (bs : List (List UInt8)), ∀ b ∈ l.foldl setW bs, b ∈ bs ∨ ∃ w ∈ l, b = w.Data
  | [], _, b, h => .inl h
  | w :: l, bs, b, h => by
    rw [List.foldl_cons] at h
    rcases setW_mem l _ b h with h | ⟨x, hx, rfl⟩
    · rcases List.mem_or_eq_of_mem_set h with h | h
      · exact .inl h
      · exact .inr ⟨w, by simp, h⟩
    · exact .inr ⟨x, by simp [hx], rfl⟩
theorem setW_get (k : Nat) : ∀ (l : List Write) (bs : List (List UInt8)), k < bs.length → (∀ w ∈ l, 0 ≤ w.At) → fullB ((l.foldl setW bs).getD k []) = l.foldl (overW (k : Int)) (fullB (bs.getD k []))
  | [], _, _, _ => rfl
  | w :: l, bs, hk, h => by
    rw [List.foldl_cons, List.foldl_cons, setW_get k l _ (by simpa [setW] using hk) (fun x hx => h x (by simp [hx]))]
    congr 1
    have hw := h w (by simp)
    unfold setW overW
    by_cases he : w.At = (k : Int)
    · rw [if_pos he, he]; simp [hk]
    · rw [if_neg he, List.getD_eq_getElem?_getD, List.getElem?_set_ne (by omega), ← List.getD_eq_getElem?_getD]
theorem flush_view {d : Disk} (h : MayD d) : viewD (pflushD d) = viewD (rflushD d) := by
  unfold viewD pflushD rflushD
  have : (d.Wait.foldl setW d.Blocks).map fullB = ((List.range d.Blocks.length).map (seenD d)).map fullB := by
    apply List.ext_getElem
    · simp [setW_len]
    · intro k h1 h2
      simp only [List.length_map, setW_len] at h1
      have hk2 : k < (d.Wait.foldl setW d.Blocks).length := by rw [setW_len]; exact h1
      have := setW_get k d.Wait d.Blocks h1 (fun w hw => (h.wt w hw).1)
      rw [List.getD_eq_getElem?_getD, List.getElem?_eq_getElem (by rw [setW_len]; exact h1)] at this
      simp only [List.getElem_map, List.getElem_range]
      rw [show (some (d.Wait.foldl setW d.Blocks)[k]).getD [] = (d.Wait.foldl setW d.Blocks)[k] from rfl] at this
      rw [this]
      show seenD d k = fullB (seenD d k)
      have : ∀ (l : List Write) (acc : List UInt8), fullB acc = acc → fullB (l.foldl (overW (k : Int)) acc) = l.foldl (overW (k : Int)) acc := by
        intro l
        induction l with
        | nil => intro acc h; exact h
        | cons w l ih =>
          intro acc h
          rw [List.foldl_cons]
          refine ih _ ?_
          unfold overW
          split
          · exact fullB_full _
          · exact h
      exact (this d.Wait (liesD d k) (fullB_full _)).symm
  rw [this]
theorem pflush_may {d : Disk} (h : MayD d) (hd : d.Dead = false) : MayD (pflushD d) := by
  have hdd : (pflushD d).Dead = false := hd
  refine ⟨by unfold pflushD; simp only [setW_len]; exact h.n1, by unfold pflushD; simp only [setW_len]; exact h.n2, by unfold pflushD; simp, fun _ => rfl, fun h2 => (by rw [hdd] at h2; cases h2), fun b hb => ?_, fun w hw => by unfold pflushD at hw; simp at hw⟩
  rcases setW_mem d.Wait d.Blocks b hb with hb | ⟨w, hw, rfl⟩
  · exact h.sz b hb
  · exact (h.wt w hw).2.2
theorem pflush_eq (d : Disk) : disk_Flush d = some (bif !mayD d then (noD, 8) else bif d.Dead then (noD, 40) else (pflushD d, 0)) := by
  unfold disk_Flush
  rw [pcheck_eq]
  simp only [Option.bind_some]
  cases hmd : mayD d with
  | false => rfl
  | true =>
    have hm := (mayD_iff d).1 hmd
    simp only [cond_true, bne_self_eq_false, cond_false, Bool.not_true]
    cases hd : d.Dead with
    | true => rfl
    | false =>
      have hw := hm.small.nw
      rw [ptwin_eq hm.small]
      simp only [cond_false, Option.bind_some]
      have := loop_run (step := fun s : Int × (List (List UInt8)) => disk_Flush_L1 d s.1 s.2) (fun i => ((i : Int), (d.Wait.take i).foldl setW d.Blocks)) d.Wait.length (d.Wait.foldl setW d.Blocks) (fuel_ltD (by omega)) (fun i hi => by
        obtain ⟨g1, g2, g3⟩ := hm.wt _ (List.getElem_mem hi)
        unfold disk_Flush_L1
        simp only [decide_eq_true (show (i : Int) < (d.Wait.length : Int) by omega), cond_true, idx_nat, List.getElem?_eq_getElem hi, Option.bind_some]
        rw [take_succ_get _ _ _ (List.getElem?_eq_getElem hi), List.foldl_append, wI_succ (by omega)]
        obtain ⟨k, hk⟩ : ∃ k : Nat, d.Wait[i].At = (k : Int) := ⟨d.Wait[i].At.toNat, by omega⟩
        rw [hk, bnd_nat (by rw [setW_len]; omega)]
        simp [setW, hk]) (by
        unfold disk_Flush_L1
        rw [decide_eq_false (by omega), List.take_length]; rfl)
      have h0 : ((0 : Int), d.Blocks) = (fun i : Nat => ((i : Int), (d.Wait.take i).foldl setW d.Blocks)) 0 := by simp
      rw [h0, this]
      simp only [Option.bind_some]
      have hp := ptwin_eq (pflush_may hm hd).small
      unfold pflushD at hp
      rw [hp]; rfl
def killD (d : Disk) : Disk × Int := bif !mayD d then (noD, 8) else (⟨List.replicate d.Blocks.length [], [], true⟩, 0)
theorem makeL_len {α β : Type} (z : α) (l : List β) (h : l.length ≤ 256) : makeL z ((l.length : Nat) : Int) = some (List.replicate l.length z) := by
  have h2 : l.length < 4294967296 := by omega
  exact makeL_some z l.length h2
def newD (n : Int) : Disk × Int := bif decide (n < 1) || decide (n > 256) then (noD, 2) else (⟨List.replicate n.toNat [], [], false⟩, 0)
theorem makeL_ok {α : Type} (z : α) (n : Int) (h : (decide (n < 1) || decide (n > 256)) = false) : makeL z n = some (List.replicate n.toNat z) := by
  simp only [Bool.or_eq_false_iff, decide_eq_false_iff_not] at h
  unfold makeL
  have h1 : 0 ≤ n := by omega
  have h2 : n < 4294967296 := by omega
  simp only [h1, h2, and_self, if_true]
end Go.Proofs.Ytgkhjpfnmbdchaa
