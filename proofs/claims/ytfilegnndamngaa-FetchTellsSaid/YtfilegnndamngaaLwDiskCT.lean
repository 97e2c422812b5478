/- Plain law: devices: writes, flushes, deaths. -/
import Derived.Test.YtfilegnndamngaaLwDiskBT
namespace Go.Proofs.Ytfilegnndamngaa
open Go GL

def noD : Disk := Disk.mk [] [] false
def errD (d : Disk) (at_ : Int) (data : List UInt8) : Int := bif (askD d at_ != 0) then askD d at_ else bif !szB data then 3 else bif d.Dead then 40 else 0
theorem askD_cases (d : Disk) (at_ : Int) : askD d at_ = 8 ∨ askD d at_ = 2 ∨ askD d at_ = 0 := by
  unfold askD
  cases mayD d with
  | false => exact .inl rfl
  | true => cases (decide (at_ < 0) || decide (at_ ≥ (d.Blocks.length : Int))) <;> simp
theorem errD_ok {d : Disk} {at_ : Int} {data : List UInt8} (h : errD d at_ data = 0) : MayD d ∧ d.Dead = false ∧ szB data = true ∧ ∃ k : Nat, at_ = (k : Int) ∧ k < d.Blocks.length := by
  unfold errD at h
  rcases askD_cases d at_ with e | e | e
  · rw [e] at h; simp at h
  · rw [e] at h; simp at h
  · obtain ⟨h1, h2⟩ := askD_ok e
    rw [e] at h
    simp only [bne_self_eq_false, cond_false] at h
    cases hs : szB data with
    | false => rw [hs] at h; simp at h
    | true =>
      cases hd : d.Dead with
      | true => rw [hs, hd] at h; simp at h
      | false => exact ⟨h1, rfl, rfl, h2⟩
theorem szB_len {b : List UInt8} (h : szB b = true) : b.length < 4294967296 := by unfold szB at h; simp at h; rcases h with h | h <;> simp_all

def putD (d : Disk) (at_ : Int) (data : List UInt8) : Disk := { d with Wait := d.Wait ++ [⟨at_, fullB data⟩] }
def writeD (d : Disk) (at_ : Int) (data : List UInt8) : Disk × Int := bif (errD d at_ data != 0) then (noD, errD d at_ data) else bif decide (1024 ≤ d.Wait.length) then (noD, 9) else (putD d at_ data, 0)
def keepW (at_ : Int) (w : Write) : Bool := !(w.At == at_)
def pfuaD (d : Disk) (k : Nat) (data : List UInt8) : Disk := ⟨d.Blocks.set k (fullB data), d.Wait.filter (keepW (k : Int)), d.Dead⟩
def rfuaD (d : Disk) (k : Nat) (data : List UInt8) : Disk := ⟨d.Blocks.set k (fullB data), (d.Wait.filter (keepW (k : Int))).map fun w => ⟨w.At, fullB w.Data⟩, d.Dead⟩
theorem fua_view (d : Disk) (k : Nat) (data : List UInt8) : viewD (pfuaD d k data) = viewD (rfuaD d k data) := by
  unfold viewD pfuaD rfuaD
  simp only [List.map_map]
  congr 2
  refine List.map_congr_left (fun w _ => ?_)
  show viewW w = viewW ⟨w.At, fullB w.Data⟩
  unfold viewW
  rw [fullB_full]
/-! ### flushes -/
def setW (bs : List (List UInt8)) (w : Write) : List (List UInt8) := bs.set w.At.toNat w.Data
def pflushD (d : Disk) : Disk := ⟨d.Wait.foldl setW d.Blocks, [], d.Dead⟩
def rflushD (d : Disk) : Disk := ⟨(List.range d.Blocks.length).map (seenD d), [], d.Dead⟩
theorem setW_len : ∀ (l : List Write) (bs : List (List UInt8)), (l.foldl setW bs).length = bs.length
  | [], _ => rfl
  | w :: l, bs => by rw [List.foldl_cons, setW_len l]; simp [setW]
theorem setW_mem : ∀ (l : List Write) (bs : List (List UInt8)), ∀ b ∈ l.foldl setW bs, b ∈ bs ∨ ∃ w ∈ l, b = w.Data
  | [], _, b, h => .inl h
  | w :: l, bs, b, h => by
    rw [List.foldl_cons] at h
    rcases setW_mem l _ b h with h | ⟨x, hx, rfl⟩
    · rcases List.mem_or_eq_of_mem_set h with h | h
      · exact .inl h
      · exact .inr ⟨w, by simp, h⟩
    · exact .inr ⟨x, by simp [hx], rfl⟩
theorem setW_get (k : Nat) : ∀ (l : List Write) (bs : List (List UInt8)), k < bs.length → (∀ w ∈ l, 0 ≤ w.At) → fullB ((l.foldl setW bs).getD k []) = l.foldl (overW (k : Int)) (fullB (bs.getD k []))
  | [], _, _, _ => rfl
  | w :: l, bs, hk, h => by
    rw [List.foldl_cons, List.foldl_cons, setW_get k l _ (by simpa [setW] using hk) (fun x hx => h x (by simp [hx]))]
    congr 1
    have hw := h w (by simp)
    unfold setW overW
    by_cases he : w.At = (k : Int)
    · rw [if_pos he, he]; simp [hk]
    · rw [if_neg he, List.getD_eq_getElem?_getD, List.getElem?_set_ne (by omega), ← List.getD_eq_getElem?_getD]
theorem flush_view {d : Disk} (h : MayD d) : viewD (pflushD d) = viewD (rflushD d) := by
  unfold viewD pflushD rflushD
  have : (d.Wait.foldl setW d.Blocks).map fullB = ((List.range d.Blocks.length).map (seenD d)).map fullB := by
    apply List.ext_getElem
    · simp [setW_len]
    · intro k h1 h2
      simp only [List.length_map, setW_len] at h1
      have hk2 : k < (d.Wait.foldl setW d.Blocks).length := by rw [setW_len]; exact h1
      have := setW_get k d.Wait d.Blocks h1 (fun w hw => (h.wt w hw).1)
      rw [List.getD_eq_getElem?_getD, List.getElem?_eq_getElem (by rw [setW_len]; exact h1)] at this
      simp only [List.getElem_map, List.getElem_range]
      rw [show (some (d.Wait.foldl setW d.Blocks)[k]).getD [] = (d.Wait.foldl setW d.Blocks)[k] from rfl] at this
      rw [this]
      show seenD d k = fullB (seenD d k)
      have : ∀ (l : List Write) (acc : List UInt8), fullB acc = acc → fullB (l.foldl (overW (k : Int)) acc) = l.foldl (overW (k : Int)) acc := by
        intro l
        induction l with
        | nil => intro acc h; exact h
        | cons w l ih =>
          intro acc h
          rw [List.foldl_cons]
          refine ih _ ?_
          unfold overW
          split
          · exact fullB_full _
          · exact h
      exact (this d.Wait (liesD d k) (fullB_full _)).symm
  rw [this]
theorem pflush_may {d : Disk} (h : MayD d) (hd : d.Dead = false) : MayD (pflushD d) := by
  have hdd : (pflushD d).Dead = false := hd
  refine ⟨by unfold pflushD; simp only [setW_len]; exact h.n1, by unfold pflushD; simp only [setW_len]; exact h.n2, by unfold pflushD; simp, fun _ => rfl, fun h2 => (by rw [hdd] at h2; cases h2), fun b hb => ?_, fun w hw => by unfold pflushD at hw; simp at hw⟩
  rcases setW_mem d.Wait d.Blocks b hb with hb | ⟨w, hw, rfl⟩
  · exact h.sz b hb
  · exact (h.wt w hw).2.2
def killD (d : Disk) : Disk × Int := bif !mayD d then (noD, 8) else (⟨List.replicate d.Blocks.length [], [], true⟩, 0)
theorem makeL_len {α β : Type} (z : α) (l : List β) (h : l.length ≤ 256) : makeL z ((l.length : Nat) : Int) = some (List.replicate l.length z) := by
  have h2 : l.length < 4294967296 := by omega
  exact makeL_some z l.length h2
def newD (n : Int) : Disk × Int := bif decide (n < 1) || decide (n > 256) then (noD, 2) else (⟨List.replicate n.toNat [], [], false⟩, 0)
theorem makeL_ok {α : Type} (z : α) (n : Int) (h : (decide (n < 1) || decide (n > 256)) = false) : makeL z n = some (List.replicate n.toNat z) := by
  simp only [Bool.or_eq_false_iff, decide_eq_false_iff_not] at h
  unfold makeL
  have h1 : 0 ≤ n := by omega
  have h2 : n < 4294967296 := by omega
  simp only [h1, h2, and_self, if_true]
end Go.Proofs.Ytfilegnndamngaa
