/- Plain law: what is fetched of even stripes, and of lone losses. -/
import Derived.Test.YtfilegnndamngaaLwFetchAO
import Derived.Test.YtfilegnndamngaaLwEyeOO
namespace Go.Proofs.Ytfilegnndamngaa
open Go GL

theorem alive20_true : law20_alive = some true := by kernel_rfl
theorem full20_zero : law20_full 0 = some (List.replicate 128 0) := by kernel_rfl
theorem memberG (c : Config) (stripe k : Int) : turn_Member c stripe k = some (bif mayC c then (bif askT c stripe k then (memF c stripe k, 0) else (0, 2)) else (0, 8)) := by
  cases hc : mayC c with
  | true => rw [memberF ((mayC_iff c).1 hc)]; rfl
  | false =>
    unfold turn_Member turn_at
    rw [stripesF, hc]
    rfl
theorem dAtF_set (ds : List Disk) (m : Nat) (x : Disk) (hm : m < ds.length) (i : Nat) : dAt (ds.set m x) i = if i = m then x else dAt ds i := by
  unfold dAt
  rw [List.getD_eq_getElem?_getD, List.getD_eq_getElem?_getD, List.getElem?_set]
  by_cases h : m = i
  · subst h; rw [if_pos rfl, if_pos hm, if_pos rfl]; rfl
  · rw [if_neg h, if_neg (fun e => h e.symm)]
theorem okAF_set {c : Config} {ds : List Disk} (h : OkA c ds) {m : Nat} (hm : m < ds.length) {x : Disk} (hx : MayD x) (hl : x.Blocks.length = (dAt ds m).Blocks.length) : OkA c (ds.set m x) := by
  refine ⟨h.mc, by simp [h.len], h.m, h.s, fun i hi => ?_, fun i hi => ?_⟩
  · rw [dAtF_set ds m x hm]
    split
    · exact hx
    · exact h.may i (by simpa using hi)
  · rw [dAtF_set ds m x hm]
    split
    · rename_i he; subst he; rw [hl]; exact h.want i (by simpa using hi)
    · exact h.want i (by simpa using hi)
def deadD (d : Disk) : Disk := ⟨List.replicate d.Blocks.length [], [], true⟩
theorem deadD_may {d : Disk} (h : MayD d) : MayD (deadD d) := by
  refine ⟨by simpa [deadD] using h.n1, by simpa [deadD] using h.n2, by simp [deadD], fun _ => rfl, fun _ b hb => ?_, fun b hb => ?_, fun w hw => ?_⟩
  · simp [deadD, List.mem_replicate] at hb; exact hb.2
  · simp [deadD, List.mem_replicate] at hb; rw [hb.2]; rfl
  · simp [deadD] at hw
theorem dead20_eq {c : Config} {ds : List Disk} (h : OkA c ds) {i : Nat} (hi : i < ds.length) : law20_dead ds (i : Int) = some (ds.set i (deadD (dAt ds i))) := by
  have hl := h.len
  have hm := h.m
  unfold law20_dead law20_dead_J1
  rw [app_some _ _ (by simp; omega), idx_nat, dAt_get hi]
  simp only [Option.bind_some, List.nil_append, pkill_eq]
  unfold killD
  rw [(mayD_iff _).2 (h.may i hi)]
  simp only [Bool.not_true, cond_false, beq_self_eq_true, cond_true]
  rw [bnd_nat hi]
  rfl

/-! ### even stripes, as they are read -/
def colF (c : Config) (ds : List Disk) (s : Nat) : List (List UInt8) := (List.range (mN c)).map fun i => seenD (dAt ds i) (s + 1)
theorem colF_len (c : Config) (ds : List Disk) (s : Nat) : (colF c ds s).length = mN c := by simp [colF]
theorem colF_ok {c : Config} {ds : List Disk} (h : OkA c ds) {s : Nat} (hs : s < sN c) : ∀ b ∈ colF c ds s, blockB b = true := by
  intro b hb
  obtain ⟨i, hi, rfl⟩ := List.mem_map.1 hb
  have hi := List.mem_range.1 hi
  unfold blockB
  rw [seen_len (h.may i (by have := h.len; omega)) (h.mem hi hs)]; rfl
theorem without_take (c : Config) (f : Nat → List UInt8) (m : Nat) (hm : m < mN c) : (withoutF c m).map f = ((List.range (mN c)).map f).take m ++ ((List.range (mN c)).map f).drop (m + 1) := by
  rw [← List.map_take, ← List.map_drop, ← List.map_append]
  congr 1
  unfold withoutF
  have h1 : List.range (mN c) = (List.range (mN c)).take m ++ (m :: (List.range (mN c)).drop (m + 1)) := by
    have : (List.range (mN c))[m]'(by simpa using hm) = m := by simp
    have h2 := (List.take_append_drop m (List.range (mN c))).symm
    rw [List.drop_eq_getElem_cons (by simpa using hm), this] at h2
    exact h2
  have ht : ((List.range (mN c)).take m).filter (fun i => i != m) = (List.range (mN c)).take m := List.filter_eq_self.2 (fun i hi => by
    rw [List.take_range] at hi
    have := List.mem_range.1 hi
    simp; omega)
  have hd : ((List.range (mN c)).drop (m + 1)).filter (fun i => i != m) = (List.range (mN c)).drop (m + 1) := List.filter_eq_self.2 (fun i hi => by
    obtain ⟨j, hj, rfl⟩ := List.getElem_of_mem hi
    simp; omega)
  conv => lhs; rw [h1]
  rw [List.filter_append, List.filter_cons, ht, hd]
  simp
/-- One lone loss: each block as it stands. -/
theorem off_lone {c : Config} {ds ds' : List Disk} (h : OkA c ds) (_h' : OkA c ds') {s : Nat} (hs : s < sN c) {m lost : Nat} (hm : m < mN c) (missing : Int)
    (hz : zeroB (foldS (colF c ds s)) = true) (hsame : ∀ i, i < mN c → i ≠ lost → dAt ds' i = dAt ds i) (hlost : ∀ i, i < mN c → lostF ds' missing i = decide (i = lost)) :
    offF c ds' missing s m = (seenD (dAt ds m) (s + 1), 0) := by
  have hlen := h.len
  unfold offF
  rw [hlost m hm]
  by_cases he : m = lost
  case neg =>
    rw [decide_eq_false he, hsame m hm he]; rfl
  subst he
  rw [decide_eq_true rfl]
  have hal : alsoF c ds' missing m = false := by
    unfold alsoF
    rw [List.any_eq_false]
    intro i hi
    obtain ⟨h1, h2⟩ := List.mem_filter.1 hi
    rw [hlost i (List.mem_range.1 h1), decide_eq_false (by simpa using h2)]
    simp
  rw [hal]
  simp only [cond_true, cond_false]
  have ho : othersF c ds' s m = othersF c ds s m := by
    unfold othersF
    refine List.map_congr_left (fun i hi => ?_)
    obtain ⟨h1, h2⟩ := List.mem_filter.1 hi
    rw [hsame i (List.mem_range.1 h1) (by simpa using h2)]
  have hml : m < (colF c ds s).length := by rw [colF_len]; exact hm
  have hget : (colF c ds s)[m] = seenD (dAt ds m) (s + 1) := by simp [colF]
  rw [zero_iff_others _ (colF_ok h hs) m hml (by rw [hget]; exact seen_len (h.may m (by omega)) (h.mem hm hs)), decide_eq_true_iff, hget] at hz
  rw [ho]
  unfold othersF
  rw [without_take c _ m hm]
  unfold colF at hz
  rw [hz]
theorem fetch_in {c : Config} {ds : List Disk} (h : OkA c ds) {missing stripe slot : Int} (ha : askT c stripe slot = true) (h0 : -1 ≤ missing) (h1 : missing < c.Members) :
    fetchF c ds missing stripe slot = offF c ds missing stripe.toNat (memF c stripe slot).toNat := by
  unfold fetchF
  rw [(okA_iff c ds).2 h, ha, decide_eq_true h0, decide_eq_true h1]
  rfl

end Go.Proofs.Ytfilegnndamngaa
