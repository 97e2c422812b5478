/- Plain law: arrays of devices: which may be; which stripes are even. -/
import Derived.Test.YtfilegnndamngaaLwShapeO
import Derived.Test.YtfilegnndamngaaLwDiskCO
import Derived.Test.YtfilegnndamngaaLw03CO
namespace Go.Proofs.Ytfilegnndamngaa
open Go GL

theorem member_eq (c : Config) : shape_Member c = some (bif mayC c then (c.Chunk * c.Rows + 1, 0) else (0, 8)) := by
  unfold shape_Member shape_told
  rw [check_eq]
  cases h : mayC c with
  | false => rfl
  | true =>
    obtain ⟨h1, h2, h3⟩ := wI_str ((mayC_iff c).1 h)
    simp only [Option.bind_some, cond_true, bne_self_eq_false, cond_false, h1]
    rw [wI_id (by omega) (by omega)]
theorem journal_eq (c : Config) : shape_Journal c = some (bif mayC c then (c.Log + 1, 0) else (0, 8)) := by
  unfold shape_Journal shape_told
  rw [check_eq]
  cases h : mayC c with
  | false => rfl
  | true =>
    have hm := (mayC_iff c).1 h
    have h5 := hm.2.2.2.2
    have h0 : 0 ≤ (c.Members + 1) * (c.Heads + 1) := Int.mul_nonneg (by have := hm.1; omega) (by have := hm.2.2.2.1; omega)
    simp only [Option.bind_some, cond_true, bne_self_eq_false, cond_false]
    rw [wI_id (by omega) (by omega)]
def mN (c : Config) : Nat := c.Members.toNat
def sN (c : Config) : Nat := (c.Chunk * c.Rows).toNat
def wantI (c : Config) (i : Nat) : Int := if i = mN c then c.Log + 1 else c.Chunk * c.Rows + 1
def dAt (ds : List Disk) (i : Nat) : Disk := ds.getD i noD
def goodA (c : Config) (ds : List Disk) (i : Nat) : Bool := mayD (dAt ds i) && decide (((dAt ds i).Blocks.length : Int) = wantI c i)
def okA (c : Config) (ds : List Disk) : Bool := mayC c && (decide ((ds.length : Int) = c.Members + 1) && !((List.range ds.length).any fun i => !goodA c ds i))

structure OkA (c : Config) (ds : List Disk) : Prop where
  mc : MayC c
  len : ds.length = mN c + 1
  m : 3 ≤ mN c ∧ mN c ≤ 16 ∧ c.Members = (mN c : Int)
  s : 1 ≤ sN c ∧ sN c ≤ 64 ∧ c.Chunk * c.Rows = (sN c : Int)
  may : ∀ i, i < ds.length → MayD (dAt ds i)
  want : ∀ i, i < ds.length → ((dAt ds i).Blocks.length : Int) = wantI c i
theorem okA_iff (c : Config) (ds : List Disk) : okA c ds = true ↔ OkA c ds := by
  unfold okA
  simp only [Bool.and_eq_true, decide_eq_true_eq, Bool.not_eq_true', List.any_eq_false, List.mem_range, goodA, mayC_iff]
  constructor
  · rintro ⟨h1, h2, h3⟩
    obtain ⟨k1, k2, k3⟩ := wI_str h1
    have hm := h1.1
    refine ⟨h1, by unfold mN; omega, by unfold mN; omega, by unfold sN; omega, fun i hi => ?_, fun i hi => ?_⟩
    · have := h3 i hi
      simp at this; exact (mayD_iff _).1 this.1
    · have := h3 i hi; simp at this; exact this.2
  · rintro ⟨h1, h2, h3, h4, h5, h6⟩
    refine ⟨h1, by omega, fun i hi => ?_⟩
    rw [(mayD_iff _).2 (h5 i hi), decide_eq_true (h6 i hi)]; simp
theorem dAt_get {ds : List Disk} {i : Nat} (h : i < ds.length) : ds[i]? = some (dAt ds i) := by
  unfold dAt; rw [List.getD_eq_getElem?_getD, List.getElem?_eq_getElem h]; rfl

/-! ### even stripes -/
def deadA (c : Config) (ds : List Disk) : Bool := (List.range (mN c)).any fun i => (dAt ds i).Dead
def colA (c : Config) (ds : List Disk) (s : Nat) : List (List UInt8) := (List.range (mN c)).map fun i => liesD (dAt ds i) (s + 1)
def zeroB (b : List UInt8) : Bool := !(b.any fun x => x != 0)
def evenA (c : Config) (ds : List Disk) (s : Nat) : Bool := deadA c ds || zeroB (foldS (colA c ds s))
theorem col_len (c : Config) (ds : List Disk) (s : Nat) : (colA c ds s).length = mN c := by simp [colA]
theorem lies_szB {d : Disk} (h : MayD d) {k : Nat} (hk : k < d.Blocks.length) : (liesD d k).length = 128 := by
  unfold liesD
  rw [List.getD_eq_getElem?_getD, List.getElem?_eq_getElem hk]
  exact fullB_len (h.sz _ (List.getElem_mem hk))
theorem OkA.mem {c : Config} {ds : List Disk} (h : OkA c ds) {i s : Nat} (hi : i < mN c) (hs : s < sN c) : s + 1 < (dAt ds i).Blocks.length := by
  have := h.want i (by have := h.len; omega)
  unfold wantI at this
  rw [if_neg (by omega)] at this
  have := h.s
  omega
theorem col_ok {c : Config} {ds : List Disk} (h : OkA c ds) {s : Nat} (hs : s < sN c) : ∀ b ∈ colA c ds s, blockB b = true := by
  intro b hb
  obtain ⟨i, hi, rfl⟩ := List.mem_map.1 hb
  have hi := List.mem_range.1 hi
  unfold blockB
  rw [lies_szB (h.may i (by have := h.len; omega)) (h.mem hi hs)]; rfl
theorem last_of {d : Disk} (h : MayD d) (hd : d.Dead = false) {k : Nat} (hk : k < d.Blocks.length) : disk_Lasting d (k : Int) = some (liesD d k, 0) := by
  rw [plast_eq]
  unfold lastD askD
  rw [(mayD_iff d).2 h]
  have : (decide ((k : Int) < 0) || decide ((k : Int) ≥ (d.Blocks.length : Int))) = false := by simp; omega
  simp only [this, hd, cond_true, cond_false, bne_self_eq_false, Int.toNat_natCast]
theorem wI_one {s : Nat} (h : s < 1000) : wI (1 + (s : Int)) = ((s + 1 : Nat) : Int) := by rw [wI_id (by omega) (by omega)]; omega

end Go.Proofs.Ytfilegnndamngaa
