/- Plain law: arrays of devices: which may be; which stripes are even. -/
import Derived.Test.YtdlmgdfeeofmbaaLwShapeC
import Derived.Test.YtdlmgdfeeofmbaaLwDiskCC
import Derived.Test.YtdlmgdfeeofmbaaLw03CC
namespace Go.Proofs.Ytdlmgdfeeofmbaa
open Go GL

theorem member_eq (c : Config) : shape_Member c = some (bif mayC c then (c.Chunk * c.Rows + 1, 0) else (0, 8)) := by
  unfold shape_Member shape_told
  rw [check_eq]
  cases h : mayC c with
  | false => rfl
  | true =>
    obtain ⟨h1, h2, h3⟩ := wI_str ((mayC_iff c).1 h)
    simp only [Option.bind_some, cond_true, bne_self_eq_false, cond_false, h1]
    rw [wI_id (by omega) (by omega)]
theorem journal_eq (c : Config) : shape_Journal c = some (bif mayC c then (c.Log + 1, 0) else (0, 8)) := by
  unfold shape_Journal shape_told
  rw [check_eq]
  cases h : mayC c with
  | false => rfl
  | true =>
    have hm := (mayC_iff c).1 h
    have h5 := hm.2.2.2.2
    have h0 : 0 ≤ (c.Members + 1) * (c.Heads + 1) := Int.mul_nonneg (by have := hm.1; omega) (by have := hm.2.2.2.1; omega)
    simp only [Option.bind_some, cond_true, bne_self_eq_false, cond_false]
    rw [wI_id (by omega) (by omega)]
def mN (c : Config) : Nat := c.Members.toNat
def sN (c : Config) : Nat := (c.Chunk * c.Rows).toNat
def wantI (c : Config) (i : Nat) : Int := if i = mN c then c.Log + 1 else c.Chunk * c.Rows + 1
def dAt (ds : List Disk) (i : Nat) : Disk := ds.getD i noD
def goodA (c : Config) (ds : List Disk) (i : Nat) : Bool := mayD (dAt ds i) && decide (((dAt ds i).Blocks.length : Int) = wantI c i)
def okA (c : Config) (ds : List Disk) : Bool := mayC c && (decide ((ds.length : Int) = c.Members + 1) && !((List.range ds.length).any fun i => !goodA c ds i))

structure OkA (c : Config) (ds : List Disk) : Prop where
  mc : MayC c
  len : ds.length = mN c + 1
  m : 3 ≤ mN c ∧ mN c ≤ 16 ∧ c.Members = (mN c : Int)
  s : 1 ≤ sN c ∧ sN c ≤ 64 ∧ c.Chunk * c.Rows = (sN c : Int)
  may : ∀ i, i < ds.length → MayD (dAt ds i)
  want : ∀ i, i < ds.length → ((dAt ds i).Blocks.length : Int) = wantI c i
theorem okA_iff (c : Config) (ds : List Disk) : okA c ds = true ↔ OkA c ds := by
  unfold okA
  simp only [Bool.and_eq_true, decide_eq_true_eq, Bool.not_eq_true', List.any_eq_false, List.mem_range, goodA, mayC_iff]
  constructor
  · rintro ⟨h1, h2, h3⟩
    obtain ⟨k1, k2, k3⟩ := wI_str h1
    have hm := h1.1
    refine ⟨h1, by unfold mN; omega, by unfold mN; omega, by unfold sN; omega, fun i hi => ?_, fun i hi => ?_⟩
    · have := h3 i hi
      simp at this; exact (mayD_iff _).1 this.1
    · have := h3 i hi; simp at this; exact this.2
  · rintro ⟨h1, h2, h3, h4, h5, h6⟩
    refine ⟨h1, by omega, fun i hi => ?_⟩
    rw [(mayD_iff _).2 (h5 i hi), decide_eq_true (h6 i hi)]; simp
theorem dAt_get {ds : List Disk} {i : Nat} (h : i < ds.length) : ds[i]? = some (dAt ds i) := by
  unfold dAt; rw [List.getD_eq_getElem?_getD, List.getElem?_eq_getElem h]; rfl

theorem pcheckA_eq (c : Config) (ds : List Disk) : eye_Check c ds = some (bif okA c ds then 0 else 8) := by
  unfold eye_Check okA
  rw [member_eq, journal_eq]
  cases hc : mayC c with
  | false => rfl
  | true =>
    have hm := (mayC_iff c).1 hc
    have hm1 := hm.1
    simp only [Option.bind_some, cond_true, bne_self_eq_false, cond_false, Bool.true_and]
    rw [wI_id (by omega) (by omega)]
    by_cases hl : (ds.length : Int) = c.Members + 1
    case neg =>
      rw [decide_eq_false hl, show ((ds.length : Int) != c.Members + 1) = true by simpa using hl]; rfl
    rw [decide_eq_true hl, show ((ds.length : Int) != c.Members + 1) = false by simpa using hl]
    simp only [cond_false, Bool.true_and]
    have := loop_any (step := fun s : Int => eye_Check_L1 c ds (c.Chunk * c.Rows + 1, 0) (c.Log + 1, 0) s) (fun k => (k : Int)) ds.length (fun i => !goodA c ds i) (Sum.inr ()) (Sum.inl ()) (fuel_ltD (by omega)) (fun k hk => by
      unfold eye_Check_L1 eye_Check_J2
      rw [decide_eq_true (by omega), idx_nat, dAt_get hk]
      simp only [cond_true, Option.bind_some, pcheck_eq]
      rw [wI_succ (by omega)]
      unfold goodA wantI mN
      by_cases he : (k : Int) = c.Members
      · rw [show ((k : Int) == c.Members) = true by simpa using he, if_pos (by omega)]
        cases mayD (dAt ds k) with
        | false => rfl
        | true =>
          by_cases hw : ((dAt ds k).Blocks.length : Int) = c.Log + 1
          · rw [decide_eq_true hw]; simp [hw]
          · rw [decide_eq_false hw]; have hw' := bne_iff_ne.2 hw; simp [hw']
      · rw [show ((k : Int) == c.Members) = false by simpa using he, if_neg (by omega)]
        cases mayD (dAt ds k) with
        | false => rfl
        | true =>
          by_cases hw : ((dAt ds k).Blocks.length : Int) = c.Chunk * c.Rows + 1
          · rw [decide_eq_true hw]; simp [hw]
          · rw [decide_eq_false hw]; have hw' := bne_iff_ne.2 hw; simp [hw']) (by
      unfold eye_Check_L1
      rw [decide_eq_false (by omega)]; rfl)
    erw [this]
    cases (List.range ds.length).any fun i => !goodA c ds i <;> rfl

/-! ### even stripes -/
def deadA (c : Config) (ds : List Disk) : Bool := (List.range (mN c)).any fun i => (dAt ds i).Dead
def colA (c : Config) (ds : List Disk) (s : Nat) : List (List UInt8) := (List.range (mN c)).map fun i => liesD (dAt ds i) (s + 1)
def zeroB (b : List UInt8) : Bool := !(b.any fun x => x != 0)
def evenA (c : Config) (ds : List Disk) (s : Nat) : Bool := deadA c ds || zeroB (foldS (colA c ds s))
theorem col_len (c : Config) (ds : List Disk) (s : Nat) : (colA c ds s).length = mN c := by simp [colA]
theorem lies_szB {d : Disk} (h : MayD d) {k : Nat} (hk : k < d.Blocks.length) : (liesD d k).length = 128 := by
  unfold liesD
  rw [List.getD_eq_getElem?_getD, List.getElem?_eq_getElem hk]
  exact fullB_len (h.sz _ (List.getElem_mem hk))
theorem OkA.mem {c : Config} {ds : List Disk} (h : OkA c ds) {i s : Nat} (hi : i < mN c) (hs : s < sN c) : s + 1 < (dAt ds i).Blocks.length := by
  have := h.want i (by have := h.len; omega)
  unfold wantI at this
  rw [if_neg (by omega)] at this
  have := h.s
  omega
theorem col_ok {c : Config} {ds : List Disk} (h : OkA c ds) {s : Nat} (hs : s < sN c) : ∀ b ∈ colA c ds s, blockB b = true := by
  intro b hb
  obtain ⟨i, hi, rfl⟩ := List.mem_map.1 hb
  have hi := List.mem_range.1 hi
  unfold blockB
  rw [lies_szB (h.may i (by have := h.len; omega)) (h.mem hi hs)]; rfl
theorem last_of {d : Disk} (h : MayD d) (hd : d.Dead = false) {k : Nat} (hk : k < d.Blocks.length) : disk_Lasting d (k : Int) = some (liesD d k, 0) := by
  rw [plast_eq]
  unfold lastD askD
  rw [(mayD_iff d).2 h]
  have : (decide ((k : Int) < 0) || decide ((k : Int) ≥ (d.Blocks.length : Int))) = false := by simp; omega
  simp only [this, hd, cond_true, cond_false, bne_self_eq_false, Int.toNat_natCast]
theorem wI_one {s : Nat} (h : s < 1000) : wI (1 + (s : Int)) = ((s + 1 : Nat) : Int) := by rw [wI_id (by omega) (by omega)]; omega

theorem max_spec (l : List UInt8) (h0 : 0 < l.length) (hl : l.length < 4294967296) : ∃ x, slices_Max_byte_byte l = some x ∧ (decide ((x.toNat : Int) > ((0 : UInt8).toNat : Int)) = !zeroB l) := by
  unfold slices_Max_byte_byte slices_Max_byte_byte_J1
  rw [decide_eq_false (by omega), show (0 : Int) = ((0 : Nat) : Int) from rfl, idx_nat, List.getElem?_eq_getElem h0]
  simp only [cond_false, Option.bind_some]
  obtain ⟨b, hb, hq⟩ := loop_inv (step := fun s : UInt8 × Int => slices_Max_byte_byte_L2 l s.1 s.2) l.length (fun k s => s.2 = (k : Int) ∧ 1 ≤ k ∧ ((∀ j (hj : j < l.length), j < k → l[j] = 0) ↔ s.1 = 0)) (fun b => ((∀ j (hj : j < l.length), l[j] = 0) ↔ b = 0)) (fun k s hk hI => by
    obtain ⟨s1, s2⟩ := s
    obtain ⟨e1, e2, e3⟩ := hI
    simp only at e1 e2 e3
    subst e1
    show (∃ s', slices_Max_byte_byte_L2 l s1 (k : Int) = some (.next s') ∧ _) ∨ ∃ b, slices_Max_byte_byte_L2 l s1 (k : Int) = some (.brk b) ∧ _
    unfold slices_Max_byte_byte_L2
    by_cases hlt : k < l.length
    · rw [decide_eq_true (by omega), idx_nat, List.getElem?_eq_getElem hlt, wI_succ (by omega)]
      refine .inl ⟨_, rfl, hlt, rfl, by omega, ?_⟩
      simp only
      have hmax : maxB s1 l[k] = 0 ↔ s1 = 0 ∧ l[k] = 0 := by
        unfold maxB
        constructor
        · intro h
          split at h
          · rename_i hgt; rw [h] at hgt; simp at hgt
          · rename_i hgt
            refine ⟨h, ?_⟩
            rw [h] at hgt
            apply UInt8.toNat_inj.1
            simp at hgt ⊢
            omega
        · rintro ⟨h1, h2⟩; rw [h1, h2]; simp
      rw [hmax, ← e3]
      constructor
      · intro h; exact ⟨fun j hj hjk => h j hj (by omega), h k hlt (by omega)⟩
      · rintro ⟨h1, h2⟩ j hj hjk
        by_cases he : j = k
        · subst he; exact h2
        · exact h1 j hj (by omega)
    · obtain rfl : k = l.length := by omega
      rw [decide_eq_false (by omega)]
      refine .inr ⟨_, rfl, ?_⟩
      rw [← e3]
      exact ⟨fun h j hj _ => h j hj, fun h j hj => h j hj hj⟩) FUEL 1 (l[0], 1) (by omega) (by have := fuel_ltD hl; omega) ⟨rfl, Nat.le_refl _, by
      constructor
      · intro h; exact h 0 h0 (by omega)
      · intro h j hj hj1
        obtain rfl : j = 0 := by omega
        exact h⟩
  rw [hb]
  refine ⟨b, rfl, ?_⟩
  rw [Bool.eq_iff_iff]
  simp only [decide_eq_true_eq, zeroB, Bool.not_not, List.any_eq_true, bne_iff_ne, ne_eq]
  constructor
  · intro h
    apply Classical.byContradiction
    intro hn
    have : b = 0 := hq.1 (fun j hj => Classical.byContradiction fun h1 => hn ⟨l[j], List.getElem_mem hj, h1⟩)
    rw [this] at h; simp at h
  · rintro ⟨x, hx, hne⟩
    have hb0 : b ≠ 0 := fun he => by
      obtain ⟨j, hj, rfl⟩ := List.getElem_of_mem hx
      exact hne (hq.2 he j hj)
    have : b.toNat ≠ 0 := fun h => hb0 (UInt8.toNat_inj.1 (by simpa using h))
    simp; omega
end Go.Proofs.Ytdlmgdfeeofmbaa
