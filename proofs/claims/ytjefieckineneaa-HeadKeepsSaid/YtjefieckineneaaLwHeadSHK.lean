/- Plain law: loops over two lists, equal heads, what holds of a head that may be. -/
import Derived.Test.YtjefieckineneaaLwHeadAHK
namespace Go.Proofs.Ytjefieckineneaa
open Go GL

theorem list_any_ne {α : Type} [DecidableEq α] (l m : List α) (h : l.length = m.length) : ((List.range l.length).any fun k => !decide (l[k]? = m[k]?)) = !decide (l = m) := by
  rw [Bool.eq_iff_iff, List.any_eq_true]
  simp only [List.mem_range, Bool.not_eq_true', decide_eq_false_iff_not]
  constructor
  · rintro ⟨k, _, h1⟩ rfl; exact h1 rfl
  · intro hne
    apply Classical.byContradiction
    intro hno
    refine hne (List.ext_getElem? fun k => ?_)
    by_cases hk : k < l.length
    · exact Classical.byContradiction fun h1 => hno ⟨k, hk, h1⟩
    · rw [List.getElem?_eq_none (by omega), List.getElem?_eq_none (by omega)]
/-- A loop that asks whether two lists differ at some place. -/
theorem loop_differ {α B : Type} [DecidableEq α] (l m : List α) {step : Int → Option (Ctl Int B)} (yes no : B) (hl : l.length < 4294967296) (hlm : l.length = m.length)
    (h1 : ∀ k x y, l[k]? = some x → m[k]? = some y → k < l.length → step (k : Int) = some (bif !decide (x = y) then .brk yes else .next ((k + 1 : Nat) : Int))) (h2 : step (l.length : Int) = some (.brk no)) :
    loopM step FUEL (0 : Int) = some (bif decide (l = m) then no else yes) := by
  have := loop_any (step := step) (fun k => (k : Int)) l.length (fun k => !decide (l[k]? = m[k]?)) yes no (fuel_lt hl) (fun k hk => by
    obtain ⟨x, hx⟩ : ∃ x, l[k]? = some x := ⟨_, List.getElem?_eq_getElem hk⟩
    obtain ⟨y, hy⟩ : ∃ y, m[k]? = some y := ⟨_, List.getElem?_eq_getElem (by omega)⟩
    rw [h1 k x y hx hy hk, hx, hy]
    simp only [Option.some.injEq]) h2
  rw [list_any_ne l m hlm] at this
  have h3 : loopM step FUEL (0 : Int) = _ := this
  rw [h3]
  cases decide (l = m) <;> rfl
/-- A loop that only counts. -/
theorem loop_count {step : Int → Option (Ctl Int Unit)} (n : Nat) (hn : n < 4294967296) (h1 : ∀ k, k < n → step (k : Int) = some (.next ((k + 1 : Nat) : Int))) (h2 : step (n : Int) = some (.brk ())) :
    loopM step FUEL (0 : Int) = some () := loop_run (fun k => (k : Int)) n () (fuel_lt hn) h1 h2

def slotIn (c : Config) (slot : Int) : Bool := !(decide (slot < 0) || decide (slot ≥ c.Members - 1))
structure OfH (c : Config) (h : Head) : Prop where
  m : MayC c
  s1 : 0 ≤ h.Stripe
  s2 : h.Stripe < c.Chunk * c.Rows
  nb : (h.Blocks.length : Int) = c.Members
  nd : (h.Dirty.length : Int) = c.Members - 1
  ph : h.Phase.toNat ≤ 4
  bl : ∀ x ∈ h.Blocks, x.length = 0 ∨ x.length = 128
  di : ∀ k, h.Dirty.getD k false = true → (h.Blocks.getD k []).length ≠ 0
  ok : phOk h = true
theorem mayH_of {c : Config} {h : Head} (hm : mayH c h = true) : OfH c h := by
  simp only [mayH, Bool.and_eq_true] at hm
  obtain ⟨h1, h2, h3, h4⟩ := hm
  obtain ⟨a1, a2, a3, a4, a5⟩ := (sizeOk_iff c h).1 h2
  simp only [blksOk, Bool.and_eq_true, List.all_eq_true, List.mem_range, Bool.not_eq_true'] at h3
  refine ⟨(mayC_iff c).1 h1, a1, a2, a3, a4, a5, fun x hx => ?_, fun k hk => ?_, h4⟩
  · have := h3.1 x hx
    simp only [blkOk, Bool.or_eq_true, beq_iff_eq] at this; exact this
  · have hkl : k < h.Dirty.length := by
      apply Classical.byContradiction
      intro hn
      rw [List.getD_eq_getElem?_getD, List.getElem?_eq_none (by omega)] at hk
      cases hk
    have := h3.2 k hkl
    rw [dirtyBad, hk] at this
    simpa using this
theorem slot_expr {c : Config} (hm : MayC c) (slot : Int) : ((decide (slot < (0 : Int))) || (decide (slot ≥ (wI (c.Members - (1 : Int)))))) = !slotIn c slot := by
  have := hm.1
  rw [wI_id (x := c.Members - 1) (by omega) (by omega)]
  simp [slotIn]
theorem slotIn_iff (c : Config) (slot : Int) : slotIn c slot = true ↔ 0 ≤ slot ∧ slot < c.Members - 1 := by simp [slotIn]
theorem getD_some {α : Type} {l : List α} {k : Nat} (hk : k < l.length) (d : α) : l[k]? = some (l.getD k d) := by
  rw [List.getD_eq_getElem?_getD, List.getElem?_eq_getElem hk]; rfl
theorem OfH.blk {c : Config} {h : Head} (o : OfH c h) (k : Nat) : (h.Blocks.getD k []).length = 0 ∨ (h.Blocks.getD k []).length = 128 := by
  by_cases hk : k < h.Blocks.length
  · rw [List.getD_eq_getElem?_getD, List.getElem?_eq_getElem hk]; exact o.bl _ (List.getElem_mem hk)
  · rw [List.getD_eq_getElem?_getD, List.getElem?_eq_none (by omega)]; exact .inl rfl
end Go.Proofs.Ytjefieckineneaa
