/- Plain law of the folding functions: the order. -/
import Derived.Test.YteadgdpeiokplaaLw03CO
namespace Go.Proofs.Yteadgdpeiokplaa
open Go GL

theorem gx_perm {i : Nat} {l m : List (List UInt8)} (h : l.Perm m) : gx i l = gx i m := by
  induction h with
  | nil => rfl
  | cons b _ ih => show at0 b i ^^^ gx i _ = at0 b i ^^^ gx i _; rw [ih]
  | swap a b l =>
    show at0 b i ^^^ (at0 a i ^^^ gx i l) = at0 a i ^^^ (at0 b i ^^^ gx i l)
    rw [← UInt8.xor_assoc, ← UInt8.xor_assoc, UInt8.xor_comm (at0 b i)]
  | trans _ _ h1 h2 => exact h1.trans h2

theorem spec_perm {l m : List (List UInt8)} (h : l.Perm m) : FoldSpec l = FoldSpec m := by
  have hall : l.all blockB = m.all blockB := by
    rw [Bool.eq_iff_iff, List.all_eq_true, List.all_eq_true]
    exact ⟨fun hl b hb => hl b (h.mem_iff.2 hb), fun hm b hb => hm b (h.mem_iff.1 hb)⟩
  unfold FoldSpec
  rw [h.length_eq, hall]
  split
  · rfl
  · split
    · rename_i h2
      have hm := List.all_eq_true.1 h2
      rw [foldS_ext (fun b hb => hm b (h.mem_iff.1 hb)) hm (fun i _ => gx_perm h)]
    · rfl

theorem order_true (l : List (List UInt8)) (a b : Int) (hl : l.length ≤ 9223372036854775807) : law03_FoldOrder l a b = some true := by
  unfold law03_FoldOrder
  rw [alive_true, great_eq l hl]
  simp only [Option.bind_some]
  by_cases hc : ((((GreatS l || decide (a < 0)) || decide (a ≥ (l.length : Int))) || decide (b < 0)) || decide (b ≥ (l.length : Int))) = true
  · rw [hc]; rfl
  rw [Bool.not_eq_true] at hc
  rw [hc]
  simp only [Bool.or_eq_false_iff, decide_eq_false_iff_not] at hc
  obtain ⟨⟨⟨⟨hg, h1⟩, h2⟩, h3⟩, h4⟩ := hc
  obtain ⟨g1, g2⟩ := great_false hg
  obtain ⟨i, rfl⟩ : ∃ i : Nat, a = (i : Int) := ⟨a.toNat, by omega⟩
  obtain ⟨j, rfl⟩ : ∃ j : Nat, b = (j : Int) := ⟨b.toNat, by omega⟩
  have hi : i < l.length := by omega
  have hj : j < l.length := by omega
  simp only [cond_false]
  rw [app_some _ _ (by simp; omega)]
  simp only [Option.bind_some, List.nil_append, idx_nat, List.getElem?_eq_getElem hi, List.getElem?_eq_getElem hj, bnd_nat hi, fold_eq]
  rw [bnd_nat (by simpa using hj)]
  simp only [Option.bind_some]
  rw [spec_perm (List.set_set_perm hi hj)]
  simp
end Go.Proofs.Yteadgdpeiokplaa
