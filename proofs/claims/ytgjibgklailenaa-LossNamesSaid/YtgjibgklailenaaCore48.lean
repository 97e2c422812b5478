/- Own library, part 48: an own slice whose elements are made anew one after another. -/
import Derived.Test.YtgjibgklailenaaCore47
namespace GL
open Go

def FrRel {α : Type} [R : Rp α] (F0 F1 : Nat → Prop) (k : Nat) (l : List α) (xs : List Value) (w : World) : Prop := RelL F1 (l.take k) (xs.take (k * R.n)) w ∧ RelL F0 (l.drop k) (xs.drop (k * R.n)) w
theorem FrRel.stab {α : Type} [R : Rp α] {F0 F1 F0' F1' : Nat → Prop} {k : Nat} {l : List α} {xs : List Value} {w w' : World} (hs : w.heap.size ≤ w'.heap.size) (h0 : ∀ b, b < w.heap.size → F0 b → w'.heap[b]? = w.heap[b]? ∧ F0' b) (h1 : ∀ b, b < w.heap.size → F1 b → w'.heap[b]? = w.heap[b]? ∧ F1' b)
    (h : FrRel F0 F1 k l xs w) : FrRel F0' F1' k l xs w' := ⟨RelL.stab hs h1 _ _ h.1, RelL.stab hs h0 _ _ h.2⟩
theorem FrRel.all {α : Type} [R : Rp α] {F0 F1 F : Nat → Prop} {k : Nat} {l : List α} {xs : List Value} {w : World} (h : FrRel F0 F1 k l xs w) (h0 : ∀ b, F0 b → F b) (h1 : ∀ b, F1 b → F b) : RelL F l xs w := by
  have := RelL.app _ _ _ _ (RelL.stab (F' := F) (Nat.le_refl _) (fun b _ hb => ⟨rfl, h1 b hb⟩) _ _ h.1) (RelL.stab (F' := F) (Nat.le_refl _) (fun b _ hb => ⟨rfl, h0 b hb⟩) _ _ h.2)
  rwa [List.take_append_drop, List.take_append_drop] at this

/-- Own memory of N elements: those ahead of place f lean on te1, the others on te0. -/
def Fact.ownF {α : Type} [R : Rp α] (t : Nat) (te0 te1 : List Nat) (e : TypeId) (l : List α) (f : Int) (N : Nat) : Fact where
  tags := t :: (te0 ++ te1)
  ids := [t]
  p := fun g _ w => ∃ xs, w.ownsRow 0 e R.n (g.ga t) l.length xs ∧ FrRel (fun b => g.om b ∈ te0) (fun b => g.om b ∈ te1) f.toNat l xs w ∧ l.length = N ∧ ∀ b, (g.ga t).ownBlock = some b → g.om b = t
  stab := fun g g' v w w' hk h => by
    obtain ⟨xs, h1, h2, hN, h3⟩ := h
    have hid := hk.ids t (by simp)
    refine ⟨xs, ?_, FrRel.stab hk.size (fun b hb ht => ⟨(hk.block b hb (List.mem_cons_of_mem _ (List.mem_append_left _ ht))).1, by rw [(hk.block b hb (List.mem_cons_of_mem _ (List.mem_append_left _ ht))).2]; exact ht⟩)
      (fun b hb ht => ⟨(hk.block b hb (List.mem_cons_of_mem _ (List.mem_append_right _ ht))).1, by rw [(hk.block b hb (List.mem_cons_of_mem _ (List.mem_append_right _ ht))).2]; exact ht⟩) h2, hN, ?_⟩
    · rw [hid]
      refine ⟨h1.1, ?_⟩
      rcases h1.2 with hn | ⟨b, cap, cur, hv, h0, hb, rest⟩
      · exact .inl hn
      · refine .inr ⟨b, cap, cur, hv, h0, ?_, rest⟩
        have hlt : b < w.heap.size := (Array.getElem?_eq_some_iff.1 hb).1
        rw [(hk.block b hlt (by rw [h3 b (by rw [hv]; rfl)]; simp)).1]
        exact hb
    · rw [hid]
      intro b hb
      have hlt := (h1.lt b hb).2
      rw [(hk.block b hlt (by rw [h3 b hb]; simp)).2]
      exact h3 b hb
theorem ownF_own {α : Type} [R : Rp α] {t : Nat} {te0 te1 : List Nat} {e : TypeId} {l : List α} {f : Int} {N : Nat} {g : Gh} {v : Value} {w : World} (h : (Fact.ownF t te0 te1 e l f N).p g v w) : (Fact.own t (te0 ++ te1) e l).p g v w := by
  obtain ⟨xs, h1, h2, _, h3⟩ := h
  exact ⟨xs, h1, h2.all (fun b hb => List.mem_append_left _ hb) (fun b hb => List.mem_append_right _ hb), h3⟩

section
variable {X : Cx} {G : List It} {d dO : Option Nat} {ty : TypeId} {pos : String} {af : Array Edge} {gd : Option (Nat × Bool)}
theorem Ad.front {α : Type} [R : Rp α] {t : Nat} {te : List Nat} {e : TypeId} {l : List α} {N : Nat} (hrs : look G (rs t) = some (.own t te e l)) (hN : l.length = N) : Ad X G (.fact (rs t) (.ownF t te [] e l 0 N) :: G) := fun a w env => by
  obtain ⟨g, hg, hf⟩ := env.facts
  refine ⟨env.size, env.defers, env.fr, g, hg, Facts.ghost hf (fun v => ?_)⟩
  obtain ⟨xs, h1, h2, h3⟩ := hf _ _ hrs
  exact ⟨xs, h1, ⟨by simp [RelL], by simpa using h2⟩, hN, h3⟩
theorem Ad.frontEnd {α : Type} [R : Rp α] {t : Nat} {te0 te1 : List Nat} {e : TypeId} {l : List α} {f : Int} {N : Nat} (hrs : look G (rs t) = some (.ownF t te0 te1 e l f N)) (hb : decide (f < (N : Int)) = false) : Ad X G (.fact (rs t) (.own t te1 e l) :: G) := fun a w env => by
  obtain ⟨g, hg, hf⟩ := env.facts
  refine ⟨env.size, env.defers, env.fr, g, hg, Facts.ghost hf (fun v => ?_)⟩
  obtain ⟨xs, h1, h2, hN, h3⟩ := hf _ _ hrs
  have hle : N ≤ f.toNat := by have := of_decide_eq_false hb; omega
  refine ⟨xs, h1, ?_, h3⟩
  have h4 := h2.1
  rw [List.take_of_length_le (by omega), List.take_of_length_le (by rw [h1.1, hN]; exact Nat.mul_le_mul_right _ hle)] at h4
  exact h4
theorem Has.frontM {α : Type} [R : Rp α] {x : Operand} {t : Nat} {te0 te1 te0' te1' : List Nat} {e : TypeId} {l : List α} {f : Int} {N : Nat} (h : Has G x (.ownF t te0 te1 e l f N)) (h0 : subB te0 te0' = true) (h1 : subB te1 te1' = true) : Has G x (.ownF t te0' te1' e l f N) := fun a w g hf => by
  obtain ⟨xs, k1, k2, k3⟩ := h a w g hf
  exact ⟨xs, k1, FrRel.stab (Nat.le_refl _) (fun b _ hb => ⟨rfl, subB_spec h0 _ hb⟩) (fun b _ hb => ⟨rfl, subB_spec h1 _ hb⟩) k2, k3⟩
theorem Spec.idxF {α : Type} [R : Rp α] {x i : Operand} {T te0 te1 : List Nat} {l : List α} {n f : Int} {k t N : Nat} {ts e : TypeId} (hk : bnd l.length n = some k) (hty : OwnTy X.P ts e α)
    (hx : Has G x (.isv t)) (hrs : look G (rs t) = some (.ownF t te0 te1 e l f N)) (hi : Has G i (Fact.rep T n)) : Spec X G ⟨dO, .indexAddr ts x i, ty, pos, af, gd⟩ (Fact.pto t (k * R.n)) := by
  obtain ⟨h0, h1, rfl⟩ := bnd_some hk
  refine Spec.pure fun a w g hf => ?_
  have hv : a.eval x = g.ga t := hx a w g hf
  obtain ⟨xs, hown, _⟩ := hf _ _ hrs
  have h2 := rep_int.1 (hi a w g hf)
  rcases hown.2 with ⟨_, hn⟩ | ⟨b, cap, cur, hv', _⟩
  · omega
  · refine ⟨.pointer (some ⟨b, n.toNat * R.n, none⟩), ?_, b, by rw [hv']; rfl, rfl⟩
    unfold execOp
    simp only [hv, h2, hv', Sem.run_bind, Sem.run_map]
    rw [run_indexAt (R := R) hty.und hty.el h0 h1]
    simp [Go.Addr.add_lit]
theorem Spec.loadElF {α : Type} [R : Rp α] {x : Operand} {te0 te1 : List Nat} {l : List α} {k t N : Nat} {f : Int} {e e' : TypeId} {r : α} (hr : l[k]? = some r) (hty : Ty X.P e α)
    (hx : Has G x (.pto t (k * R.n))) (hrs : look G (rs t) = some (.ownF t te0 te1 e' l f N)) : Spec X G ⟨dO, .load e x, ty, pos, af, gd⟩ (Fact.rep (te0 ++ te1) r) :=
  Spec.pure fun a w g hf => by
    obtain ⟨b, hb, hv⟩ := hx a w g hf
    obtain ⟨es, he, hrel⟩ := own_cells (ownF_own (hf _ _ hrs)) hb hr
    refine ⟨mkV R.agg es, ?_, es, hrel, rfl⟩
    unfold execOp
    simp [hv, Instr.loadAt, Instr.sureAddr, run_loadVar_rel hty he hrel]
/-- The next element is made anew. -/
theorem Step.storeFr {α : Type} [R : Rp α] {p x : Operand} {T te0 te1 te1' : List Nat} {l : List α} {y : α} {k t N : Nat} {f : Int} {e e' : TypeId} (ht : Nat.ble 10 t = true) (hk : bnd l.length f = some k) (hty : Ty X.P e α)
    (hp : Has G p (.pto t (k * R.n))) (hrs : look G (rs t) = some (.ownF t te0 te1 e' l f N)) (hx : Has G x (Fact.rep T y)) (hT0 : te0.elem t = false) (hT1 : te1'.elem t = false) (h1 : subB te1 te1' = true) (h2 : subB T te1' = true) :
    Step X G ⟨none, .store e p x, ty, pos, af, none⟩ [.fact (rs t) (.ownF t te0 te1' e' (l.set k y) (wI (f + 1)) N), .kill t] := fun G' hsub a w env K Q hK => by
    obtain ⟨hf0, hkl, rfl⟩ := bnd_some hk
    have hkl : f.toNat < l.length := by omega
    have ht' : 10 ≤ t := by simpa using ht
    obtain ⟨g, hg, hf'⟩ := env.facts
    have hf := hsub a w g hf'
    obtain ⟨b, hb, hv⟩ := hp a w g hf
    obtain ⟨xs, hown, hrel, hN, htag⟩ := hf _ _ hrs
    rcases hown.2 with ⟨hnil, hn⟩ | ⟨b', cap, cs, hga, h0, hh, hnc, hcm, hcs, htake⟩
    · rw [hnil] at hb; cases hb
    rw [hga] at hb
    simp only [ownB, Option.some.injEq] at hb
    subst hb
    have hom : g.om b' = t := htag b' (by rw [hga]; rfl)
    have hlen := hown.1
    generalize hkk : f.toNat = k at *
    have hwf : (wI (f + 1)).toNat = k + 1 := by
      rw [wI_id (by omega) (by simp only [maxLen] at hcm; omega)]; omega
    have hk1 : k * R.n + R.n ≤ l.length * R.n := by
      have h1 : k * R.n + R.n = (k + 1) * R.n := by rw [Nat.add_mul]; omega
      rw [h1]
      exact Nat.mul_le_mul_right _ hkl
    have hk2 : l.length * R.n ≤ cs.size := by rw [hcs]; exact Nat.mul_le_mul_right _ hnc
    obtain ⟨es, hes, hr, hrun⟩ := run_storeVar (P := X.P) hty hh (hx a w g hf) (show k * R.n + R.n ≤ cs.size by omega)
    have hel := R.len _ _ _ _ hr
    have hrun' : (execOp a.eval ⟨none, .store e p x, ty, pos, af, none⟩).run X.P w = .ok .skip (w.setRow b' (cs.toList.take (k * R.n) ++ es ++ cs.toList.drop (k * R.n + R.n)).toArray) := by
      unfold execOp
      simp only [hv, Instr.storeAt, Instr.sureAddr, Sem.run_bind, Sem.run_pure, Result.andThen_ok]
      rw [hrun]
      rfl
    unfold Oper.wp
    rw [hrun']
    refine hK undef _ ?_
    have hb : ∀ b, b < w.heap.size → g.om b ≠ t → (w.setRow b' (cs.toList.take (k * R.n) ++ es ++ cs.toList.drop (k * R.n + R.n)).toArray).heap[b]? = w.heap[b]? := fun b hb hne => setRow_other w b' b _ (fun h => hne (by rw [h]; exact hom))
    have hsz : (w.setRow b' (cs.toList.take (k * R.n) ++ es ++ cs.toList.drop (k * R.n + R.n)).toArray).heap.size = w.heap.size := by simp
    refine ⟨by simp [Act.put, env.size], env.defers, Fr.own env.fr hg ht' (.inr trivial) rfl rfl rfl (by rw [hsz]; exact Nat.le_refl _) hb, g, ⟨⟨hg.ok.old, fun b h1 h2 => hg.ok.new b h1 (by rw [hsz] at h2; exact h2)⟩, hg.om⟩, ?_⟩
    show Facts _ g a _
    refine Facts.ghost ?_ (fun v => ⟨xs.take (k * R.n) ++ es ++ xs.drop (k * R.n + R.n), ⟨?_, .inr ⟨b', cap, _, by rw [hga, List.length_set], h0, setRow_heap w b' cs _ e' (0, 0) hh, by rw [List.length_set]; exact hnc, hcm, ?_, ?_⟩⟩, ?_, by rw [List.length_set]; exact hN, htag⟩)
    · exact facts_killed' hf' (by rw [hsz]; exact Nat.le_refl _) hb
    · simp only [List.length_append, List.length_take, List.length_drop, List.length_set, hlen, hel]
      omega
    · simp only [List.size_toArray, List.length_append, List.length_take, List.length_drop, Array.length_toList, hel]
      omega
    · rw [← htake, List.length_set]
      exact take_splice cs.toList es (k * R.n) R.n (l.length * R.n) hel hk1 (by rw [Array.length_toList]; exact hk2)
    · have hne0 : ∀ b, g.om b ∈ te0 → g.om b ≠ t := fun b hb he => by
        rw [he] at hb
        have h5 : te0.elem t = true := by simpa using hb
        rw [hT0] at h5; cases h5
      have hne1 : ∀ b, g.om b ∈ te1' → g.om b ≠ t := fun b hb he => by
        rw [he] at hb
        have h5 : te1'.elem t = true := by simpa using hb
        rw [hT1] at h5; cases h5
      have hxl : (xs.take (k * R.n)).length = k * R.n := by rw [List.length_take, hlen]; omega
      have hR1 : (k + 1) * R.n = k * R.n + R.n := by rw [Nat.add_mul]; omega
      rw [hwf]
      refine ⟨?_, ?_⟩
      · have e1 : (l.set k y).take (k + 1) = l.take k ++ [y] := by
          rw [List.set_eq_take_append_cons_drop, if_pos hkl, List.take_append, List.length_take, Nat.min_eq_left (by omega), List.take_of_length_le (by rw [List.length_take]; omega), show k + 1 - k = 1 by omega]
          rfl
        have e2 : (xs.take (k * R.n) ++ es ++ xs.drop (k * R.n + R.n)).take ((k + 1) * R.n) = xs.take (k * R.n) ++ es := by
          rw [hR1, List.take_append_of_le_length (by rw [List.length_append, hxl, hel]; exact Nat.le_refl _), List.take_of_length_le (by rw [List.length_append, hxl, hel]; exact Nat.le_refl _)]
        rw [e1, e2]
        refine RelL.app _ _ _ _ (RelL.stab (by rw [hsz]; exact Nat.le_refl _) (fun b hlt hb' => ⟨hb b hlt (hne1 b (subB_spec h1 _ hb')), subB_spec h1 _ hb'⟩) _ _ hrel.1) ⟨es, [], by simp, R.stab _ _ y es w _ (by rw [hsz]; exact Nat.le_refl _) (fun b hlt hb' => ⟨hb b hlt (hne1 b (subB_spec h2 _ hb')), subB_spec h2 _ hb'⟩) hr, rfl⟩
      · have e1 : (l.set k y).drop (k + 1) = l.drop (k + 1) := List.drop_set_of_lt (by omega)
        have e2 : (xs.take (k * R.n) ++ es ++ xs.drop (k * R.n + R.n)).drop ((k + 1) * R.n) = xs.drop (k * R.n + R.n) := by
          rw [hR1, List.drop_append_of_le_length (by rw [List.length_append, hxl, hel]; exact Nat.le_refl _), List.drop_of_length_le (by rw [List.length_append, hxl, hel]; exact Nat.le_refl _), List.nil_append]
        rw [e1, e2]
        have h5 := RelL.drop _ _ 1 hrel.2
        rw [List.drop_drop, List.drop_drop, Nat.one_mul] at h5
        exact RelL.stab (by rw [hsz]; exact Nat.le_refl _) (fun b hlt hb' => ⟨hb b hlt (hne0 b hb'), hb'⟩) _ _ h5
end
end GL
