/- Own library, part 46: an own slice of slices, one element of which is another own slice. -/
import Derived.Test.YtgjibgklailenaaCore45
namespace GL
open Go

/-- Own memory t; its element k is the slice of the owner u; all others are as in l. -/
def Fact.ownX {α : Type} [R : Rp α] (t u : Nat) (te : List Nat) (e : TypeId) (l : List α) (k : Nat) : Fact where
  tags := t :: te
  ids := [t, u]
  p := fun g _ w => ∃ ys, w.ownsRow 0 e R.n (g.ga t) l.length (ys.take (k * R.n) ++ [g.ga u] ++ ys.drop (k * R.n + R.n)) ∧ RelL (fun b => g.om b ∈ te) l ys w ∧ k < l.length ∧ ∀ b, (g.ga t).ownBlock = some b → g.om b = t
  stab := fun g g' v w w' hk h => by
    obtain ⟨ys, h1, h2, h4, h3⟩ := h
    have hid := hk.ids t (by simp)
    have hiu := hk.ids u (by simp)
    refine ⟨ys, ?_, RelL.stab hk.size (fun b hb ht => ⟨(hk.block b hb (List.mem_cons_of_mem _ ht)).1, by rw [(hk.block b hb (List.mem_cons_of_mem _ ht)).2]; exact ht⟩) l ys h2, h4, ?_⟩
    · rw [hid, hiu]
      refine ⟨h1.1, ?_⟩
      rcases h1.2 with hn | ⟨b, cap, cur, hv, h0, hb, rest⟩
      · exact .inl hn
      · refine .inr ⟨b, cap, cur, hv, h0, ?_, rest⟩
        have hlt : b < w.heap.size := (Array.getElem?_eq_some_iff.1 hb).1
        rw [(hk.block b hlt (by rw [h3 b (by rw [hv]; rfl)]; simp)).1]
        exact hb
    · rw [hid]
      intro b hb
      rcases h1.2 with ⟨hn, _⟩ | ⟨b', cap, cur, hv, h0, hbb, rest⟩
      · rw [hn] at hb; cases hb
      · have hlt : b' < w.heap.size := (Array.getElem?_eq_some_iff.1 hbb).1
        have hbe : b' = b := by rw [hv] at hb; simpa [Value.ownBlock] using hb
        subst hbe
        rw [(hk.block b' hlt (by rw [h3 b' hb]; simp)).2]
        exact h3 b' hb

section
variable {X : Cx} {G : List It} {d dO : Option Nat} {ty : TypeId} {pos : String} {af : Array Edge} {gd : Option (Nat × Bool)}
/-- An own slice becomes an element of an own slice. -/
theorem Step.storeX {α β : Type} [R : Rp α] [B : Rp β] {p x : Operand} {te te2 : List Nat} {l : List α} {z : List β} {k t u : Nat} {e e' e2 : TypeId} (hn : R.n = 1) (hn2 : (inferInstance : Rp (List β)).n = 1) (ha2 : (inferInstance : Rp (List β)).agg = false) (ht : Nat.ble 10 t = true) (hk : k < l.length) (hty : Ty X.P e (List β))
    (hp : Has G p (.pto t (k * R.n))) (hrs : look G (rs t) = some (.own t te e' l)) (hx : Has G x (.isv u)) (hru : look G (rs u) = some (.own u te2 e2 z)) (hte : ElKeep (α := α) t te te) :
    Step X G ⟨none, .store e p x, ty, pos, af, none⟩ [.fact (rs t) (.ownX t u te e' l k), .kill t] := fun G' hsub a w env K Q hK => by
    have ht' : 10 ≤ t := by simpa using ht
    obtain ⟨g, hg, hf'⟩ := env.facts
    have hf := hsub a w g hf'
    obtain ⟨b, hb, hv⟩ := hp a w g hf
    obtain ⟨xs, hown, hrel, htag⟩ := hf _ _ hrs
    rcases hown.2 with ⟨hnil, hn⟩ | ⟨b', cap, cs, hga, h0, hh, hnc, hcm, hcs, htake⟩
    · rw [hnil] at hb; cases hb
    rw [hga] at hb
    simp only [ownB, Option.some.injEq] at hb
    subst hb
    have hom : g.om b' = t := htag b' (by rw [hga]; rfl)
    have hlen := RelL.len l _ hrel
    have hxv : a.eval x = g.ga u := hx a w g hf
    have hrep : Rep (fun b => g.om b ∈ u :: te2) z (a.eval x) w := by rw [hxv]; exact own_rep (hf _ _ hru)
    have hk1 : k * R.n + R.n ≤ l.length * R.n := by
      have h1 : k * R.n + R.n = (k + 1) * R.n := by rw [Nat.add_mul]; omega
      rw [h1]
      exact Nat.mul_le_mul_right _ hk
    have hk2 : l.length * R.n ≤ cs.size := by rw [hcs]; exact Nat.mul_le_mul_right _ hnc
    obtain ⟨es, hes, hr, hrun⟩ := run_storeVar (P := X.P) (o := k * R.n) hty hh hrep (by rw [hn2, ← hn]; omega)
    have hel := (inferInstance : Rp (List β)).len _ _ _ _ hr
    have hes1 : es = [g.ga u] := by
      rw [hn2] at hel
      obtain ⟨c, rfl⟩ := List.length_eq_one_iff.1 hel
      rw [← hxv, hes, ha2]; rfl
    rw [hn2, ← hn] at hrun hel
    have hrun' : (execOp a.eval ⟨none, .store e p x, ty, pos, af, none⟩).run X.P w = .ok .skip (w.setRow b' (cs.toList.take (k * R.n) ++ es ++ cs.toList.drop (k * R.n + R.n)).toArray) := by
      unfold execOp
      simp only [hv, Instr.storeAt, Instr.sureAddr, Sem.run_bind, Sem.run_pure, Result.andThen_ok]
      rw [hrun]
      rfl
    unfold Oper.wp
    rw [hrun']
    refine hK undef _ ?_
    have hb : ∀ b, b < w.heap.size → g.om b ≠ t → (w.setRow b' (cs.toList.take (k * R.n) ++ es ++ cs.toList.drop (k * R.n + R.n)).toArray).heap[b]? = w.heap[b]? := fun b hb hne => setRow_other w b' b _ (fun h => hne (by rw [h]; exact hom))
    have hsz : (w.setRow b' (cs.toList.take (k * R.n) ++ es ++ cs.toList.drop (k * R.n + R.n)).toArray).heap.size = w.heap.size := by simp
    refine ⟨by simp [Act.put, env.size], env.defers, Fr.own env.fr hg ht' (.inr trivial) rfl rfl rfl (by rw [hsz]; exact Nat.le_refl _) hb, g, ⟨⟨hg.ok.old, fun b h1 h2 => hg.ok.new b h1 (by rw [hsz] at h2; exact h2)⟩, hg.om⟩, ?_⟩
    show Facts _ g a _
    refine Facts.ghost ?_ (fun v => ⟨xs, ⟨?_, .inr ⟨b', cap, _, hga, h0, setRow_heap w b' cs _ e' (0, 0) hh, hnc, hcm, ?_, ?_⟩⟩, ?_, hk, htag⟩)
    · exact facts_killed' hf' (by rw [hsz]; exact Nat.le_refl _) hb
    · simp only [List.length_append, List.length_take, List.length_drop, List.length_singleton, hlen]
      omega
    · simp only [List.size_toArray, List.length_append, List.length_take, List.length_drop, Array.length_toList, hel]
      omega
    · rw [← htake, ← hes1]
      exact take_splice cs.toList es (k * R.n) R.n (l.length * R.n) hel hk1 (by rw [Array.length_toList]; exact hk2)
    · exact hte (fun b => g.om b ∈ te) g w (w.setRow b' (cs.toList.take (k * R.n) ++ es ++ cs.toList.drop (k * R.n + R.n)).toArray) l xs (by rw [hsz]; exact Nat.le_refl _) hb (fun _ _ h => h) hrel

theorem Spec.idxX {α : Type} [R : Rp α] {x i : Operand} {T te : List Nat} {l : List α} {n : Int} {k k' t u : Nat} {ts e : TypeId} (hk : bnd l.length n = some k) (hty : OwnTy X.P ts e α)
    (hx : Has G x (.isv t)) (hrs : look G (rs t) = some (.ownX t u te e l k')) (hi : Has G i (Fact.rep T n)) : Spec X G ⟨dO, .indexAddr ts x i, ty, pos, af, gd⟩ (Fact.pto t (k * R.n)) := by
  obtain ⟨h0, h1, rfl⟩ := bnd_some hk
  refine Spec.pure fun a w g hf => ?_
  have hv : a.eval x = g.ga t := hx a w g hf
  obtain ⟨xs, hown, _⟩ := hf _ _ hrs
  have h2 := rep_int.1 (hi a w g hf)
  rcases hown.2 with ⟨_, hn⟩ | ⟨b, cap, cur, hv', _⟩
  · omega
  · refine ⟨.pointer (some ⟨b, n.toNat * R.n, none⟩), ?_, b, by rw [hv']; rfl, rfl⟩
    unfold execOp
    simp only [hv, h2, hv', Sem.run_bind, Sem.run_map]
    rw [run_indexAt (R := R) hty.und hty.el h0 h1]
    simp [Go.Addr.add_lit]

theorem Spec.loadX {α : Type} [R : Rp α] {x : Operand} {te : List Nat} {l : List α} {k t u : Nat} {e e' : TypeId} (hn : R.n = 1) (ha : R.agg = false) (hty : Ty X.P e' α)
    (hx : Has G x (.pto t (k * R.n))) (hrs : look G (rs t) = some (.ownX t u te e l k)) : Spec X G ⟨d, .load e' x, ty, pos, af, gd⟩ (.isv u) :=
  Spec.pure fun a w g hf => by
    obtain ⟨b, hb, hv⟩ := hx a w g hf
    obtain ⟨ys, hown, hrel, hkl, htag⟩ := hf _ _ hrs
    rcases hown.2 with ⟨hnil, h0⟩ | ⟨b', cap, cur, hga, _, hh, hnc, hcm, hcs, htake⟩
    · omega
    rw [hga] at hb
    simp only [ownB, Option.some.injEq] at hb
    subst hb
    have hlen := RelL.len l _ hrel
    rw [hn] at hlen hcs htake hv
    rw [hn] at hown
    have hcell : cur.toList[k]? = some (g.ga u) := by
      have h1 : (cur.toList.take (l.length * 1))[k]? = some (g.ga u) := by
        rw [htake, List.append_assoc, List.getElem?_append_right (by rw [List.length_take]; omega)]
        rw [List.length_take, show k - min (k * 1) ys.length = 0 by omega]
        rfl
      rw [List.getElem?_take_of_lt (by omega)] at h1
      exact h1
    have hc : CellsAt w ⟨b', k * 1, none⟩ [g.ga u] := fun j v hj => by
      cases j with
      | zero =>
        simp only [List.getElem?_cons_zero, Option.some.injEq] at hj
        subst hj
        rw [Go.Addr.add_lit]
        refine ⟨?_, frozen_of_row w b' _ cur e hh⟩
        rw [cell_of_row w b' _ cur e (0, 0) hh]
        have : cur.toList[k * 1 + 0]? = some (g.ga u) := by rw [Nat.mul_one, Nat.add_zero]; exact hcell
        simpa using this
      | succ j => simp at hj
    rw [Nat.mul_one] at hv hc
    refine ⟨mkV R.agg [g.ga u], ?_, by rw [ha]; rfl⟩
    unfold execOp
    simp [hv, Instr.loadAt, Instr.sureAddr, run_loadVar_cells hty hc (by rw [hn]; rfl)]

/-- Read as data: the owner's slice in its place. -/
theorem Cv.ownX {β : Type} [B : Rp β] {te te2 T : List Nat} {l : List (List β)} {z : List β} {k t u : Nat} {e e2 : TypeId} (hrs : look G (rs t) = some (.ownX t u te e l k)) (hru : look G (rs u) = some (.own u te2 e2 z))
    (h1 : subB te T = true) (h2 : subB (u :: te2) T = true) (hn : (inferInstance : Rp (List β)).n = 1) (ha : (inferInstance : Rp (List β)).agg = false) : Cv G (.isv t) (Fact.rep (t :: T) (l.set k z)) := fun a w g v hf hv => by
  obtain ⟨ys, hown, hrel, hkl, htag⟩ := hf _ _ hrs
  have hrep : Rep (fun b => g.om b ∈ u :: te2) z (g.ga u) w := own_rep (hf _ _ hru)
  obtain ⟨es, hr, he⟩ := hrep
  have hel := (inferInstance : Rp (List β)).len _ _ _ _ hr
  have hes1 : es = [g.ga u] := by
    rw [hn] at hel
    obtain ⟨c, rfl⟩ := List.length_eq_one_iff.1 hel
    rw [he, ha]; rfl
  have hr' : (inferInstance : Rp (List β)).rel (fun b => g.om b ∈ T) z es w := (inferInstance : Rp (List β)).stab _ _ z es w w (Nat.le_refl _) (fun b _ h => ⟨rfl, subB_spec h2 _ h⟩) hr
  have hrel' : RelL (fun b => g.om b ∈ T) l ys w := RelL.stab (Nat.le_refl _) (fun b _ h => ⟨rfl, subB_spec h1 _ h⟩) l ys hrel
  have hset := RelL.set l ys hrel' k z es hkl hr'
  rw [hes1] at hset
  have : (Fact.own t T e (l.set k z)).p g v w := ⟨_, by rw [List.length_set]; exact hown, hset, htag⟩
  show Rep _ (l.set k z) v w
  rw [show v = g.ga t from hv]; exact own_rep this
end
end GL
