/- Own library, part 36: small arrays at a place that is told late. -/
import Derived.Test.YtgjibgklailenaaCore35
namespace GL
open Go

section
variable {X : Cx} {G : List It} {Q : Exit → Act → World → Prop} {ops : Array Oper} {rest : List Oper} {dO : Option Nat} {ty : TypeId} {pos : String} {af : Array Edge} {gd : Option (Nat × Bool)}

theorem Spec.idxVar {x io : Operand} {ts e : TypeId} {n t k : Nat} {T : List Nat} {z : Int} (hm : bnd n z = some k) (h : SmTy X.P ts e n 1) (hx : Has G x (.pto t 0)) (hz : Has G io (Fact.rep T z)) :
    Spec X G ⟨dO, .indexAddr ts x io, ty, pos, af, gd⟩ (.pto t k) :=
  Spec.pure fun a w g hf => by
    obtain ⟨b, hb, hv⟩ := hx a w g hf
    obtain ⟨inf, h1, h2⟩ := h.sz
    obtain ⟨b1, b2, b3⟩ := bnd_some hm
    have hzv := rep_int.1 (hz a w g hf)
    have hq : z = (k : Int) := by omega
    rw [hq] at hzv
    refine ⟨.pointer (some ⟨b, k, none⟩), ?_, b, hb, rfl⟩
    unfold execOp
    simp only [hv, hzv, Instr.indexAt, asIntOf, Sem.run_bind, Sem.run_pure, Result.andThen_ok, run_underlying h.und, Instr.sureAddr, Sem.run_map]
    rw [if_pos (by omega)]
    simp only [Go.sizeOf, typeInfo, h1, h2]
    simp [h1, h2, Go.Addr.add_lit]
theorem Spec.idxVar8 {x io : Operand} {ts e : TypeId} {n t k : Nat} {T : List Nat} {z : UInt8} (hm : bnd n (z.toNat : Int) = some k) (h : SmTy X.P ts e n 1) (hx : Has G x (.pto t 0)) (hz : Has G io (Fact.rep T z)) :
    Spec X G ⟨dO, .indexAddr ts x io, ty, pos, af, gd⟩ (.pto t k) :=
  Spec.pure fun a w g hf => by
    obtain ⟨b, hb, hv⟩ := hx a w g hf
    obtain ⟨inf, h1, h2⟩ := h.sz
    obtain ⟨b1, b2, b3⟩ := bnd_some hm
    have hzv := rep_u8.1 (hz a w g hf)
    have hq : (z.toNat : Int) = (k : Int) := by omega
    rw [hq] at hzv
    refine ⟨.pointer (some ⟨b, k, none⟩), ?_, b, hb, rfl⟩
    unfold execOp
    simp only [hv, hzv, Instr.indexAt, asIntOf, Sem.run_bind, Sem.run_pure, Result.andThen_ok, run_underlying h.und, Instr.sureAddr, Sem.run_map]
    rw [if_pos (by omega)]
    simp only [Go.sizeOf, typeInfo, h1, h2]
    simp [h1, h2, Go.Addr.add_lit]

/-- All parts from i on are data. -/
def HasVs {α : Type} [Rp α] (G : List It) (T : List Nat) (i : Nat) : List α → Prop
  | [] => True
  | y :: l => HasG G i (Fact.rep T y) ∧ HasVs G T (i + 1) l
theorem HasVs.nil {α : Type} [Rp α] {T : List Nat} {i : Nat} : HasVs (α := α) G T i [] := trivial
theorem HasVs.cons {α : Type} [Rp α] {T : List Nat} {i : Nat} {y : α} {l : List α} (h : HasG G i (Fact.rep T y)) (k : HasVs G T (i + 1) l) : HasVs G T i (y :: l) := ⟨h, k⟩
theorem HasVs.get {α : Type} [Rp α] {T : List Nat} : ∀ {l : List α} {i k : Nat} {y : α}, HasVs G T i l → l[k]? = some y → HasG G (i + k) (Fact.rep T y)
  | [], _, _, _, _, h => by simp at h
  | x :: l, i, 0, y, h, hk => by
    simp at hk
    subst hk
    exact h.1
  | x :: l, i, k + 1, y, h, hk => by
    have := HasVs.get (k := k) h.2 (by simpa using hk)
    rw [show i + 1 + k = i + (k + 1) by omega] at this
    exact this
def partsV (ps : Ps) (n : Nat) : Bool := (List.range n).all fun j => partAt ps j == some (j, false, 1)
theorem partsV_at {ps : Ps} {n k : Nat} (h : partsV ps n = true) (hk : k < n) : partAt ps k = some (k, false, 1) := by
  have := List.all_eq_true.1 h k (List.mem_range.2 hk)
  simpa using this

theorem Spec.loadV {x : Operand} {e : TypeId} {α : Type} [R : Rp α] {t k : Nat} {ps : Ps} {T : List Nat} {l : List α} {y : α} (hk : l[k]? = some y) (hty : Ty X.P e α) (hag : R.agg = false) (hp : partsV ps l.length = true)
    (hx : Has G x (.pto t k)) (ho : look G (rs t) = some (.obj t ps)) (hf : HasVs G T (t + 1) l) : Spec X G ⟨dO, .load e x, ty, pos, af, gd⟩ (Fact.rep T y) :=
  Spec.loadF (i := k) hty (by rw [hag, R.na hag]; exact partsV_at hp (List.getElem?_eq_some_iff.1 hk).1) hx ho (hf.get hk)

/-- A list of data, as parts. -/
def lsV {α : Type} [Rp α] (T : List Nat) (l : List α) : Ls := l.map fun y => (false, 1, Fact.rep T y)
/-- Data with one more put in. -/
def updV {α : Type} (k : Nat) (y : α) (j : Nat) : List α → List α
  | [] => []
  | x :: l => (bif Nat.beq k j then y else x) :: updV k y (j + 1) l
theorem updV_get {α : Type} (k : Nat) (y : α) : ∀ (l : List α) (j i : Nat) (x : α), (updV k y j l)[i]? = some x → ∃ x0, l[i]? = some x0 ∧ x = bif Nat.beq k (j + i) then y else x0
  | [], _, _, _, h => by simp [updV] at h
  | x0 :: l, j, 0, x, h => by
    simp [updV] at h
    exact ⟨x0, rfl, h.symm⟩
  | x0 :: l, j, i + 1, x, h => by
    obtain ⟨x1, h1, h2⟩ := updV_get k y l (j + 1) i x (by simpa [updV] using h)
    exact ⟨x1, by simpa using h1, by rw [h2, show j + 1 + i = j + (i + 1) by omega]⟩

theorem rep_any {α : Type} [R : Rp α] [Fl : Flat α] {y : α} {T T' : List Nat} {g g' : Gh} {v : Value} {w w' : World} (h : (Fact.rep T y).p g v w) : (Fact.rep T' y).p g' v w' := by
  obtain ⟨cs, h1, h2⟩ := h
  exact ⟨cs, Fl.flat _ _ _ _ _ _ h1, h2⟩
theorem Step.storeV {p x : Operand} {e : TypeId} {α : Type} [R : Rp α] [Fl : Flat α] {y : α} {T T' : List Nat} {t k n : Nat} {ps : Ps} {l : List α} {z : Int} (hm : bnd n z = some k) (ht : Nat.ble 10 t = true) (hty : Ty X.P e α) (hag : R.agg = false)
    (hn : l.length = n) (hpl : ps.length = n) (hp : partsV ps n = true) (hpx : Has G p (.pto t k)) (ho : look G (rs t) = some (.obj t ps)) (hr : Has G x (Fact.rep T' y)) (hf0 : HasVs G T (t + 1) l) :
    Step X G ⟨none, .store e p x, ty, pos, af, none⟩ ([.fact (rs t) (.obj t ps)] ++ flI (t + 1) (lsV [] (updV k y 0 l)) (.kill t :: killIds (psIds (t + 1) ps) [])) := fun G' hsub a w env K Q hK => by
  have ht' : 10 ≤ t := by simpa using ht
  have hk : k < n := by obtain ⟨b1, b2, b3⟩ := bnd_some hm; omega
  have hpk := partsV_at hp hk
  have hR1 : R.n = 1 := R.na hag
  obtain ⟨g, hg, hf'⟩ := env.facts
  have hf := hsub a w g hf'
  obtain ⟨b, hb, hv⟩ := hpx a w g hf
  obtain ⟨b', ty', cs, hga, hh, hom, hrel⟩ := hf _ _ ho
  rw [hga] at hb
  simp only [ownB, Option.some.injEq] at hb
  subst hb
  obtain ⟨c0, k1, k2, k3, k4⟩ := hrel.part ps (t + 1) _ k k _ _ hpk
  obtain ⟨es, hes, hre, hrun⟩ := run_storeVar (P := X.P) hty hh (hr a w g hf) (show k + R.n ≤ cs.size by rw [hR1]; simpa using k3)
  have hl := R.len _ _ _ _ hre
  have h1 := R.one _ _ _ _ hre
  have hrx := hr a w g hf
  have hrun' : (execOp a.eval ⟨none, .store e p x, ty, pos, af, none⟩).run X.P w = .ok .skip (w.setRow b' (cs.toList.take k ++ es ++ cs.toList.drop (k + R.n)).toArray) := by
    unfold execOp
    simp only [hv, Instr.storeAt, Instr.sureAddr, Sem.run_bind, Sem.run_pure, Result.andThen_ok]
    rw [hrun]
    rfl
  unfold Oper.wp
  rw [hrun']
  refine hK undef _ ?_
  have hb : ∀ b, b < w.heap.size → g.om b ≠ t → (w.setRow b' (cs.toList.take k ++ es ++ cs.toList.drop (k + R.n)).toArray).heap[b]? = w.heap[b]? := fun b hb hne => setRow_other w b' b _ (fun h => hne (by rw [h]; exact hom))
  have hsz : (w.setRow b' (cs.toList.take k ++ es ++ cs.toList.drop (k + R.n)).toArray).heap.size = w.heap.size := by simp
  let g2 : Gh := ⟨g.om, fun s => if s = t + 1 + k then a.eval x else g.ga s⟩
  have hgai : g2.ga (t + 1 + k) = a.eval x := if_pos rfl
  have hgao : ∀ s, s ≠ t + 1 + k → g2.ga s = g.ga s := fun s hs => if_neg hs
  rw [List.append_assoc, flI_app]
  simp only [List.cons_append, List.nil_append, killIds_app]
  refine ⟨by simp [Act.put, env.size], env.defers, Fr.own env.fr hg ht' (.inr trivial) rfl rfl rfl (by rw [hsz]; exact Nat.le_refl _) hb, g2, ⟨⟨hg.ok.old, fun b h1 h2 => hg.ok.new b h1 (by rw [hsz] at h2; exact h2)⟩, hg.om⟩, ?_⟩
  show Facts _ g2 a _
  refine Facts.ghost ?_ (fun v => ⟨b', ty', _, by rw [hgao t (by omega)]; exact hga, setRow_heap w b' cs _ ty' (0, 0) hh, hom, ?_⟩)
  · refine facts_flI _ (t + 1) ?_ (fun j l' hj => ?_)
    · refine facts_killIdsT _ hf' (by rw [hsz]; exact Nat.le_refl _) hb (fun _ _ => rfl) (fun s hs => hgao s (fun hx => hs ?_))
      rw [psIds_mem, hpl]; omega
    · unfold lsV at hj
      rw [List.getElem?_map] at hj
      obtain ⟨x', hx', rfl⟩ := Option.map_eq_some_iff.1 hj
      obtain ⟨x0, hx0, rfl⟩ := updV_get k y l 0 j x' hx'
      simp only [Nat.zero_add]
      by_cases he : k = j
      · subst he
        rw [show Nat.beq k k = true from Nat.beq_refl k, hgai]
        exact rep_any hrx
      · rw [show Nat.beq k j = false from Bool.eq_false_iff.2 (fun h => he (Nat.eq_of_beq_eq_true h)), hgao _ (by omega)]
        exact rep_any (hf0.get hx0 a w g hf)
  · have := PRel.set (g := g) (g' := g2) ps (t + 1) cs.toList es k k false R.n hrel (by rw [hR1]; exact hpk) hl h1 (by rw [hgai, hes, hag]) hgao
    simpa using this
end
end GL
