/- Own library, part 7: more memory of the call's own. -/
import Derived.Test.YtgjibgklailenaaCore6
namespace GL
open Go

/-- An array variable of n elements. -/
structure ArrTy (P : Program) (t e : TypeId) (n : Nat) (α : Type) [R : Rp α] (z : α) : Prop where
  und : P.underlying t = some (.array n e)
  big : Nat.ble 2 n = true
  el : Ty P e α
  zero : ∃ i zv c, P.info? t = some i ∧ i.zero = some zv ∧ zv.cells.toList = (List.replicate n c).flatten ∧ ∀ w, R.rel (fun _ => False) z c w

/-- An index that is in range. -/
def bnd (n : Nat) (i : Int) : Option Nat := if 0 ≤ i ∧ i < n then some i.toNat else none
theorem bnd_some {n : Nat} {i : Int} {k : Nat} (h : bnd n i = some k) : 0 ≤ i ∧ i < n ∧ k = i.toNat := by
  unfold bnd at h
  split at h
  · rename_i hi; cases h; exact ⟨hi.1, hi.2, rfl⟩
  · cases h

theorem rep_cells {α : Type} [R : Rp α] {F : Nat → Prop} {x : α} {cs : List Value} {w : World} (h : R.rel F x cs w) : (mkV R.agg cs).cells = cs.toArray := by
  unfold mkV
  cases ha : R.agg with
  | true => simp [Value.cells]
  | false =>
    have hl := R.len _ _ _ _ h
    have h1 := R.one _ _ _ _ h
    rw [R.na ha] at hl
    match cs, hl, h1 with
    | [c], _, h1 =>
      have := h1 c (by simp)
      cases c <;> simp_all [Value.cells, Value.oneCell']

theorem take_splice (cs es : List Value) (p s m : Nat) (hs : es.length = s) (h : p + s ≤ m) (hm : m ≤ cs.length) :
    (cs.take p ++ es ++ cs.drop (p + s)).take m = (cs.take m).take p ++ es ++ (cs.take m).drop (p + s) := by
  have h1 : (cs.take p ++ es).length = p + s := by rw [List.length_append, List.length_take, hs]; omega
  rw [List.take_append, h1, List.take_of_length_le (by omega), List.drop_take, List.take_take, Nat.min_eq_left (by omega)]

section
variable {X : Cx} {G : List It} {Q : Exit → Act → World → Prop} {ops : Array Oper} {rest : List Oper} {d : Nat} {dO : Option Nat} {ty : TypeId} {pos : String} {af : Array Edge} {gd : Option (Nat × Bool)}

theorem Step.allocArr {α : Type} [R : Rp α] (t : Nat) {ts e : TypeId} {n : Nat} {z : α} (ht : Nat.ble 10 t = true) (hd : Nat.blt d X.n = true) (hty : ArrTy X.P ts e n α z) :
    Step X G ⟨some d, .alloc ts, ty, pos, af, none⟩ [.fact d (.isv t), .fact (rs t) (.arr t [] n (List.replicate n z)), .killId t] := fun G' hsub a w env K Q hK => by
    have ht' : 10 ≤ t := by simpa using ht
    have hd' : d < X.n := by simpa [Nat.blt_eq] using hd
    obtain ⟨g, hg, hf'⟩ := env.facts
    have hf := hsub a w g hf'
    obtain ⟨i, zv, c, hi, hiz, hzc, hrel⟩ := hty.zero
    have hrun : (execOp a.eval ⟨some d, .alloc ts, ty, pos, af, none⟩).run X.P w = .ok (.value (.pointer (some ⟨w.heap.size, 0, none⟩))) (w.alloc (.cells zv.cells ts)) := by
      unfold execOp
      simp [Instr.alloc, zeroValue, typeInfo, hi, hiz, newVar, newRow]
    unfold Oper.wp
    rw [hrun]
    refine hK _ _ ?_
    have hb : ∀ b, b < w.heap.size → (w.alloc (.cells zv.cells ts)).heap[b]? = w.heap[b]? := fun b hb => RowKit.Below.heap_alloc w _ b hb
    refine ⟨by simp [Act.put, env.size], env.defers, Fr.own env.fr hg ht' (.inr trivial) rfl rfl rfl (by simp) (fun b hb' _ => hb b hb'),
      ghOwn g w.heap.size t (.pointer (some ⟨w.heap.size, 0, none⟩)), hg.own ht' env.fr.size, ?_⟩
    refine Facts.put (by rw [env.size]; exact hd') ?_ (by simp [Fact.isv, ghOwn])
    refine Facts.ghost ?_ (fun v => ⟨w.heap.size, ts, zv.cells, by simp [ghOwn], heap_alloc_new w _, ?_, by simp [ghOwn], by simp⟩)
    · exact facts_killedId hf' (by simp) (fun b hb' => hb b hb') (fun b hb => by simp [ghOwn, hb]) (fun s hs => by simp [ghOwn, hs])
    · rw [hzc]
      refine RelL.rep ?_ n
      exact R.stab _ _ z c (w.alloc (.cells zv.cells ts)) (w.alloc (.cells zv.cells ts)) (Nat.le_refl _) (fun _ _ h => h.elim) (hrel _)

theorem Spec.idxArr {α : Type} [R : Rp α] {x i : Operand} {T te : List Nat} {l : List α} {n : Int} {k t : Nat} {ts e : TypeId} {N : Nat} {z : α} (hk : bnd N n = some k) (hty : ArrTy X.P ts e N α z)
    (hx : Has G x (.isv t)) (hrs : look G (rs t) = some (.arr t te N l)) (hi : Has G i (Fact.rep T n)) : Spec X G ⟨dO, .indexAddr ts x i, ty, pos, af, gd⟩ (Fact.pto t (k * R.n)) := by
  obtain ⟨h0, h1, rfl⟩ := bnd_some hk
  refine Spec.pure fun a w g hf => ?_
  have hv : a.eval x = g.ga t := hx a w g hf
  obtain ⟨b, ty', cs, hp, _⟩ := hf _ _ hrs
  have h2 := rep_int.1 (hi a w g hf)
  refine ⟨.pointer (some ⟨b, n.toNat * R.n, none⟩), ?_, b, by rw [hp]; rfl, rfl⟩
  have hbig : ¬ (N ≤ 1) := by have := hty.big; simp at this; omega
  unfold execOp
  simp only [hv, h2, hp, Sem.run_bind, Sem.run_map]
  unfold Instr.indexAt
  simp [asIntOf, run_underlying hty.und, Instr.sureAddr, h0, h1, rt_sizeOf hty.el, Go.Addr.add_lit]

theorem Spec.idxOwn {α : Type} [R : Rp α] {x i : Operand} {T te : List Nat} {l : List α} {n : Int} {k t : Nat} {ts e : TypeId} (hk : bnd l.length n = some k) (hty : OwnTy X.P ts e α)
    (hx : Has G x (.isv t)) (hrs : look G (rs t) = some (.own t te e l)) (hi : Has G i (Fact.rep T n)) : Spec X G ⟨dO, .indexAddr ts x i, ty, pos, af, gd⟩ (Fact.pto t (k * R.n)) := by
  obtain ⟨h0, h1, rfl⟩ := bnd_some hk
  refine Spec.pure fun a w g hf => ?_
  have hv : a.eval x = g.ga t := hx a w g hf
  obtain ⟨xs, hown, _⟩ := hf _ _ hrs
  have h2 := rep_int.1 (hi a w g hf)
  rcases hown.2 with ⟨_, hn⟩ | ⟨b, cap, cur, hv', _⟩
  · omega
  · refine ⟨.pointer (some ⟨b, n.toNat * R.n, none⟩), ?_, b, by rw [hv']; rfl, rfl⟩
    unfold execOp
    simp only [hv, h2, hv', Sem.run_bind, Sem.run_map]
    rw [run_indexAt (R := R) hty.und hty.el h0 h1]
    simp [Go.Addr.add_lit]

/-- The cells of an owner's element, as they lie. -/
theorem own_cells {α : Type} [R : Rp α] {g : Gh} {w : World} {t : Nat} {te : List Nat} {e : TypeId} {l : List α} {v : Value} (h : (Fact.own t te e l).p g v w) {b : Nat} (hb : ownB (g.ga t) = some b) {k : Nat} {r : α} (hr : l[k]? = some r) :
    ∃ es, CellsAt w ⟨b, k * R.n, none⟩ es ∧ R.rel (fun b => g.om b ∈ te) r es w := by
  obtain ⟨xs, hown, hrel, _⟩ := h
  have hkl : k < l.length := (List.getElem?_eq_some_iff.1 hr).1
  rcases hown.2 with ⟨_, hn⟩ | ⟨b', cap, cur, hv', _, hh, hnc, hcm, hcs, htake⟩
  · omega
  · rw [hv'] at hb
    simp only [ownB, Option.some.injEq] at hb
    subst hb
    obtain ⟨es, he, hc⟩ := RelL.get l xs hrel k r hr
    refine ⟨es, fun j u hj => ?_, he⟩
    have h1 := hc j u hj
    rw [Go.Addr.add_lit]
    refine ⟨?_, frozen_of_row w b' _ cur e hh⟩
    rw [cell_of_row w b' _ cur e (0, 0) hh]
    rw [← htake, List.getElem?_take] at h1
    split at h1
    · simpa using h1
    · cases h1
theorem arr_cells {α : Type} [R : Rp α] {g : Gh} {w : World} {t N : Nat} {te : List Nat} {l : List α} {v : Value} (h : (Fact.arr t te N l).p g v w) {b : Nat} (hb : ownB (g.ga t) = some b) {k : Nat} {r : α} (hr : l[k]? = some r) :
    ∃ es, CellsAt w ⟨b, k * R.n, none⟩ es ∧ R.rel (fun b => g.om b ∈ te) r es w := by
  obtain ⟨b', ty', cs, hp, hh, hrel, _⟩ := h
  rw [hp] at hb
  simp only [ownB, Option.some.injEq] at hb
  subst hb
  obtain ⟨es, he, hc⟩ := RelL.get l _ hrel k r hr
  refine ⟨es, fun j u hj => ?_, he⟩
  have h1 := hc j u hj
  rw [Go.Addr.add_lit]
  refine ⟨?_, frozen_of_row w b' _ cs ty' hh⟩
  rw [cell_of_row w b' _ cs ty' (0, 0) hh]
  simpa using h1

theorem Spec.loadOwn {α : Type} [R : Rp α] {x : Operand} {te : List Nat} {l : List α} {k t : Nat} {e e' : TypeId} {r : α} (hr : l[k]? = some r) (hty : Ty X.P e α)
    (hx : Has G x (.pto t (k * R.n))) (hrs : look G (rs t) = some (.own t te e' l)) : Spec X G ⟨dO, .load e x, ty, pos, af, gd⟩ (Fact.rep te r) :=
  Spec.pure fun a w g hf => by
    obtain ⟨b, hb, hv⟩ := hx a w g hf
    obtain ⟨es, he, hrel⟩ := own_cells (hf _ _ hrs) hb hr
    refine ⟨mkV R.agg es, ?_, es, hrel, rfl⟩
    unfold execOp
    simp [hv, Instr.loadAt, Instr.sureAddr, run_loadVar_rel hty he hrel]
theorem Spec.loadArr {α : Type} [R : Rp α] {x : Operand} {te : List Nat} {l : List α} {k t N : Nat} {e : TypeId} {r : α} (hr : l[k]? = some r) (hty : Ty X.P e α)
    (hx : Has G x (.pto t (k * R.n))) (hrs : look G (rs t) = some (.arr t te N l)) : Spec X G ⟨dO, .load e x, ty, pos, af, gd⟩ (Fact.rep te r) :=
  Spec.pure fun a w g hf => by
    obtain ⟨b, hb, hv⟩ := hx a w g hf
    obtain ⟨es, he, hrel⟩ := arr_cells (hf _ _ hrs) hb hr
    refine ⟨mkV R.agg es, ?_, es, hrel, rfl⟩
    unfold execOp
    simp [hv, Instr.loadAt, Instr.sureAddr, run_loadVar_rel hty he hrel]

/-! what a call gave, written -/
def addrOf : Value → Option Addr
  | .slice (some a) _ _ => some a
  | _ => none
/-- A pointer to an element of such a slice. -/
def Fact.ptm (t : Nat) (n : Nat) : Fact where
  tags := []
  ids := [t]
  p := fun g v _ => ∃ ad, addrOf (g.ga t) = some ad ∧ v = .pointer (some (ad.add n))
  stab := fun g g' v w w' hk h => by rw [hk.ids t (by simp)]; exact h

theorem Spec.idxMutS {α : Type} [R : Rp α] {x i : Operand} {T te : List Nat} {l : List α} {n : Int} {k t : Nat} {ts e : TypeId} (hk : bnd l.length n = some k) (hty : OwnTy X.P ts e α)
    (hx : Has G x (.isv t)) (hrs : look G (rs t) = some (.mutS t te l)) (hi : Has G i (Fact.rep T n)) : Spec X G ⟨dO, .indexAddr ts x i, ty, pos, af, gd⟩ (Fact.ptm t (k * R.n)) := by
  obtain ⟨h0, h1, rfl⟩ := bnd_some hk
  refine Spec.pure fun a w g hf => ?_
  have hv : a.eval x = g.ga t := hx a w g hf
  obtain ⟨ad, c, hga, hc, hnil, _⟩ := (hf _ _ hrs)
  have h2 := rep_int.1 (hi a w g hf)
  cases ad with
  | none => have := (hnil rfl).1; subst this; simp at h1; omega
  | some ad =>
    refine ⟨.pointer (some (ad.add (n.toNat * R.n))), ?_, ad, by rw [hga]; rfl, rfl⟩
    unfold execOp
    simp only [hv, h2, hga, Sem.run_bind, Sem.run_map]
    rw [run_indexAt (R := R) hty.und hty.el h0 h1]
    simp
theorem Spec.loadMutS {α : Type} [R : Rp α] {x : Operand} {te : List Nat} {l : List α} {k t : Nat} {e : TypeId} {r : α} (hr : l[k]? = some r) (hty : Ty X.P e α)
    (hx : Has G x (.ptm t (k * R.n))) (hrs : look G (rs t) = some (.mutS t te l)) : Spec X G ⟨dO, .load e x, ty, pos, af, gd⟩ (Fact.rep te r) :=
  Spec.pure fun a w g hf => by
    obtain ⟨ad, hb, hv⟩ := hx a w g hf
    obtain ⟨ad', c, hga, hc, hnil, hcells⟩ := (hf _ _ hrs)
    rw [hga] at hb
    cases ad' with
    | none => cases hb
    | some ad' =>
      simp only [addrOf, Option.some.injEq] at hb
      subst hb
      obtain ⟨_, _, es, he, hrel⟩ := hcells ad' rfl k r hr
      refine ⟨mkV R.agg es, ?_, es, hrel, rfl⟩
      unfold execOp
      simp [hv, Instr.loadAt, Instr.sureAddr, run_loadVar_rel hty he hrel]
theorem Step.storeMutS {α : Type} [R : Rp α] {p x : Operand} {T te te' : List Nat} {l : List α} {y : α} {k t : Nat} {e : TypeId} (ht : Nat.ble 10 t = true) (hk : k < l.length) (hty : Ty X.P e α) (hag : R.agg = false)
    (hp : Has G p (.ptm t (k * R.n))) (hrs : look G (rs t) = some (.mutS t te l)) (hx : Has G x (Fact.rep T y)) (hte : ElKeep (α := α) t te te') (hT : ElKeep (α := α) t T te') :
    Step X G ⟨none, .store e p x, ty, pos, af, none⟩ [.fact (rs t) (.mutS t te' (l.set k y)), .kill t] := fun G' hsub a w env K Q hK => by
    have ht' : 10 ≤ t := by simpa using ht
    have hn1 := R.na hag
    obtain ⟨g, hg, hf'⟩ := env.facts
    have hf := hsub a w g hf'
    obtain ⟨ad, hb, hv⟩ := hp a w g hf
    obtain ⟨ad', c, hga, hc, hnil, hcells⟩ := (hf _ _ hrs)
    rw [hga] at hb
    cases ad' with
    | none => cases hb
    | some ad' =>
    simp only [addrOf, Option.some.injEq] at hb
    subst hb
    obtain ⟨hF, hlt, es, he, hrel⟩ := hcells ad' rfl k l[k] (List.getElem?_eq_getElem hk)
    have hom : g.om ad'.block = t := hF
    obtain ⟨ys, hyr, hyv⟩ := hx a w g hf
    have hyl := R.len _ _ _ _ hyr
    have hel := R.len _ _ _ _ hrel
    have hy1 := R.one _ _ _ _ hyr
    rw [hn1] at hyl hel he hv
    simp only [Nat.mul_one] at hv he
    match ys, hyl, es, hel with
    | [u], _, [u0], _ =>
    have hcell := he 0 u0 rfl
    simp only [Go.Addr.add_zero'] at hcell
    have hu1 : u.oneCell' = true := hy1 u (by simp)
    have huv : a.eval x = u := by rw [hyv, hag]; rfl
    have huc : u.cells = #[u] := by have := rep_cells hyr; rw [hag] at this; exact this
    have hrun : (execOp a.eval ⟨none, .store e p x, ty, pos, af, none⟩).run X.P w = .ok .skip (w.setCell (ad'.add k) u) := by
      unfold execOp
      simp only [hv, huv, Instr.storeAt, Instr.sureAddr, Sem.run_bind, Sem.run_pure, Result.andThen_ok]
      unfold storeVar
      have hs : (Go.sizeOf e).run X.P w = .ok 1 w := by rw [rt_sizeOf hty, hn1]
      simp [hs, huc, storeCells, run_store X.P w _ u _ hu1, stored, Go.Addr.add_zero', hcell.1, hcell.2]
    unfold Oper.wp
    rw [hrun]
    refine hK undef _ ?_
    have hb : ∀ b, b < w.heap.size → g.om b ≠ t → (w.setCell (ad'.add k) u).heap[b]? = w.heap[b]? := fun b hb hne => heap_setCell_other w _ b u (fun h => hne (by rw [h, Addr.add_block]; exact hom))
    have hsz : (w.setCell (ad'.add k) u).heap.size = w.heap.size := by simp
    refine ⟨by simp [Act.put, env.size], env.defers, Fr.own env.fr hg ht' (.inr trivial) rfl rfl rfl (by rw [hsz]; exact Nat.le_refl _) hb, g, ⟨⟨hg.ok.old, fun b h1 h2 => hg.ok.new b h1 (by rw [hsz] at h2; exact h2)⟩, hg.om⟩, ?_⟩
    show Facts _ g a _
    refine Facts.ghost ?_ (fun v => ?_)
    · exact facts_killed' hf' (by rw [hsz]; exact Nat.le_refl _) hb
    · have one : ∀ (T0 : List Nat) (z : α) (es : List Value), ElKeep (α := α) t T0 te' → R.rel (fun b => g.om b ∈ T0) z es w → R.rel (fun b => g.om b ∈ te') z es (w.setCell (ad'.add k) u) := fun T0 z es hk0 hz => by
        obtain ⟨c1, c2, h1, h2, h3⟩ := hk0 (fun b => g.om b ∈ te') g w _ [z] es (by rw [hsz]; exact Nat.le_refl _) hb (fun _ _ h => h) ⟨es, [], by simp, hz, rfl⟩
        have h3' : c2 = [] := h3
        subst h3'
        simp only [List.append_nil] at h1
        rw [h1]; exact h2
      refine ⟨some ad', c, by rw [hga, List.length_set], by rw [List.length_set]; exact hc, (fun h => by cases h), ?_⟩
      intro ad had i z hz
      cases had
      refine ⟨hF, by rw [hsz]; exact hlt, ?_⟩
      rw [hn1, Nat.mul_one]
      by_cases hik : k = i
      · subst hik
        rw [List.getElem?_set_self hk] at hz
        cases hz
        refine ⟨[u], fun j v hj => ?_, one T y [u] hT hyr⟩
        cases j with
        | succ j => simp at hj
        | zero =>
          simp only [List.getElem?_cons_zero, Option.some.injEq] at hj
          subst hj
          simp only [Go.Addr.add_zero']
          exact ⟨World.cell?_setCell_same _ _ _ hcell.1, by rw [World.frozen?_setCell]; exact hcell.2⟩
      · rw [List.getElem?_set_ne hik] at hz
        obtain ⟨_, _, es', he', hrel'⟩ := hcells ad' rfl i z hz
        rw [hn1, Nat.mul_one] at he'
        have hel' := R.len _ _ _ _ hrel'
        rw [hn1] at hel'
        refine ⟨es', fun j v hj => ?_, one te z es' hte hrel'⟩
        have hj0 : j = 0 := by have := (List.getElem?_eq_some_iff.1 hj).1; omega
        subst hj0
        have h3 := he' 0 v hj
        simp only [Go.Addr.add_zero'] at h3 ⊢
        have hne : ad'.add k ≠ ad'.add i := by
          intro h
          have h4 := congrArg Addr.off h
          unfold Addr.add at h4
          by_cases hk0 : k = 0 <;> by_cases hi0 : i = 0 <;> simp [hk0, hi0] at h4 <;> omega
        exact ⟨by rw [World.cell?_setCell_other _ _ _ _ hne]; exact h3.1, by rw [World.frozen?_setCell]; exact h3.2⟩

/-! stores -/
theorem run_storeVar {P : Program} {e : TypeId} {α : Type} [R : Rp α] (hty : Ty P e α) {w : World} {b o : Nat} {cur : Array Value} {te : TypeId} (hb : w.heap[b]? = some (.cells cur te (0, 0))) {F : Nat → Prop} {x : α} {v : Value} {w0 : World} (hx : Rep F x v w0)
    (hlen : o + R.n ≤ cur.size) : ∃ es, v = mkV R.agg es ∧ R.rel F x es w0 ∧ (storeVar e ⟨b, o, none⟩ v).run P w = .ok () (w.setRow b (cur.toList.take o ++ es ++ cur.toList.drop (o + R.n)).toArray) := by
  obtain ⟨es, hr, rfl⟩ := hx
  have hl := R.len _ _ _ _ hr
  have hc := rep_cells hr
  have h1 := run_storeCells_at P b o te es 0 cur w hb (by omega) (R.one _ _ _ _ hr)
  simp only [Nat.add_zero, hl] at h1
  refine ⟨es, rfl, hr, ?_⟩
  unfold storeVar
  simp [rt_sizeOf hty, hc, hl, h1]

theorem Step.storeArr {α : Type} [R : Rp α] {p x : Operand} {T te te' : List Nat} {l : List α} {y : α} {k t N : Nat} {e : TypeId} (ht : Nat.ble 10 t = true) (hkN : k < N) (hty : Ty X.P e α)
    (hp : Has G p (.pto t (k * R.n))) (hrs : look G (rs t) = some (.arr t te N l)) (hx : Has G x (Fact.rep T y)) (hte : ElKeep (α := α) t te te') (hT : ElKeep (α := α) t T te') :
    Step X G ⟨none, .store e p x, ty, pos, af, none⟩ [.fact (rs t) (.arr t te' N (l.set k y)), .kill t] := fun G' hsub a w env K Q hK => by
    have ht' : 10 ≤ t := by simpa using ht
    obtain ⟨g, hg, hf'⟩ := env.facts
    have hf := hsub a w g hf'
    obtain ⟨b, hb, hv⟩ := hp a w g hf
    obtain ⟨b', ty', cs, hga, hh, hrel, hom, hN⟩ := hf _ _ hrs
    have hk : k < l.length := by omega
    rw [hga] at hb
    simp only [ownB, Option.some.injEq] at hb
    subst hb
    have hlen := RelL.len l _ hrel
    have hfit : k * R.n + R.n ≤ cs.size := by
      have h1 : k * R.n + R.n = (k + 1) * R.n := by rw [Nat.add_mul]; omega
      rw [h1]
      rw [Array.length_toList] at hlen
      rw [hlen]
      exact Nat.mul_le_mul_right _ hk
    obtain ⟨es, hes, hr, hrun⟩ := run_storeVar (P := X.P) hty hh (hx a w g hf) hfit
    have hrun' : (execOp a.eval ⟨none, .store e p x, ty, pos, af, none⟩).run X.P w = .ok .skip (w.setRow b' (cs.toList.take (k * R.n) ++ es ++ cs.toList.drop (k * R.n + R.n)).toArray) := by
      unfold execOp
      simp only [hv, Instr.storeAt, Instr.sureAddr, Sem.run_bind, Sem.run_pure, Result.andThen_ok]
      rw [hrun]
      rfl
    unfold Oper.wp
    rw [hrun']
    refine hK undef _ ?_
    have hb : ∀ b, b < w.heap.size → g.om b ≠ t → (w.setRow b' (cs.toList.take (k * R.n) ++ es ++ cs.toList.drop (k * R.n + R.n)).toArray).heap[b]? = w.heap[b]? := fun b hb hne => setRow_other w b' b _ (fun h => hne (by rw [h]; exact hom))
    have hsz : (w.setRow b' (cs.toList.take (k * R.n) ++ es ++ cs.toList.drop (k * R.n + R.n)).toArray).heap.size = w.heap.size := by simp
    refine ⟨by simp [Act.put, env.size], env.defers, Fr.own env.fr hg ht' (.inr trivial) rfl rfl rfl (by rw [hsz]; exact Nat.le_refl _) hb, g, ⟨⟨hg.ok.old, fun b h1 h2 => hg.ok.new b h1 (by rw [hsz] at h2; exact h2)⟩, hg.om⟩, ?_⟩
    show Facts _ g a _
    refine Facts.ghost ?_ (fun v => ⟨b', ty', _, hga, setRow_heap w b' cs _ ty' (0, 0) hh, ?_, hom, by rw [List.length_set]; exact hN⟩)
    · exact facts_killed' hf' (by rw [hsz]; exact Nat.le_refl _) hb
    · have hF : ∀ b, b < w.heap.size → g.om b ∈ te' → g.om b ∈ te' := fun _ _ h => h
      have h1 := hte (fun b => g.om b ∈ te') g w (w.setRow b' (cs.toList.take (k * R.n) ++ es ++ cs.toList.drop (k * R.n + R.n)).toArray) l cs.toList (by rw [hsz]; exact Nat.le_refl _) hb hF hrel
      have h2 := hT (fun b => g.om b ∈ te') g w (w.setRow b' (cs.toList.take (k * R.n) ++ es ++ cs.toList.drop (k * R.n + R.n)).toArray) [y] es (by rw [hsz]; exact Nat.le_refl _) hb hF ⟨es, [], by simp, hr, rfl⟩
      obtain ⟨c1, c2, hc, hc1, hc2⟩ := h2
      have hc2' : c2 = [] := hc2
      subst hc2'
      simp only [List.append_nil] at hc
      subst hc
      simpa using RelL.set l cs.toList h1 k y es hk hc1

theorem Step.storeOwn {α : Type} [R : Rp α] {p x : Operand} {T te te' : List Nat} {l : List α} {y : α} {k t : Nat} {e e' : TypeId} (ht : Nat.ble 10 t = true) (hk : k < l.length) (hty : Ty X.P e α)
    (hp : Has G p (.pto t (k * R.n))) (hrs : look G (rs t) = some (.own t te e' l)) (hx : Has G x (Fact.rep T y)) (hte : ElKeep (α := α) t te te') (hT : ElKeep (α := α) t T te') :
    Step X G ⟨none, .store e p x, ty, pos, af, none⟩ [.fact (rs t) (.own t te' e' (l.set k y)), .kill t] := fun G' hsub a w env K Q hK => by
    have ht' : 10 ≤ t := by simpa using ht
    obtain ⟨g, hg, hf'⟩ := env.facts
    have hf := hsub a w g hf'
    obtain ⟨b, hb, hv⟩ := hp a w g hf
    obtain ⟨xs, hown, hrel, htag⟩ := hf _ _ hrs
    rcases hown.2 with ⟨hnil, hn⟩ | ⟨b', cap, cs, hga, h0, hh, hnc, hcm, hcs, htake⟩
    · rw [hnil] at hb; cases hb
    rw [hga] at hb
    simp only [ownB, Option.some.injEq] at hb
    subst hb
    have hom : g.om b' = t := htag b' (by rw [hga]; rfl)
    have hlen := RelL.len l _ hrel
    have hk1 : k * R.n + R.n ≤ l.length * R.n := by
      have h1 : k * R.n + R.n = (k + 1) * R.n := by rw [Nat.add_mul]; omega
      rw [h1]
      exact Nat.mul_le_mul_right _ hk
    have hk2 : l.length * R.n ≤ cs.size := by rw [hcs]; exact Nat.mul_le_mul_right _ hnc
    obtain ⟨es, hes, hr, hrun⟩ := run_storeVar (P := X.P) hty hh (hx a w g hf) (show k * R.n + R.n ≤ cs.size by omega)
    have hel := R.len _ _ _ _ hr
    have hrun' : (execOp a.eval ⟨none, .store e p x, ty, pos, af, none⟩).run X.P w = .ok .skip (w.setRow b' (cs.toList.take (k * R.n) ++ es ++ cs.toList.drop (k * R.n + R.n)).toArray) := by
      unfold execOp
      simp only [hv, Instr.storeAt, Instr.sureAddr, Sem.run_bind, Sem.run_pure, Result.andThen_ok]
      rw [hrun]
      rfl
    unfold Oper.wp
    rw [hrun']
    refine hK undef _ ?_
    have hb : ∀ b, b < w.heap.size → g.om b ≠ t → (w.setRow b' (cs.toList.take (k * R.n) ++ es ++ cs.toList.drop (k * R.n + R.n)).toArray).heap[b]? = w.heap[b]? := fun b hb hne => setRow_other w b' b _ (fun h => hne (by rw [h]; exact hom))
    have hsz : (w.setRow b' (cs.toList.take (k * R.n) ++ es ++ cs.toList.drop (k * R.n + R.n)).toArray).heap.size = w.heap.size := by simp
    refine ⟨by simp [Act.put, env.size], env.defers, Fr.own env.fr hg ht' (.inr trivial) rfl rfl rfl (by rw [hsz]; exact Nat.le_refl _) hb, g, ⟨⟨hg.ok.old, fun b h1 h2 => hg.ok.new b h1 (by rw [hsz] at h2; exact h2)⟩, hg.om⟩, ?_⟩
    show Facts _ g a _
    refine Facts.ghost ?_ (fun v => ⟨xs.take (k * R.n) ++ es ++ xs.drop (k * R.n + R.n), ⟨?_, .inr ⟨b', cap, _, by rw [hga, List.length_set], h0, setRow_heap w b' cs _ e' (0, 0) hh, by rw [List.length_set]; exact hnc, hcm, ?_, ?_⟩⟩, ?_, htag⟩)
    · exact facts_killed' hf' (by rw [hsz]; exact Nat.le_refl _) hb
    · simp only [List.length_append, List.length_take, List.length_drop, List.length_set, hlen, hel]
      omega
    · simp only [List.size_toArray, List.length_append, List.length_take, List.length_drop, Array.length_toList, hel]
      omega
    · rw [← htake, List.length_set]
      exact take_splice cs.toList es (k * R.n) R.n (l.length * R.n) hel hk1 (by rw [Array.length_toList]; exact hk2)
    · have hF : ∀ b, b < w.heap.size → g.om b ∈ te' → g.om b ∈ te' := fun _ _ h => h
      have h1 := hte (fun b => g.om b ∈ te') g w (w.setRow b' (cs.toList.take (k * R.n) ++ es ++ cs.toList.drop (k * R.n + R.n)).toArray) l xs (by rw [hsz]; exact Nat.le_refl _) hb hF hrel
      have h2 := hT (fun b => g.om b ∈ te') g w (w.setRow b' (cs.toList.take (k * R.n) ++ es ++ cs.toList.drop (k * R.n + R.n)).toArray) [y] es (by rw [hsz]; exact Nat.le_refl _) hb hF ⟨es, [], by simp, hr, rfl⟩
      obtain ⟨c1, c2, hc, hc1, hc2⟩ := h2
      have hc2' : c2 = [] := hc2
      subst hc2'
      simp only [List.append_nil] at hc
      subst hc
      exact RelL.set l xs h1 k y es hk hc1

/-- a[:] of an array variable, to be read. -/
theorem Spec.sliceArr {α : Type} [R : Rp α] {x : Operand} {te : List Nat} {l : List α} {t : Nat} {ts e : TypeId} {N : Nat} {z : α} (hty : ArrTy X.P ts e N α z)
    (hx : Has G x (.isv t)) (hrs : look G (rs t) = some (.arr t te N l)) : Spec X G ⟨dO, .slice ts x none none none, ty, pos, af, gd⟩ (Fact.rep (t :: te) l) :=
  Spec.pure fun a w g hf => by
    have hv : a.eval x = g.ga t := hx a w g hf
    have hfa := hf _ _ hrs
    obtain ⟨b, ty', cs, hp, hh, hrel, hom, hl⟩ := hfa
    have hbig : ¬ (N = 0) := by have := hty.big; simp at this; omega
    refine ⟨.slice (some ⟨b, 0, none⟩) N N, ?_, _, ⟨some ⟨b, 0, none⟩, N, by rw [hl], by omega, (fun h => by cases h), ?_⟩, rfl⟩
    · unfold execOp
      simp only [hv, hp, Sem.run_bind, Option.map_none]
      unfold Instr.sliceAt
      simp [run_underlying hty.und, Instr.sureAddr, Instr.sliceBounds, rt_sizeOf hty.el, hbig, Go.Addr.add_zero']
    · intro ad had i r hr
      cases had
      have hlt : b < w.heap.size := (Array.getElem?_eq_some_iff.1 hh).1
      obtain ⟨es, he, hrel'⟩ := arr_cells (hf _ _ hrs) (b := b) (by rw [hp]; rfl) hr
      refine ⟨by simp [hom], hlt, es, ?_, R.stab _ _ r es w w (Nat.le_refl _) (fun b _ h => ⟨rfl, List.mem_cons_of_mem _ h⟩) hrel'⟩
      rw [Go.Addr.add_lit, Nat.zero_add]; exact he
end
end GL
