/- Own library, part 10: literals; slices of slices. -/
import Derived.Test.YtgjibgklailenaaCore9
namespace GL
open Go

section
variable {X : Cx} {G : List It} {d : Option Nat} {ty : TypeId} {pos : String} {af : Array Edge} {gd : Option (Nat × Bool)}

/-- The datum of many operands. -/
def HasEach {α : Type} [Rp α] (G : List It) (T : List Nat) : List Operand → List α → Prop
  | [], [] => True
  | x :: xs, y :: ys => Has G x (Fact.rep T y) ∧ HasEach G T xs ys
  | _, _ => False

def parts (k : Nat) : List Operand → List (Nat × Operand)
  | [] => []
  | x :: xs => (k, x) :: parts (k + 1) xs

theorem fold_set (v : List Value) : ∀ (off : Nat) (cs : Array Value) (k : Nat), off + k + v.length ≤ cs.size →
    ((v.zipIdx k).foldl (fun cs (c, j) => cs.setIfInBounds (off + j) c) cs).toList = cs.toList.take (off + k) ++ v ++ cs.toList.drop (off + k + v.length) := by
  induction v with
  | nil => intro off cs k h; simp
  | cons c v ih =>
    intro off cs k h
    simp only [List.zipIdx_cons, List.foldl_cons]
    simp only [List.length_cons] at h
    rw [ih off (cs.setIfInBounds (off + k) c) (k + 1) (by simp; omega)]
    rw [Array.toList_setIfInBounds]
    have hk : off + k < cs.toList.length := by rw [Array.length_toList]; omega
    rw [show off + (k + 1) = off + k + 1 by omega]
    have h1 : (cs.toList.set (off + k) c).take (off + k + 1) = cs.toList.take (off + k) ++ [c] := by
      rw [List.take_succ_eq_append_getElem (by simpa using hk)]
      rw [List.take_set_of_le (by omega)]
      simp
    rw [h1, List.drop_set_of_lt (by omega)]
    simp only [List.length_cons, List.append_assoc, List.singleton_append, List.cons_append, List.nil_append]
    rw [show off + k + 1 + v.length = off + k + (v.length + 1) by omega]

theorem fill_seq {α : Type} [R : Rp α] {F : Nat → Prop} {w : World} : ∀ (ys : List α) (vs : List Value) (k : Nat) (cs : Array Value),
    ys.length = vs.length → (∀ (i : Nat) (y : α) (v : Value), ys[i]? = some y → vs[i]? = some v → Rep F y v w) → cs.size = (k + ys.length) * R.n →
    ∃ es, RelL F ys es w ∧ Instr.fill (fun i => some (i * R.n, R.n)) cs ((vs.zipIdx k).map fun x => (x.2, x.1)) = some (cs.toList.take (k * R.n) ++ es).toArray
  | [], [], k, cs, _, _, hs => ⟨[], rfl, by
      simp only [List.length_nil, Nat.add_zero] at hs
      simp only [List.zipIdx_nil, List.map_nil, Instr.fill, List.append_nil, Option.some.injEq]
      rw [List.take_of_length_le (by rw [Array.length_toList, hs]; exact Nat.le_refl _)]⟩
  | y :: ys, v :: vs, k, cs, hl, h, hs => by
    obtain ⟨c, hc, hv⟩ := h 0 y v rfl rfl
    have hcl := R.len _ _ _ _ hc
    have hvc : v.cells = c.toArray := by rw [hv]; exact rep_cells hc
    simp only [List.length_cons] at hs
    have hfit : k * R.n + R.n ≤ cs.size := by
      have h1 : k * R.n + R.n = (k + 1) * R.n := by rw [Nat.add_mul]; omega
      rw [h1, hs]; exact Nat.mul_le_mul_right _ (by omega)
    have hfold := fold_set c (k * R.n) cs 0 (by omega)
    simp only [Nat.add_zero, hcl] at hfold
    have hz : v.cells.zipIdx = (c.zipIdx 0).toArray := by rw [hvc]; simp
    obtain ⟨es, hes, hfill⟩ := fill_seq ys vs (k + 1) (v.cells.zipIdx.foldl (fun cs (c, j) => cs.setIfInBounds (k * R.n + j) c) cs) (by simpa using hl) (fun i y v hy hv => h (i + 1) y v (by simpa using hy) (by simpa using hv))
      (by
        have : (v.cells.zipIdx.foldl (fun cs (c, j) => cs.setIfInBounds (k * R.n + j) c) cs).toList.length = cs.size := by
          rw [hz, List.foldl_toArray, hfold]
          simp only [List.length_append, List.length_take, List.length_drop, Array.length_toList, hcl]
          omega
        rw [Array.length_toList] at this
        rw [this, hs]; congr 1; omega)
    refine ⟨c ++ es, ⟨c, es, rfl, hc, hes⟩, ?_⟩
    simp only [List.zipIdx_cons, List.map_cons, Instr.fill]
    have hsz : v.cells.size = R.n := by rw [hvc]; simpa using hcl
    rw [if_neg (by simp [hsz]; exact hfit)]
    rw [hfill]
    congr 2
    rw [hz, List.foldl_toArray, hfold]
    rw [show (k + 1) * R.n = k * R.n + R.n by rw [Nat.add_mul]; omega]
    have e1 : (cs.toList.take (k * R.n)).length = k * R.n := by rw [List.length_take, Array.length_toList]; omega
    rw [List.take_append, List.length_append, e1, hcl, Nat.sub_self, List.take_zero, List.append_nil, List.take_of_length_le (by rw [List.length_append, e1, hcl]; exact Nat.le_refl _), List.append_assoc]

theorem HasEach.rep {α : Type} [Rp α] {T : List Nat} {xs : List Operand} {ys : List α} (h : HasEach G T xs ys) {a : Act} {w : World} {g : Gh} (hf : Facts G g a w) :
    ys.length = xs.length ∧ ∀ (i : Nat) (y : α) (v : Value), ys[i]? = some y → (xs.map a.eval)[i]? = some v → Rep (fun b => g.om b ∈ T) y v w := by
  induction xs generalizing ys with
  | nil => cases ys with
    | nil => exact ⟨rfl, fun i y v h _ => by simp at h⟩
    | cons y ys => exact h.elim
  | cons x xs ih => cases ys with
    | nil => exact h.elim
    | cons y ys =>
      obtain ⟨h1, h2⟩ := ih h.2
      refine ⟨by simp [h1], fun i y' v hy hv => ?_⟩
      cases i with
      | zero => simp at hy hv; subst hy hv; exact h.1 a w g hf
      | succ i => exact h2 i y' v (by simpa using hy) (by simpa using hv)

/-- []T{x, y, ..}, to be read. -/
theorem Spec.lit {α : Type} [R : Rp α] {xs : List Operand} {ys : List α} {T : List Nat} {ts e : TypeId} {n : Nat} {pt : Array (Nat × Operand)} (t : Nat) (ht : Nat.ble 10 t = true) (hty : OwnTy X.P ts e α) (hpt : pt = (parts 0 xs).toArray) (hn : xs.length = n)
    (hsm : Nat.ble (n * R.n) 16777216 = true) (hpos : Nat.ble 1 n = true) (hx : HasEach G T xs ys) : Spec X G ⟨d, .buildSlice ts n pt, ty, pos, af, gd⟩ (Fact.rep (t :: T) ys) := fun a w g hs hfr hg hf => by
  have ht' : 10 ≤ t := by simpa using ht
  obtain ⟨hyl, hrep⟩ := hx.rep hf
  obtain ⟨i, zv, hi, hiz, hisz, hby, hzs⟩ := hty.info
  have hsm' : n * R.n ≤ 16777216 := by simpa using hsm
  have hpos' : 1 ≤ n := by simpa using hpos
  have hnz : n * R.n ≠ 0 := by
    have := hty.pos
    exact Nat.mul_ne_zero (by omega) (by omega)
  have hparts : ∀ (xs : List Operand) (k : Nat), (parts k xs).map (fun x => (x.1, a.eval x.2)) = ((xs.map a.eval).zipIdx k).map fun x => (x.2, x.1) := by
    intro xs
    induction xs with
    | nil => intro k; rfl
    | cons x xs ih => intro k; simp [parts, ih]
  obtain ⟨es, hes, hfill⟩ := fill_seq ys (xs.map a.eval) 0 ((Array.range (n * R.n)).map (zv.cells[· % zv.cells.size]!)) (by simp [hyl]) hrep (by simp [hyl, hn])
  simp only [Nat.zero_mul, List.take_zero, List.nil_append] at hfill
  have hel := RelL.len _ _ hes
  have hrun : (execOp a.eval ⟨d, .buildSlice ts n pt, ty, pos, af, gd⟩).run X.P w = .ok (.value (.slice (some ⟨w.heap.size, 0, none⟩) n n)) (w.alloc (.cells es.toArray e)) := by
    unfold execOp
    simp only [hpt, Sem.run_bind, Sem.run_map]
    unfold Instr.buildSlice
    have hm : ((parts 0 xs).toArray.map fun (i, x) => (i, a.eval x)).toList = ((xs.map a.eval).zipIdx 0).map fun x => (x.2, x.1) := by
      rw [← hparts]; simp
    simp only [hm]
    have hno : ¬ (n * R.n > 2 ^ 24) := by omega
    simp [run_underlying hty.und, rt_sizeOf hty.el, hno, hnz, zeroValue, typeInfo, hi, hiz, hfill, newRow]
  refine Yields.val hrun ⟨Fr.alloc w _, tagNew g w.heap.size t, hg.tagNew ht' (by simp) hfr.size, fun b hb => by simp [tagNew, hb], fun _ => rfl, ?_⟩
  refine ⟨_, ⟨some ⟨w.heap.size, 0, none⟩, n, by rw [hyl, hn], by omega, (fun h => by cases h), ?_⟩, rfl⟩
  intro ad had i r hr
  cases had
  refine ⟨by simp [tagNew], by simp, ?_⟩
  obtain ⟨es', he, hc⟩ := RelL.get ys es hes i r hr
  refine ⟨es', fun j u hj => ?_, R.stab _ _ r es' w _ (by simp) (fun b hb h => ⟨RowKit.Below.heap_alloc w _ b hb, by simp [tagNew, hb, h]⟩) he⟩
  have h1 := hc j u hj
  rw [Addr.add_add, Go.Addr.add_lit, Nat.zero_add]
  refine ⟨?_, frozen_of_row _ w.heap.size _ es.toArray e (heap_alloc_new w _)⟩
  rw [cell_of_row _ w.heap.size _ es.toArray e (0, 0) (heap_alloc_new w _)]
  simpa using h1

/-- x[lo:hi], within the length. -/
def slc {α : Type} (l : List α) (lo hi : Int) : Option (List α) := if 0 ≤ lo ∧ lo ≤ hi ∧ hi ≤ l.length then some ((l.take hi.toNat).drop lo.toNat) else none

theorem rep_slc {α : Type} [R : Rp α] {F : Nat → Prop} {l : List α} {ad : Option Addr} {c : Nat} {w : World} (h : Rep F l (.slice ad l.length c) w) (lo hi : Nat) (h1 : lo ≤ hi) (h2 : hi ≤ l.length) :
    Rep F ((l.take hi).drop lo) (.slice (if c = lo then ad else ad.map (·.add (lo * R.n))) (hi - lo) (c - lo)) w := by
  obtain ⟨ad', c', hv, hc, hnil, hcells⟩ := rep_list h
  cases hv
  refine ⟨[.slice (if c = lo then ad else ad.map (·.add (lo * R.n))) (hi - lo) (c - lo)], ⟨(if c = lo then ad else ad.map (·.add (lo * R.n))), c - lo, ?_, ?_, ?_, ?_⟩, rfl⟩
  · have : hi - lo = ((l.take hi).drop lo).length := by simp only [List.length_drop, List.length_take]; omega
    rw [this]
  · simp only [List.length_drop, List.length_take]; omega
  · intro hn
    have hadn : ad = none := by
      split at hn
      · exact hn
      · cases ad with
        | none => rfl
        | some _ => cases hn
    obtain ⟨h3, h4⟩ := hnil hadn
    subst h3
    exact ⟨by simp, by omega⟩
  · intro b hb i x hx
    rw [List.getElem?_drop, List.getElem?_take] at hx
    split at hx
    case isFalse => cases hx
    rename_i hlt
    have hcl : ¬ (c = lo) := by omega
    rw [if_neg hcl] at hb
    cases ad with
    | none => cases hb
    | some ad =>
      simp only [Option.map_some, Option.some.injEq] at hb
      subst hb
      obtain ⟨hF, hbl, es, he, hrel⟩ := hcells ad rfl (lo + i) x hx
      refine ⟨by rw [Addr.add_block]; exact hF, by rw [Addr.add_block]; exact hbl, es, ?_, hrel⟩
      rw [Addr.add_add, ← Nat.add_mul]; exact he

theorem Spec.slc {α : Type} [R : Rp α] {x lo hi : Operand} {T T1 T2 : List Nat} {l r : List α} {m n : Int} {t e : TypeId} (hr : GL.slc l m n = some r) (ht : SlTy X.P t e α)
    (hx : Has G x (Fact.rep T l)) (hlo : Has G lo (Fact.rep T1 m)) (hhi : Has G hi (Fact.rep T2 n)) : Spec X G ⟨d, .slice t x (some lo) (some hi) none, ty, pos, af, gd⟩ (Fact.rep T r) := by
  unfold GL.slc at hr
  split at hr
  case isFalse => cases hr
  rename_i hc
  cases hr
  refine Spec.pure fun a w g hf => ?_
  have h := hx a w g hf
  obtain ⟨ad, c, hv, hlc, _⟩ := rep_list h
  rw [hv] at h
  have h1 := rep_int.1 (hlo a w g hf)
  have h2 := rep_int.1 (hhi a w g hf)
  have key := rep_slc h m.toNat n.toNat (by omega) (by omega)
  refine ⟨_, ?_, key⟩
  have g1 : n ≤ (c : Int) := by omega
  have g2 : 0 ≤ n := by omega
  have g3 : m ≤ max n 0 := by omega
  have h3 : aggD (.slice e) = false := rfl
  unfold execOp
  simp only [Option.map_some, Option.map_none, hv, h1, h2, Sem.run_bind, Sem.run_map]
  unfold Instr.sliceAt
  simp [run_underlying ht.und, Instr.slice, Instr.sliceBounds, Instr.sliceBound, asIntOf, g1, g2, g3, hc.1, rt_sizeOf ht.el]
theorem Spec.slcLo {α : Type} [R : Rp α] {x lo : Operand} {T T1 : List Nat} {l r : List α} {m : Int} {t e : TypeId} (hr : GL.slc l m l.length = some r) (ht : SlTy X.P t e α)
    (hx : Has G x (Fact.rep T l)) (hlo : Has G lo (Fact.rep T1 m)) : Spec X G ⟨d, .slice t x (some lo) none none, ty, pos, af, gd⟩ (Fact.rep T r) := by
  unfold GL.slc at hr
  split at hr
  case isFalse => cases hr
  rename_i hc
  cases hr
  refine Spec.pure fun a w g hf => ?_
  have h := hx a w g hf
  obtain ⟨ad, c, hv, hlc, _⟩ := rep_list h
  rw [hv] at h
  have h1 := rep_int.1 (hlo a w g hf)
  have key := rep_slc h m.toNat l.length (by omega) (by omega)
  refine ⟨_, ?_, key⟩
  unfold execOp
  simp only [Option.map_some, Option.map_none, hv, h1, Sem.run_bind, Sem.run_map]
  unfold Instr.sliceAt
  simp [run_underlying ht.und, Instr.slice, Instr.sliceBounds, Instr.sliceBound, asIntOf, hc.1, hc.2.1, rt_sizeOf ht.el]
theorem Spec.slcHi {α : Type} [R : Rp α] {x hi : Operand} {T T1 : List Nat} {l r : List α} {n : Int} {t e : TypeId} (hr : GL.slc l 0 n = some r) (ht : SlTy X.P t e α)
    (hx : Has G x (Fact.rep T l)) (hhi : Has G hi (Fact.rep T1 n)) : Spec X G ⟨d, .slice t x none (some hi) none, ty, pos, af, gd⟩ (Fact.rep T r) := by
  unfold GL.slc at hr
  split at hr
  case isFalse => cases hr
  rename_i hc
  cases hr
  refine Spec.pure fun a w g hf => ?_
  have h := hx a w g hf
  obtain ⟨ad, c, hv, hlc, _⟩ := rep_list h
  rw [hv] at h
  have h1 := rep_int.1 (hhi a w g hf)
  have key := rep_slc h 0 n.toNat (by omega) (by omega)
  refine ⟨_, ?_, key⟩
  have g1 : n ≤ (c : Int) := by omega
  have g2 : 0 ≤ n := by omega
  unfold execOp
  simp only [Option.map_some, Option.map_none, hv, h1, Sem.run_bind, Sem.run_map]
  unfold Instr.sliceAt
  simp [run_underlying ht.und, Instr.slice, Instr.sliceBounds, Instr.sliceBound, asIntOf, g1, g2, rt_sizeOf ht.el]
end
end GL
