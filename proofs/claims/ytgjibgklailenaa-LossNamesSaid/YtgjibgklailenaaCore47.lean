/- Own library, part 47: slices.Delete and slices.Insert of own slices. -/
import Derived.Test.YtgjibgklailenaaCore46
namespace GL
open Go

def delL {α : Type} (l : List α) (m n : Int) : Option (List α) := if 0 ≤ m ∧ m < n ∧ n ≤ l.length then some (l.take m.toNat ++ l.drop n.toNat) else none
def insL {α : Type} (l : List α) (y : α) : Option (List α) := if l.length + 1 < 4294967296 then some (y :: l) else none

/-- Function k is slices.Delete, of elements of type e in n cells. -/
def DelFn (P : Program) (k : FuncId) (e : TypeId) (n : Nat) : Prop := ∀ (sv : Value) (L i j : Nat) (xs : List Value) (w : World), w.ownsRow 0 e n sv L xs → i < j → j ≤ L → (∀ v ∈ xs, v.oneCell' = true) →
  Calls P k #[sv, .int .i64 i, .int .i64 j] w fun o w' => ∃ v', o = .returned v' ∧ w'.ownsRow 0 e n v' (i + (L - j)) (xs.take (i * n) ++ xs.drop (j * n)) ∧ w.grownBy w' sv.ownBlock ∧ v'.ownBlock = sv.ownBlock
/-- Function k is slices.Insert, of one element, at the front. -/
def InsFn (P : Program) (k : FuncId) (e : TypeId) (n : Nat) : Prop := ∀ (sv vv : Value) (L : Nat) (xs vs : List Value) (w : World), w.ownsRow 0 e n sv L xs → w.ownsRow 0 e n vv 1 vs → (∀ b, sv.ownBlock = some b → vv.ownBlock ≠ some b) → L + 1 < 4294967296 →
  (∀ v ∈ xs, v.oneCell' = true) → (∀ v ∈ vs, v.oneCell' = true) →
  Calls P k #[sv, .int .i64 0, vv] w fun o w' => ∃ v', o = .returned v' ∧ w'.ownsRow 0 e n v' (L + 1) (vs ++ xs) ∧ w.grownBy w' sv.ownBlock ∧ ∀ b, v'.ownBlock = some b → sv.ownBlock = some b ∨ b = w.heap.size

theorem RelL.drop {α : Type} [R : Rp α] {F : Nat → Prop} {w : World} : ∀ (l : List α) (xs : List Value) (k : Nat), RelL F l xs w → RelL F (l.drop k) (xs.drop (k * R.n)) w
  | [], xs, k, h => by rw [show xs = [] from h]; simp [RelL]
  | y :: l, xs, 0, h => by simpa using h
  | y :: l, xs, k + 1, h => by
    obtain ⟨c1, c2, rfl, h1, h2⟩ := h
    have hl1 := R.len _ _ _ _ h1
    rw [List.drop_succ_cons, show (k + 1) * R.n = c1.length + k * R.n by rw [hl1, Nat.add_mul]; omega, ← List.drop_drop, List.drop_left]
    exact RelL.drop l c2 k h2

section
variable {X : Cx} {G : List It} {dO : Option Nat} {d : Nat} {ty : TypeId} {pos : String} {af : Array Edge} {gd : Option (Nat × Bool)}
theorem Step.deleteOw {α : Type} [R : Rp α] {x i j : Operand} {T te T1 T2 : List Nat} {l r : List α} {m n : Int} {e : TypeId} {k : FuncId} {ats : Array TypeId} (hr : delL l m n = some r) (hT10 : all10 T = true) (hT0 : T.isEmpty = false) (hd : Nat.blt d X.n = true)
    (hk : enters X.P k = true) (hD : DelFn X.P k e R.n) (hs : Has G x (Fact.ow T te e l)) (hi : Has G i (Fact.rep T1 m)) (hj : Has G j (Fact.rep T2 n)) (hte : ElKeeps (α := α) T te te) :
    Step X G ⟨some d, .call { callee := .value (.func k), args := #[x, i, j], argTypes := ats }, ty, pos, af, none⟩ (.fact d (Fact.ow T te e r) :: killTs T []) := fun G' hsub a w env K Q hK => by
  have hd' : d < X.n := by simpa [Nat.blt_eq] using hd
  obtain ⟨g, hg, hf'⟩ := env.facts
  have hf := hsub a w g hf'
  obtain ⟨xs, hown, hrel, htag⟩ := hs a w g hf
  have e1 := rep_int.1 (hi a w g hf)
  have e2 := rep_int.1 (hj a w g hf)
  obtain ⟨t, ht⟩ : ∃ t, t ∈ T := by
    cases T with
    | nil => simp at hT0
    | cons t _ => exact ⟨t, by simp⟩
  have ht' : 10 ≤ t := all10_spec hT10 ht
  unfold delL at hr
  split at hr
  case isFalse => cases hr
  rename_i hb0
  cases hr
  obtain ⟨m', rfl⟩ : ∃ m' : Nat, m = (m' : Int) := ⟨m.toNat, by omega⟩
  obtain ⟨n', rfl⟩ : ∃ n' : Nat, n = (n' : Int) := ⟨n.toNat, by omega⟩
  have hcall := hD (a.eval x) l.length m' n' xs w hown (by omega) (by omega) (RelL.one l xs hrel)
  have hrun : (execOp a.eval ⟨some d, .call { callee := .value (.func k), args := #[x, i, j], argTypes := ats }, ty, pos, af, none⟩).run X.P w = .ok (.enter k #[a.eval x, a.eval i, a.eval j]) w := by
    unfold execOp
    simp [resolve, Deferred.ofValue, Act.eval, invoke, run_enter hk]
  rw [e1, e2] at hrun
  unfold Oper.wp
  rw [hrun]
  refine Calls.mono hcall ?_
  rintro o w' ⟨v', rfl, hown', hgr, hblk⟩
  refine hK v' w' ?_
  rw [List.cons_append, killTs_app]
  have hb : ∀ b, b < w.heap.size → g.om b ∉ T → w'.heap[b]? = w.heap[b]? := fun b hb hne => hgr.block b hb (fun he => hne (htag b he.symm))
  have hom : ∀ b, b < w.heap.size → (tagNew g w.heap.size t).om b = g.om b := fun b hb => by simp [tagNew, hb]
  refine ⟨by simp [Act.put, env.size], env.defers, Fr.owns env.fr hg hT10 hgr.os hgr.tape hgr.output hgr.size hb, tagNew g w.heap.size t, hg.tagNew ht' hgr.size env.fr.size, ?_⟩
  refine Facts.put (by rw [env.size]; exact hd') (facts_killTs hf' hgr.size hb hom (fun _ => rfl)) ?_
  have hF : ∀ b, b < w.heap.size → g.om b ∈ te → (tagNew g w.heap.size t).om b ∈ te := fun b hb h => by rw [hom b hb]; exact h
  have hrel' := hte _ g w w' l xs hgr.size hb hF hrel
  refine ⟨_, ?_, RelL.app _ _ _ _ (RelL.take l xs m' hrel') (RelL.drop l xs n' hrel'), ?_⟩
  · simp only [Int.toNat_natCast, List.length_append, List.length_take, List.length_drop, Nat.min_eq_left (show m' ≤ l.length by omega)]
    exact hown'
  · intro b hb'
    rw [hblk] at hb'
    rw [hom b (hown.lt b hb').2]; exact htag b hb'

theorem Step.insertOw {α : Type} [R : Rp α] {x z : Operand} {T te te' Tx tx : List Nat} {l r : List α} {y : α} {e : TypeId} {k : FuncId} {ats : Array TypeId} (hr : insL l y = some r) (hT10 : all10 T = true) (hT0 : T.isEmpty = false) (hd : Nat.blt d X.n = true)
    (hk : enters X.P k = true) (hI : InsFn X.P k e R.n) (hs : Has G x (Fact.ow T te e l)) (hz : Has G z (Fact.ow Tx tx e [y])) (hap : (T.all fun t => !Tx.elem t) = true) (hte : ElKeeps (α := α) T te te') (htx : ElKeeps (α := α) T tx te') :
    Step X G ⟨some d, .call { callee := .value (.func k), args := #[x, .const (.int .i64 0), z], argTypes := ats }, ty, pos, af, none⟩ (.fact d (Fact.ow T te' e r) :: killTs T []) := fun G' hsub a w env K Q hK => by
  have hd' : d < X.n := by simpa [Nat.blt_eq] using hd
  obtain ⟨g, hg, hf'⟩ := env.facts
  have hf := hsub a w g hf'
  obtain ⟨xs, hown, hrel, htag⟩ := hs a w g hf
  obtain ⟨vs, hownv, hrelv, htagv⟩ := hz a w g hf
  obtain ⟨t, ht⟩ : ∃ t, t ∈ T := by
    cases T with
    | nil => simp at hT0
    | cons t _ => exact ⟨t, by simp⟩
  have ht' : 10 ≤ t := all10_spec hT10 ht
  unfold insL at hr
  split at hr
  case isFalse => cases hr
  rename_i hb0
  cases hr
  have hne : ∀ b, (a.eval x).ownBlock = some b → (a.eval z).ownBlock ≠ some b := fun b h1 h2 => by
    have h3 := htag b h1
    have h4 := htagv b h2
    have := List.all_eq_true.1 hap _ h3
    simp at this
    exact this h4
  have hcall := hI (a.eval x) (a.eval z) l.length xs vs w hown hownv hne (by omega) (RelL.one l xs hrel) (RelL.one _ vs hrelv)
  have hrun : (execOp a.eval ⟨some d, .call { callee := .value (.func k), args := #[x, .const (.int .i64 0), z], argTypes := ats }, ty, pos, af, none⟩).run X.P w = .ok (.enter k #[a.eval x, .int .i64 0, a.eval z]) w := by
    unfold execOp
    simp [resolve, Deferred.ofValue, Act.eval, invoke, run_enter hk]
  unfold Oper.wp
  rw [hrun]
  refine Calls.mono hcall ?_
  rintro o w' ⟨v', rfl, hown', hgr, hblk⟩
  refine hK v' w' ?_
  rw [List.cons_append, killTs_app]
  have hb : ∀ b, b < w.heap.size → g.om b ∉ T → w'.heap[b]? = w.heap[b]? := fun b hb hne => hgr.block b hb (fun he => hne (htag b he.symm))
  have hom : ∀ b, b < w.heap.size → (tagNew g w.heap.size t).om b = g.om b := fun b hb => by simp [tagNew, hb]
  refine ⟨by simp [Act.put, env.size], env.defers, Fr.owns env.fr hg hT10 hgr.os hgr.tape hgr.output hgr.size hb, tagNew g w.heap.size t, hg.tagNew ht' hgr.size env.fr.size, ?_⟩
  refine Facts.put (by rw [env.size]; exact hd') (facts_killTs hf' hgr.size hb hom (fun _ => rfl)) ?_
  have hF : ∀ b, b < w.heap.size → g.om b ∈ te' → (tagNew g w.heap.size t).om b ∈ te' := fun b hb h => by rw [hom b hb]; exact h
  refine ⟨vs ++ xs, hown', RelL.app [y] l vs xs (htx _ g w w' _ vs hgr.size hb hF hrelv) (hte _ g w w' l xs hgr.size hb hF hrel), ?_⟩
  intro b hb'
  rcases hblk b hb' with h1 | h1
  · rw [hom b (hown.lt b h1).2]; exact htag b h1
  · show (tagNew g w.heap.size t).om b ∈ T
    simp only [tagNew]
    rw [if_neg (by omega)]; exact ht

/-- A literal as an own slice. -/
theorem Spec.litOw {α : Type} [R : Rp α] {xs : List Operand} {ys : List α} {T : List Nat} {ts e : TypeId} {n : Nat} {pt : Array (Nat × Operand)} (t : Nat) (ht : Nat.ble 10 t = true) (hty : OwnTy X.P ts e α) (hpt : pt = (parts 0 xs).toArray) (hn : xs.length = n)
    (hsm : Nat.ble (n * R.n) 16777216 = true) (hpos : Nat.ble 1 n = true) (hx : HasEach G T xs ys) : Spec X G ⟨dO, .buildSlice ts n pt, ty, pos, af, gd⟩ (Fact.ow [t] T e ys) := fun a w g hs hfr hg hf => by
  have ht' : 10 ≤ t := by simpa using ht
  obtain ⟨hyl, hrep⟩ := hx.rep hf
  obtain ⟨i, zv, hi, hiz, hisz, hby, hzs⟩ := hty.info
  have hsm' : n * R.n ≤ 16777216 := by simpa using hsm
  have hpos' : 1 ≤ n := by simpa using hpos
  have hnz : n * R.n ≠ 0 := by
    have := hty.pos
    exact Nat.mul_ne_zero (by omega) (by omega)
  have hnn : n ≤ n * R.n := Nat.le_mul_of_pos_right n hty.pos
  have hparts : ∀ (xs : List Operand) (k : Nat), (parts k xs).map (fun x => (x.1, a.eval x.2)) = ((xs.map a.eval).zipIdx k).map fun x => (x.2, x.1) := by
    intro xs
    induction xs with
    | nil => intro k; rfl
    | cons x xs ih => intro k; simp [parts, ih]
  obtain ⟨es, hes, hfill⟩ := fill_seq ys (xs.map a.eval) 0 ((Array.range (n * R.n)).map (zv.cells[· % zv.cells.size]!)) (by simp [hyl]) hrep (by simp [hyl, hn])
  simp only [Nat.zero_mul, List.take_zero, List.nil_append] at hfill
  have hel := RelL.len _ _ hes
  have hlen : ys.length = n := by rw [hyl, hn]
  have hdrop : ((Array.range (n * R.n)).map (zv.cells[· % zv.cells.size]!)).toList.length = n * R.n := by simp
  have hrun : (execOp a.eval ⟨dO, .buildSlice ts n pt, ty, pos, af, gd⟩).run X.P w = .ok (.value (.slice (some ⟨w.heap.size, 0, none⟩) n n)) (w.alloc (.cells es.toArray e)) := by
    unfold execOp
    simp only [hpt, Sem.run_bind, Sem.run_map]
    unfold Instr.buildSlice
    have hm : ((parts 0 xs).toArray.map fun (i, x) => (i, a.eval x)).toList = ((xs.map a.eval).zipIdx 0).map fun x => (x.2, x.1) := by
      rw [← hparts]; simp
    simp only [hm]
    have hno : ¬ (n * R.n > 2 ^ 24) := by omega
    simp [run_underlying hty.und, rt_sizeOf hty.el, hno, hnz, zeroValue, typeInfo, hi, hiz, hfill, newRow]
  refine Yields.val hrun ⟨Fr.alloc w _, tagNew g w.heap.size t, hg.tagNew ht' (by simp) hfr.size, fun b hb => by simp [tagNew, hb], fun _ => rfl, ?_⟩
  refine ⟨es, ⟨hel, .inr ⟨w.heap.size, n, es.toArray, by rw [hlen], Nat.zero_le _, heap_alloc_new w _, by omega, by simp only [maxLen]; omega, ?_, ?_⟩⟩, RelL.stab (by simp) (fun b hb h => ⟨RowKit.Below.heap_alloc w _ b hb, by simp [tagNew, hb, h]⟩) ys es hes, fun b hb => ?_⟩
  · rw [List.size_toArray, hel, hlen]
  · rw [List.toList_toArray, List.take_of_length_le (by omega)]
  · simp only [Value.ownBlock, Option.some.injEq] at hb
    subst hb
    simp [tagNew]
end
end GL
