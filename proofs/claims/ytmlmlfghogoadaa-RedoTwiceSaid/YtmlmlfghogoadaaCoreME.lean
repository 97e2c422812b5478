/- Own library, texts 42 to 54 in one. -/
import Derived.Test.YtmlmlfghogoadaaCoreMD
import Derived.MapKept
set_option linter.unusedVariables false
set_option linter.unusedSimpArgs false
set_option linter.unnecessarySimpa false
namespace GL
section
open Go

/-- A slice without room behind its elements. -/
def Fact.repC {α : Type} [R : Rp α] (T : List Nat) (l : List α) : Fact where
  tags := T
  ids := []
  p := fun g v w => Rep (fun b => g.om b ∈ T) l v w ∧ ∃ a, v = .slice a l.length l.length
  stab := fun g g' v w w' hk h => ⟨(Fact.rep T l).stab g g' v w w' hk h.1, h.2⟩

/-- append of so many zeros. -/
def appZ {α : Type} (z : α) (l : List α) (n : Int) : Option (List α) := if 0 ≤ n ∧ (l.length : Int) + n < 4294967296 then some (l ++ List.replicate n.toNat z) else none

theorem run_append_zeros {P : Program} (w : World) (t ti ty e : TypeId) (i : TypeInfo) (z : Value) (ht : P.underlying t = some (.slice e)) (hti : P.underlying ti = some (.int .i64)) (hi : P.info? e = some i) (hz : i.zero = some z)
    (b : Option Addr) (sLen : Nat) (olds : Array Value) (holds : ∀ w', (∀ a, w'.cell? a = w.cell? a) → (Builtin.firstCells i.size sLen (.slice b sLen sLen)).run P w' = .ok olds w') (n : Nat) (hn : 0 < n) (hnz : n * i.size ≠ 0)
    (h63 : ((sLen + n : Nat) : Int) ≤ 9223372036854775807) (hfit0 : n * i.bytes ≤ 281474976710656) (hfit : Builtin.nextslicecap (sLen + n) sLen * i.bytes ≤ 281474976710656) :
    (Builtin.append_ #[t, ti] ty #[.slice b sLen sLen, .int .i64 n]).run P w =
      .ok (.slice (some ⟨w.heap.size, 0, none⟩) (sLen + n) (grownCap w (sLen + n) sLen e))
        (w.drew.alloc (.cells (olds ++ Builtin.zeroCells z.cells n ++ Builtin.zeroCells z.cells (grownCap w (sLen + n) sLen e - (sLen + n))) e)) := by
  have hn1 : ¬ (sLen + n ≤ sLen) := by omega
  have h63' : ¬ (9223372036854775807 < ((sLen : Int) + (n : Int))) := by omega
  have h48' : ¬ (281474976710656 < Builtin.nextslicecap (sLen + n) sLen * i.bytes) := by omega
  have h480 : ¬ (281474976710656 < (n : Int) * (i.bytes : Int)) := by
    have : ((n * i.bytes : Nat) : Int) ≤ 281474976710656 := by omega
    rw [Int.natCast_mul] at this
    omega
  have hfo := holds w.drew (fun a => by simp)
  have hw : IntKind.i64.wrap (n : Int) = (n : Int) := wI_id (by omega) (by omega)
  have hneg : ¬ ((n : Int) < 0) := by omega
  simp [Builtin.append_, run_underlying ht, run_underlying hti, Go.sizeOf, typeInfo, zeroValue, hi, hz, Go.asInt, asIntOf, hw, hneg, h480, hnz, hn1, h63', h48', Question.forced, hfo, newRow, grownCap]

section
variable {X : Cx} {G : List It} {dO : Option Nat} {ty : TypeId} {pos : String} {af : Array Edge} {gd : Option (Nat × Bool)}
/-- x[:n:n]. -/
theorem Spec.slc3 {α : Type} [R : Rp α] {x hi mx : Operand} {T T1 T2 : List Nat} {l r : List α} {n : Int} {t e : TypeId} (hr : GL.slc l 0 n = some r) (ht : SlTy X.P t e α)
    (hx : Has G x (Fact.rep T l)) (hhi : Has G hi (Fact.rep T1 n)) (hmx : Has G mx (Fact.rep T2 n)) : Spec X G ⟨dO, .slice t x none (some hi) (some mx), ty, pos, af, gd⟩ (Fact.repC T r) := by
  unfold GL.slc at hr
  split at hr
  case isFalse => cases hr
  rename_i hc
  cases hr
  refine Spec.pure fun a w g hf => ?_
  have h := hx a w g hf
  obtain ⟨ad, c, hv, hlc, hnil, hcells⟩ := rep_list h
  have h1 := rep_int.1 (hhi a w g hf)
  have h2 := rep_int.1 (hmx a w g hf)
  have g1 : n ≤ (c : Int) := by omega
  have g2 : 0 ≤ n := by omega
  have hml : min n.toNat l.length = n.toNat := by omega
  have hlen : ((l.take n.toNat).drop (0 : Int).toNat).length = n.toNat := by simp; omega
  refine ⟨.slice (if n.toNat = 0 then ad else ad.map (·.add 0)) n.toNat n.toNat, ?_, ?_, (if n.toNat = 0 then ad else ad.map (·.add 0)), by rw [hlen]⟩
  · unfold execOp
    simp only [Option.map_some, Option.map_none, hv, h1, h2, Sem.run_bind, Sem.run_map]
    unfold Instr.sliceAt
    simp [run_underlying ht.und, Instr.slice, Instr.sliceBounds, Instr.sliceBound, asIntOf, g1, g2, rt_sizeOf ht.el]
    intro h9
    omega
  · have had : (if n.toNat = 0 then ad else ad.map (·.add 0)) = ad := by
      split
      · rfl
      · cases ad with
        | none => rfl
        | some x => simp [Go.Addr.add_zero']
    rw [had]
    have hdrop : (l.take n.toNat).drop (0 : Int).toNat = l.take n.toNat := by simp
    rw [hdrop] at hlen ⊢
    refine ⟨[.slice ad n.toNat n.toNat], ⟨ad, n.toNat, by rw [hlen], by rw [hlen]; exact Nat.le_refl _, fun h0 => ?_, fun x hx i y hy => ?_⟩, rfl⟩
    · obtain ⟨e1, e2⟩ := hnil h0
      subst e1
      simp at hml hlen ⊢
      omega
    · refine hcells x hx i y ?_
      rw [List.getElem?_take] at hy
      split at hy
      · exact hy
      · cases hy
theorem firstCells_repC {P : Program} {α : Type} [R : Rp α] {F : Nat → Prop} {l : List α} {a : Option Addr} {w : World} (h : Rep F l (.slice a l.length l.length) w) :
    ∃ olds : List Value, RelL F l olds w ∧ ∀ w', (∀ a, w'.cell? a = w.cell? a) → (Builtin.firstCells R.n l.length (.slice a l.length l.length)).run P w' = .ok olds.toArray w' := by
  obtain ⟨ad, c, hv, hlc, hnil, hcells⟩ := rep_list h
  cases hv
  cases a with
  | none =>
    obtain ⟨e1, _⟩ := hnil rfl
    subst e1
    exact ⟨[], rfl, fun w' _ => by simp [Builtin.firstCells]⟩
  | some ad =>
    obtain ⟨news, hn1, hn2⟩ := cells_of_rep (w := w) (F := F) (ad := ad) l 0 (fun i y hy => by
      obtain ⟨_, _, es, h1, h2⟩ := hcells ad rfl i y hy
      exact ⟨es, by simpa using h1, h2⟩)
    have hn2 : CellsAt w ad news := by simpa [Go.Addr.add_zero'] using hn2
    have hnl := RelL.len _ _ hn1
    refine ⟨news, hn1, fun w' hw => ?_⟩
    exact run_firstCells_some (P := P) w' R.n l.length ad l.length l.length news hnl (fun j u hj => by rw [hw]; exact (hn2 j u hj).1)
theorem Spec.appZ {α : Type} [R : Rp α] [Fl : Flat α] {s x : Operand} {T T1 : List Nat} {l r : List α} {n : Int} {z : α} (t : Nat) {ts e ti : TypeId} (hr : GL.appZ z l n = some r) (ht : Nat.ble 10 t = true) (hty : OwnTy X.P ts e α) (hz : ZeroTy X.P e z)
    (hti : X.P.underlying ti = some (.int .i64)) (hs : Has G s (Fact.repC T l)) (hx : Has G x (Fact.rep T1 n)) :
    Spec X G ⟨dO, .call { callee := .builtin .append, args := #[s, x], argTypes := #[ts, ti] }, ty, pos, af, gd⟩ (Fact.rep (t :: T) r) := fun a w g hsz hfr hg hf => by
  have ht' : 10 ≤ t := by simpa using ht
  unfold GL.appZ at hr
  split at hr
  case isFalse => cases hr
  rename_i hn
  cases hr
  obtain ⟨h1, ad, hv⟩ := hs a w g hf
  have h2 := rep_int.1 (hx a w g hf)
  obtain ⟨i, zv, hi, hiz, hisz, hby, hzs⟩ := hty.info
  obtain ⟨m, rfl⟩ : ∃ m : Nat, n = (m : Int) := ⟨n.toNat, by omega⟩
  simp only [Int.toNat_natCast]
  rw [hv] at h1
  obtain ⟨olds, ho1, ho2⟩ := firstCells_repC (P := X.P) h1
  have hol := RelL.len _ _ ho1
  by_cases hm : m = 0
  · subst hm
    have hrun : (execOp a.eval ⟨dO, .call { callee := .builtin .append, args := #[s, x], argTypes := #[ts, ti] }, ty, pos, af, gd⟩).run X.P w = .ok (.value (.slice ad l.length l.length)) w := by
      unfold execOp
      have hw : IntKind.i64.wrap 0 = 0 := by decide
      cases ad with
      | none => simp [resolve, invoke, builtin, hv, h2, Builtin.append_, run_underlying hty.und, run_underlying hti, Go.sizeOf, typeInfo, zeroValue, hi, hiz, Go.asInt, asIntOf, hw]
      | some ad => simp [resolve, invoke, builtin, hv, h2, Builtin.append_, run_underlying hty.und, run_underlying hti, Go.sizeOf, typeInfo, zeroValue, hi, hiz, Go.asInt, asIntOf, storeCells, hw]
    refine Yields.val hrun ⟨Fr.refl _ _, g, hg, fun _ _ => rfl, fun _ => rfl, ?_⟩
    rw [List.replicate_zero, List.append_nil]
    exact Rep.mono h1 (fun _ _ hb => List.mem_cons_of_mem _ hb)
  · have hp := hty.pos
    have hb1 : (l.length + m) * i.bytes ≤ 140737488355328 := by
      have : (l.length + m) * i.bytes ≤ 4294967296 * 32768 := Nat.mul_le_mul (by omega) hby
      omega
    have hb2 : m * i.bytes ≤ 281474976710656 := by
      have : m * i.bytes ≤ 4294967296 * 32768 := Nat.mul_le_mul (by omega) hby
      omega
    have hr := run_append_zeros (P := X.P) (ty := ty) w ts ti e i zv hty.und hti hi hiz ad l.length olds.toArray (by rw [hisz]; exact ho2) m (by omega) (by rw [hisz]; exact Nat.mul_ne_zero hm (by omega)) (by omega) hb2 (growslice_fits (by omega) hb1)
    have hrun : (execOp a.eval ⟨dO, .call { callee := .builtin .append, args := #[s, x], argTypes := #[ts, ti] }, ty, pos, af, gd⟩).run X.P w = .ok (.value (.slice (some ⟨w.heap.size, 0, none⟩) (l.length + m) (grownCap w (l.length + m) l.length e)))
        (w.drew.alloc (.cells (olds.toArray ++ Builtin.zeroCells zv.cells m ++ Builtin.zeroCells zv.cells (grownCap w (l.length + m) l.length e - (l.length + m))) e)) := by
      unfold execOp
      simp [resolve, invoke, builtin, hv, h2, hr]
    have hzcells : ∀ q : Nat, (Builtin.zeroCells zv.cells q).toList = (List.replicate q zv.cells.toList).flatten := fun q => by
      have h1 := madeCells_flatten zv.cells.toList q
      simp only [Array.toArray_toList, Array.length_toList] at h1
      rw [← h1]; rfl
    have hzl : ∀ q : Nat, ((List.replicate q zv.cells.toList).flatten).length = q * R.n := fun q => by simp [hzs]
    have hcapge := grownCap_ge w (l.length + m) l.length e
    have hcapm := grownCap_le_maxLen w (l.length + m) l.length e (by simp only [maxLen]; omega)
    refine Yields.val hrun ⟨(Fr.refl _ w).drew.trans (Fr.alloc w.drew _) (fun _ _ h => h), tagNew g w.heap.size t, hg.tagNew ht' (by simp) hfr.size, fun b hb => by simp [tagNew, hb], fun _ => rfl, ?_⟩
    generalize hcap : grownCap w (l.length + m) l.length e = cap at hcapge hcapm
    have hlist : (olds.toArray ++ Builtin.zeroCells zv.cells m ++ Builtin.zeroCells zv.cells (cap - (l.length + m))).toList = (olds ++ (List.replicate m zv.cells.toList).flatten) ++ (List.replicate (cap - (l.length + m)) zv.cells.toList).flatten := by
      simp [hzcells]
    have hsize : (olds ++ (List.replicate m zv.cells.toList).flatten).length = (l.length + m) * R.n := by
      rw [List.length_append, hol, hzl, Nat.add_mul]
    obtain ⟨zv', hz1, hz2⟩ := hz
    rw [hi] at hz1
    simp only [Option.bind_some, hiz, Option.some.injEq] at hz1
    subst hz1
    have hO : OwRel (fun b => (tagNew g w.heap.size t).om b ∈ [t]) (fun _ => False) e (l ++ List.replicate m z) (.slice (some ⟨w.heap.size, 0, none⟩) (l.length + m) cap) (w.drew.alloc (.cells (olds.toArray ++ Builtin.zeroCells zv.cells m ++ Builtin.zeroCells zv.cells (cap - (l.length + m))) e)) := by
      refine ⟨olds ++ (List.replicate m zv.cells.toList).flatten, ⟨by rw [hsize]; simp, .inr ⟨w.heap.size, cap, _, by simp, Nat.zero_le _, heap_alloc_new w.drew _, by simp; omega, hcapm, ?_, ?_⟩⟩, ?_, fun b hb => ?_⟩
      · rw [← Array.length_toList, hlist, List.length_append, hsize, hzl, ← Nat.add_mul]
        congr 1
        omega
      · rw [hlist, show (l ++ List.replicate m z).length = l.length + m by simp, ← hsize, List.take_left]
      · exact RelL.app _ _ _ _ (RelL.flat l olds ho1) (RelL.rep (hz2 _) m)
      · simp only [Value.ownBlock, Option.some.injEq] at hb
        simp [tagNew, ← hb]
    exact SlRel.rep (fun b hb => by simp at hb; simp [hb]) (fun _ hb => hb.elim) hO.sl
end
end
end GL

namespace GL
section
open Go
theorem Loose.cst {T : List Nat} {v0 : Value} {f : Fact} (h : Loose T f) : Loose T (Fact.cst v0 f) := fun g _ w w' hW hp => h g v0 w w' hW hp
end
end GL

namespace GL
section
open Go
section
variable {X : Cx} {G : List It} {dO : Option Nat} {ty : TypeId} {pos : String} {af : Array Edge} {gd : Option (Nat × Bool)}
end
end
end GL

namespace GL
section
open Go

def FzRel (P : Program) {β : Type} [Rp β] (m : Option (Option β)) (F : Nat → Prop) (v : Value) (w : World) : Prop :=
  match m with
  | none => v = .nilFunc
  | some o => ∃ k cs, v = .func (.func k) #[] cs ∧ enters P k = true ∧ ∀ r, o = some r → ∀ w' : World, w.heap.size ≤ w'.heap.size → (∀ b, b < w.heap.size → F b → w'.heap[b]? = w.heap[b]?) →
      Calls P k cs w' (fun e w'' => ∃ rv, e = .returned rv ∧ Fr NoC w' w'' ∧ Rep (fun b => w'.heap.size ≤ b ∧ b < w''.heap.size) r rv w'')
theorem FzRel.stab {P : Program} {β : Type} [Rp β] {m : Option (Option β)} {F F' : Nat → Prop} {v : Value} {w w' : World} (hs : w.heap.size ≤ w'.heap.size)
    (hk : ∀ b, b < w.heap.size → F b → w'.heap[b]? = w.heap[b]? ∧ F' b) (h : FzRel P m F v w) : FzRel P m F' v w' := by
  cases m with
  | none => exact h
  | some o =>
    obtain ⟨k, cs, hv, he, hc⟩ := h
    refine ⟨k, cs, hv, he, fun r hr w'' hs' hk' => hc r hr w'' (Nat.le_trans hs hs') (fun b hb hF => ?_)⟩
    rw [hk' b (Nat.lt_of_lt_of_le hb hs) (hk b hb hF).2]
    exact (hk b hb hF).1
def Fact.fz (P : Program) {β : Type} [Rp β] (T : List Nat) (m : Option (Option β)) : Fact where
  tags := T
  ids := []
  p := fun g v w => FzRel P m (fun b => g.om b ∈ T) v w
  stab := fun g g' v w w' hk h => FzRel.stab hk.size (fun b hb ht => ⟨(hk.block b hb ht).1, by rw [(hk.block b hb ht).2]; exact ht⟩) h
/-- What is known of a result, of its classes. -/
def OutRep {β : Type} [Rp β] (out : β → Shape) : Prop := ∀ r T g v w, ((out r).f T).p g v w → Rep (fun b => ∃ c, g.om b ∈ T c) r v w
theorem OutRep.own {α : Type} [R : Rp α] {c : Nat} {ce : Option Nat} {e : TypeId} : OutRep (fun r : List α => Shape.own c ce e r) := fun r T g v w h => by
  have h : OwRel (fun b => g.om b ∈ T c) (fun b => g.om b ∈ oc T ce) e r v w := h
  refine SlRel.rep (fun b hb => ⟨c, hb⟩) (fun b hb => ?_) h.sl
  cases ce with
  | none => cases hb
  | some d => exact ⟨d, hb⟩
theorem OutRep.rep {β : Type} [R : Rp β] {c : Nat} : OutRep (fun r : β => Shape.rep c r) := fun _ _ _ _ _ h => Rep.mono h (fun _ _ hb => ⟨c, hb⟩)

section
variable {X : Cx} {G : List It} {Q : Exit → Act → World → Prop} {dO : Option Nat} {ty : TypeId} {pos : String} {af : Array Edge} {gd : Option (Nat × Bool)}
/-- All parts from i on are such values. -/
def HasZs {β : Type} [Rp β] (P : Program) (G : List It) (T : List Nat) (i : Nat) : List (Option (Option β)) → Prop
  | [] => True
  | y :: l => HasG G i (Fact.fz P T y) ∧ HasZs P G T (i + 1) l
theorem HasZs.get {β : Type} [Rp β] {P : Program} {T : List Nat} : ∀ {l : List (Option (Option β))} {i k : Nat} {y : Option (Option β)}, HasZs P G T i l → l[k]? = some y → HasG G (i + k) (Fact.fz P T y)
  | [], _, _, _, _, h => by simp at h
  | x :: l, i, 0, y, h, hk => by
    simp at hk
    subst hk
    exact h.1
  | x :: l, i, k + 1, y, h, hk => by
    have := HasZs.get (k := k) h.2 (by simpa using hk)
    rw [show i + 1 + k = i + (k + 1) by omega] at this
    exact this
end
end
end GL

namespace GL
section
open Go

section
variable {X : Cx} {G : List It} {d dO : Option Nat} {ty : TypeId} {pos : String} {af : Array Edge} {gd : Option (Nat × Bool)}
end
end
end GL

namespace GL
section
open Go

theorem RelL.drop {α : Type} [R : Rp α] {F : Nat → Prop} {w : World} : ∀ (l : List α) (xs : List Value) (k : Nat), RelL F l xs w → RelL F (l.drop k) (xs.drop (k * R.n)) w
  | [], xs, k, h => by rw [show xs = [] from h]; simp [RelL]
  | y :: l, xs, 0, h => by simpa using h
  | y :: l, xs, k + 1, h => by
    obtain ⟨c1, c2, rfl, h1, h2⟩ := h
    have hl1 := R.len _ _ _ _ h1
    rw [List.drop_succ_cons, show (k + 1) * R.n = c1.length + k * R.n by rw [hl1, Nat.add_mul]; omega, ← List.drop_drop, List.drop_left]
    exact RelL.drop l c2 k h2

section
variable {X : Cx} {G : List It} {dO : Option Nat} {d : Nat} {ty : TypeId} {pos : String} {af : Array Edge} {gd : Option (Nat × Bool)}
/-- A literal as an own slice. -/
theorem Spec.litOw {α : Type} [R : Rp α] {xs : List Operand} {ys : List α} {T : List Nat} {ts e : TypeId} {n : Nat} {pt : Array (Nat × Operand)} (t : Nat) (ht : Nat.ble 10 t = true) (hty : OwnTy X.P ts e α) (hpt : pt = (parts 0 xs).toArray) (hn : xs.length = n)
    (hsm : Nat.ble (n * R.n) 16777216 = true) (hpos : Nat.ble 1 n = true) (hx : HasEach G T xs ys) : Spec X G ⟨dO, .buildSlice ts n pt, ty, pos, af, gd⟩ (Fact.ow [t] T e ys) := fun a w g hs hfr hg hf => by
  have ht' : 10 ≤ t := by simpa using ht
  obtain ⟨hyl, hrep⟩ := hx.rep hf
  obtain ⟨i, zv, hi, hiz, hisz, hby, hzs⟩ := hty.info
  have hsm' : n * R.n ≤ 16777216 := by simpa using hsm
  have hpos' : 1 ≤ n := by simpa using hpos
  have hnz : n * R.n ≠ 0 := by
    have := hty.pos
    exact Nat.mul_ne_zero (by omega) (by omega)
  have hnn : n ≤ n * R.n := Nat.le_mul_of_pos_right n hty.pos
  have hparts : ∀ (xs : List Operand) (k : Nat), (parts k xs).map (fun x => (x.1, a.eval x.2)) = ((xs.map a.eval).zipIdx k).map fun x => (x.2, x.1) := by
    intro xs
    induction xs with
    | nil => intro k; rfl
    | cons x xs ih => intro k; simp [parts, ih]
  obtain ⟨es, hes, hfill⟩ := fill_seq ys (xs.map a.eval) 0 ((Array.range (n * R.n)).map (zv.cells[· % zv.cells.size]!)) (by simp [hyl]) hrep (by simp [hyl, hn])
  simp only [Nat.zero_mul, List.take_zero, List.nil_append] at hfill
  have hel := RelL.len _ _ hes
  have hlen : ys.length = n := by rw [hyl, hn]
  have hdrop : ((Array.range (n * R.n)).map (zv.cells[· % zv.cells.size]!)).toList.length = n * R.n := by simp
  have hrun : (execOp a.eval ⟨dO, .buildSlice ts n pt, ty, pos, af, gd⟩).run X.P w = .ok (.value (.slice (some ⟨w.heap.size, 0, none⟩) n n)) (w.alloc (.cells es.toArray e)) := by
    unfold execOp
    simp only [hpt, Sem.run_bind, Sem.run_map]
    unfold Instr.buildSlice
    have hm : ((parts 0 xs).toArray.map fun (i, x) => (i, a.eval x)).toList = ((xs.map a.eval).zipIdx 0).map fun x => (x.2, x.1) := by
      rw [← hparts]; simp
    simp only [hm]
    have hno : ¬ (n * R.n > 2 ^ 24) := by omega
    simp [run_underlying hty.und, rt_sizeOf hty.el, hno, hnz, zeroValue, typeInfo, hi, hiz, hfill, newRow]
  refine Yields.val hrun ⟨Fr.alloc w _, tagNew g w.heap.size t, hg.tagNew ht' (by simp) hfr.size, fun b hb => by simp [tagNew, hb], fun _ => rfl, ?_⟩
  refine ⟨es, ⟨hel, .inr ⟨w.heap.size, n, es.toArray, by rw [hlen], Nat.zero_le _, heap_alloc_new w _, by omega, by simp only [maxLen]; omega, ?_, ?_⟩⟩, RelL.stab (by simp) (fun b hb h => ⟨RowKit.Below.heap_alloc w _ b hb, by simp [tagNew, hb, h]⟩) ys es hes, fun b hb => ?_⟩
  · rw [List.size_toArray, hel, hlen]
  · rw [List.toList_toArray, List.take_of_length_le (by omega)]
  · simp only [Value.ownBlock, Option.some.injEq] at hb
    subst hb
    simp [tagNew]
end
end
end GL

namespace GL
section
open Go

def FrRel {α : Type} [R : Rp α] (F0 F1 : Nat → Prop) (k : Nat) (l : List α) (xs : List Value) (w : World) : Prop := RelL F1 (l.take k) (xs.take (k * R.n)) w ∧ RelL F0 (l.drop k) (xs.drop (k * R.n)) w
theorem FrRel.stab {α : Type} [R : Rp α] {F0 F1 F0' F1' : Nat → Prop} {k : Nat} {l : List α} {xs : List Value} {w w' : World} (hs : w.heap.size ≤ w'.heap.size) (h0 : ∀ b, b < w.heap.size → F0 b → w'.heap[b]? = w.heap[b]? ∧ F0' b) (h1 : ∀ b, b < w.heap.size → F1 b → w'.heap[b]? = w.heap[b]? ∧ F1' b)
    (h : FrRel F0 F1 k l xs w) : FrRel F0' F1' k l xs w' := ⟨RelL.stab hs h1 _ _ h.1, RelL.stab hs h0 _ _ h.2⟩
theorem FrRel.all {α : Type} [R : Rp α] {F0 F1 F : Nat → Prop} {k : Nat} {l : List α} {xs : List Value} {w : World} (h : FrRel F0 F1 k l xs w) (h0 : ∀ b, F0 b → F b) (h1 : ∀ b, F1 b → F b) : RelL F l xs w := by
  have := RelL.app _ _ _ _ (RelL.stab (F' := F) (Nat.le_refl _) (fun b _ hb => ⟨rfl, h1 b hb⟩) _ _ h.1) (RelL.stab (F' := F) (Nat.le_refl _) (fun b _ hb => ⟨rfl, h0 b hb⟩) _ _ h.2)
  rwa [List.take_append_drop, List.take_append_drop] at this

section
variable {X : Cx} {G : List It} {d dO : Option Nat} {ty : TypeId} {pos : String} {af : Array Edge} {gd : Option (Nat × Bool)}
end
end
end GL

namespace GL
section
open Go

/-- An array of N elements, as a value. -/
structure ArrV (N : Nat) (α : Type) where
  l : List α
instance {N : Nat} {α : Type} : Inhabited (ArrV N α) := ⟨⟨[]⟩⟩
instance {N : Nat} {α : Type} [R : Rp α] : Rp (ArrV N α) where
  n := N * R.n
  agg := true
  na := fun h => by cases h
  rel := fun F x cs w => x.l.length = N ∧ RelL F x.l cs w
  len := fun F x cs w h => by rw [RelL.len _ _ h.2, h.1]
  one := fun F x cs w h => RelL.one _ _ h.2
  stab := fun F F' x cs w w' hs hk h => ⟨h.1, RelL.stab hs hk _ _ h.2⟩
instance {N : Nat} {α : Type} [R : Rp α] [Fl : Flat α] : Flat (ArrV N α) := ⟨fun _ _ x cs _ _ h => ⟨h.1, RelL.flat x.l cs h.2⟩⟩

section
variable {X : Cx} {G : List It} {dO : Option Nat} {ty : TypeId} {pos : String} {af : Array Edge} {gd : Option (Nat × Bool)}
/-! ### shifts and bits -/
end
end
end GL

namespace GL
section
open Go

section
variable {X : Cx} {G : List It} {d : Nat} {ty : TypeId} {pos : String} {af : Array Edge}
end
end
end GL

namespace GL
section
open Go

def ArrFl {α : Type} [R : Rp α] : Ls → List α → Prop
  | [], [] => True
  | l :: ls, x :: xs => l.1 = false ∧ l.2.1 = 1 ∧ (∃ T, l.2.2 = Fact.rep T x) ∧ ArrFl ls xs
  | _, _ => False
theorem ArrFl.rel {α : Type} [R : Rp α] [Fl : Flat α] (ha : R.agg = false) (hn : R.n = 1) {g : Gh} {w : World} {F : Nat → Prop} : ∀ (ls : Ls) (xs : List α) (cs : List Value), ArrFl ls xs → FldRel g w ls cs → RelL F xs cs w
  | [], [], cs, _, h => h
  | [], _ :: _, _, h, _ => h.elim
  | _ :: _, [], _, h, _ => h.elim
  | l :: ls, x :: xs, cs, ⟨h1, h2, ⟨T, h3⟩, h4⟩, ⟨c1, c2, hcs, hl, _, _, hp, hr⟩ => by
    rw [h2] at hl
    obtain ⟨c, rfl⟩ := List.length_eq_one_iff.1 hl
    rw [h3, h1] at hp
    obtain ⟨es, hes, he⟩ := hp
    have hel := R.len _ _ _ _ hes
    rw [hn] at hel
    obtain ⟨d, rfl⟩ := List.length_eq_one_iff.1 hel
    rw [ha] at he
    have hcd : c = d := he
    subst hcd
    exact ⟨[c], c2, hcs, Flat.flat _ _ _ _ _ _ hes, ArrFl.rel ha hn ls xs c2 h4 hr⟩
/-! ### words divided -/
section
variable {X : Cx} {G : List It} {d : Option Nat} {ty : TypeId} {pos : String} {af : Array Edge} {gd : Option (Nat × Bool)} {x y : Operand} {t t' : TypeId} {T T' : List Nat}
end
end
end GL

namespace GL
section
open Go

/-! ### what a map holds -/
abbrev DRow := Int × List Int × List (List UInt8)
def EntRel (F Fe : Nat → Prop) (lab : Nat → Int × Nat) (e1 e2 : TypeId) (m : MapEntry) (d : DRow) (w : World) : Prop :=
  m.key = .int .i64 d.1 ∧ ∃ p ty sv bv, m.val = .pointer (some ⟨p, 0, none⟩) ∧ w.heap[p]? = some (.cells #[.int .i64 d.1, sv, bv, .slice none 0 0] ty (0, 0)) ∧ F p ∧ lab p = (d.1, 0) ∧
    OwRel (fun b => F b ∧ lab b = (d.1, 1)) (fun _ => False) e1 d.2.1 sv w ∧ OwRel (fun b => F b ∧ lab b = (d.1, 2)) Fe e2 d.2.2 bv w
def EntsR (F Fe : Nat → Prop) (lab : Nat → Int × Nat) (e1 e2 : TypeId) (w : World) : List MapEntry → List DRow → Prop
  | [], [] => True
  | m :: es, d :: L => EntRel F Fe lab e1 e2 m d w ∧ EntsR F Fe lab e1 e2 w es L
  | _, _ => False
/-- Entries that lie where they lay. -/
theorem EntRel.stab {F Fe F' Fe' : Nat → Prop} {lab lab' : Nat → Int × Nat} {e1 e2 : TypeId} {m : MapEntry} {d : DRow} {w w' : World} (hs : w.heap.size ≤ w'.heap.size)
    (hk : ∀ b, b < w.heap.size → F b → (lab b).1 = d.1 → (lab b).2 ≤ 2 → w'.heap[b]? = w.heap[b]? ∧ F' b ∧ lab' b = lab b) (hk' : ∀ b, b < w.heap.size → Fe b → w'.heap[b]? = w.heap[b]? ∧ Fe' b)
    (h : EntRel F Fe lab e1 e2 m d w) : EntRel F' Fe' lab' e1 e2 m d w' := by
  obtain ⟨h1, p, ty, sv, bv, h2, h3, h4, h5, h6, h7⟩ := h
  have hlt : p < w.heap.size := (Array.getElem?_eq_some_iff.1 h3).1
  obtain ⟨k1, k2, k3⟩ := hk p hlt h4 (by rw [h5]) (by rw [h5]; exact Nat.zero_le _)
  refine ⟨h1, p, ty, sv, bv, h2, by rw [k1]; exact h3, k2, by rw [k3]; exact h5, h6.stab hs (fun b hb hF => ?_) (fun _ _ h => h.elim), h7.stab hs (fun b hb hF => ?_) hk'⟩
  · obtain ⟨q1, q2, q3⟩ := hk b hb hF.1 (by rw [hF.2]) (by rw [hF.2]; exact Nat.le_succ _)
    exact ⟨q1, q2, by rw [q3]; exact hF.2⟩
  · obtain ⟨q1, q2, q3⟩ := hk b hb hF.1 (by rw [hF.2]) (by rw [hF.2]; exact Nat.le_refl _)
    exact ⟨q1, q2, by rw [q3]; exact hF.2⟩
theorem EntsR.stab {F Fe F' Fe' : Nat → Prop} {lab lab' : Nat → Int × Nat} {e1 e2 : TypeId} {w w' : World} (hs : w.heap.size ≤ w'.heap.size) :
    ∀ (es : List MapEntry) (L : List DRow), (∀ d ∈ L, ∀ b, b < w.heap.size → F b → (lab b).1 = d.1 → (lab b).2 ≤ 2 → w'.heap[b]? = w.heap[b]? ∧ F' b ∧ lab' b = lab b) → (∀ b, b < w.heap.size → Fe b → w'.heap[b]? = w.heap[b]? ∧ Fe' b) →
    EntsR F Fe lab e1 e2 w es L → EntsR F' Fe' lab' e1 e2 w' es L
  | [], [], _, _, _ => trivial
  | m :: es, d :: L, hk, hk', h => ⟨h.1.stab hs (hk d (List.mem_cons_self ..)) hk', EntsR.stab hs es L (fun d hd => hk d (List.mem_cons_of_mem _ hd)) hk' h.2⟩
  | [], _ :: _, _, _, h => h.elim
  | _ :: _, [], _, _, h => h.elim
theorem EntsR.len {F Fe : Nat → Prop} {lab : Nat → Int × Nat} {e1 e2 : TypeId} {w : World} : ∀ (es : List MapEntry) (L : List DRow), EntsR F Fe lab e1 e2 w es L → es.length = L.length
  | [], [], _ => rfl
  | _ :: es, _ :: L, h => by simp [EntsR.len es L h.2]
  | [], _ :: _, h => h.elim
  | _ :: _, [], h => h.elim
def keyIs (s : Int) (m : MapEntry) : Bool := match m.key with
  | .int .i64 a => a == s
  | _ => false
def hasK (L : List DRow) (s : Int) : Bool := L.any fun d => d.1 == s
def getK (L : List DRow) (s : Int) : DRow := (L.find? fun d => d.1 == s).getD (s, [], [])
def delK (L : List DRow) (s : Int) : List DRow := L.filter fun d => !(d.1 == s)
def putK (L : List DRow) (s : Int) (d : DRow) : List DRow := L.map fun x => bif x.1 == s then d else x
theorem keyIs_eq {F Fe : Nat → Prop} {lab : Nat → Int × Nat} {e1 e2 : TypeId} {m : MapEntry} {d : DRow} {w : World} (h : EntRel F Fe lab e1 e2 m d w) (s : Int) : keyIs s m = (d.1 == s) := by
  unfold keyIs; rw [h.1]
/-- What is found for a number. -/
def lkV (s : Int) (es : List MapEntry) : Value := ((es.find? (keyIs s)).map (·.val)).getD (.pointer none)
theorem findNow_int {F Fe : Nat → Prop} {lab : Nat → Int × Nat} {e1 e2 : TypeId} {w : World} (s : Int) : ∀ (es : List MapEntry) (L : List DRow) (i : Nat), EntsR F Fe lab e1 e2 w es L →
    Instr.findNow (.int .i64) (.int .i64 s) es i = some ((es.findIdx? (keyIs s)).bind fun j => (es[j]?).map fun e => (i + j, e.val))
  | [], [], _, _ => rfl
  | m :: es, d :: L, i, h => by
    have hk := h.1.1
    unfold Instr.findNow
    rw [hk]
    simp only [Instr.sameNow, if_true]
    rw [List.findIdx?_cons, keyIs_eq h.1 s]
    have hc : (s == d.1) = (d.1 == s) := by rw [Bool.eq_iff_iff]; simp; exact eq_comm
    rw [hc]
    cases hb : (d.1 == s) with
    | true => simp
    | false =>
      simp only [Bool.false_eq_true, if_false]
      rw [findNow_int s es L (i + 1) h.2]
      cases es.findIdx? (keyIs s) with
      | none => rfl
      | some j =>
        simp only [Option.bind_some, Option.map_some]
        rw [List.getElem?_cons_succ]
        congr 1
        cases es[j]? with
        | none => rfl
        | some e => simp; omega
  | [], _ :: _, _, h => h.elim
  | _ :: _, [], _, h => h.elim
theorem findIdx_find {α : Type} (p : α → Bool) : ∀ (l : List α), (l.findIdx? p).bind (fun j => l[j]?) = l.find? p
  | [] => rfl
  | x :: l => by
    rw [List.findIdx?_cons, List.find?_cons]
    cases h : p x with
    | true => simp
    | false =>
      simp only [Bool.false_eq_true, if_false]
      rw [← findIdx_find p l]
      cases l.findIdx? p <;> rfl
theorem EntsR.find {F Fe : Nat → Prop} {lab : Nat → Int × Nat} {e1 e2 : TypeId} {w : World} (s : Int) : ∀ (es : List MapEntry) (L : List DRow), EntsR F Fe lab e1 e2 w es L →
    (hasK L s = false ∧ es.find? (keyIs s) = none ∧ es.findIdx? (keyIs s) = none) ∨ (hasK L s = true ∧ (getK L s).1 = s ∧ ∃ m, es.find? (keyIs s) = some m ∧ EntRel F Fe lab e1 e2 m (getK L s) w)
  | [], [], _ => .inl ⟨rfl, rfl, rfl⟩
  | m :: es, d :: L, h => by
    have hk := keyIs_eq h.1 s
    unfold hasK getK
    rw [List.any_cons, List.find?_cons, List.find?_cons, List.findIdx?_cons, hk]
    cases hb : (d.1 == s) with
    | true => exact .inr ⟨rfl, by simpa using hb, m, rfl, h.1⟩
    | false =>
      rcases EntsR.find s es L h.2 with ⟨h1, h2, h3⟩ | h1
      · exact .inl ⟨h1, h2, by rw [h3]; rfl⟩
      · exact .inr h1
  | [], _ :: _, h => h.elim
  | _ :: _, [], h => h.elim

/-- A map's memory. -/
def MpRel (F Fe : Nat → Prop) (e1 e2 : TypeId) (L : List DRow) (v : Value) (w : World) : Prop :=
  ∃ m es c lab, v = .map (some m) ∧ w.heap[m]? = some (.map es c) ∧ F m ∧ (lab m).2 = 3 ∧ EntsR F Fe lab e1 e2 w es.toList L ∧ (L.map (·.1)).Nodup ∧ ∀ e ∈ es.toList, e.born < c
theorem MpRel.stab {F Fe F' Fe' : Nat → Prop} {e1 e2 : TypeId} {L : List DRow} {v : Value} {w w' : World} (hs : w.heap.size ≤ w'.heap.size)
    (hk : ∀ b, b < w.heap.size → F b → w'.heap[b]? = w.heap[b]? ∧ F' b) (hk' : ∀ b, b < w.heap.size → Fe b → w'.heap[b]? = w.heap[b]? ∧ Fe' b) (h : MpRel F Fe e1 e2 L v w) : MpRel F' Fe' e1 e2 L v w' := by
  obtain ⟨m, es, c, lab, h1, h2, h3, h4, h5, h6, h7⟩ := h
  have hlt : m < w.heap.size := (Array.getElem?_eq_some_iff.1 h2).1
  exact ⟨m, es, c, lab, h1, by rw [(hk m hlt h3).1]; exact h2, (hk m hlt h3).2, h4, h5.stab hs _ _ (fun d _ b hb hF _ _ => ⟨(hk b hb hF).1, (hk b hb hF).2, rfl⟩) hk', h6, h7⟩
def Fact.mpd (q : Nat) (te : List Nat) (e1 e2 : TypeId) (L : List DRow) : Fact where
  tags := q :: te
  ids := [q]
  p := fun g _ w => MpRel (fun b => g.om b = q) (fun b => g.om b ∈ te) e1 e2 L (g.ga q) w
  stab := fun g g' v w w' hk h => by
    rw [hk.ids q (by simp)]
    exact h.stab hk.size (fun b hb hF => by
      obtain ⟨k1, k2⟩ := hk.block b hb (by rw [hF]; simp)
      exact ⟨k1, by rw [k2]; exact hF⟩) (fun b hb hF => by
      obtain ⟨k1, k2⟩ := hk.block b hb (List.mem_cons_of_mem _ hF)
      exact ⟨k1, by rw [k2]; exact hF⟩)
/-- What is found in a map for a number. -/
def Fact.lkp (q : Nat) (s : Int) : Fact where
  tags := [q]
  ids := [q]
  p := fun g v w => ∃ m es c, g.ga q = .map (some m) ∧ w.heap[m]? = some (.map es c) ∧ g.om m = q ∧ v = lkV s es.toList
  stab := fun g g' v w w' hk h => by
    obtain ⟨m, es, c, h1, h2, h3, h4⟩ := h
    have hlt : m < w.heap.size := (Array.getElem?_eq_some_iff.1 h2).1
    obtain ⟨k1, k2⟩ := hk.block m hlt (by rw [h3]; simp)
    exact ⟨m, es, c, by rw [hk.ids q (by simp)]; exact h1, by rw [k1]; exact h2, by rw [k2]; exact h3, h4⟩
theorem Has.mpdM {G : List It} {x : Operand} {q : Nat} {te te' : List Nat} {e1 e2 : TypeId} {L : List DRow} (h : Has G x (.mpd q te e1 e2 L)) (hT : subB te te' = true) : Has G x (.mpd q te' e1 e2 L) := fun a w g hf =>
  MpRel.stab (Nat.le_refl _) (fun _ _ h => ⟨rfl, h⟩) (fun _ _ h => ⟨rfl, subB_spec hT _ h⟩) (h a w g hf)

/-- What is known of a lookup and its map together. -/
theorem lkp_mpd {g : Gh} {w : World} {q : Nat} {te : List Nat} {e1 e2 : TypeId} {L : List DRow} {s : Int} {u v : Value} (h : (Fact.lkp q s).p g v w) (k : (Fact.mpd q te e1 e2 L).p g u w) :
    (hasK L s = false ∧ v = .pointer none) ∨ (hasK L s = true ∧ ∃ p ty sv bv, v = .pointer (some ⟨p, 0, none⟩) ∧ w.heap[p]? = some (.cells #[.int .i64 s, sv, bv, .slice none 0 0] ty (0, 0)) ∧ g.om p = q ∧
      OwRel (fun b => g.om b = q) (fun _ => False) e1 (getK L s).2.1 sv w ∧ OwRel (fun b => g.om b = q) (fun b => g.om b ∈ te) e2 (getK L s).2.2 bv w) := by
  obtain ⟨m, es, c, h1, h2, h3, rfl⟩ := h
  obtain ⟨m', es', c', lab, k1, k2, k3, k4, k5, k6, k7⟩ := k
  rw [h1] at k1
  cases k1
  rw [h2] at k2
  cases k2
  unfold lkV
  rcases k5.find s with ⟨q1, q2, _⟩ | ⟨q1, q3, m1, q2, _, p, ty, sv, bv, r1, r2, r3, r4, r5, r6⟩
  · rw [q2]; exact .inl ⟨q1, rfl⟩
  · rw [q2]
    rw [q3] at r2
    exact .inr ⟨q1, p, ty, sv, bv, r1, r2, r3, r5.stab (Nat.le_refl _) (fun b _ h => ⟨rfl, h.1⟩) (fun _ _ h => h.elim), r6.stab (Nat.le_refl _) (fun b _ h => ⟨rfl, h.1⟩) (fun _ _ h => ⟨rfl, h⟩)⟩

/-! ### closed facts on map types -/
structure MapTy (P : Program) (t kt et : TypeId) : Prop where
  und : P.underlying t = some (.map kt et)
  key : P.underlying kt = some (.int .i64)
  zero : ∃ i, P.info? et = some i ∧ i.zero = some (.pointer none)

section
variable {X : Cx} {G : List It} {dO : Option Nat} {d : Nat} {ty : TypeId} {pos : String} {af : Array Edge} {gd : Option (Nat × Bool)}
theorem run_lookup_map {P : Program} {t kt et : TypeId} (ht : MapTy P t kt et) {w : World} {m c : Nat} {es : Array MapEntry} (hm : w.heap[m]? = some (.map es c)) {F Fe : Nat → Prop} {lab : Nat → Int × Nat} {e1 e2 : TypeId} {L : List DRow} (h : EntsR F Fe lab e1 e2 w es.toList L) (s : Int) :
    (Instr.lookup t (.map (some m)) (.int .i64 s) false).run P w = .ok (lkV s es.toList) w := by
  obtain ⟨i, hi, hz⟩ := ht.zero
  have hck : ∀ b, (Instr.checkKey b 10000 kt (.int .i64 s)).run P w = .ok () w := fun b => MapKept.run_checkKey ht.key (by simp [MapKept.IsKey]) b 9999
  have hfk : (Instr.findKey kt (.int .i64 s) es.toList).run P w = .ok ((es.toList.findIdx? (keyIs s)).bind fun j => (es.toList[j]?).map fun e => (0 + j, e.val)) w := by
    unfold Instr.findKey
    simp only [Sem.run_bind, run_underlying ht.key, Result.andThen_ok]
    rw [findNow_int s es.toList L 0 h]
    rfl
  have hf := findIdx_find (keyIs s) es.toList
  have hzv : (zeroValue et).run P w = .ok (.pointer none) w := by
    simp [zeroValue, typeInfo, hi, hz]
  unfold Instr.lookup
  simp only [Sem.run_bind, run_underlying ht.und, Result.andThen_ok, MapKept.run_getObj_map hm, Sem.run_pure, hck, hfk]
  unfold lkV
  rw [← hf]
  cases es.toList.findIdx? (keyIs s) with
  | none => simp [hzv]
  | some j =>
    simp only [Option.bind_some]
    cases es.toList[j]? with
    | none => simp [hzv]
    | some e => simp
theorem Spec.lookupD {x k : Operand} {t kt et : TypeId} {q : Nat} {te : List Nat} {e1 e2 : TypeId} {L : List DRow} {s : Int} {T : List Nat} (ht : MapTy X.P t kt et) (hx : Has G x (.isv q)) (hm : look G (rs q) = some (.mpd q te e1 e2 L)) (hk : Has G k (Fact.rep T s)) :
    Spec X G ⟨dO, .lookup t x k false, ty, pos, af, gd⟩ (.lkp q s) :=
  Spec.pure fun a w g hf => by
    have hv : a.eval x = g.ga q := hx a w g hf
    have h1 := rep_int.1 (hk a w g hf)
    obtain ⟨m, es, c, lab, k1, k2, k3, k4, k5, k6, k7⟩ := hf _ _ hm
    refine ⟨lkV s es.toList, ?_, m, es, c, k1, k2, k3, rfl⟩
    have := run_lookup_map (P := X.P) ht k2 k5 s
    unfold execOp
    simp [hv, k1, h1, this]
theorem run_eqIn_ptr_nil {P : Program} (w : World) (n : Nat) {t e : TypeId} (h : P.underlying t = some (.pointer e)) (a : Option Addr) : (Op.equalIn (n + 1) t (.pointer a) (.pointer none)).run P w = .ok a.isNone w := by
  cases a <;> simp [Op.equalIn, run_underlying h]
theorem run_eq_ptr_nil {P : Program} (w : World) {t e : TypeId} (h : P.underlying t = some (.pointer e)) (a : Option Addr) : (Op.equal t (.pointer a) (.pointer none)).run P w = .ok a.isNone w := run_eqIn_ptr_nil w 9999 h a
theorem Spec.eqlLk {x : Operand} {t t' e : TypeId} {q : Nat} {te : List Nat} {e1 e2 : TypeId} {L : List DRow} {s : Int} (ht : X.P.underlying t = some (.pointer e)) (hx : Has G x (.lkp q s)) (hm : look G (rs q) = some (.mpd q te e1 e2 L)) :
    Spec X G ⟨dO, .binOp .eql t x (.const (.pointer none)) t', ty, pos, af, gd⟩ (Fact.rep [] (!hasK L s)) :=
  Spec.pure fun a w g hf => by
    refine ⟨.bool (!hasK L s), ?_, rep_bool.2 rfl⟩
    rcases lkp_mpd (hx a w g hf) (hf _ _ hm) with ⟨h1, h2⟩ | ⟨h1, p, _, _, _, h2, _⟩
    · have hg : eqGuard .eql t x (.const (.pointer none)) (.pointer none) (.pointer none) = Pure.pure () := rfl
      unfold execOp
      simp [h2, eval_const, hg, binOp, run_eq_ptr_nil w ht, h1]
    · have hg : eqGuard .eql t x (.const (.pointer none)) (.pointer (some ⟨p, 0, none⟩)) (.pointer none) = Pure.pure () := rfl
      unfold execOp
      simp [h2, eval_const, hg, binOp, run_eq_ptr_nil w ht, h1]
theorem Spec.neqLk {x : Operand} {t t' e : TypeId} {q : Nat} {te : List Nat} {e1 e2 : TypeId} {L : List DRow} {s : Int} (ht : X.P.underlying t = some (.pointer e)) (hx : Has G x (.lkp q s)) (hm : look G (rs q) = some (.mpd q te e1 e2 L)) :
    Spec X G ⟨dO, .binOp .neq t x (.const (.pointer none)) t', ty, pos, af, gd⟩ (Fact.rep [] (hasK L s)) :=
  Spec.pure fun a w g hf => by
    refine ⟨.bool (hasK L s), ?_, rep_bool.2 rfl⟩
    rcases lkp_mpd (hx a w g hf) (hf _ _ hm) with ⟨h1, h2⟩ | ⟨h1, p, _, _, _, h2, _⟩
    · have hg : eqGuard .neq t x (.const (.pointer none)) (.pointer none) (.pointer none) = Pure.pure () := rfl
      unfold execOp
      simp [h2, eval_const, hg, binOp, run_eq_ptr_nil w ht, h1]
    · have hg : eqGuard .neq t x (.const (.pointer none)) (.pointer (some ⟨p, 0, none⟩)) (.pointer none) = Pure.pure () := rfl
      unfold execOp
      simp [h2, eval_const, hg, binOp, run_eq_ptr_nil w ht, h1]
end
end
end GL

namespace GL
section
open Go

def newK (L : List DRow) (s : Int) : Option (List DRow) := if hasK L s = true then none else some (L ++ [(s, [], [])])
def gotK (L : List DRow) (s : Int) : Option DRow := if hasK L s = true then some (getK L s) else none

/-! ### entries taken away and put behind -/
theorem delK_none {L : List DRow} {s : Int} (h : hasK L s = false) : delK L s = L := by
  unfold delK
  rw [List.filter_eq_self]
  intro d hd
  unfold hasK at h
  have := List.any_eq_false.1 h d hd
  simpa using this
theorem EntsR.erase {F Fe : Nat → Prop} {lab : Nat → Int × Nat} {e1 e2 : TypeId} {w : World} (s : Int) : ∀ (es : List MapEntry) (L : List DRow) (j : Nat), EntsR F Fe lab e1 e2 w es L → (L.map (·.1)).Nodup → es.findIdx? (keyIs s) = some j →
    EntsR F Fe lab e1 e2 w (es.eraseIdx j) (delK L s) ∧ j < es.length
  | [], _, j, _, _, hj => by cases hj
  | m :: es, [], _, h, _, _ => h.elim
  | m :: es, d :: L, j, h, hn, hj => by
    rw [List.findIdx?_cons, keyIs_eq h.1 s] at hj
    rw [List.map_cons, List.nodup_cons] at hn
    cases hb : (d.1 == s) with
    | true =>
      rw [hb] at hj
      simp only [if_true, Option.some.injEq] at hj
      subst hj
      have hd : d.1 = s := by simpa using hb
      have h0 : hasK L s = false := by
        unfold hasK
        rw [List.any_eq_false]
        intro x hx hq
        have hx1 : x.1 = s := by simpa using hq
        exact hn.1 (List.mem_map.2 ⟨x, hx, by rw [hx1, hd]⟩)
      have : delK (d :: L) s = L := by
        show List.filter _ (d :: L) = L
        rw [List.filter_cons, hb]
        exact delK_none h0
      rw [this]
      exact ⟨h.2, by simp⟩
    | false =>
      rw [hb] at hj
      simp only [Bool.false_eq_true, if_false, Option.map_eq_some_iff] at hj
      obtain ⟨j', hj', rfl⟩ := hj
      obtain ⟨h1, h2⟩ := EntsR.erase s es L j' h.2 hn.2 hj'
      have : delK (d :: L) s = d :: delK L s := by
        show List.filter _ (d :: L) = _
        rw [List.filter_cons, hb]; rfl
      rw [this, List.eraseIdx_cons_succ]
      exact ⟨⟨h.1, h1⟩, by simpa using h2⟩
theorem delK_nodup {L : List DRow} {s : Int} (h : (L.map (·.1)).Nodup) : ((delK L s).map (·.1)).Nodup := by
  unfold delK
  exact (List.Sublist.map _ List.filter_sublist).nodup h
theorem EntsR.app {F Fe : Nat → Prop} {lab : Nat → Int × Nat} {e1 e2 : TypeId} {w : World} : ∀ (es es' : List MapEntry) (L L' : List DRow), EntsR F Fe lab e1 e2 w es L → EntsR F Fe lab e1 e2 w es' L' → EntsR F Fe lab e1 e2 w (es ++ es') (L ++ L')
  | [], _, [], _, _, k => k
  | _ :: es, es', _ :: L, L', h, k => ⟨h.1, EntsR.app es es' L L' h.2 k⟩
  | [], _, _ :: _, _, h, _ => h.elim
  | _ :: _, _, [], _, h, _ => h.elim

/-! ### a map with one entry apart -/
def EntsH (F Fe : Nat → Prop) (lab : Nat → Int × Nat) (e1 e2 : TypeId) (w : World) (s : Int) (pv : Value) : List MapEntry → List DRow → Prop
  | [], [] => True
  | m :: es, d :: L => (d.1 ≠ s → EntRel F Fe lab e1 e2 m d w) ∧ (d.1 = s → m.key = .int .i64 s ∧ m.val = pv) ∧ EntsH F Fe lab e1 e2 w s pv es L
  | _, _ => False
theorem EntsH.stab {F Fe F' Fe' : Nat → Prop} {lab lab' : Nat → Int × Nat} {e1 e2 : TypeId} {w w' : World} {s : Int} {pv : Value} (hs : w.heap.size ≤ w'.heap.size) :
    ∀ (es : List MapEntry) (L : List DRow), (∀ d ∈ L, d.1 ≠ s → ∀ b, b < w.heap.size → F b → (lab b).1 = d.1 → (lab b).2 ≤ 2 → w'.heap[b]? = w.heap[b]? ∧ F' b ∧ lab' b = lab b) → (∀ b, b < w.heap.size → Fe b → w'.heap[b]? = w.heap[b]? ∧ Fe' b) →
    EntsH F Fe lab e1 e2 w s pv es L → EntsH F' Fe' lab' e1 e2 w' s pv es L
  | [], [], _, _, _ => trivial
  | m :: es, d :: L, hk, hk', h => ⟨fun hd => (h.1 hd).stab hs (hk d (List.mem_cons_self ..) hd) hk', h.2.1, EntsH.stab hs es L (fun d hd => hk d (List.mem_cons_of_mem _ hd)) hk' h.2.2⟩
  | [], _ :: _, _, _, h => h.elim
  | _ :: _, [], _, _, h => h.elim
theorem EntsR.toH {F Fe : Nat → Prop} {lab : Nat → Int × Nat} {e1 e2 : TypeId} {w : World} {s : Int} {pv : Value} : ∀ (es : List MapEntry) (L : List DRow), EntsR F Fe lab e1 e2 w es L → (L.map (·.1)).Nodup → (hasK L s = true → lkV s es = pv) → EntsH F Fe lab e1 e2 w s pv es L
  | [], [], _, _, _ => trivial
  | m :: es, d :: L, h, hn, hv => by
    rw [List.map_cons, List.nodup_cons] at hn
    have hk := keyIs_eq h.1 s
    refine ⟨fun _ => h.1, fun hd => ?_, ?_⟩
    · have hb : (d.1 == s) = true := by simpa using hd
      have h1 : lkV s (m :: es) = pv := hv (by unfold hasK; rw [List.any_cons, hb]; rfl)
      unfold lkV at h1
      rw [List.find?_cons, hk, hb] at h1
      exact ⟨by rw [h.1.1, hd], h1⟩
    · refine EntsR.toH es L h.2 hn.2 (fun hL => ?_)
      have hb : (d.1 == s) = false := by
        cases hb : (d.1 == s) with
        | false => rfl
        | true =>
          unfold hasK at hL
          obtain ⟨x, hx, hq⟩ := List.any_eq_true.1 hL
          exact absurd (List.mem_map.2 ⟨x, hx, by have h1 : x.1 = s := by simpa using hq
                                                  have h2 : d.1 = s := by simpa using hb
                                                  rw [h1, h2]⟩) hn.1
      have h1 : lkV s (m :: es) = pv := hv (by unfold hasK at hL ⊢; rw [List.any_cons, hb, hL]; rfl)
      unfold lkV at h1 ⊢
      rw [List.find?_cons, hk, hb] at h1
      exact h1
  | [], _ :: _, h, _, _ => h.elim
  | _ :: _, [], h, _, _ => h.elim
/-- The entry put back. -/
theorem EntsH.back {F Fe : Nat → Prop} {lab : Nat → Int × Nat} {e1 e2 : TypeId} {w : World} {s : Int} {pv : Value} {dn : DRow} (hd1 : dn.1 = s) (hp : ∀ m : MapEntry, m.key = .int .i64 s → m.val = pv → EntRel F Fe lab e1 e2 m dn w) :
    ∀ (es : List MapEntry) (L : List DRow), EntsH F Fe lab e1 e2 w s pv es L → EntsR F Fe lab e1 e2 w es (putK L s dn)
  | [], [], _ => trivial
  | m :: es, d :: L, h => by
    show EntsR F Fe lab e1 e2 w (m :: es) ((bif d.1 == s then dn else d) :: putK L s dn)
    refine ⟨?_, EntsH.back hd1 hp es L h.2.2⟩
    cases hb : (d.1 == s) with
    | true => obtain ⟨k1, k2⟩ := h.2.1 (by simpa using hb); exact hp m k1 k2
    | false => exact h.1 (by simpa using hb)
  | [], _ :: _, h => h.elim
  | _ :: _, [], h => h.elim
theorem putK_keys {L : List DRow} {s : Int} {dn : DRow} (h : dn.1 = s) : (putK L s dn).map (·.1) = L.map (·.1) := by
  unfold putK
  rw [List.map_map]
  refine List.map_congr_left (fun d _ => ?_)
  show (bif d.1 == s then dn else d).1 = d.1
  cases hb : (d.1 == s) with
  | true => rw [cond_true, h]; exact (by simpa using hb : d.1 = s).symm
  | false => rfl
def MphRel (F Fe : Nat → Prop) (e1 e2 : TypeId) (L : List DRow) (s : Int) (pv v : Value) (w : World) : Prop :=
  ∃ m es c lab, v = .map (some m) ∧ w.heap[m]? = some (.map es c) ∧ F m ∧ (lab m).2 = 3 ∧ EntsH F Fe lab e1 e2 w s pv es.toList L ∧ (L.map (·.1)).Nodup ∧ ∀ e ∈ es.toList, e.born < c
def Fact.mph (q : Nat) (te : List Nat) (e1 e2 : TypeId) (L : List DRow) (s : Int) (u : Nat) : Fact where
  tags := q :: te
  ids := [q, u]
  p := fun g _ w => MphRel (fun b => g.om b = q) (fun b => g.om b ∈ te) e1 e2 L s (g.ga u) (g.ga q) w
  stab := fun g g' v w w' hk h => by
    rw [hk.ids q (by simp), hk.ids u (by simp)]
    obtain ⟨m, es, c, lab, h1, h2, h3, h4, h5, h6, h7⟩ := h
    have hlt : m < w.heap.size := (Array.getElem?_eq_some_iff.1 h2).1
    obtain ⟨k1, k2⟩ := hk.block m hlt (by rw [h3]; simp)
    exact ⟨m, es, c, lab, h1, by rw [k1]; exact h2, by show g'.om m = q; rw [k2]; exact h3, h4, h5.stab hk.size _ _ (fun d _ _ b hb hF _ _ => by
      obtain ⟨k1, k2⟩ := hk.block b hb (by rw [hF]; simp)
      exact ⟨k1, by show g'.om b = q; rw [k2]; exact hF, rfl⟩) (fun b hb hF => by
      obtain ⟨k1, k2⟩ := hk.block b hb (List.mem_cons_of_mem _ hF)
      exact ⟨k1, by rw [k2]; exact hF⟩), h6, h7⟩
/-- A map with a new entry, and nothing put there yet. -/
def Fact.mpe (q : Nat) (te : List Nat) (e1 e2 : TypeId) (L : List DRow) (s : Int) : Fact where
  tags := q :: te
  ids := [q]
  p := fun g _ w => ∃ (m : Nat) (es : Array MapEntry) (c : Nat) (lab : Nat → Int × Nat), g.ga q = .map (some m) ∧ w.heap[m]? = some (.map (es.push ⟨.int .i64 s, .pointer none, c⟩) (c + 1)) ∧ g.om m = q ∧ (lab m).2 = 3 ∧ EntsR (fun b => g.om b = q) (fun b => g.om b ∈ te) lab e1 e2 w es.toList L ∧ (L.map (·.1)).Nodup ∧ (∀ e ∈ es.toList, e.born < c) ∧ hasK L s = false
  stab := fun g g' v w w' hk h => by
    rw [hk.ids q (by simp)]
    obtain ⟨m, es, c, lab, h1, h2, h3, h4, h5, h6, h7⟩ := h
    have hlt : m < w.heap.size := (Array.getElem?_eq_some_iff.1 h2).1
    obtain ⟨k1, k2⟩ := hk.block m hlt (by rw [h3]; simp)
    exact ⟨m, es, c, lab, h1, by rw [k1]; exact h2, by rw [k2]; exact h3, h4, h5.stab hk.size _ _ (fun d _ b hb hF _ _ => by
      obtain ⟨k1, k2⟩ := hk.block b hb (by rw [hF]; simp)
      exact ⟨k1, by show g'.om b = q; rw [k2]; exact hF, rfl⟩) (fun b hb hF => by
      obtain ⟨k1, k2⟩ := hk.block b hb (List.mem_cons_of_mem _ hF)
      exact ⟨k1, by rw [k2]; exact hF⟩), h6, h7⟩
/-- The number by which a map knows its last entry. -/
def Fact.stp (q : Nat) : Fact where
  tags := [q]
  ids := [q]
  p := fun g v w => ∃ m es c, g.ga q = .map (some m) ∧ w.heap[m]? = some (.map es (c + 1)) ∧ g.om m = q ∧ v = goInt c
  stab := fun g g' v w w' hk h => by
    obtain ⟨m, es, c, h1, h2, h3, h4⟩ := h
    have hlt : m < w.heap.size := (Array.getElem?_eq_some_iff.1 h2).1
    obtain ⟨k1, k2⟩ := hk.block m hlt (by rw [h3]; simp)
    exact ⟨m, es, c, by rw [hk.ids q (by simp)]; exact h1, by rw [k1]; exact h2, by rw [k2]; exact h3, h4⟩
theorem Has.mphM {G : List It} {x : Operand} {q u : Nat} {te te' : List Nat} {e1 e2 : TypeId} {L : List DRow} {s : Int} (h : Has G x (.mph q te e1 e2 L s u)) (hT : subB te te' = true) : Has G x (.mph q te' e1 e2 L s u) := fun a w g hf => by
  obtain ⟨m, es, c, lab, h1, h2, h3, h4, h5, h6, h7⟩ := h a w g hf
  exact ⟨m, es, c, lab, h1, h2, h3, h4, h5.stab (Nat.le_refl _) _ _ (fun d _ _ b hb hF _ _ => ⟨rfl, hF, rfl⟩) (fun b hb hF => ⟨rfl, subB_spec hT _ hF⟩), h6, h7⟩

/-! ### one block of the heap anew -/
def setB (w : World) (m : Nat) (o : Obj) : World := { w with heap := w.heap.setIfInBounds m o }
theorem setB_size (w : World) (m : Nat) (o : Obj) : (setB w m o).heap.size = w.heap.size := by simp [setB]
theorem setB_same {w : World} {m : Nat} {o o' : Obj} (h : w.heap[m]? = some o) : (setB w m o').heap[m]? = some o' := by
  have := (Array.getElem?_eq_some_iff.1 h).1
  simp [setB, this]
theorem setB_other (w : World) (m : Nat) (o : Obj) (k : Nat) (h : k ≠ m) : (setB w m o).heap[k]? = w.heap[k]? := by
  show (w.heap.setIfInBounds m o)[k]? = _
  rw [Array.getElem?_setIfInBounds]
  rw [if_neg (fun e => h e.symm)]

section
variable {X : Cx} {G : List It} {dO : Option Nat} {d : Nat} {ty : TypeId} {pos : String} {af : Array Edge} {gd : Option (Nat × Bool)}
theorem Step.makeMapD {t : TypeId} (q : Nat) (e1 e2 : TypeId) (hq : Nat.ble 10 q = true) (hd : Nat.blt d X.n = true) :
    Step X G ⟨some d, .makeMap t none, ty, pos, af, none⟩ [.fact d (.isv q), .fact (rs q) (.mpd q [] e1 e2 []), .killId q] := fun G' _ a w env K Q hK => by
  have ht' : 10 ≤ q := by simpa using hq
  have hd' : d < X.n := by simpa [Nat.blt_eq] using hd
  obtain ⟨g, hg, hf'⟩ := env.facts
  have hrun : (execOp a.eval ⟨some d, .makeMap t none, ty, pos, af, none⟩).run X.P w = .ok (.value (.map (some w.heap.size))) (w.alloc (.map #[] 0)) := by
    have hmk : (Instr.makeMap t none).run X.P w = .ok (.map (some w.heap.size)) (w.alloc (.map #[] 0)) := rfl
    unfold execOp
    simp [hmk]
  unfold Oper.wp
  rw [hrun]
  refine hK (.map (some w.heap.size)) _ ?_
  have hb : ∀ b, b < w.heap.size → (w.alloc (.map #[] 0)).heap[b]? = w.heap[b]? := fun b hb => RowKit.Below.heap_alloc w _ b hb
  refine ⟨by simp [Act.put, env.size], env.defers, Fr.own env.fr hg ht' (.inr trivial) rfl rfl rfl (by simp) (fun b hb' _ => hb b hb'), ghOwn g w.heap.size q (.map (some w.heap.size)), hg.own ht' env.fr.size, ?_⟩
  refine Facts.put (by rw [env.size]; exact hd') ?_ (by simp [Fact.isv, ghOwn])
  refine Facts.ghost ?_ (fun v => ⟨w.heap.size, #[], 0, fun _ => (0, 3), by simp [ghOwn], heap_alloc_new w _, by simp [ghOwn], rfl, trivial, List.nodup_nil, by simp⟩)
  exact facts_killedId hf' (by simp) hb (fun b hb => by simp [ghOwn, hb]) (fun s hs => by simp [ghOwn, hs])

theorem tag_ne {g : Gh} {m b q : Nat} {te : List Nat} (hte : te.elem q = false) (hm : g.om m = q) (hb : g.om b ∈ te) : b ≠ m := fun he => by
  subst he
  rw [hm] at hb
  have : te.elem q = true := by simpa using hb
  rw [hte] at this; cases this
theorem lab_ne {lab : Nat → Int × Nat} {m b : Nat} (hm : (lab m).2 = 3) (hb : (lab b).2 ≤ 2) : b ≠ m := fun he => by subst he; omega

/-- What is shown of a step that turns one block of tag q into another one. -/
theorem env_setB {G' : List It} {a : Act} {w : World} {g : Gh} {q m : Nat} {o : Obj} {f : Fact} {dst : Option Nat} {v : Value} {fd : List It} (env : Env X G' a w) (hg : GhE X w g) (hf' : Facts G' g a w) (ht' : 10 ≤ q) (hm : g.om m = q)
    (hfd : ∀ H, Facts H g a (setB w m o) → Facts (fd ++ H) g (a.put dst v) (setB w m o)) (hp : ∀ v, f.p g v (setB w m o)) : Env X (fd ++ .fact (rs q) f :: .kill q :: G') (a.put dst v) (setB w m o) := by
  have hb : ∀ b, b < w.heap.size → g.om b ≠ q → (setB w m o).heap[b]? = w.heap[b]? := fun b _ hne => setB_other w m o b (fun h => hne (by rw [h]; exact hm))
  have hs := setB_size w m o
  refine ⟨?_, ?_, Fr.own env.fr hg ht' (.inr trivial) rfl rfl rfl (by rw [hs]; exact Nat.le_refl _) hb, g, ⟨⟨hg.ok.old, fun b h1 h2 => hg.ok.new b h1 (by rw [hs] at h2; exact h2)⟩, hg.om⟩, ?_⟩
  · cases dst <;> simp [Act.put, env.size]
  · cases dst <;> exact env.defers
  · exact hfd _ (Facts.ghost (facts_killed' hf' (by rw [hs]; exact Nat.le_refl _) hb) hp)

theorem Step.deleteD {x k : Operand} {mt kt et kt' : TypeId} {q : Nat} {te : List Nat} {e1 e2 : TypeId} {L : List DRow} {s : Int} {T : List Nat} (ht : MapTy X.P mt kt et) (hq : Nat.ble 10 q = true) (hte : te.elem q = false)
    (hx : Has G x (.isv q)) (hm : look G (rs q) = some (.mpd q te e1 e2 L)) (hk : Has G k (Fact.rep T s)) :
    Step X G ⟨none, .call { callee := .builtin .delete, args := #[x, k], argTypes := #[mt, kt'] }, ty, pos, af, none⟩ [.fact (rs q) (.mpd q te e1 e2 (delK L s)), .kill q] := fun G' hsub a w env K Q hK => by
  have ht' : 10 ≤ q := by simpa using hq
  obtain ⟨g, hg, hf'⟩ := env.facts
  have hf := hsub a w g hf'
  have hv : a.eval x = g.ga q := hx a w g hf
  have h1 := rep_int.1 (hk a w g hf)
  obtain ⟨m, es, c, lab, k1, k2, k3, k4, k5, k6, k7⟩ := hf _ _ hm
  have hck : ∀ b, (Instr.checkKey b 10000 kt (.int .i64 s)).run X.P w = .ok () w := fun b => MapKept.run_checkKey ht.key (by simp [MapKept.IsKey]) b 9999
  have hfk : (Instr.findKey kt (.int .i64 s) es.toList).run X.P w = .ok ((es.toList.findIdx? (keyIs s)).bind fun j => (es.toList[j]?).map fun e => (0 + j, e.val)) w := by
    unfold Instr.findKey
    simp only [Sem.run_bind, run_underlying ht.key, Result.andThen_ok]
    rw [findNow_int s es.toList L 0 k5]
    rfl
  have hset : ∀ o, (setObj m o).run X.P w = .ok () (setB w m o) := fun o => MapKept.run_setObj_map o k2
  obtain ⟨es', hes', hE⟩ : ∃ es' : Array MapEntry, (execOp a.eval ⟨none, .call { callee := .builtin .delete, args := #[x, k], argTypes := #[mt, kt'] }, ty, pos, af, none⟩).run X.P w = .ok (.value (.tuple #[])) (setB w m (.map es' c)) ∧
      EntsR (fun b => g.om b = q) (fun b => g.om b ∈ te) lab e1 e2 w es'.toList (delK L s) ∧ (∀ e ∈ es'.toList, e.born < c) := by
    cases hfi : es.toList.findIdx? (keyIs s) with
    | none =>
      refine ⟨es, ?_, ?_, k7⟩
      · rw [hfi] at hfk
        unfold execOp
        simp [resolve, invoke, builtin, hv, k1, h1, Builtin.delete_, run_underlying ht.und, MapKept.run_getObj_map k2, hck, hfk, hset]
      · rcases k5.find s with ⟨q1, _⟩ | ⟨q1, _, m1, q2, _⟩
        · rw [delK_none q1]; exact k5
        · have := findIdx_find (keyIs s) es.toList
          rw [hfi, q2] at this; cases this
    | some j =>
      obtain ⟨r1, r2⟩ := EntsR.erase s es.toList L j k5 k6 hfi
      refine ⟨es.eraseIdxIfInBounds j, ?_, ?_, ?_⟩
      · rw [hfi] at hfk
        simp only [Option.bind_some, Nat.zero_add] at hfk
        rw [List.getElem?_eq_getElem r2, Option.map_some] at hfk
        unfold execOp
        simp [resolve, invoke, builtin, hv, k1, h1, Builtin.delete_, run_underlying ht.und, MapKept.run_getObj_map k2, hck, hfk, hset]
      · have : (es.eraseIdxIfInBounds j).toList = es.toList.eraseIdx j := by
          unfold Array.eraseIdxIfInBounds
          rw [dif_pos (by simpa using r2), Array.toList_eraseIdx]
        rw [this]; exact r1
      · intro e he
        have : (es.eraseIdxIfInBounds j).toList = es.toList.eraseIdx j := by
          unfold Array.eraseIdxIfInBounds
          rw [dif_pos (by simpa using r2), Array.toList_eraseIdx]
        rw [this] at he
        exact k7 e (List.mem_of_mem_eraseIdx he)
  obtain ⟨hE1, hE2⟩ := hE
  unfold Oper.wp
  rw [hes']
  refine hK _ _ ?_
  refine env_setB (fd := []) env hg hf' ht' k3 (fun H hH => hH) (fun v => ⟨m, es', c, lab, k1, setB_same k2, k3, k4, ?_, delK_nodup k6, hE2⟩)
  refine hE1.stab (by rw [setB_size]; exact Nat.le_refl _) _ _ (fun d _ b hb hF _ hl => ⟨setB_other w m _ b (lab_ne k4 hl), hF, rfl⟩) (fun b hb hF => ⟨setB_other w m _ b (tag_ne hte k3 hF), hF⟩)
theorem Step.mapEntryD {x k : Operand} {mt kt et : TypeId} {q : Nat} {te : List Nat} {e1 e2 : TypeId} {L L' : List DRow} {s : Int} {T : List Nat} (hr : newK L s = some L') (ht : MapTy X.P mt kt et) (hd : Nat.blt d X.n = true) (hq : Nat.ble 10 q = true) (hte : te.elem q = false)
    (hx : Has G x (.isv q)) (hm : look G (rs q) = some (.mpd q te e1 e2 L)) (hk : Has G k (Fact.rep T s)) :
    Step X G ⟨some d, .mapEntry mt x k, ty, pos, af, none⟩ [.fact d (.tup2 .top (.stp q)), .fact (rs q) (.mpe q te e1 e2 L s), .kill q] := fun G' hsub a w env K Q hK => by
  have ht' : 10 ≤ q := by simpa using hq
  have hd' : d < X.n := by simpa [Nat.blt_eq] using hd
  obtain ⟨g, hg, hf'⟩ := env.facts
  have hf := hsub a w g hf'
  have hv : a.eval x = g.ga q := hx a w g hf
  have h1 := rep_int.1 (hk a w g hf)
  obtain ⟨m, es, c, lab, k1, k2, k3, k4, k5, k6, k7⟩ := hf _ _ hm
  have hn : hasK L s = false := by
    unfold newK at hr
    cases h : hasK L s with
    | false => rfl
    | true => rw [h] at hr; cases hr
  obtain ⟨i, hi, hz⟩ := ht.zero
  have hck : ∀ b, (Instr.checkKey b 10000 kt (.int .i64 s)).run X.P w = .ok () w := fun b => MapKept.run_checkKey ht.key (by simp [MapKept.IsKey]) b 9999
  have hfi : es.toList.findIdx? (keyIs s) = none := by
    rcases k5.find s with ⟨_, _, q3⟩ | ⟨q1, _⟩
    · exact q3
    · rw [hn] at q1; cases q1
  have hfk : (Instr.findKey kt (.int .i64 s) es.toList).run X.P w = .ok none w := by
    unfold Instr.findKey
    simp only [Sem.run_bind, run_underlying ht.key, Result.andThen_ok]
    rw [findNow_int s es.toList L 0 k5, hfi]
    rfl
  have hset : ∀ o, (setObj m o).run X.P w = .ok () (setB w m o) := fun o => MapKept.run_setObj_map o k2
  have hzv : (zeroValue et).run X.P w = .ok (.pointer none) w := by
    simp [zeroValue, typeInfo, hi, hz]
  have hrun : (execOp a.eval ⟨some d, .mapEntry mt x k, ty, pos, af, none⟩).run X.P w = .ok (.value (.tuple #[.pointer none, goInt c])) (setB w m (.map (es.push ⟨.int .i64 s, .pointer none, c⟩) (c + 1))) := by
    unfold execOp Instr.mapEntry
    simp [hv, k1, h1, run_underlying ht.und, MapKept.run_getObj_map k2, hck, hfk, hset, hzv]
  unfold Oper.wp
  rw [hrun]
  refine hK _ _ ?_
  refine env_setB (fd := [.fact d (.tup2 .top (.stp q))]) env hg hf' ht' k3 (fun H hH => Facts.put (by rw [env.size]; exact hd') hH ⟨_, _, rfl, trivial, m, _, c, k1, setB_same k2, k3, rfl⟩) (fun v => ⟨m, es, c, lab, k1, setB_same k2, k3, k4, ?_, k6, k7, hn⟩)
  exact k5.stab (by rw [setB_size]; exact Nat.le_refl _) _ _ (fun d _ b hb hF _ hl => ⟨setB_other w m _ b (lab_ne k4 hl), hF, rfl⟩) (fun b hb hF => ⟨setB_other w m _ b (tag_ne hte k3 hF), hF⟩)
theorem findIdx_last {es : Array MapEntry} {e : MapEntry} {c : Nat} (h : ∀ x ∈ es.toList, x.born < c) (he : e.born = c) : (es.push e).findIdx? (fun x => (x.born : Int) == (c : Int)) = some es.size := by
  rw [Array.findIdx?_push]
  have : es.findIdx? (fun x => (x.born : Int) == (c : Int)) = none := by
    rw [Array.findIdx?_eq_none_iff]
    intro x hx
    have := h x (by simpa using hx)
    simp; omega
  rw [this, he]; simp
theorem newK_keys {L L' : List DRow} {s : Int} (h : newK L s = some L') : L' = L ++ [(s, [], [])] ∧ hasK L s = false := by
  unfold newK at h
  cases hk : hasK L s with
  | true => rw [hk] at h; cases h
  | false => rw [hk] at h; cases h; exact ⟨rfl, rfl⟩
theorem hasK_notin {L : List DRow} {s : Int} (h : hasK L s = false) : s ∉ L.map (·.1) := fun hm => by
  obtain ⟨x, hx, rfl⟩ := List.mem_map.1 hm
  unfold hasK at h
  have := List.any_eq_false.1 h x hx
  simp at this
theorem EntsH.app1 {F Fe : Nat → Prop} {lab : Nat → Int × Nat} {e1 e2 : TypeId} {w : World} {s : Int} {pv : Value} {m : MapEntry} (h1 : m.key = .int .i64 s) (h2 : m.val = pv) (r : List Int × List (List UInt8)) : ∀ (es : List MapEntry) (L : List DRow), EntsH F Fe lab e1 e2 w s pv es L → EntsH F Fe lab e1 e2 w s pv (es ++ [m]) (L ++ [(s, r)])
  | [], [], _ => ⟨fun h => (h rfl).elim, fun _ => ⟨h1, h2⟩, trivial⟩
  | _ :: es, _ :: L, h => ⟨h.1, h.2.1, EntsH.app1 h1 h2 r es L h.2.2⟩
  | [], _ :: _, h => h.elim
  | _ :: _, [], h => h.elim
theorem Step.entryStoreD {x y z : Operand} {mt : TypeId} {q u : Nat} {te : List Nat} {e1 e2 : TypeId} {L L' : List DRow} {s : Int} (hr : newK L s = some L') (hq : Nat.ble 10 q = true) (hte : te.elem q = false)
    (hx : Has G x (.isv q)) (hm : look G (rs q) = some (.mpe q te e1 e2 L s)) (hy : Has G y (.stp q)) (hz : Has G z (.isv u)) :
    Step X G ⟨none, .entryStore mt x y z, ty, pos, af, none⟩ [.fact (rs q) (.mph q te e1 e2 L' s u), .kill q] := fun G' hsub a w env K Q hK => by
  have ht' : 10 ≤ q := by simpa using hq
  obtain ⟨g, hg, hf'⟩ := env.facts
  have hf := hsub a w g hf'
  have hv : a.eval x = g.ga q := hx a w g hf
  have hzv : a.eval z = g.ga u := hz a w g hf
  obtain ⟨m, es, c, lab, k1, k2, k3, k4, k5, k6, k7, k8⟩ := hf _ _ hm
  obtain ⟨m', es', c', j1, j2, j3, j4⟩ := hy a w g hf
  rw [k1] at j1
  cases j1
  rw [k2] at j2
  simp only [Option.some.injEq, Obj.map.injEq, Nat.add_right_cancel_iff] at j2
  obtain ⟨rfl, rfl⟩ := j2
  obtain ⟨rfl, _⟩ := newK_keys hr
  have hset : ∀ o, (setObj m o).run X.P w = .ok () (setB w m o) := fun o => MapKept.run_setObj_map o k2
  have hmod : (es.push ⟨.int .i64 s, .pointer none, c⟩).modify es.size (fun e => { e with val := g.ga u }) = es.push ⟨.int .i64 s, g.ga u, c⟩ := by
    apply Array.ext
    · simp
    · intro i h1 h2
      rw [Array.getElem_modify]
      by_cases hi : es.size = i
      · subst hi; simp
      · rw [if_neg hi, Array.getElem_push, Array.getElem_push]
        have : i < es.size := by simp at h2; omega
        simp [this]
  have hrun : (execOp a.eval ⟨none, .entryStore mt x y z, ty, pos, af, none⟩).run X.P w = .ok .skip (setB w m (.map (es.push ⟨.int .i64 s, g.ga u, c⟩) (c + 1))) := by
    have hfl := findIdx_last (e := ⟨.int .i64 s, .pointer none, c⟩) k7 rfl
    unfold execOp Instr.entryStore
    simp [hv, hzv, j4, k1, goInt, asInt, asIntOf, MapKept.run_getObj_map k2, hfl, hset, hmod]
  unfold Oper.wp
  rw [hrun]
  refine hK undef _ ?_
  refine env_setB (fd := []) env hg hf' ht' k3 (fun H hH => hH) (fun v => ⟨m, _, c + 1, lab, k1, setB_same k2, k3, k4, ?_, ?_, ?_⟩)
  · rw [Array.toList_push]
    have h0 := k5.toH (s := s) (pv := g.ga u) _ _ k6 (fun h => by rw [k8] at h; cases h)
    exact EntsH.app1 (m := ⟨.int .i64 s, g.ga u, c⟩) rfl rfl ([], []) es.toList L <| h0.stab (by rw [setB_size]; exact Nat.le_refl _) _ _ (fun d _ _ b hb hF _ hl => ⟨setB_other w m _ b (lab_ne k4 hl), hF, rfl⟩) (fun b hb hF => ⟨setB_other w m _ b (tag_ne hte k3 hF), hF⟩)
  · rw [List.map_append, List.nodup_append]
    refine ⟨k6, by simp, fun a ha b hb => ?_⟩
    have hb : b = s := by simpa using hb
    subst hb
    exact fun h => hasK_notin k8 (by rw [← h]; exact ha)
  · intro e he
    rw [Array.toList_push] at he
    rcases List.mem_append.1 he with he | he
    · exact Nat.lt_succ_of_lt (k7 e he)
    · rw [List.mem_singleton.1 he]; exact Nat.lt_succ_self _
end
end
end GL

namespace GL
section
open Go

theorem facts_retagI {G : List It} {g g' : Gh} {a : Act} {w : World} {T : List Nat} (ts : List Nat) (h : Facts G g a w) (hom : ∀ b, g.om b ∉ T → g'.om b = g.om b) (hga : ∀ s, s ∉ ts → g'.ga s = g.ga s) : Facts (killIds ts (killTs T G)) g' a w := fun s f hl => by
  obtain ⟨I', _, h2, h3⟩ := lookK_killIds ts (killTs T G) [] [] s f hl
  obtain ⟨K', _, h4, h5⟩ := lookK_killTs T G [] I' s f h3
  have hd := lookK_disj G K' I' s f h5
  refine f.stab g g' _ w w ⟨Nat.le_refl _, fun b _ ht => ⟨rfl, hom b (fun hT => disj_spec hd.1 (h4 _ hT) ht)⟩, fun s' hs' => hga s' (fun he => disj_spec hd.2 (h2 _ he) hs')⟩ (h s f (lookK_sub G K' [] I' [] s f (by simp) (by simp) h5))

/-- The tags behind an entry's being taken apart. -/
def omF (om : Nat → Nat) (lab : Nat → Int × Nat) (q u : Nat) (s : Int) : Nat → Nat := fun b =>
  if om b = q ∧ lab b = (s, 0) then u else if om b = q ∧ lab b = (s, 1) then u + 5 else if om b = q ∧ lab b = (s, 2) then u + 6 else om b
def gaF (ga : Nat → Value) (u : Nat) (p : Value) (s : Int) (sv bv : Value) : Nat → Value := fun i =>
  if i = u then p else if i = u + 1 then .int .i64 s else if i = u + 2 then sv else if i = u + 3 then bv else if i = u + 4 then .slice none 0 0 else ga i
theorem omF_other {om : Nat → Nat} {lab : Nat → Int × Nat} {q u b : Nat} {s : Int} (h : om b ≠ q) : omF om lab q u s b = om b := by
  unfold omF
  rw [if_neg (fun e => h e.1), if_neg (fun e => h e.1), if_neg (fun e => h e.1)]
theorem omF_lab {om : Nat → Nat} {lab : Nat → Int × Nat} {q u b : Nat} {s : Int} (h : (lab b).1 ≠ s ∨ (lab b).2 = 3) : omF om lab q u s b = om b := by
  unfold omF
  have k : ∀ n, n ≤ 2 → ¬ (om b = q ∧ lab b = (s, n)) := fun n hn e => by
    rw [e.2] at h
    rcases h with h | h
    · exact h rfl
    · simp only at h; omega
  rw [if_neg (k 0 (by omega)), if_neg (k 1 (by omega)), if_neg (k 2 (by omega))]
theorem omF_cases (om : Nat → Nat) (lab : Nat → Int × Nat) (q u : Nat) (s : Int) (b : Nat) : omF om lab q u s b = om b ∨ (om b = q ∧ u ≤ omF om lab q u s b) := by
  unfold omF
  split
  · rename_i h; exact .inr ⟨h.1, Nat.le_refl _⟩
  · split
    · rename_i h; exact .inr ⟨h.1, by omega⟩
    · split
      · rename_i h; exact .inr ⟨h.1, by omega⟩
      · exact .inl rfl

section
variable {X : Cx} {G : List It} {dO : Option Nat} {d : Nat} {ty : TypeId} {pos : String} {af : Array Edge} {gd : Option (Nat × Bool)}
/-- An entry that is found, taken apart from its map: a variable of its own. -/
theorem Ad.focusD {sl q : Nat} {te : List Nat} {e1 e2 : TypeId} {L : List DRow} {s : Int} (u : Nat) (hu : Nat.ble 10 u = true) (hq : Nat.ble 10 q = true) (hqu : Nat.blt q u = true) (hte : te.elem q = false)
    (hs : look G sl = some (.lkp q s)) (hm : look G (rs q) = some (.mpd q te e1 e2 L)) (hb : hasK L s = true) :
    Ad X G (.fact sl (.isv u) :: .fact (rs u) (.obj u [(false, 1), (false, 1), (false, 1), (false, 1)]) :: .fact (rs (u + 1)) (.at (u + 1) (Fact.rep [] s)) :: .fact (rs (u + 2)) (.at (u + 2) (Fact.ow [u + 5] [] e1 (getK L s).2.1)) ::
      .fact (rs (u + 3)) (.at (u + 3) (Fact.ow [u + 6] te e2 (getK L s).2.2)) :: .fact (rs (u + 4)) (.at (u + 4) .nilv) :: .fact (rs q) (.mph q te e1 e2 L s u) :: killIds [u, u + 1, u + 2, u + 3, u + 4] (killTs [q] G)) := fun a w env => by
  have hu' : 10 ≤ u := by simpa using hu
  have hq' : 10 ≤ q := by simpa using hq
  have hqu' : q < u := by simpa [Nat.blt_eq] using hqu
  obtain ⟨g, hg, hf⟩ := env.facts
  obtain ⟨m, es, c, h1, h2, h3, h4⟩ : ∃ m es c, g.ga q = .map (some m) ∧ w.heap[m]? = some (.map es c) ∧ g.om m = q ∧ a.tmps.getD sl undef = lkV s es.toList := hf _ _ hs
  obtain ⟨m', es', c', lab, k1, k2, k3, k4, k5, k6, k7⟩ := hf _ _ hm
  rw [h1] at k1
  cases k1
  rw [h2] at k2
  cases k2
  rcases k5.find s with ⟨q1, _⟩ | ⟨_, q3, m1, q2, _, p, ty', sv, bv, r1, r2, r3, r4, r5, r6⟩
  · rw [hb] at q1; cases q1
  rw [q3] at r2 r4 r5 r6
  have hlk : lkV s es.toList = .pointer (some ⟨p, 0, none⟩) := by unfold lkV; rw [q2]; exact r1
  let g' : Gh := ⟨omF g.om lab q u s, gaF g.ga u (.pointer (some ⟨p, 0, none⟩)) s sv bv⟩
  have e0 : g'.ga u = .pointer (some ⟨p, 0, none⟩) := if_pos rfl
  have e1' : g'.ga (u + 1) = .int .i64 s := by show gaF _ _ _ _ _ _ (u + 1) = _; unfold gaF; rw [if_neg (by omega), if_pos rfl]
  have e2' : g'.ga (u + 2) = sv := by show gaF _ _ _ _ _ _ (u + 2) = _; unfold gaF; rw [if_neg (by omega), if_neg (by omega), if_pos rfl]
  have e3' : g'.ga (u + 3) = bv := by show gaF _ _ _ _ _ _ (u + 3) = _; unfold gaF; rw [if_neg (by omega), if_neg (by omega), if_neg (by omega), if_pos rfl]
  have e4' : g'.ga (u + 4) = .slice none 0 0 := by show gaF _ _ _ _ _ _ (u + 4) = _; unfold gaF; rw [if_neg (by omega), if_neg (by omega), if_neg (by omega), if_neg (by omega), if_pos rfl]
  have eo : ∀ i, i ∉ [u, u + 1, u + 2, u + 3, u + 4] → g'.ga i = g.ga i := fun i hi => by
    simp only [List.mem_cons, List.not_mem_nil, or_false, not_or] at hi
    show gaF _ _ _ _ _ _ i = _
    unfold gaF
    rw [if_neg hi.1, if_neg hi.2.1, if_neg hi.2.2.1, if_neg hi.2.2.2.1, if_neg hi.2.2.2.2]
  have eq' : g'.ga q = g.ga q := eo q (by simp; omega)
  have hr : ∀ b, g.om b ∉ [q] → g'.om b = g.om b := fun b hb => omF_other (by simpa using hb)
  have hold : ∀ b, g.om b < 10 → g'.om b = g.om b := fun b hb => omF_other (by omega)
  refine ⟨env.size, env.defers, env.fr, g', ⟨⟨fun b hb => by rw [hold b (hg.ok.old b hb)]; exact hg.ok.old b hb, fun b h1 h2 => ?_⟩, fun b hb => by rw [hold b (hg.ok.old b hb)]; exact hg.om b hb⟩, ?_⟩
  · rcases omF_cases g.om lab q u s b with h | ⟨_, h⟩
    · show 10 ≤ omF g.om lab q u s b
      rw [h]; exact hg.ok.new b h1 h2
    · show 10 ≤ omF g.om lab q u s b
      omega
  have hbase := facts_retagI (g' := g') [u, u + 1, u + 2, u + 3, u + 4] hf hr eo
  have hte' : ∀ b, g.om b ∈ te → g'.om b ∈ te := fun b hb => by
    have : g'.om b = g.om b := omF_other (fun e => by
      rw [e] at hb
      have : te.elem q = true := by simpa using hb
      rw [hte] at this; cases this)
    rw [this]; exact hb
  have hmq : g'.om m = q := by
    have : g'.om m = g.om m := omF_lab (.inr k4)
    rw [this]; exact h3
  have hall : Facts (.fact (rs u) (.obj u [(false, 1), (false, 1), (false, 1), (false, 1)]) :: .fact (rs (u + 1)) (.at (u + 1) (Fact.rep [] s)) :: .fact (rs (u + 2)) (.at (u + 2) (Fact.ow [u + 5] [] e1 (getK L s).2.1)) ::
      .fact (rs (u + 3)) (.at (u + 3) (Fact.ow [u + 6] te e2 (getK L s).2.2)) :: .fact (rs (u + 4)) (.at (u + 4) .nilv) :: .fact (rs q) (.mph q te e1 e2 L s u) :: killIds [u, u + 1, u + 2, u + 3, u + 4] (killTs [q] G)) g' a w := by
    refine Facts.ghost (Facts.ghost (Facts.ghost (Facts.ghost (Facts.ghost (Facts.ghost hbase ?_) ?_) ?_) ?_) ?_) ?_
    · intro v
      refine ⟨m, es, c, lab, by rw [eq']; exact h1, h2, hmq, k4, ?_, k6, k7⟩
      have h0 := k5.toH (s := s) (pv := g'.ga u) _ _ k6 (fun _ => by rw [hlk, e0])
      refine h0.stab (Nat.le_refl _) _ _ (fun dd _ hds b hb hF hl1 hl2 => ⟨rfl, ?_, rfl⟩) (fun b hb hF => ⟨rfl, hte' b hF⟩)
      show omF g.om lab q u s b = q
      rw [omF_lab (.inl (by rw [hl1]; exact hds))]; exact hF
    · intro v; exact e4'
    · intro v
      show (Fact.ow [u + 6] te e2 (getK L s).2.2).p g' (g'.ga (u + 3)) w
      rw [e3']
      exact r6.stab (Nat.le_refl _) (fun b _ hF => ⟨rfl, by
        show omF g.om lab q u s b ∈ [u + 6]
        unfold omF
        rw [if_neg (by rw [hF.2]; simp), if_neg (by rw [hF.2]; simp), if_pos ⟨hF.1, hF.2⟩]; simp⟩) (fun b _ hF => ⟨rfl, hte' b hF⟩)
    · intro v
      show (Fact.ow [u + 5] [] e1 (getK L s).2.1).p g' (g'.ga (u + 2)) w
      rw [e2']
      exact r5.stab (Nat.le_refl _) (fun b _ hF => ⟨rfl, by
        show omF g.om lab q u s b ∈ [u + 5]
        unfold omF
        rw [if_neg (by rw [hF.2]; simp), if_pos ⟨hF.1, hF.2⟩]; simp⟩) (fun _ _ h => h.elim)
    · intro v
      show (Fact.rep [] s).p g' (g'.ga (u + 1)) w
      rw [e1']; exact rep_int.2 rfl
    · intro v
      refine ⟨p, ty', _, e0, r2, ?_, ?_⟩
      · show omF g.om lab q u s p = u
        unfold omF
        rw [if_pos ⟨r3, r4⟩]
      · have sl1 : ∀ {α : Type} [Rp α] {F Fe : Nat → Prop} {e : TypeId} {l : List α} {v : Value}, OwRel F Fe e l v w → v.oneCell' = true := fun h => by
          obtain ⟨xs, hown, _⟩ := h
          rcases hown.2 with ⟨hv, _⟩ | ⟨b, cap, cur, hv, _⟩ <;> rw [hv] <;> rfl
        refine ⟨[.int .i64 s], [sv, bv, .slice none 0 0], rfl, rfl, by simp [Value.oneCell'], fun _ => rfl, e1', [sv], [bv, .slice none 0 0], rfl, rfl, by simpa using sl1 r5, fun _ => rfl, e2', [bv], [.slice none 0 0], rfl, rfl, by simpa using sl1 r6, fun _ => rfl, e3', [.slice none 0 0], [], rfl, rfl, by simp [Value.oneCell'], fun _ => rfl, e4', rfl⟩
  intro s' f' hl
  rcases lookK_nil_spec hl with ⟨rfl, rfl⟩ | ⟨_, hl⟩
  · show a.tmps.getD _ undef = g'.ga u
    rw [h4, hlk, e0]
  · exact hall s' f' hl

def apartB (l : List (List Nat)) : Bool := match l with
  | [] => true
  | x :: ls => (ls.all fun y => disj x y) && apartB ls
/-- The entry put back into its map. -/
theorem Ad.unfocusD {q u : Nat} {te te' T1 T2 t1 : List Nat} {e1 e2 : TypeId} {L : List DRow} {s : Int} {l1 : List Int} {l2 : List (List UInt8)} {teO : List Nat} (hq : Nat.ble 10 q = true) (hT : all10 (u :: (T1 ++ T2)) = true) (hap : apartB [[q], [u], T1, T2, teO] = true)
    (h1O : subB te teO = true) (h2O : subB te' teO = true) (hm : look G (rs q) = some (.mph q te e1 e2 L s u)) (ho : look G (rs u) = some (.obj u [(false, 1), (false, 1), (false, 1), (false, 1)]))
    (h1 : HasG G (u + 1) (Fact.rep [] s)) (h2 : HasG G (u + 2) (Fact.ow T1 t1 e1 l1)) (h3 : HasG G (u + 3) (Fact.ow T2 te' e2 l2)) (h4 : HasG G (u + 4) .nilv) :
    Ad X G (.fact (rs q) (.mpd q teO e1 e2 (putK L s (s, l1, l2))) :: killTs (q :: u :: (T1 ++ T2)) G) := fun a w env => by
  have hq' : 10 ≤ q := by simpa using hq
  obtain ⟨g, hg, hf⟩ := env.facts
  obtain ⟨m, es, c, lab, k1, k2, k3, k4, k5, k6, k7⟩ := hf _ _ hm
  obtain ⟨p, ty', cs, j1, j2, j3, j4⟩ := hf _ _ ho
  have f1 : g.ga (u + 1) = .int .i64 s := rep_int.1 (h1 a w g hf)
  have f2 := h2 a w g hf
  have f3 := h3 a w g hf
  have f4 : g.ga (u + 4) = .slice none 0 0 := h4 a w g hf
  simp only [apartB, List.all_cons, List.all_nil, Bool.and_true, Bool.and_eq_true] at hap
  obtain ⟨⟨a1, a2, a3, a4⟩, ⟨b1, b2, b3⟩, ⟨c1, c2⟩, c3⟩ := hap
  have dj : ∀ {x y : List Nat} {n : Nat}, disj x y = true → n ∈ x → n ∉ y := fun h hx hy => disj_spec h hy hx
  let K : List Nat := q :: u :: (T1 ++ T2)
  let om' : Nat → Nat := fun b => if g.om b ∈ K then q else g.om b
  let lab' : Nat → Int × Nat := fun b => if g.om b = u then (s, 0) else if g.om b ∈ T1 then (s, 1) else if g.om b ∈ T2 then (s, 2) else lab b
  let g' : Gh := ⟨om', g.ga⟩
  have h10 : ∀ b, g.om b ∈ K → 10 ≤ g.om b := fun b hb => by
    rcases List.mem_cons.1 hb with h | h
    · rw [h]; exact hq'
    · exact all10_spec hT h
  have hold : ∀ b, g.om b < 10 → om' b = g.om b := fun b hb => if_neg (fun h => by have := h10 b h; omega)
  have hcs : cs = #[.int .i64 s, g.ga (u + 2), g.ga (u + 3), .slice none 0 0] := by
    apply Array.toList_inj.1
    obtain ⟨x1, y1, z1, l1', _, _, w1, x2, y2, z2, l2', _, _, w2, x3, y3, z3, l3', _, _, w3, x4, y4, z4, l4', _, _, w4, z5⟩ := j4
    have one : ∀ {x : List Value}, x.length = 1 → ∃ v, x = [v] := fun h => List.length_eq_one_iff.1 h
    obtain ⟨v1, rfl⟩ := one l1'
    obtain ⟨v2, rfl⟩ := one l2'
    obtain ⟨v3, rfl⟩ := one l3'
    obtain ⟨v4, rfl⟩ := one l4'
    have z5 : y4 = [] := z5
    subst z5
    have w1 : g.ga (u + 1) = v1 := w1
    have w2 : g.ga (u + 2) = v2 := w2
    have w3 : g.ga (u + 3) = v3 := w3
    have w4 : g.ga (u + 4) = v4 := w4
    rw [z1, z2, z3, z4, ← w1, ← w2, ← w3, ← w4, f1, f4]
    rfl
  have hK : ∀ b, g.om b ∉ K → om' b = g.om b := fun b hb => if_neg hb
  have hteO : ∀ b, g.om b ∈ teO → om' b ∈ teO := fun b hb => by
    have : g.om b ∉ K := fun h => by
      rcases List.mem_cons.1 h with h | h
      · exact dj a4 (show g.om b ∈ [q] by simp [h]) hb
      · rcases List.mem_cons.1 h with h | h
        · exact dj b3 (show g.om b ∈ [u] by simp [h]) hb
        · rcases List.mem_append.1 h with h | h
          · exact dj c2 h hb
          · exact dj c3 h hb
    rw [hK b this]; exact hb
  have hlab : ∀ b, g.om b = q → lab' b = lab b := fun b hb => by
    show (if g.om b = u then _ else if g.om b ∈ T1 then _ else if g.om b ∈ T2 then _ else _) = _
    have hbq : g.om b ∈ [q] := by simp [hb]
    rw [if_neg (fun h => dj a1 hbq (by simp [h])), if_neg (dj a2 hbq), if_neg (dj a3 hbq)]
  refine ⟨env.size, env.defers, env.fr, g', ⟨⟨fun b hb => by show om' b < 10; rw [hold b (hg.ok.old b hb)]; exact hg.ok.old b hb, fun b h1 h2 => ?_⟩, fun b hb => by show om' b = _; rw [hold b (hg.ok.old b hb)]; exact hg.om b hb⟩, ?_⟩
  · show 10 ≤ om' b
    show 10 ≤ (if g.om b ∈ K then q else g.om b)
    split
    · exact hq'
    · exact hg.ok.new b h1 h2
  refine Facts.ghost (facts_retagI (T := K) [] hf hK (fun _ _ => rfl)) (fun v => ?_)
  have hqK : q ∈ K := List.mem_cons_self ..
  refine ⟨m, es, c, lab', k1, k2, if_pos (by rw [k3]; exact hqK), by rw [hlab m k3]; exact k4, ?_, by rw [putK_keys (dn := (s, l1, l2)) rfl]; exact k6, k7⟩
  have hbk : EntsH (fun b => om' b = q) (fun b => om' b ∈ teO) lab' e1 e2 w s (g.ga u) es.toList L := k5.stab (Nat.le_refl _) _ _ (fun dd _ _ b hb hF _ _ => by
      have hF : g.om b = q := hF
      exact ⟨rfl, if_pos (by rw [hF]; exact hqK), hlab b hF⟩) (fun b hb hF => ⟨rfl, hteO b (subB_spec h1O _ hF)⟩)
  refine EntsH.back (dn := (s, l1, l2)) rfl (fun m1 hk1 hv1 => ⟨hk1, p, ty', g.ga (u + 2), g.ga (u + 3), by rw [hv1, j1], by rw [j2, hcs], ?_, ?_, ?_, ?_⟩) _ _ hbk
  · exact if_pos (by rw [j3]; simp [K])
  · exact if_pos j3
  · obtain ⟨xs, x1, x2, x3⟩ := f2
    refine ⟨xs, x1, RelL.flat l1 xs x2, fun b hb => ⟨?_, ?_⟩⟩
    · have hF : g.om b ∈ T1 := x3 b hb
      exact if_pos (by simp [K, hF])
    · have hF : g.om b ∈ T1 := x3 b hb
      show (if g.om b = u then _ else if g.om b ∈ T1 then _ else if g.om b ∈ T2 then _ else _) = _
      rw [if_neg (fun h => dj b1 (show g.om b ∈ [u] by simp [h]) hF), if_pos hF]
  · refine f3.stab (Nat.le_refl _) (fun b _ hF => ⟨rfl, ?_, ?_⟩) (fun b _ hF => ⟨rfl, hteO b (subB_spec h2O _ hF)⟩)
    · have hF : g.om b ∈ T2 := hF
      exact if_pos (by simp [K, hF])
    · have hF : g.om b ∈ T2 := hF
      show (if g.om b = u then _ else if g.om b ∈ T1 then _ else if g.om b ∈ T2 then _ else _) = _
      rw [if_neg (fun h => dj b2 (show g.om b ∈ [u] by simp [h]) hF), if_neg (fun h => dj c1 h hF), if_pos hF]
end
end
end GL

