/- Own library, part 42: slices cut to their length, and lengthened by zeros. -/
import Derived.Test.YtgjibgklailenaaCore41
namespace GL
open Go

/-- A slice without room behind its elements. -/
def Fact.repC {α : Type} [R : Rp α] (T : List Nat) (l : List α) : Fact where
  tags := T
  ids := []
  p := fun g v w => Rep (fun b => g.om b ∈ T) l v w ∧ ∃ a, v = .slice a l.length l.length
  stab := fun g g' v w w' hk h => ⟨(Fact.rep T l).stab g g' v w w' hk h.1, h.2⟩

/-- append of so many zeros. -/
def appZ {α : Type} (z : α) (l : List α) (n : Int) : Option (List α) := if 0 ≤ n ∧ (l.length : Int) + n < 4294967296 then some (l ++ List.replicate n.toNat z) else none

theorem run_append_zeros {P : Program} (w : World) (t ti ty e : TypeId) (i : TypeInfo) (z : Value) (ht : P.underlying t = some (.slice e)) (hti : P.underlying ti = some (.int .i64)) (hi : P.info? e = some i) (hz : i.zero = some z)
    (b : Option Addr) (sLen : Nat) (olds : Array Value) (holds : ∀ w', (∀ a, w'.cell? a = w.cell? a) → (Builtin.firstCells i.size sLen (.slice b sLen sLen)).run P w' = .ok olds w') (n : Nat) (hn : 0 < n) (hnz : n * i.size ≠ 0)
    (h63 : ((sLen + n : Nat) : Int) ≤ 9223372036854775807) (hfit0 : n * i.bytes ≤ 281474976710656) (hfit : Builtin.nextslicecap (sLen + n) sLen * i.bytes ≤ 281474976710656) :
    (Builtin.append_ #[t, ti] ty #[.slice b sLen sLen, .int .i64 n]).run P w =
      .ok (.slice (some ⟨w.heap.size, 0, none⟩) (sLen + n) (grownCap w (sLen + n) sLen e))
        (w.drew.alloc (.cells (olds ++ Builtin.zeroCells z.cells n ++ Builtin.zeroCells z.cells (grownCap w (sLen + n) sLen e - (sLen + n))) e)) := by
  have hn1 : ¬ (sLen + n ≤ sLen) := by omega
  have h63' : ¬ (9223372036854775807 < ((sLen : Int) + (n : Int))) := by omega
  have h48' : ¬ (281474976710656 < Builtin.nextslicecap (sLen + n) sLen * i.bytes) := by omega
  have h480 : ¬ (281474976710656 < (n : Int) * (i.bytes : Int)) := by
    have : ((n * i.bytes : Nat) : Int) ≤ 281474976710656 := by omega
    rw [Int.natCast_mul] at this
    omega
  have hfo := holds w.drew (fun a => by simp)
  have hw : IntKind.i64.wrap (n : Int) = (n : Int) := wI_id (by omega) (by omega)
  have hneg : ¬ ((n : Int) < 0) := by omega
  simp [Builtin.append_, run_underlying ht, run_underlying hti, Go.sizeOf, typeInfo, zeroValue, hi, hz, Go.asInt, asIntOf, hw, hneg, h480, hnz, hn1, h63', h48', Question.forced, hfo, newRow, grownCap]

section
variable {X : Cx} {G : List It} {dO : Option Nat} {ty : TypeId} {pos : String} {af : Array Edge} {gd : Option (Nat × Bool)}
/-- x[:n:n]. -/
theorem Spec.slc3 {α : Type} [R : Rp α] {x hi mx : Operand} {T T1 T2 : List Nat} {l r : List α} {n : Int} {t e : TypeId} (hr : GL.slc l 0 n = some r) (ht : SlTy X.P t e α)
    (hx : Has G x (Fact.rep T l)) (hhi : Has G hi (Fact.rep T1 n)) (hmx : Has G mx (Fact.rep T2 n)) : Spec X G ⟨dO, .slice t x none (some hi) (some mx), ty, pos, af, gd⟩ (Fact.repC T r) := by
  unfold GL.slc at hr
  split at hr
  case isFalse => cases hr
  rename_i hc
  cases hr
  refine Spec.pure fun a w g hf => ?_
  have h := hx a w g hf
  obtain ⟨ad, c, hv, hlc, hnil, hcells⟩ := rep_list h
  have h1 := rep_int.1 (hhi a w g hf)
  have h2 := rep_int.1 (hmx a w g hf)
  have g1 : n ≤ (c : Int) := by omega
  have g2 : 0 ≤ n := by omega
  have hml : min n.toNat l.length = n.toNat := by omega
  have hlen : ((l.take n.toNat).drop (0 : Int).toNat).length = n.toNat := by simp; omega
  refine ⟨.slice (if n.toNat = 0 then ad else ad.map (·.add 0)) n.toNat n.toNat, ?_, ?_, (if n.toNat = 0 then ad else ad.map (·.add 0)), by rw [hlen]⟩
  · unfold execOp
    simp only [Option.map_some, Option.map_none, hv, h1, h2, Sem.run_bind, Sem.run_map]
    unfold Instr.sliceAt
    simp [run_underlying ht.und, Instr.slice, Instr.sliceBounds, Instr.sliceBound, asIntOf, g1, g2, rt_sizeOf ht.el]
    intro h9
    omega
  · have had : (if n.toNat = 0 then ad else ad.map (·.add 0)) = ad := by
      split
      · rfl
      · cases ad with
        | none => rfl
        | some x => simp [Go.Addr.add_zero']
    rw [had]
    have hdrop : (l.take n.toNat).drop (0 : Int).toNat = l.take n.toNat := by simp
    rw [hdrop] at hlen ⊢
    refine ⟨[.slice ad n.toNat n.toNat], ⟨ad, n.toNat, by rw [hlen], by rw [hlen]; exact Nat.le_refl _, fun h0 => ?_, fun x hx i y hy => ?_⟩, rfl⟩
    · obtain ⟨e1, e2⟩ := hnil h0
      subst e1
      simp at hml hlen ⊢
      omega
    · refine hcells x hx i y ?_
      rw [List.getElem?_take] at hy
      split at hy
      · exact hy
      · cases hy
theorem firstCells_repC {P : Program} {α : Type} [R : Rp α] {F : Nat → Prop} {l : List α} {a : Option Addr} {w : World} (h : Rep F l (.slice a l.length l.length) w) :
    ∃ olds : List Value, RelL F l olds w ∧ ∀ w', (∀ a, w'.cell? a = w.cell? a) → (Builtin.firstCells R.n l.length (.slice a l.length l.length)).run P w' = .ok olds.toArray w' := by
  obtain ⟨ad, c, hv, hlc, hnil, hcells⟩ := rep_list h
  cases hv
  cases a with
  | none =>
    obtain ⟨e1, _⟩ := hnil rfl
    subst e1
    exact ⟨[], rfl, fun w' _ => by simp [Builtin.firstCells]⟩
  | some ad =>
    obtain ⟨news, hn1, hn2⟩ := cells_of_rep (w := w) (F := F) (ad := ad) l 0 (fun i y hy => by
      obtain ⟨_, _, es, h1, h2⟩ := hcells ad rfl i y hy
      exact ⟨es, by simpa using h1, h2⟩)
    have hn2 : CellsAt w ad news := by simpa [Go.Addr.add_zero'] using hn2
    have hnl := RelL.len _ _ hn1
    refine ⟨news, hn1, fun w' hw => ?_⟩
    exact run_firstCells_some (P := P) w' R.n l.length ad l.length l.length news hnl (fun j u hj => by rw [hw]; exact (hn2 j u hj).1)
theorem Cv.repC {α : Type} [R : Rp α] {T : List Nat} {l : List α} : Cv G (Fact.repC T l) (Fact.rep T l) := fun _ _ _ _ _ h => h.1

theorem Spec.appZ {α : Type} [R : Rp α] [Fl : Flat α] {s x : Operand} {T T1 : List Nat} {l r : List α} {n : Int} {z : α} (t : Nat) {ts e ti : TypeId} (hr : GL.appZ z l n = some r) (ht : Nat.ble 10 t = true) (hty : OwnTy X.P ts e α) (hz : ZeroTy X.P e z)
    (hti : X.P.underlying ti = some (.int .i64)) (hs : Has G s (Fact.repC T l)) (hx : Has G x (Fact.rep T1 n)) :
    Spec X G ⟨dO, .call { callee := .builtin .append, args := #[s, x], argTypes := #[ts, ti] }, ty, pos, af, gd⟩ (Fact.rep (t :: T) r) := fun a w g hsz hfr hg hf => by
  have ht' : 10 ≤ t := by simpa using ht
  unfold GL.appZ at hr
  split at hr
  case isFalse => cases hr
  rename_i hn
  cases hr
  obtain ⟨h1, ad, hv⟩ := hs a w g hf
  have h2 := rep_int.1 (hx a w g hf)
  obtain ⟨i, zv, hi, hiz, hisz, hby, hzs⟩ := hty.info
  obtain ⟨m, rfl⟩ : ∃ m : Nat, n = (m : Int) := ⟨n.toNat, by omega⟩
  simp only [Int.toNat_natCast]
  rw [hv] at h1
  obtain ⟨olds, ho1, ho2⟩ := firstCells_repC (P := X.P) h1
  have hol := RelL.len _ _ ho1
  by_cases hm : m = 0
  · subst hm
    have hrun : (execOp a.eval ⟨dO, .call { callee := .builtin .append, args := #[s, x], argTypes := #[ts, ti] }, ty, pos, af, gd⟩).run X.P w = .ok (.value (.slice ad l.length l.length)) w := by
      unfold execOp
      have hw : IntKind.i64.wrap 0 = 0 := by decide
      cases ad with
      | none => simp [resolve, invoke, builtin, hv, h2, Builtin.append_, run_underlying hty.und, run_underlying hti, Go.sizeOf, typeInfo, zeroValue, hi, hiz, Go.asInt, asIntOf, hw]
      | some ad => simp [resolve, invoke, builtin, hv, h2, Builtin.append_, run_underlying hty.und, run_underlying hti, Go.sizeOf, typeInfo, zeroValue, hi, hiz, Go.asInt, asIntOf, storeCells, hw]
    refine Yields.val hrun ⟨Fr.refl _ _, g, hg, fun _ _ => rfl, fun _ => rfl, ?_⟩
    rw [List.replicate_zero, List.append_nil]
    exact Rep.mono h1 (fun _ _ hb => List.mem_cons_of_mem _ hb)
  · have hp := hty.pos
    have hb1 : (l.length + m) * i.bytes ≤ 140737488355328 := by
      have : (l.length + m) * i.bytes ≤ 4294967296 * 32768 := Nat.mul_le_mul (by omega) hby
      omega
    have hb2 : m * i.bytes ≤ 281474976710656 := by
      have : m * i.bytes ≤ 4294967296 * 32768 := Nat.mul_le_mul (by omega) hby
      omega
    have hr := run_append_zeros (P := X.P) (ty := ty) w ts ti e i zv hty.und hti hi hiz ad l.length olds.toArray (by rw [hisz]; exact ho2) m (by omega) (by rw [hisz]; exact Nat.mul_ne_zero hm (by omega)) (by omega) hb2 (growslice_fits (by omega) hb1)
    have hrun : (execOp a.eval ⟨dO, .call { callee := .builtin .append, args := #[s, x], argTypes := #[ts, ti] }, ty, pos, af, gd⟩).run X.P w = .ok (.value (.slice (some ⟨w.heap.size, 0, none⟩) (l.length + m) (grownCap w (l.length + m) l.length e)))
        (w.drew.alloc (.cells (olds.toArray ++ Builtin.zeroCells zv.cells m ++ Builtin.zeroCells zv.cells (grownCap w (l.length + m) l.length e - (l.length + m))) e)) := by
      unfold execOp
      simp [resolve, invoke, builtin, hv, h2, hr]
    have hzcells : ∀ q : Nat, (Builtin.zeroCells zv.cells q).toList = (List.replicate q zv.cells.toList).flatten := fun q => by
      have h1 := madeCells_flatten zv.cells.toList q
      simp only [Array.toArray_toList, Array.length_toList] at h1
      rw [← h1]; rfl
    have hzl : ∀ q : Nat, ((List.replicate q zv.cells.toList).flatten).length = q * R.n := fun q => by simp [hzs]
    have hcapge := grownCap_ge w (l.length + m) l.length e
    have hcapm := grownCap_le_maxLen w (l.length + m) l.length e (by simp only [maxLen]; omega)
    refine Yields.val hrun ⟨(Fr.refl _ w).drew.trans (Fr.alloc w.drew _) (fun _ _ h => h), tagNew g w.heap.size t, hg.tagNew ht' (by simp) hfr.size, fun b hb => by simp [tagNew, hb], fun _ => rfl, ?_⟩
    generalize hcap : grownCap w (l.length + m) l.length e = cap at hcapge hcapm
    have hlist : (olds.toArray ++ Builtin.zeroCells zv.cells m ++ Builtin.zeroCells zv.cells (cap - (l.length + m))).toList = (olds ++ (List.replicate m zv.cells.toList).flatten) ++ (List.replicate (cap - (l.length + m)) zv.cells.toList).flatten := by
      simp [hzcells]
    have hsize : (olds ++ (List.replicate m zv.cells.toList).flatten).length = (l.length + m) * R.n := by
      rw [List.length_append, hol, hzl, Nat.add_mul]
    obtain ⟨zv', hz1, hz2⟩ := hz
    rw [hi] at hz1
    simp only [Option.bind_some, hiz, Option.some.injEq] at hz1
    subst hz1
    have hO : OwRel (fun b => (tagNew g w.heap.size t).om b ∈ [t]) (fun _ => False) e (l ++ List.replicate m z) (.slice (some ⟨w.heap.size, 0, none⟩) (l.length + m) cap) (w.drew.alloc (.cells (olds.toArray ++ Builtin.zeroCells zv.cells m ++ Builtin.zeroCells zv.cells (cap - (l.length + m))) e)) := by
      refine ⟨olds ++ (List.replicate m zv.cells.toList).flatten, ⟨by rw [hsize]; simp, .inr ⟨w.heap.size, cap, _, by simp, Nat.zero_le _, heap_alloc_new w.drew _, by simp; omega, hcapm, ?_, ?_⟩⟩, ?_, fun b hb => ?_⟩
      · rw [← Array.length_toList, hlist, List.length_append, hsize, hzl, ← Nat.add_mul]
        congr 1
        omega
      · rw [hlist, show (l ++ List.replicate m z).length = l.length + m by simp, ← hsize, List.take_left]
      · exact RelL.app _ _ _ _ (RelL.flat l olds ho1) (RelL.rep (hz2 _) m)
      · simp only [Value.ownBlock, Option.some.injEq] at hb
        simp [tagNew, ← hb]
    exact SlRel.rep (fun b hb => by simp at hb; simp [hb]) (fun _ hb => hb.elim) hO.sl
end
end GL
