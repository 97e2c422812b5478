/- Own library, part 34: elements' memory apart from the slice's; windows of own memory. -/
import Derived.Test.YtgjibgklailenaaCore33
namespace GL
open Go

/-- A pointer to an element that leans on other memory. -/
def Fact.pts {α : Type} [R : Rp α] (T te : List Nat) (x : α) : Fact where
  tags := T ++ te
  ids := []
  p := fun g v w => ∃ ad, v = .pointer (some ad) ∧ g.om ad.block ∈ T ∧ ad.block < w.heap.size ∧ ∃ es, CellsAt w ad es ∧ R.rel (fun b => g.om b ∈ te) x es w
  stab := fun g g' v w w' hk h => by
    obtain ⟨ad, hv, ht, hlt, es, he, hr⟩ := h
    have hb := hk.block ad.block hlt (List.mem_append_left _ ht)
    exact ⟨ad, hv, by rw [hb.2]; exact ht, Nat.lt_of_lt_of_le hlt hk.size, es, he.stab hb.1,
      R.stab _ _ x es w w' hk.size (fun b hb ht => ⟨(hk.block b hb (List.mem_append_right _ ht)).1, by rw [(hk.block b hb (List.mem_append_right _ ht)).2]; exact ht⟩) hr⟩

theorem RelL.take {α : Type} [R : Rp α] {F : Nat → Prop} {w : World} : ∀ (l : List α) (xs : List Value) (k : Nat), RelL F l xs w → RelL F (l.take k) (xs.take (k * R.n)) w
  | [], xs, k, h => by rw [show xs = [] from h]; simp [RelL]
  | y :: l, xs, 0, h => by simp [RelL]
  | y :: l, xs, k + 1, h => by
    obtain ⟨c1, c2, rfl, h1, h2⟩ := h
    have hl1 := R.len _ _ _ _ h1
    refine ⟨c1, c2.take (k * R.n), ?_, h1, RelL.take l c2 k h2⟩
    rw [List.take_append, show (k + 1) * R.n - c1.length = k * R.n by rw [hl1, Nat.add_mul]; omega, List.take_of_length_le (by rw [hl1, Nat.add_mul]; omega)]

section
variable {X : Cx} {G : List It} {Q : Exit → Act → World → Prop} {d : Option Nat} {ty : TypeId} {pos : String} {af : Array Edge} {gd : Option (Nat × Bool)}
theorem Spec.indexSl {x i : Operand} {α : Type} [R : Rp α] {T te T' : List Nat} {l : List α} {n : Int} {r : α} {t e : TypeId} (hr : idx l n = some r) (ht : SlTy X.P t e α)
    (hx : Has G x (Fact.sl T te l)) (hi : Has G i (Fact.rep T' n)) : Spec X G ⟨d, .indexAddr t x i, ty, pos, af, gd⟩ (Fact.pts T te r) := by
  unfold idx at hr
  split at hr
  case isFalse => cases hr
  rename_i h0
  have hlt : n.toNat < l.length := (List.getElem?_eq_some_iff.1 hr).1
  refine Spec.pure fun a w g hf => ?_
  obtain ⟨ad, c, hv, hc, hnil, hcells⟩ := hx a w g hf
  have h2 := rep_int.1 (hi a w g hf)
  cases ad with
  | none => have := (hnil rfl).1; subst this; simp at hlt
  | some ad =>
    obtain ⟨hF, hb, es, he, hrel⟩ := hcells ad rfl n.toNat r hr
    refine ⟨.pointer (some (ad.add (n.toNat * R.n))), ?_, ad.add (n.toNat * R.n), rfl, ?_, ?_, es, he, hrel⟩
    · unfold execOp
      simp [hv, h2, run_indexAt (R := R) ht.und ht.el h0 (show n < (l.length : Int) by omega)]
    · rw [Addr.add_block]; exact hF
    · rw [Addr.add_block]; exact hb
theorem Spec.loadS {x : Operand} {α : Type} [R : Rp α] {T te : List Nat} {r : α} {t : TypeId} (ht : Ty X.P t α) (hx : Has G x (Fact.pts T te r)) : Spec X G ⟨d, .load t x, ty, pos, af, gd⟩ (Fact.rep te r) :=
  Spec.pure fun a w g hf => by
    obtain ⟨ad, hv, _, _, es, he, hrel⟩ := hx a w g hf
    refine ⟨mkV R.agg es, ?_, es, hrel, rfl⟩
    unfold execOp
    simp [hv, Instr.loadAt, Instr.sureAddr, run_loadVar_rel ht he hrel]
theorem Spec.fieldAddrS {x : Operand} {s : TypeId} {i off n : Nat} {T te : List Nat} {α β : Type} [R : Rp α] [R' : Rp β] {y : α} {z : β} {es : List Ent} (h : FieldTy X.P s i off n) (hc : Ch y es) (he : entAt es i = some (off, ⟨R', z⟩))
    (hx : Has G x (Fact.pts T te y)) : Spec X G ⟨d, .fieldAddr s x i, ty, pos, af, gd⟩ (Fact.pts T te z) :=
  Spec.pure fun a w g hf => by
    obtain ⟨ad, hv, ht, hlt, cs, hcs, hrel⟩ := hx a w g hf
    obtain ⟨c, hc1, hc2⟩ := EntsRel.at es cs i off _ ((hc.rel _ _ _).1 hrel) he
    refine ⟨.pointer (some (ad.add off)), ?_, ad.add off, rfl, by rw [Addr.add_block]; exact ht, by rw [Addr.add_block]; exact hlt, c, hcs.sub hc2, hc1⟩
    unfold execOp
    simp [hv, run_fieldAt h]
/-- A variable of a function's type. -/
theorem FldRel.zt {g : Gh} {w : World} {ls : Ls} {cs : List Value} (k : FldRel g w ls cs) : FldRel g w ((false, 1, .top) :: ls) (.nilFunc :: cs) :=
  ⟨[.nilFunc], cs, rfl, rfl, by simp [Value.oneCell'], fun _ => rfl, trivial, k⟩

/-! ### windows -/
/-- What lies from place k on of own memory. -/
def Fact.win (t k n : Nat) : Fact where
  tags := []
  ids := [t]
  p := fun g v _ => (∃ b cap m, g.ga t = .slice (some ⟨b, 0, none⟩) m cap ∧ k ≤ m ∧ v = .slice (some (if cap = k then ⟨b, 0, none⟩ else (⟨b, 0, none⟩ : Addr).add (k * n))) (m - k) (cap - k)) ∨
    (g.ga t = .slice none 0 0 ∧ v = .slice none 0 0 ∧ k = 0)
  stab := fun g g' v w w' hk h => by rw [hk.ids t (by simp)]; exact h

theorem Spec.slcWin {α : Type} [R : Rp α] {x lo : Operand} {t : Nat} {te T1 : List Nat} {l r : List α} {m : Int} {ts e : TypeId} (hr : GL.slc l m l.length = some r) (hty : OwnTy X.P ts e α)
    (hx : Has G x (.isv t)) (hrs : look G (rs t) = some (.own t te e l)) (hlo : Has G lo (Fact.rep T1 m)) : Spec X G ⟨d, .slice ts x (some lo) none none, ty, pos, af, gd⟩ (.win t m.toNat R.n) := by
  unfold GL.slc at hr
  split at hr
  case isFalse => cases hr
  rename_i hc
  refine Spec.pure fun a w g hf => ?_
  have hv : a.eval x = g.ga t := hx a w g hf
  obtain ⟨xs, hown, _, _⟩ := hf _ _ hrs
  have h1 := rep_int.1 (hlo a w g hf)
  rcases hown.2 with ⟨hnil, hn⟩ | ⟨b, cap, cs, hga, h0, hh, hnc, hcm, hcs, htake⟩
  · have hm : m.toNat = 0 := by omega
    refine ⟨.slice none 0 0, ?_, .inr ⟨hnil, rfl, hm⟩⟩
    have hm0 : m = 0 := by omega
    unfold execOp
    simp only [Option.map_some, Option.map_none, hv, hnil, h1, hm0, Sem.run_bind, Sem.run_map]
    unfold Instr.sliceAt
    simp [run_underlying hty.und, Instr.slice, Instr.sliceBounds, Instr.sliceBound, asIntOf, rt_sizeOf hty.el]
  · refine ⟨.slice (some (if cap = m.toNat then ⟨b, 0, none⟩ else (⟨b, 0, none⟩ : Addr).add (m.toNat * R.n))) (l.length - m.toNat) (cap - m.toNat), ?_, .inl ⟨b, cap, l.length, hga, by omega, rfl⟩⟩
    unfold execOp
    simp only [Option.map_some, Option.map_none, hv, hga, h1, Sem.run_bind, Sem.run_map]
    unfold Instr.sliceAt
    simp [run_underlying hty.und, Instr.slice, Instr.sliceBounds, Instr.sliceBound, asIntOf, hc.1, hc.2.1, rt_sizeOf hty.el]
    split <;> rfl

theorem Spec.slcHiOw {α : Type} [R : Rp α] {x hi : Operand} {T te T1 : List Nat} {l r : List α} {n : Int} {ts e : TypeId} (hr : GL.slc l 0 n = some r) (hty : OwnTy X.P ts e α)
    (hx : Has G x (Fact.ow T te e l)) (hhi : Has G hi (Fact.rep T1 n)) : Spec X G ⟨d, .slice ts x none (some hi) none, ty, pos, af, gd⟩ (Fact.ow T te e r) := by
  unfold GL.slc at hr
  split at hr
  case isFalse => cases hr
  rename_i hc
  obtain rfl := Option.some.inj hr
  refine Spec.pure fun a w g hf => ?_
  obtain ⟨xs, hown, hrel, htag⟩ := hx a w g hf
  have h1 := rep_int.1 (hhi a w g hf)
  have hlen := hown.1
  have hn0 : 0 ≤ n := by omega
  have hnl : n.toNat ≤ l.length := by omega
  have hsplit : RelL (fun b => g.om b ∈ te) (l.take n.toNat) (xs.take (n.toNat * R.n)) w := by
    exact RelL.take l xs n.toNat hrel
  have htl : (xs.take (n.toNat * R.n)).length = n.toNat * R.n := by
    rw [List.length_take, hlen]; exact Nat.min_eq_left (Nat.mul_le_mul_right _ hnl)
  rcases hown.2 with ⟨hnil, hn⟩ | ⟨b, cap, cs, hga, h0, hh, hnc, hcm, hcs, htake⟩
  · have hm : n = 0 := by omega
    subst hm
    refine ⟨.slice none 0 0, ?_, [], ⟨by simp, .inl ⟨rfl, by simp⟩⟩, by simp [RelL], by simp [Value.ownBlock]⟩
    unfold execOp
    simp only [Option.map_some, Option.map_none, hnil, h1, Sem.run_bind, Sem.run_map]
    unfold Instr.sliceAt
    simp [run_underlying hty.und, Instr.slice, Instr.sliceBounds, Instr.sliceBound, asIntOf, rt_sizeOf hty.el]
  · have hlt : (List.drop (Int.toNat 0) (List.take n.toNat l)).length = n.toNat := by simp; omega
    refine ⟨.slice (some ⟨b, 0, none⟩) n.toNat cap, ?_, xs.take (n.toNat * R.n), ⟨by rw [hlt]; exact htl, .inr ⟨b, cap, cs, by rw [hlt], h0, hh, by rw [hlt]; omega, hcm, hcs, ?_⟩⟩, by simpa using hsplit, fun b' hb' => htag b' (by rw [hga]; exact hb')⟩
    · have g1 : n ≤ (cap : Int) := by omega
      unfold execOp
      simp only [Option.map_some, Option.map_none, hga, h1, Sem.run_bind, Sem.run_map]
      unfold Instr.sliceAt
      simp [run_underlying hty.und, Instr.slice, Instr.sliceBounds, Instr.sliceBound, asIntOf, g1, hn0, rt_sizeOf hty.el]
      intro _; exact Go.Addr.add_zero' _
    · rw [hlt, ← htake, List.take_take]
      congr 1
      exact (Nat.min_eq_left (Nat.mul_le_mul_right _ hnl)).symm

/-- clear of what lies from a place on. -/
theorem Step.clearWin {α : Type} [R : Rp α] {x : Operand} {te te' : List Nat} {l : List α} {z : α} {t k : Nat} {ts e : TypeId} (hty : OwnTy X.P ts e α) (hz : ZeroTy X.P e z) (ht : Nat.ble 10 t = true)
    (hx : Has G x (.win t k R.n)) (hrs : look G (rs t) = some (.own t te e l)) (hte : ElKeep (α := α) t te te') :
    Step X G ⟨none, .call { callee := .builtin .clear, args := #[x], argTypes := #[ts] }, ty, pos, af, none⟩ [.fact (rs t) (.own t te' e (l.take k ++ List.replicate (l.length - k) z)), .kill t] := fun G' hsub a w env K Q hK => by
  have ht' : 10 ≤ t := by simpa using ht
  obtain ⟨g, hg, hf'⟩ := env.facts
  have hf := hsub a w g hf'
  obtain ⟨xs, hown, hrel, htag⟩ := hf _ _ hrs
  obtain ⟨i, zv, hi, hiz, hisz, hby, hzs⟩ := hty.info
  obtain ⟨zv', hz1, hz2⟩ := hz
  rw [hi] at hz1
  simp only [Option.bind_some, hiz, Option.some.injEq] at hz1
  subst hz1
  rcases hown.2 with ⟨hnil, hn⟩ | ⟨b, cap, cs, hga, h0, hh, hnc, hcm, hcs, htake⟩
  · have hk : a.eval x = .slice none 0 0 := by
      rcases hx a w g hf with ⟨b, cap, m, h1, _⟩ | ⟨_, h2, _⟩
      · rw [hnil] at h1; cases h1
      · exact h2
    have hl : l = [] := List.eq_nil_of_length_eq_zero hn
    have hrun : (execOp a.eval ⟨none, .call { callee := .builtin .clear, args := #[x], argTypes := #[ts] }, ty, pos, af, none⟩).run X.P w = .ok (.value (.tuple #[])) w := by
      unfold execOp
      simp [resolve, invoke, builtin, hk, Builtin.clear_, run_underlying hty.und]
    unfold Oper.wp
    rw [hrun]
    refine hK _ w ?_
    refine ⟨by simp [Act.put, env.size], env.defers, env.fr, g, hg, ?_⟩
    show Facts _ g a w
    refine Facts.ghost (facts_killed' hf' (Nat.le_refl _) (fun _ _ _ => rfl)) (fun v => ⟨[], ?_, ?_, htag⟩)
    · rw [hnil, hl]; simp; exact World.ownsRow_nil w 0 e R.n
    · rw [hl]; simp [RelL]
  · obtain ⟨hkm, hev⟩ : k ≤ l.length ∧ a.eval x = .slice (some (if cap = k then ⟨b, 0, none⟩ else (⟨b, 0, none⟩ : Addr).add (k * R.n))) (l.length - k) (cap - k) := by
      rcases hx a w g hf with ⟨b', cap', m, h1, h2, h3⟩ | ⟨h1, _⟩
      · rw [hga] at h1; cases h1; exact ⟨h2, h3⟩
      · rw [hga] at h1; cases h1
    have hom : g.om b = t := htag b (by rw [hga]; rfl)
    by_cases hl0 : l.length - k = 0
    · have hrun : (execOp a.eval ⟨none, .call { callee := .builtin .clear, args := #[x], argTypes := #[ts] }, ty, pos, af, none⟩).run X.P w = .ok (.value (.tuple #[])) w := by
        unfold execOp
        simp [resolve, invoke, builtin, hev, hl0, Builtin.clear_, run_underlying hty.und]
      unfold Oper.wp
      rw [hrun]
      refine hK _ w ?_
      refine ⟨by simp [Act.put, env.size], env.defers, env.fr, g, hg, ?_⟩
      show Facts _ g a w
      have he : l.take k ++ List.replicate (l.length - k) z = l := by rw [hl0, List.take_of_length_le (by omega)]; simp
      refine Facts.ghost (facts_killed' hf' (Nat.le_refl _) (fun _ _ _ => rfl)) (fun v => ⟨xs, ?_, ?_, htag⟩)
      · rw [he]; exact hown
      · rw [he]; exact hte (fun b => g.om b ∈ te') g w w l xs (Nat.le_refl _) (fun _ _ _ => rfl) (fun _ _ h => h) hrel
    · have hck : ¬ (cap = k) := by omega
      rw [if_neg hck, Go.Addr.add_lit] at hev
      have hzl : (madeCells zv.cells ((l.length - k) * R.n)).toList = (List.replicate (l.length - k) zv.cells.toList).flatten := by
        have h1 := madeCells_flatten zv.cells.toList (l.length - k)
        simpa [hzs] using h1
      have hzc : ∀ c ∈ zv.cells.toList, c.oneCell' = true := R.one _ _ _ _ (hz2 w)
      have hlen : ((List.replicate (l.length - k) zv.cells.toList).flatten).length = (l.length - k) * R.n := by simp [hzs]
      have hkn : k * R.n + (l.length - k) * R.n = l.length * R.n := by rw [← Nat.add_mul]; congr 1; omega
      have hcn : l.length * R.n ≤ cap * R.n := Nat.mul_le_mul_right _ hnc
      have hst := run_storeCells_at X.P b (0 + k * R.n) e ((List.replicate (l.length - k) zv.cells.toList).flatten) 0 cs w hh (by rw [hlen]; omega) (fun c hc => by
        obtain ⟨y, hy, hcy⟩ := List.mem_flatten.1 hc
        exact hzc c (by rw [(List.mem_replicate.1 hy).2] at hcy; exact hcy))
      have hzcells : (Builtin.zeroCells zv.cells (l.length - k)).toList = (List.replicate (l.length - k) zv.cells.toList).flatten := by
        rw [← hzl, ← hzs]; rfl
      rw [hlen] at hst
      simp only [Nat.zero_add, Nat.add_zero] at hst hev
      let row : Array Value := (cs.toList.take (k * R.n) ++ (List.replicate (l.length - k) zv.cells.toList).flatten ++ cs.toList.drop (k * R.n + (l.length - k) * R.n)).toArray
      have hrun : (execOp a.eval ⟨none, .call { callee := .builtin .clear, args := #[x], argTypes := #[ts] }, ty, pos, af, none⟩).run X.P w = .ok (.value (.tuple #[])) (w.setRow b row) := by
        unfold execOp
        have hz0 : (zeroValue e).run X.P w = .ok zv w := by simp [zeroValue, typeInfo, hi, hiz]
        have hcl : (Builtin.clear_ #[ts] ty #[.slice (some ⟨b, k * R.n, none⟩) (l.length - k) (cap - k)]).run X.P w = .ok (.tuple #[]) (w.setRow b row) := by
          obtain ⟨m, hm⟩ : ∃ m, l.length - k = m + 1 := ⟨l.length - k - 1, by omega⟩
          simp only [row]
          rw [hm] at hzcells hst ⊢
          unfold Builtin.clear_
          simp [run_underlying hty.und, hz0, hzcells, hst]
        simp [resolve, invoke, builtin, hev, hcl]
      unfold Oper.wp
      rw [hrun]
      refine hK _ _ ?_
      have hb : ∀ b', b' < w.heap.size → g.om b' ≠ t → (w.setRow b row).heap[b']? = w.heap[b']? := fun b' hb hne => setRow_other w b b' _ (fun h => hne (by rw [h]; exact hom))
      have hsz : (w.setRow b row).heap.size = w.heap.size := by simp
      refine ⟨by simp [Act.put, env.size], env.defers, Fr.own env.fr hg ht' (.inr trivial) rfl rfl rfl (by rw [hsz]; exact Nat.le_refl _) hb, g, ⟨⟨hg.ok.old, fun b h1 h2 => hg.ok.new b h1 (by rw [hsz] at h2; exact h2)⟩, hg.om⟩, ?_⟩
      show Facts _ g a _
      have hll : (l.take k ++ List.replicate (l.length - k) z).length = l.length := by simp; omega
      have htk : (cs.toList.take (k * R.n)).length = k * R.n := by rw [List.length_take, Array.length_toList, hcs]; exact Nat.min_eq_left (by omega)
      refine Facts.ghost (facts_killed' hf' (by rw [hsz]; exact Nat.le_refl _) hb) (fun v => ⟨cs.toList.take (k * R.n) ++ (List.replicate (l.length - k) zv.cells.toList).flatten, ⟨?_, .inr ⟨b, cap, row, by rw [hga, hll], h0, setRow_heap w b cs _ e (0, 0) hh, by rw [hll]; exact hnc, hcm, ?_, ?_⟩⟩, ?_, htag⟩)
      · rw [hll, List.length_append, htk, hlen]; exact hkn
      · simp only [row, List.size_toArray, List.length_append, htk, hlen, List.length_drop, Array.length_toList]
        omega
      · rw [hll, ← hkn]
        simp only [row]
        rw [List.take_append_of_le_length (by rw [List.length_append, htk, hlen]; exact Nat.le_refl _), List.take_of_length_le (by rw [List.length_append, htk, hlen]; exact Nat.le_refl _)]
      · have h1 := hte (fun b => g.om b ∈ te') g w (w.setRow b row) l xs (by rw [hsz]; exact Nat.le_refl _) hb (fun _ _ h => h) hrel
        have key : ∀ (l : List α) (xs : List Value) (k : Nat), RelL (fun b => g.om b ∈ te') l xs (w.setRow b row) → RelL (fun b => g.om b ∈ te') (l.take k) (xs.take (k * R.n)) (w.setRow b row) := fun l xs k h => RelL.take l xs k h
        have h2 := key l xs k h1
        have hxt : xs.take (k * R.n) = cs.toList.take (k * R.n) := by
          rw [← htake, List.take_take]; congr 1; exact Nat.min_eq_left (Nat.mul_le_mul_right _ hkm)
        rw [hxt] at h2
        exact RelL.app _ _ _ _ h2 (RelL.rep (R.stab _ _ z _ w _ (by rw [hsz]; exact Nat.le_refl _) (fun _ _ h => h.elim) (hz2 w)) (l.length - k))
end
end GL
