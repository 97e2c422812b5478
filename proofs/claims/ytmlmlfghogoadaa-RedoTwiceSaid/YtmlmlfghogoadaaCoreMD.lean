/- Own library, texts 32 to 41 in one. -/
import Derived.Test.YtmlmlfghogoadaaCoreMC
set_option linter.unusedVariables false
set_option linter.unusedSimpArgs false
set_option linter.unnecessarySimpa false
namespace GL
section
open Go

/-- Scalars. -/
class LoSc (α : Type) [R : Rp α] [L : Lo α] where
  k : Nat
  ag : R.agg = false
  iff : ∀ F x cs w, L.rel F x cs w ↔ ∃ u, cs = [u] ∧ scK k u
instance : LoSc Int := ⟨0, rfl, fun _ _ _ _ => Iff.rfl⟩
instance : LoSc UInt8 := ⟨1, rfl, fun _ _ _ _ => Iff.rfl⟩
instance : LoSc UInt32 := ⟨2, rfl, fun _ _ _ _ => Iff.rfl⟩
instance : LoSc Bool := ⟨3, rfl, fun _ _ _ _ => Iff.rfl⟩

/-- A fact that stands where cells of blocks of tags T turn. -/
def Loose (T : List Nat) (f : Fact) : Prop := ∀ g v w w', LikeW w w' (fun b => g.om b ∈ T) (fun b => g.om b ∈ T) → f.p g v w → f.p g v w'
theorem Loose.at {T : List Nat} {i : Nat} {f : Fact} (h : Loose T f) : Loose T (Fact.at i f) := fun g _ w w' hW hp => h g (g.ga i) w w' hW hp

section
variable {X : Cx} {G : List It} {d : Option Nat} {ty : TypeId} {pos : String} {af : Array Edge} {gd : Option (Nat × Bool)}

/-- A part of a datum. -/
def LoAt {α β : Type} [R : Rp α] [L : Lo α] [R' : Rp β] [L' : Lo β] (y : α) (off : Nat) (z : β) : Prop := ∀ F cs w, L.rel F y cs w → ∃ c, L'.rel F z c w ∧ ∀ (j : Nat) u, c[j]? = some u → cs[off + j]? = some u
theorem LoAt.self {α : Type} [R : Rp α] [L : Lo α] {y : α} : LoAt y 0 y := fun _ cs _ h => ⟨cs, h, fun j u hj => by rw [Nat.zero_add]; exact hj⟩
theorem LoAt.fst {α β : Type} [R : Rp α] [L : Lo α] [R' : Rp β] [L' : Lo β] {x : α} {y : β} : LoAt (x, y) 0 x := fun _ cs _ h => by
  obtain ⟨c1, c2, rfl, h1, _⟩ := h
  exact ⟨c1, h1, fun j u hj => by rw [Nat.zero_add, List.getElem?_append_left (List.getElem?_eq_some_iff.1 hj).1]; exact hj⟩
theorem LoAt.snd {α β γ : Type} [R : Rp α] [L : Lo α] [R' : Rp β] [L' : Lo β] [Rp γ] [Lo γ] {x : α} {y : β} {z : γ} {off : Nat} (k : LoAt y off z) : LoAt (x, y) (R.n + off) z := fun _ cs _ h => by
  obtain ⟨c1, c2, rfl, h1, h2⟩ := h
  obtain ⟨c, k1, k2⟩ := k _ _ _ h2
  have := L.len _ _ _ _ h1
  exact ⟨c, k1, fun j u hj => by rw [List.getElem?_append_right (by omega), show R.n + off + j - c1.length = off + j by omega]; exact k2 j u hj⟩
end
end
end GL

namespace GL
section
open Go

/-- What stays of a loop's record: where it lies, the block of the rounds' deferred calls, the temporaries at its entry. -/
structure RFr where
  l : Nat
  D : Nat
  fn : FuncId
  tm : Array Value
  ps : Array Tmp
  as : Code
  bd : Code
structure RFr.Ok (ρ : RFr) (N : Nat) (u : Nat → Value) (ps : Array Tmp) (as bd : Code) : Prop where
  sz : ρ.tm.size = N
  hu : ∀ s, ρ.tm.getD s undef = u s
  ps : ρ.ps = ps
  as : ρ.as = as
  bd : ρ.bd = bd

section
variable {X : Cx} {G : List It} {Q : Exit → Act → World → Prop} {ops : Array Oper} {rest : List Oper}

theorem Has.top {x : Operand} : Has G x .top := fun _ _ _ _ => trivial

/-! ### one round -/
def Carry2 (G : List It) (u1 : Nat → Value) (ps : List Nat) (u2 : Nat → Value) (Gc : List It) : Prop := ∀ a w g a', Facts G g a w → (∀ s, a.tmps.getD s undef = u2 s) → (∀ s, s ∉ ps → a'.tmps.getD s undef = u1 s) → Facts Gc g a' w
theorem Carry2.keep {u1 u2 : Nat → Value} {ps : List Nat} {Gc : List It} {s : Nat} {f : Fact} (k : Carry2 G u1 ps u2 Gc) (h : look G s = some f := by rfl) (hv : VFree f := by exact fun _ _ _ _ h => h) : Carry2 G u1 ps u2 (.fact s f :: Gc) := fun a w g a' hf h2 h1 =>
  Facts.ghost (k a w g a' hf h2 h1) (fun _ => hv _ _ _ _ (hf s f h))
/-! ### the function that was ranged over returns -/
/-! ### a function that holds such a loop -/
variable {P : Program} {n : Nat} {w0 : World} {C : Nat → Prop} {om : Nat → Nat} {fn : Func}
end
end
end GL

namespace GL
section
open Go

/-- A pointer to an element that leans on other memory. -/
def Fact.pts {α : Type} [R : Rp α] (T te : List Nat) (x : α) : Fact where
  tags := T ++ te
  ids := []
  p := fun g v w => ∃ ad, v = .pointer (some ad) ∧ g.om ad.block ∈ T ∧ ad.block < w.heap.size ∧ ∃ es, CellsAt w ad es ∧ R.rel (fun b => g.om b ∈ te) x es w
  stab := fun g g' v w w' hk h => by
    obtain ⟨ad, hv, ht, hlt, es, he, hr⟩ := h
    have hb := hk.block ad.block hlt (List.mem_append_left _ ht)
    exact ⟨ad, hv, by rw [hb.2]; exact ht, Nat.lt_of_lt_of_le hlt hk.size, es, he.stab hb.1,
      R.stab _ _ x es w w' hk.size (fun b hb ht => ⟨(hk.block b hb (List.mem_append_right _ ht)).1, by rw [(hk.block b hb (List.mem_append_right _ ht)).2]; exact ht⟩) hr⟩

theorem RelL.take {α : Type} [R : Rp α] {F : Nat → Prop} {w : World} : ∀ (l : List α) (xs : List Value) (k : Nat), RelL F l xs w → RelL F (l.take k) (xs.take (k * R.n)) w
  | [], xs, k, h => by rw [show xs = [] from h]; simp [RelL]
  | y :: l, xs, 0, h => by simp [RelL]
  | y :: l, xs, k + 1, h => by
    obtain ⟨c1, c2, rfl, h1, h2⟩ := h
    have hl1 := R.len _ _ _ _ h1
    refine ⟨c1, c2.take (k * R.n), ?_, h1, RelL.take l c2 k h2⟩
    rw [List.take_append, show (k + 1) * R.n - c1.length = k * R.n by rw [hl1, Nat.add_mul]; omega, List.take_of_length_le (by rw [hl1, Nat.add_mul]; omega)]

section
variable {X : Cx} {G : List It} {Q : Exit → Act → World → Prop} {d : Option Nat} {ty : TypeId} {pos : String} {af : Array Edge} {gd : Option (Nat × Bool)}
theorem Spec.indexSl {x i : Operand} {α : Type} [R : Rp α] {T te T' : List Nat} {l : List α} {n : Int} {r : α} {t e : TypeId} (hr : idx l n = some r) (ht : SlTy X.P t e α)
    (hx : Has G x (Fact.sl T te l)) (hi : Has G i (Fact.rep T' n)) : Spec X G ⟨d, .indexAddr t x i, ty, pos, af, gd⟩ (Fact.pts T te r) := by
  unfold idx at hr
  split at hr
  case isFalse => cases hr
  rename_i h0
  have hlt : n.toNat < l.length := (List.getElem?_eq_some_iff.1 hr).1
  refine Spec.pure fun a w g hf => ?_
  obtain ⟨ad, c, hv, hc, hnil, hcells⟩ := hx a w g hf
  have h2 := rep_int.1 (hi a w g hf)
  cases ad with
  | none => have := (hnil rfl).1; subst this; simp at hlt
  | some ad =>
    obtain ⟨hF, hb, es, he, hrel⟩ := hcells ad rfl n.toNat r hr
    refine ⟨.pointer (some (ad.add (n.toNat * R.n))), ?_, ad.add (n.toNat * R.n), rfl, ?_, ?_, es, he, hrel⟩
    · unfold execOp
      simp [hv, h2, run_indexAt (R := R) ht.und ht.el h0 (show n < (l.length : Int) by omega)]
    · rw [Addr.add_block]; exact hF
    · rw [Addr.add_block]; exact hb
theorem Spec.loadS {x : Operand} {α : Type} [R : Rp α] {T te : List Nat} {r : α} {t : TypeId} (ht : Ty X.P t α) (hx : Has G x (Fact.pts T te r)) : Spec X G ⟨d, .load t x, ty, pos, af, gd⟩ (Fact.rep te r) :=
  Spec.pure fun a w g hf => by
    obtain ⟨ad, hv, _, _, es, he, hrel⟩ := hx a w g hf
    refine ⟨mkV R.agg es, ?_, es, hrel, rfl⟩
    unfold execOp
    simp [hv, Instr.loadAt, Instr.sureAddr, run_loadVar_rel ht he hrel]
theorem Spec.fieldAddrS {x : Operand} {s : TypeId} {i off n : Nat} {T te : List Nat} {α β : Type} [R : Rp α] [R' : Rp β] {y : α} {z : β} {es : List Ent} (h : FieldTy X.P s i off n) (hc : Ch y es) (he : entAt es i = some (off, ⟨R', z⟩))
    (hx : Has G x (Fact.pts T te y)) : Spec X G ⟨d, .fieldAddr s x i, ty, pos, af, gd⟩ (Fact.pts T te z) :=
  Spec.pure fun a w g hf => by
    obtain ⟨ad, hv, ht, hlt, cs, hcs, hrel⟩ := hx a w g hf
    obtain ⟨c, hc1, hc2⟩ := EntsRel.at es cs i off _ ((hc.rel _ _ _).1 hrel) he
    refine ⟨.pointer (some (ad.add off)), ?_, ad.add off, rfl, by rw [Addr.add_block]; exact ht, by rw [Addr.add_block]; exact hlt, c, hcs.sub hc2, hc1⟩
    unfold execOp
    simp [hv, run_fieldAt h]
/-! ### windows -/
/-- What lies from place k on of own memory. -/
def Fact.win (t k n : Nat) : Fact where
  tags := []
  ids := [t]
  p := fun g v _ => (∃ b cap m, g.ga t = .slice (some ⟨b, 0, none⟩) m cap ∧ k ≤ m ∧ v = .slice (some (if cap = k then ⟨b, 0, none⟩ else (⟨b, 0, none⟩ : Addr).add (k * n))) (m - k) (cap - k)) ∨
    (g.ga t = .slice none 0 0 ∧ v = .slice none 0 0 ∧ k = 0)
  stab := fun g g' v w w' hk h => by rw [hk.ids t (by simp)]; exact h

theorem Spec.slcWin {α : Type} [R : Rp α] {x lo : Operand} {t : Nat} {te T1 : List Nat} {l r : List α} {m : Int} {ts e : TypeId} (hr : GL.slc l m l.length = some r) (hty : OwnTy X.P ts e α)
    (hx : Has G x (.isv t)) (hrs : look G (rs t) = some (.own t te e l)) (hlo : Has G lo (Fact.rep T1 m)) : Spec X G ⟨d, .slice ts x (some lo) none none, ty, pos, af, gd⟩ (.win t m.toNat R.n) := by
  unfold GL.slc at hr
  split at hr
  case isFalse => cases hr
  rename_i hc
  refine Spec.pure fun a w g hf => ?_
  have hv : a.eval x = g.ga t := hx a w g hf
  obtain ⟨xs, hown, _, _⟩ := hf _ _ hrs
  have h1 := rep_int.1 (hlo a w g hf)
  rcases hown.2 with ⟨hnil, hn⟩ | ⟨b, cap, cs, hga, h0, hh, hnc, hcm, hcs, htake⟩
  · have hm : m.toNat = 0 := by omega
    refine ⟨.slice none 0 0, ?_, .inr ⟨hnil, rfl, hm⟩⟩
    have hm0 : m = 0 := by omega
    unfold execOp
    simp only [Option.map_some, Option.map_none, hv, hnil, h1, hm0, Sem.run_bind, Sem.run_map]
    unfold Instr.sliceAt
    simp [run_underlying hty.und, Instr.slice, Instr.sliceBounds, Instr.sliceBound, asIntOf, rt_sizeOf hty.el]
  · refine ⟨.slice (some (if cap = m.toNat then ⟨b, 0, none⟩ else (⟨b, 0, none⟩ : Addr).add (m.toNat * R.n))) (l.length - m.toNat) (cap - m.toNat), ?_, .inl ⟨b, cap, l.length, hga, by omega, rfl⟩⟩
    unfold execOp
    simp only [Option.map_some, Option.map_none, hv, hga, h1, Sem.run_bind, Sem.run_map]
    unfold Instr.sliceAt
    simp [run_underlying hty.und, Instr.slice, Instr.sliceBounds, Instr.sliceBound, asIntOf, hc.1, hc.2.1, rt_sizeOf hty.el]
    split <;> rfl

theorem Spec.slcHiOw {α : Type} [R : Rp α] {x hi : Operand} {T te T1 : List Nat} {l r : List α} {n : Int} {ts e : TypeId} (hr : GL.slc l 0 n = some r) (hty : OwnTy X.P ts e α)
    (hx : Has G x (Fact.ow T te e l)) (hhi : Has G hi (Fact.rep T1 n)) : Spec X G ⟨d, .slice ts x none (some hi) none, ty, pos, af, gd⟩ (Fact.ow T te e r) := by
  unfold GL.slc at hr
  split at hr
  case isFalse => cases hr
  rename_i hc
  obtain rfl := Option.some.inj hr
  refine Spec.pure fun a w g hf => ?_
  obtain ⟨xs, hown, hrel, htag⟩ := hx a w g hf
  have h1 := rep_int.1 (hhi a w g hf)
  have hlen := hown.1
  have hn0 : 0 ≤ n := by omega
  have hnl : n.toNat ≤ l.length := by omega
  have hsplit : RelL (fun b => g.om b ∈ te) (l.take n.toNat) (xs.take (n.toNat * R.n)) w := by
    exact RelL.take l xs n.toNat hrel
  have htl : (xs.take (n.toNat * R.n)).length = n.toNat * R.n := by
    rw [List.length_take, hlen]; exact Nat.min_eq_left (Nat.mul_le_mul_right _ hnl)
  rcases hown.2 with ⟨hnil, hn⟩ | ⟨b, cap, cs, hga, h0, hh, hnc, hcm, hcs, htake⟩
  · have hm : n = 0 := by omega
    subst hm
    refine ⟨.slice none 0 0, ?_, [], ⟨by simp, .inl ⟨rfl, by simp⟩⟩, by simp [RelL], by simp [Value.ownBlock]⟩
    unfold execOp
    simp only [Option.map_some, Option.map_none, hnil, h1, Sem.run_bind, Sem.run_map]
    unfold Instr.sliceAt
    simp [run_underlying hty.und, Instr.slice, Instr.sliceBounds, Instr.sliceBound, asIntOf, rt_sizeOf hty.el]
  · have hlt : (List.drop (Int.toNat 0) (List.take n.toNat l)).length = n.toNat := by simp; omega
    refine ⟨.slice (some ⟨b, 0, none⟩) n.toNat cap, ?_, xs.take (n.toNat * R.n), ⟨by rw [hlt]; exact htl, .inr ⟨b, cap, cs, by rw [hlt], h0, hh, by rw [hlt]; omega, hcm, hcs, ?_⟩⟩, by simpa using hsplit, fun b' hb' => htag b' (by rw [hga]; exact hb')⟩
    · have g1 : n ≤ (cap : Int) := by omega
      unfold execOp
      simp only [Option.map_some, Option.map_none, hga, h1, Sem.run_bind, Sem.run_map]
      unfold Instr.sliceAt
      simp [run_underlying hty.und, Instr.slice, Instr.sliceBounds, Instr.sliceBound, asIntOf, g1, hn0, rt_sizeOf hty.el]
      intro _; exact Go.Addr.add_zero' _
    · rw [hlt, ← htake, List.take_take]
      congr 1
      exact (Nat.min_eq_left (Nat.mul_le_mul_right _ hnl)).symm

/-- clear of what lies from a place on. -/
theorem Step.clearWin {α : Type} [R : Rp α] {x : Operand} {te te' : List Nat} {l : List α} {z : α} {t k : Nat} {ts e : TypeId} (hty : OwnTy X.P ts e α) (hz : ZeroTy X.P e z) (ht : Nat.ble 10 t = true)
    (hx : Has G x (.win t k R.n)) (hrs : look G (rs t) = some (.own t te e l)) (hte : ElKeep (α := α) t te te') :
    Step X G ⟨none, .call { callee := .builtin .clear, args := #[x], argTypes := #[ts] }, ty, pos, af, none⟩ [.fact (rs t) (.own t te' e (l.take k ++ List.replicate (l.length - k) z)), .kill t] := fun G' hsub a w env K Q hK => by
  have ht' : 10 ≤ t := by simpa using ht
  obtain ⟨g, hg, hf'⟩ := env.facts
  have hf := hsub a w g hf'
  obtain ⟨xs, hown, hrel, htag⟩ := hf _ _ hrs
  obtain ⟨i, zv, hi, hiz, hisz, hby, hzs⟩ := hty.info
  obtain ⟨zv', hz1, hz2⟩ := hz
  rw [hi] at hz1
  simp only [Option.bind_some, hiz, Option.some.injEq] at hz1
  subst hz1
  rcases hown.2 with ⟨hnil, hn⟩ | ⟨b, cap, cs, hga, h0, hh, hnc, hcm, hcs, htake⟩
  · have hk : a.eval x = .slice none 0 0 := by
      rcases hx a w g hf with ⟨b, cap, m, h1, _⟩ | ⟨_, h2, _⟩
      · rw [hnil] at h1; cases h1
      · exact h2
    have hl : l = [] := List.eq_nil_of_length_eq_zero hn
    have hrun : (execOp a.eval ⟨none, .call { callee := .builtin .clear, args := #[x], argTypes := #[ts] }, ty, pos, af, none⟩).run X.P w = .ok (.value (.tuple #[])) w := by
      unfold execOp
      simp [resolve, invoke, builtin, hk, Builtin.clear_, run_underlying hty.und]
    unfold Oper.wp
    rw [hrun]
    refine hK _ w ?_
    refine ⟨by simp [Act.put, env.size], env.defers, env.fr, g, hg, ?_⟩
    show Facts _ g a w
    refine Facts.ghost (facts_killed' hf' (Nat.le_refl _) (fun _ _ _ => rfl)) (fun v => ⟨[], ?_, ?_, htag⟩)
    · rw [hnil, hl]; simp; exact World.ownsRow_nil w 0 e R.n
    · rw [hl]; simp [RelL]
  · obtain ⟨hkm, hev⟩ : k ≤ l.length ∧ a.eval x = .slice (some (if cap = k then ⟨b, 0, none⟩ else (⟨b, 0, none⟩ : Addr).add (k * R.n))) (l.length - k) (cap - k) := by
      rcases hx a w g hf with ⟨b', cap', m, h1, h2, h3⟩ | ⟨h1, _⟩
      · rw [hga] at h1; cases h1; exact ⟨h2, h3⟩
      · rw [hga] at h1; cases h1
    have hom : g.om b = t := htag b (by rw [hga]; rfl)
    by_cases hl0 : l.length - k = 0
    · have hrun : (execOp a.eval ⟨none, .call { callee := .builtin .clear, args := #[x], argTypes := #[ts] }, ty, pos, af, none⟩).run X.P w = .ok (.value (.tuple #[])) w := by
        unfold execOp
        simp [resolve, invoke, builtin, hev, hl0, Builtin.clear_, run_underlying hty.und]
      unfold Oper.wp
      rw [hrun]
      refine hK _ w ?_
      refine ⟨by simp [Act.put, env.size], env.defers, env.fr, g, hg, ?_⟩
      show Facts _ g a w
      have he : l.take k ++ List.replicate (l.length - k) z = l := by rw [hl0, List.take_of_length_le (by omega)]; simp
      refine Facts.ghost (facts_killed' hf' (Nat.le_refl _) (fun _ _ _ => rfl)) (fun v => ⟨xs, ?_, ?_, htag⟩)
      · rw [he]; exact hown
      · rw [he]; exact hte (fun b => g.om b ∈ te') g w w l xs (Nat.le_refl _) (fun _ _ _ => rfl) (fun _ _ h => h) hrel
    · have hck : ¬ (cap = k) := by omega
      rw [if_neg hck, Go.Addr.add_lit] at hev
      have hzl : (madeCells zv.cells ((l.length - k) * R.n)).toList = (List.replicate (l.length - k) zv.cells.toList).flatten := by
        have h1 := madeCells_flatten zv.cells.toList (l.length - k)
        simpa [hzs] using h1
      have hzc : ∀ c ∈ zv.cells.toList, c.oneCell' = true := R.one _ _ _ _ (hz2 w)
      have hlen : ((List.replicate (l.length - k) zv.cells.toList).flatten).length = (l.length - k) * R.n := by simp [hzs]
      have hkn : k * R.n + (l.length - k) * R.n = l.length * R.n := by rw [← Nat.add_mul]; congr 1; omega
      have hcn : l.length * R.n ≤ cap * R.n := Nat.mul_le_mul_right _ hnc
      have hst := run_storeCells_at X.P b (0 + k * R.n) e ((List.replicate (l.length - k) zv.cells.toList).flatten) 0 cs w hh (by rw [hlen]; omega) (fun c hc => by
        obtain ⟨y, hy, hcy⟩ := List.mem_flatten.1 hc
        exact hzc c (by rw [(List.mem_replicate.1 hy).2] at hcy; exact hcy))
      have hzcells : (Builtin.zeroCells zv.cells (l.length - k)).toList = (List.replicate (l.length - k) zv.cells.toList).flatten := by
        rw [← hzl, ← hzs]; rfl
      rw [hlen] at hst
      simp only [Nat.zero_add, Nat.add_zero] at hst hev
      let row : Array Value := (cs.toList.take (k * R.n) ++ (List.replicate (l.length - k) zv.cells.toList).flatten ++ cs.toList.drop (k * R.n + (l.length - k) * R.n)).toArray
      have hrun : (execOp a.eval ⟨none, .call { callee := .builtin .clear, args := #[x], argTypes := #[ts] }, ty, pos, af, none⟩).run X.P w = .ok (.value (.tuple #[])) (w.setRow b row) := by
        unfold execOp
        have hz0 : (zeroValue e).run X.P w = .ok zv w := by simp [zeroValue, typeInfo, hi, hiz]
        have hcl : (Builtin.clear_ #[ts] ty #[.slice (some ⟨b, k * R.n, none⟩) (l.length - k) (cap - k)]).run X.P w = .ok (.tuple #[]) (w.setRow b row) := by
          obtain ⟨m, hm⟩ : ∃ m, l.length - k = m + 1 := ⟨l.length - k - 1, by omega⟩
          simp only [row]
          rw [hm] at hzcells hst ⊢
          unfold Builtin.clear_
          simp [run_underlying hty.und, hz0, hzcells, hst]
        simp [resolve, invoke, builtin, hev, hcl]
      unfold Oper.wp
      rw [hrun]
      refine hK _ _ ?_
      have hb : ∀ b', b' < w.heap.size → g.om b' ≠ t → (w.setRow b row).heap[b']? = w.heap[b']? := fun b' hb hne => setRow_other w b b' _ (fun h => hne (by rw [h]; exact hom))
      have hsz : (w.setRow b row).heap.size = w.heap.size := by simp
      refine ⟨by simp [Act.put, env.size], env.defers, Fr.own env.fr hg ht' (.inr trivial) rfl rfl rfl (by rw [hsz]; exact Nat.le_refl _) hb, g, ⟨⟨hg.ok.old, fun b h1 h2 => hg.ok.new b h1 (by rw [hsz] at h2; exact h2)⟩, hg.om⟩, ?_⟩
      show Facts _ g a _
      have hll : (l.take k ++ List.replicate (l.length - k) z).length = l.length := by simp; omega
      have htk : (cs.toList.take (k * R.n)).length = k * R.n := by rw [List.length_take, Array.length_toList, hcs]; exact Nat.min_eq_left (by omega)
      refine Facts.ghost (facts_killed' hf' (by rw [hsz]; exact Nat.le_refl _) hb) (fun v => ⟨cs.toList.take (k * R.n) ++ (List.replicate (l.length - k) zv.cells.toList).flatten, ⟨?_, .inr ⟨b, cap, row, by rw [hga, hll], h0, setRow_heap w b cs _ e (0, 0) hh, by rw [hll]; exact hnc, hcm, ?_, ?_⟩⟩, ?_, htag⟩)
      · rw [hll, List.length_append, htk, hlen]; exact hkn
      · simp only [row, List.size_toArray, List.length_append, htk, hlen, List.length_drop, Array.length_toList]
        omega
      · rw [hll, ← hkn]
        simp only [row]
        rw [List.take_append_of_le_length (by rw [List.length_append, htk, hlen]; exact Nat.le_refl _), List.take_of_length_le (by rw [List.length_append, htk, hlen]; exact Nat.le_refl _)]
      · have h1 := hte (fun b => g.om b ∈ te') g w (w.setRow b row) l xs (by rw [hsz]; exact Nat.le_refl _) hb (fun _ _ h => h) hrel
        have key : ∀ (l : List α) (xs : List Value) (k : Nat), RelL (fun b => g.om b ∈ te') l xs (w.setRow b row) → RelL (fun b => g.om b ∈ te') (l.take k) (xs.take (k * R.n)) (w.setRow b row) := fun l xs k h => RelL.take l xs k h
        have h2 := key l xs k h1
        have hxt : xs.take (k * R.n) = cs.toList.take (k * R.n) := by
          rw [← htake, List.take_take]; congr 1; exact Nat.min_eq_left (Nat.mul_le_mul_right _ hkm)
        rw [hxt] at h2
        exact RelL.app _ _ _ _ h2 (RelL.rep (R.stab _ _ z _ w _ (by rw [hsz]; exact Nat.le_refl _) (fun _ _ h => h.elim) (hz2 w)) (l.length - k))
end
end
end GL

namespace GL
section
open Go

section
variable {X : Cx} {G : List It} {Q : Exit → Act → World → Prop} {ops : Array Oper} {rest : List Oper}

/-- Whether an operation is wanted: just where gp holds. -/
def GOk (G : List It) (ops : Array Oper) (o : Oper) (gp : Prop) : Prop :=
  ∀ a w g, Facts G g a w → (Region.wanted o (yielded ops a.tmps) = true ∧ gp) ∨ (Region.wanted o (yielded ops a.tmps) = false ∧ ¬gp)
theorem GOk.one {d : Option Nat} {op : Op} {ty : TypeId} {pos : String} {af : Array Edge} {j dj : Nat} {want b : Bool} {T : List Nat} (hj : (ops[j]?).bind (·.dst) = some dj) (hb : look G dj = some (Fact.rep T b)) :
    GOk G ops ⟨d, op, ty, pos, af, some (j, want)⟩ (b = want) := fun a w g hf => by
  have hy := yielded_of hj (rep_bool.1 (hf dj _ hb))
  simp only [Region.wanted, hy]
  by_cases hw : b = want
  · subst hw; exact .inl ⟨by simp, rfl⟩
  · exact .inr ⟨by simp [hw], hw⟩
theorem GOk.two {d : Option Nat} {op : Op} {ty : TypeId} {pos : String} {af : Array Edge} {j dj : Nat} {want b : Bool} {c : Prop} {T : List Nat} (hj : (ops[j]?).bind (·.dst) = some dj) (hb : look G dj = some ((Fact.rep T b).under c)) :
    GOk G ops ⟨d, op, ty, pos, af, some (j, want)⟩ (c ∧ b = want) := fun a w g hf => by
  have hu := hf dj _ hb
  by_cases hc : c
  · have hy := yielded_of hj (rep_bool.1 (hu.1 hc))
    simp only [Region.wanted, hy]
    by_cases hw : b = want
    · subst hw; exact .inl ⟨by simp, hc, rfl⟩
    · exact .inr ⟨by simp [hw], fun h => hw h.2⟩
  · have hy : (yielded ops a.tmps j == some want) = false := by
      have h1 : a.tmps.getD dj undef = undef := hu.2 hc
      unfold yielded
      rw [hj]
      simp only [Option.bind_some]
      rw [Array.getD_eq_getD_getElem?] at h1
      cases h2 : a.tmps[dj]? with
      | none => rfl
      | some v => rw [h2] at h1; simp at h1; subst h1; rfl
    exact .inr ⟨by simp only [Region.wanted, hy], fun h => hc h.1⟩

/-- A slot that holds nothing. -/
def Fact.und : Fact where
  tags := []
  ids := []
  p := fun _ v _ => v = undef
  stab := fun _ _ _ _ _ _ h => h
theorem Has.und {t : Nat} {f : Fact} {c : Prop} (h : look G t = some .und) (hc : ¬c) : Has G (.tmp t) (f.under c) := fun a w g hf => ⟨fun h1 => (hc h1).elim, fun _ => hf t _ h⟩
theorem Cv.under {f : Fact} {c : Prop} (hc : c) : Cv G f (f.under c) := fun _ _ _ _ _ h => ⟨fun _ => h, fun h1 => (h1 hc).elim⟩

/-! ### function variables -/
/-- A value of one cell. -/
structure Cell1 where
  v : Value
  one : v.oneCell' = true
instance : Rp Cell1 where
  n := 1
  agg := false
  na := fun _ => rfl
  rel := fun _ x cs _ => cs = [x.v]
  len := fun _ _ _ _ h => by rw [h]; rfl
  one := fun _ x _ _ h => by rw [h]; simp [x.one]
  stab := fun _ _ _ _ _ _ _ _ h => h
variable {ty : TypeId} {pos : String} {af : Array Edge}
theorem Step.storeFG {p x : Operand} {e : TypeId} {α : Type} [R : Rp α] {t i off : Nat} {ps : Ps} {f : Fact} (ht : Nat.ble 10 t = true) (hty : Ty X.P e α) (hp : partAt ps i = some (off, R.agg, R.n)) (hpx : Has G p (.pto t off))
    (ho : look G (rs t) = some (.obj t ps)) (hr : ∀ a w g, Facts G g a w → ∃ (F : Nat → Prop) (y : α), Rep F y (a.eval x) w) (hx : Has G x f) (hok : lsOk t (t + 1 + i) 1 [(R.agg, R.n, f)] = true) :
    Step X G ⟨none, .store e p x, ty, pos, af, none⟩ [.fact (rs (t + 1 + i)) (.at (t + 1 + i) f), .fact (rs t) (.obj t ps), .kill t, .killId (t + 1 + i)] := fun G' hsub a w env K Q hK => by
    have ht' : 10 ≤ t := by simpa using ht
    obtain ⟨g, hg, hf'⟩ := env.facts
    have hf := hsub a w g hf'
    obtain ⟨b, hb, hv⟩ := hpx a w g hf
    obtain ⟨b', ty', cs, hga, hh, hom, hrel⟩ := hf _ _ ho
    rw [hga] at hb
    simp only [ownB, Option.some.injEq] at hb
    subst hb
    obtain ⟨c0, k1, k2, k3, k4⟩ := hrel.part ps (t + 1) _ i off _ _ hp
    obtain ⟨F0, y, hr0⟩ := hr a w g hf
    obtain ⟨es, hes, hre, hrun⟩ := run_storeVar (P := X.P) hty hh hr0 (show off + R.n ≤ cs.size by simpa using k3)
    have hl := R.len _ _ _ _ hre
    have h1 := R.one _ _ _ _ hre
    have hfx := hx a w g hf
    have hok' := lsOk_spec hok (l := (R.agg, R.n, f)) (by simp)
    have hrun' : (execOp a.eval ⟨none, .store e p x, ty, pos, af, none⟩).run X.P w = .ok .skip (w.setRow b' (cs.toList.take off ++ es ++ cs.toList.drop (off + R.n)).toArray) := by
      unfold execOp
      simp only [hv, Instr.storeAt, Instr.sureAddr, Sem.run_bind, Sem.run_pure, Result.andThen_ok]
      rw [hrun]
      rfl
    unfold Oper.wp
    rw [hrun']
    refine hK undef _ ?_
    have hb : ∀ b, b < w.heap.size → g.om b ≠ t → (w.setRow b' (cs.toList.take off ++ es ++ cs.toList.drop (off + R.n)).toArray).heap[b]? = w.heap[b]? := fun b hb hne => setRow_other w b' b _ (fun h => hne (by rw [h]; exact hom))
    have hsz : (w.setRow b' (cs.toList.take off ++ es ++ cs.toList.drop (off + R.n)).toArray).heap.size = w.heap.size := by simp
    let g2 : Gh := ⟨g.om, fun s => if s = t + 1 + i then a.eval x else g.ga s⟩
    have hgai : g2.ga (t + 1 + i) = a.eval x := if_pos rfl
    have hgao : ∀ s, s ≠ t + 1 + i → g2.ga s = g.ga s := fun s hs => if_neg hs
    refine ⟨by simp [Act.put, env.size], env.defers, Fr.own env.fr hg ht' (.inr trivial) rfl rfl rfl (by rw [hsz]; exact Nat.le_refl _) hb, g2, ⟨⟨hg.ok.old, fun b h1 h2 => hg.ok.new b h1 (by rw [hsz] at h2; exact h2)⟩, hg.om⟩, ?_⟩
    show Facts _ g2 a _
    refine Facts.ghost ?_ (fun v => ?_)
    · refine Facts.ghost ?_ (fun v => ⟨b', ty', _, by rw [hgao t (by omega)]; exact hga, setRow_heap w b' cs _ ty' (0, 0) hh, hom, ?_⟩)
      · exact facts_killIdsT [t + 1 + i] hf' (by rw [hsz]; exact Nat.le_refl _) hb (fun _ _ => rfl) (fun s hs => hgao s (by simpa using hs))
      · have := PRel.set (g := g) (g' := g2) ps (t + 1) cs.toList es i off _ _ hrel hp hl h1 (by rw [hgai]; exact hes) hgao
        simpa using this
    · show f.p g2 (g2.ga (t + 1 + i)) _
      rw [hgai]
      exact f.stab g g2 _ w _ ⟨by rw [hsz]; exact Nat.le_refl _, fun b hbl htg => ⟨hb b hbl (fun he => hok'.2 (he ▸ htg)), rfl⟩, fun s hs => hgao s (fun he => hok'.1 s hs (by omega))⟩ hfx


end
end
end GL

namespace GL
section
open Go

section
variable {X : Cx} {G : List It} {Q : Exit → Act → World → Prop} {ops : Array Oper} {rest : List Oper} {dO : Option Nat} {ty : TypeId} {pos : String} {af : Array Edge} {gd : Option (Nat × Bool)}

theorem Spec.idxVar8 {x io : Operand} {ts e : TypeId} {n t k : Nat} {T : List Nat} {z : UInt8} (hm : bnd n (z.toNat : Int) = some k) (h : SmTy X.P ts e n 1) (hx : Has G x (.pto t 0)) (hz : Has G io (Fact.rep T z)) :
    Spec X G ⟨dO, .indexAddr ts x io, ty, pos, af, gd⟩ (.pto t k) :=
  Spec.pure fun a w g hf => by
    obtain ⟨b, hb, hv⟩ := hx a w g hf
    obtain ⟨inf, h1, h2⟩ := h.sz
    obtain ⟨b1, b2, b3⟩ := bnd_some hm
    have hzv := rep_u8.1 (hz a w g hf)
    have hq : (z.toNat : Int) = (k : Int) := by omega
    rw [hq] at hzv
    refine ⟨.pointer (some ⟨b, k, none⟩), ?_, b, hb, rfl⟩
    unfold execOp
    simp only [hv, hzv, Instr.indexAt, asIntOf, Sem.run_bind, Sem.run_pure, Result.andThen_ok, run_underlying h.und, Instr.sureAddr, Sem.run_map]
    rw [if_pos (by omega)]
    simp only [Go.sizeOf, typeInfo, h1, h2]
    simp [h1, h2, Go.Addr.add_lit]

/-- All parts from i on are data. -/
def HasVs {α : Type} [Rp α] (G : List It) (T : List Nat) (i : Nat) : List α → Prop
  | [] => True
  | y :: l => HasG G i (Fact.rep T y) ∧ HasVs G T (i + 1) l
theorem HasVs.nil {α : Type} [Rp α] {T : List Nat} {i : Nat} : HasVs (α := α) G T i [] := trivial
theorem HasVs.cons {α : Type} [Rp α] {T : List Nat} {i : Nat} {y : α} {l : List α} (h : HasG G i (Fact.rep T y)) (k : HasVs G T (i + 1) l) : HasVs G T i (y :: l) := ⟨h, k⟩
theorem HasVs.get {α : Type} [Rp α] {T : List Nat} : ∀ {l : List α} {i k : Nat} {y : α}, HasVs G T i l → l[k]? = some y → HasG G (i + k) (Fact.rep T y)
  | [], _, _, _, _, h => by simp at h
  | x :: l, i, 0, y, h, hk => by
    simp at hk
    subst hk
    exact h.1
  | x :: l, i, k + 1, y, h, hk => by
    have := HasVs.get (k := k) h.2 (by simpa using hk)
    rw [show i + 1 + k = i + (k + 1) by omega] at this
    exact this
def partsV (ps : Ps) (n : Nat) : Bool := (List.range n).all fun j => partAt ps j == some (j, false, 1)
theorem partsV_at {ps : Ps} {n k : Nat} (h : partsV ps n = true) (hk : k < n) : partAt ps k = some (k, false, 1) := by
  have := List.all_eq_true.1 h k (List.mem_range.2 hk)
  simpa using this

theorem Spec.loadV {x : Operand} {e : TypeId} {α : Type} [R : Rp α] {t k : Nat} {ps : Ps} {T : List Nat} {l : List α} {y : α} (hk : l[k]? = some y) (hty : Ty X.P e α) (hag : R.agg = false) (hp : partsV ps l.length = true)
    (hx : Has G x (.pto t k)) (ho : look G (rs t) = some (.obj t ps)) (hf : HasVs G T (t + 1) l) : Spec X G ⟨dO, .load e x, ty, pos, af, gd⟩ (Fact.rep T y) :=
  Spec.loadF (i := k) hty (by rw [hag, R.na hag]; exact partsV_at hp (List.getElem?_eq_some_iff.1 hk).1) hx ho (hf.get hk)

end
end
end GL

namespace GL
section
open Go

/-- One of some functions, by its place; none is 0. -/
structure FnI (ks : List FuncId) where
  i : Nat
  deriving Inhabited, DecidableEq
def fnAt (ks : List FuncId) : Nat → Option FuncId
  | 0 => none
  | n + 1 => ks[n]?
def fnVal : Option FuncId → Value
  | none => .nilFunc
  | some k => .func (.func k) #[] #[]
instance {ks : List FuncId} : Rp (FnI ks) where
  n := 1
  agg := false
  na := fun _ => rfl
  rel := fun _ x cs _ => cs = [fnVal (fnAt ks x.i)]
  len := fun _ _ _ _ h => by rw [h]; rfl
  one := fun _ x _ _ h => by rw [h]; cases fnAt ks x.i <;> simp [fnVal, Value.oneCell']
  stab := fun _ _ _ _ _ _ _ _ h => h
instance {ks : List FuncId} : Flat (FnI ks) := ⟨fun _ _ _ _ _ _ h => h⟩
theorem rep_fni {ks : List FuncId} {F : Nat → Prop} {x : FnI ks} {v : Value} {w : World} : Rep F x v w ↔ v = fnVal (fnAt ks x.i) := by
  constructor
  · rintro ⟨cs, h, rfl⟩; cases h; rfl
  · rintro rfl; exact ⟨_, rfl, rfl⟩

section
variable {X : Cx} {G : List It} {Q : Exit → Act → World → Prop} {dO : Option Nat} {ty : TypeId} {pos : String} {af : Array Edge} {gd : Option (Nat × Bool)}
theorem Has.fniNil {ks : List FuncId} : Has G (.const .nilFunc) (Fact.rep [] (⟨0⟩ : FnI ks)) := fun _ _ _ _ => rep_fni.2 rfl
theorem Cv.fni {ks : List FuncId} {k : FuncId} {n : Nat} (h : fnAt ks n = some k) : Cv G (.fnv k [] []) (Fact.rep [] (⟨n⟩ : FnI ks)) := fun a w g v hf hp => by
  obtain ⟨us, vs, rfl, h1, h2⟩ := hp
  cases us with
  | nil =>
    cases vs with
    | nil => exact rep_fni.2 (by rw [h]; rfl)
    | cons _ _ => cases h2
  | cons _ _ => cases h1

theorem run_eqIn_func_nil {P : Program} (w : World) (d : Nat) {t : TypeId} {as rs : Array TypeId} {vr : Bool} (h : P.underlying t = some (.func as rs vr)) (o : Option FuncId) : (Op.equalIn (d + 1) t (fnVal o) .nilFunc).run P w = .ok o.isNone w := by
  cases o <;> simp [Op.equalIn, run_underlying h, fnVal]
theorem run_eq_func_nil {P : Program} (w : World) {t : TypeId} {as rs : Array TypeId} {vr : Bool} (h : P.underlying t = some (.func as rs vr)) (o : Option FuncId) : (Op.equal t (fnVal o) .nilFunc).run P w = .ok o.isNone w := run_eqIn_func_nil w 9999 h o
theorem eqGuard_fnv {op : BinOp} {t : TypeId} {x y : Operand} (o : Option FuncId) (v : Value) : eqGuard op t x y (fnVal o) v = pure () := by cases o <;> cases op <;> rfl
theorem Spec.eqlFni {ks : List FuncId} {x : Operand} {t t' : TypeId} {T : List Nat} {as rs : Array TypeId} {vr : Bool} {m : FnI ks} (ht : X.P.underlying t = some (.func as rs vr)) (hx : Has G x (Fact.rep T m)) :
    Spec X G ⟨dO, .binOp .eql t x (.const .nilFunc) t', ty, pos, af, gd⟩ (Fact.rep [] (fnAt ks m.i).isNone) :=
  Spec.pure fun a w g hf => by
    have hv := rep_fni.1 (hx a w g hf)
    refine ⟨.bool (fnAt ks m.i).isNone, ?_, rep_bool.2 rfl⟩
    unfold execOp
    have hr := run_eq_func_nil (P := X.P) w ht (fnAt ks m.i)
    simp [hv, eval_const, eqGuard_fnv, binOp, hr]
/-- A call of one of some functions. -/
theorem Spec.callI {ks : List FuncId} {m : FnI ks} {y : Operand} {pre : List Shape} {out : Shape} {shc : List Nat} {d : Option Nat} {xs : List Operand} {ats : Array TypeId}
    (T : List Nat) (t : Nat) (ht : Nat.ble 10 t = true) {Ty' : List Nat} (hy : Has G y (Fact.rep Ty' m)) (hc : ∃ k, fnAt ks m.i = some k ∧ enters X.P k = true ∧ Ctr X.P k pre out shc) (hx : HasAll G T xs pre) :
    Spec X G ⟨d, .call { callee := .value y, args := xs.toArray, argTypes := ats }, ty, pos, af, gd⟩ (out.f (cT t T shc)) := fun a w g hs hfr hg hf K Q hK => by
  have ht' : 10 ≤ t := by simpa using ht
  obtain ⟨k, hk1, hk, hc⟩ := hc
  have hv : a.eval y = .func (.func k) #[] #[] := by rw [rep_fni.1 (hy a w g hf), hk1]; rfl
  have hcall := hc w g T _ (hx.all2 hf)
  have hrun : (execOp a.eval ⟨d, .call { callee := .value y, args := xs.toArray, argTypes := ats }, ty, pos, af, gd⟩).run X.P w = .ok (.enter k (xs.map a.eval).toArray) w := by
    unfold execOp
    simp [resolve, Deferred.ofValue, hv, invoke, run_enter hk]
  unfold Oper.wp
  rw [hrun]
  refine Calls.mono hcall ?_
  rintro e w' ⟨v, rfl, hw, cls, hp⟩
  refine hK v w' ⟨hw, GL.tagCls g w.heap.size t cls, hg.tagCls ht' hfr.size, fun b hb => by simp [GL.tagCls, hb], fun _ => rfl, ?_⟩
  refine hp _ _ ?_ ?_
  · intro b h1 _
    simp only [GL.tagCls, cT]
    rw [if_neg (Nat.not_lt.2 h1)]
    cases shc.elem (cls b) <;> simp
  · intro b c h1 h2 h3
    simp only [GL.tagCls, cT]
    rw [if_pos h1, show shc.elem c = true by simpa using h3]
    simp [h2]
theorem Spec.callIE {ks : List FuncId} {m : FnI ks} {y : Operand} {pre : List Shape} {out : Shape} {shc : List Nat} {d : Option Nat} {xs : List Operand} {ats : Array TypeId} {f : Fact}
    (T : List Nat) (t : Nat) (ht : Nat.ble 10 t = true) {Ty' : List Nat} (hy : Has G y (Fact.rep Ty' m)) (hc : ∃ k, fnAt ks m.i = some k ∧ enters X.P k = true ∧ Ctr X.P k pre out shc) (hx : HasAll G T xs pre) (hf : out.f (cT t T shc) = f := by rfl) :
    Spec X G ⟨d, .call { callee := .value y, args := xs.toArray, argTypes := ats }, ty, pos, af, gd⟩ f := hf ▸ Spec.callI T t ht hy hc hx
end
end
end GL

namespace GL
section
open Go

/-! ### cells as they stand -/
structure Raw (n : Nat) where
  cs : List Value
  len : cs.length = n
  one : ∀ c ∈ cs, c.oneCell' = true
instance (n : Nat) : Rp (Raw n) where
  n := n
  agg := true
  na := fun h => by cases h
  rel := fun _ x cs _ => cs = x.cs
  len := fun _ x _ _ h => by rw [h]; exact x.len
  one := fun _ x _ _ h => by rw [h]; exact x.one
  stab := fun _ _ _ _ _ _ _ _ h => h
theorem OwnTy.raw {P : Program} {t e : TypeId} {α : Type} [R : Rp α] (h : OwnTy P t e α) (ha : R.agg = true) : OwnTy P t e (Raw R.n) :=
  ⟨h.und, ⟨by obtain ⟨d, h1, h2⟩ := h.el.und; exact ⟨d, h1, by rw [h2, ha]; rfl⟩, h.el.sz⟩, h.pos, h.info⟩
theorem Ty.raw {P : Program} {e : TypeId} {α : Type} [R : Rp α] (h : Ty P e α) (ha : R.agg = true) : Ty P e (Raw R.n) :=
  ⟨by obtain ⟨d, h1, h2⟩ := h.und; exact ⟨d, h1, by rw [h2, ha]; rfl⟩, h.sz⟩
theorem raw_of {n : Nat} : ∀ (m : Nat) (xs : List Value), xs.length = m * n → (∀ c ∈ xs, c.oneCell' = true) → ∃ l : List (Raw n), l.length = m ∧ ∀ F w, RelL F l xs w
  | 0, xs, h, _ => ⟨[], rfl, fun _ _ => by
    have : xs = [] := List.eq_nil_of_length_eq_zero (by omega)
    exact this⟩
  | m + 1, xs, h, h1 => by
    rw [Nat.add_mul] at h
    have hl : (xs.take n).length = n := by rw [List.length_take]; omega
    obtain ⟨l, h2, h3⟩ := raw_of (n := n) m (xs.drop n) (by rw [List.length_drop]; omega) (fun c hc => h1 c (List.mem_of_mem_drop hc))
    exact ⟨⟨xs.take n, hl, fun c hc => h1 c (List.mem_of_mem_take hc)⟩ :: l, by simp [h2], fun F w => ⟨xs.take n, xs.drop n, (List.take_append_drop n xs).symm, rfl, h3 F w⟩⟩
theorem raw_eq {n : Nat} {F F' : Nat → Prop} {w w' : World} : ∀ (l : List (Raw n)) (xs ys : List Value), RelL F l xs w → RelL F' l ys w' → xs = ys
  | [], xs, ys, h, k => by rw [show xs = [] from h, show ys = [] from k]
  | x :: l, xs, ys, h, k => by
    obtain ⟨c1, c2, rfl, h1, h2⟩ := h
    obtain ⟨d1, d2, rfl, k1, k2⟩ := k
    rw [show c1 = x.cs from h1, show d1 = x.cs from k1, raw_eq l c2 d2 h2 k2]

/-! ### data that begin with a slice -/
structure HdS (α β γ : Type) [R : Rp α] [B : Rp β] [C : Rp γ] where
  hd : α → List β
  tl : α → γ
  n : R.n = C.n + 1
  agg : R.agg = true
  split : ∀ F x cs w, R.rel F x cs w ↔ ∃ v c, cs = v :: c ∧ SlRel F F (hd x) v w ∧ C.rel F (tl x) c w
theorem list_rel {β : Type} [B : Rp β] (F : Nat → Prop) (l : List β) (cs : List Value) (w : World) : (inferInstance : Rp (List β)).rel F l cs w ↔ ∃ v, cs = [v] ∧ SlRel F F l v w := by
  constructor
  · rintro ⟨a, c, h1, h2, h3, h4⟩
    exact ⟨_, h1, a, c, rfl, h2, h3, h4⟩
  · rintro ⟨v, h0, a, c, h1, h2, h3, h4⟩
    exact ⟨a, c, by rw [h0, h1], h2, h3, h4⟩
def HdS.via {α β γ : Type} [B : Rp β] [C : Rp γ] (f : α → List β × γ) : @HdS α β γ (Rp.via (inferInstance : Rp (List β × γ)) f) B C :=
  @HdS.mk α β γ (Rp.via (inferInstance : Rp (List β × γ)) f) B C (fun x => (f x).1) (fun x => (f x).2) (Nat.add_comm 1 C.n) rfl (fun F x cs w => by
    show (∃ c1 c2, cs = c1 ++ c2 ∧ (inferInstance : Rp (List β)).rel F (f x).1 c1 w ∧ C.rel F (f x).2 c2 w) ↔ _
    constructor
    · rintro ⟨c1, c2, rfl, h1, h2⟩
      obtain ⟨v, rfl, h3⟩ := (list_rel F _ c1 w).1 h1
      exact ⟨v, c2, rfl, h3, h2⟩
    · rintro ⟨v, c, rfl, h1, h2⟩
      exact ⟨[v], c, rfl, (list_rel F _ _ w).2 ⟨v, rfl, h1⟩, h2⟩)

theorem OwRel.stab1 {α : Type} [R : Rp α] {F Fe F' Fe' : Nat → Prop} {e : TypeId} {l : List α} {v : Value} {w w' : World} (hs : w.heap.size ≤ w'.heap.size)
    (hk : ∀ b, v.ownBlock = some b → b < w.heap.size → F b → w'.heap[b]? = w.heap[b]? ∧ F' b) (hk' : ∀ b, b < w.heap.size → Fe b → w'.heap[b]? = w.heap[b]? ∧ Fe' b) (h : OwRel F Fe e l v w) : OwRel F' Fe' e l v w' := by
  obtain ⟨xs, h1, h2, h3⟩ := h
  have : OwRel (fun b => F b ∧ v.ownBlock = some b) Fe e l v w := ⟨xs, h1, h2, fun b hb => ⟨h3 b hb, hb⟩⟩
  exact OwRel.stab hs (fun b hb hF => hk b hF.2 hb hF.1) hk' this
theorem OwRel.lt {α : Type} [R : Rp α] {F Fe : Nat → Prop} {e : TypeId} {l : List α} {v : Value} {w : World} (h : OwRel F Fe e l v w) {b : Nat} (hb : v.ownBlock = some b) : F b ∧ b < w.heap.size := by
  obtain ⟨xs, h1, h2, h3⟩ := h
  exact ⟨h3 b hb, (h1.lt b hb).2⟩
theorem OwRel.one {α : Type} [R : Rp α] {F Fe : Nat → Prop} {e : TypeId} {l : List α} {v : Value} {w : World} (h : OwRel F Fe e l v w) : v.oneCell' = true := by
  obtain ⟨xs, h1, _⟩ := h
  rcases h1.2 with ⟨rfl, _⟩ | ⟨b, cap, cur, rfl, _⟩ <;> rfl

section
variable {α β γ : Type} [R : Rp α] [B : Rp β] [C : Rp γ] (H : HdS α β γ)

/-- The cells of a list of such data, each with a row of its own, and the blocks of those rows. -/
def RelN (Fr Fe : Nat → Prop) (er : TypeId) : List α → List Value → List (Option Nat) → World → Prop
  | [], cs, bs, _ => cs = [] ∧ bs = []
  | x :: l, cs, bs, w => ∃ v c1 c2 bs', cs = v :: (c1 ++ c2) ∧ bs = v.ownBlock :: bs' ∧ OwRel Fr Fe er (H.hd x) v w ∧ C.rel Fe (H.tl x) c1 w ∧ RelN Fr Fe er l c2 bs' w
variable {H} {Fr Fe Fr' Fe' : Nat → Prop} {er : TypeId} {w w' : World}
theorem RelN.stab (hs : w.heap.size ≤ w'.heap.size) (hk' : ∀ b, b < w.heap.size → Fe b → w'.heap[b]? = w.heap[b]? ∧ Fe' b) : ∀ (l : List α) (cs : List Value) (bs : List (Option Nat)),
    (∀ b, some b ∈ bs → b < w.heap.size → Fr b → w'.heap[b]? = w.heap[b]? ∧ Fr' b) → RelN H Fr Fe er l cs bs w → RelN H Fr' Fe' er l cs bs w'
  | [], _, _, _, h => h
  | x :: l, cs, bs, hk, h => by
    obtain ⟨v, c1, c2, bs', h1, rfl, h3, h4, h5⟩ := h
    exact ⟨v, c1, c2, bs', h1, rfl, OwRel.stab1 hs (fun b hb => hk b (by rw [hb]; simp)) hk' h3, C.stab Fe Fe' _ c1 w w' hs hk' h4, RelN.stab hs hk' l c2 bs' (fun b hb => hk b (by simp [hb])) h5⟩
theorem RelN.len : ∀ (l : List α) (cs : List Value) (bs : List (Option Nat)), RelN H Fr Fe er l cs bs w → cs.length = l.length * R.n ∧ bs.length = l.length
  | [], cs, bs, h => by rw [h.1, h.2]; simp
  | x :: l, cs, bs, h => by
    obtain ⟨v, c1, c2, bs', rfl, rfl, h3, h4, h5⟩ := h
    obtain ⟨k1, k2⟩ := RelN.len l c2 bs' h5
    have := C.len _ _ _ _ h4
    have hn := H.n
    simp only [List.length_cons, List.length_append]
    rw [k1, k2, this, Nat.add_mul]
    omega
theorem RelN.one : ∀ (l : List α) (cs : List Value) (bs : List (Option Nat)), RelN H Fr Fe er l cs bs w → ∀ c ∈ cs, c.oneCell' = true
  | [], cs, bs, h => by rw [h.1]; simp
  | x :: l, cs, bs, h => by
    obtain ⟨v, c1, c2, bs', rfl, rfl, h3, h4, h5⟩ := h
    intro c hc
    simp only [List.mem_cons, List.mem_append] at hc
    rcases hc with rfl | hc | hc
    · exact h3.one
    · exact C.one _ _ _ _ h4 c hc
    · exact RelN.one l c2 bs' h5 c hc
theorem RelN.mem : ∀ (l : List α) (cs : List Value) (bs : List (Option Nat)), RelN H Fr Fe er l cs bs w → ∀ b, some b ∈ bs → Fr b ∧ b < w.heap.size
  | [], cs, bs, h, b, hb => by rw [h.2] at hb; simp at hb
  | x :: l, cs, bs, h, b, hb => by
    obtain ⟨v, c1, c2, bs', rfl, rfl, h3, h4, h5⟩ := h
    simp only [List.mem_cons] at hb
    rcases hb with hb | hb
    · exact h3.lt hb.symm
    · exact RelN.mem l c2 bs' h5 b hb
theorem RelN.app : ∀ (l m : List α) (cs ds : List Value) (bs bt : List (Option Nat)), RelN H Fr Fe er l cs bs w → RelN H Fr Fe er m ds bt w → RelN H Fr Fe er (l ++ m) (cs ++ ds) (bs ++ bt) w
  | [], m, cs, ds, bs, bt, h, k => by rw [h.1, h.2]; exact k
  | x :: l, m, cs, ds, bs, bt, h, k => by
    obtain ⟨v, c1, c2, bs', rfl, rfl, h3, h4, h5⟩ := h
    exact ⟨v, c1, c2 ++ ds, bs' ++ bt, by simp, by simp, h3, h4, RelN.app l m c2 ds bs' bt h5 k⟩
theorem RelN.split : ∀ (l m : List α) (cs : List Value) (bs : List (Option Nat)), RelN H Fr Fe er (l ++ m) cs bs w → ∃ c1 c2 b1 b2, cs = c1 ++ c2 ∧ bs = b1 ++ b2 ∧ RelN H Fr Fe er l c1 b1 w ∧ RelN H Fr Fe er m c2 b2 w
  | [], m, cs, bs, h => ⟨[], cs, [], bs, rfl, rfl, ⟨rfl, rfl⟩, h⟩
  | x :: l, m, cs, bs, h => by
    obtain ⟨v, c1, c2, bs', rfl, rfl, h3, h4, h5⟩ := h
    obtain ⟨d1, d2, b1, b2, rfl, rfl, k1, k2⟩ := RelN.split l m c2 bs' h5
    exact ⟨v :: (c1 ++ d1), d2, v.ownBlock :: b1, b2, by simp, by simp, ⟨v, c1, d1, b1, rfl, rfl, h3, h4, k1⟩, k2⟩
theorem RelN.relL {F : Nat → Prop} (h1 : ∀ b, Fr b → F b) (h2 : ∀ b, Fe b → F b) : ∀ (l : List α) (cs : List Value) (bs : List (Option Nat)), RelN H Fr Fe er l cs bs w → RelL F l cs w
  | [], cs, bs, h => h.1
  | x :: l, cs, bs, h => by
    obtain ⟨v, c1, c2, bs', rfl, rfl, h3, h4, h5⟩ := h
    refine ⟨v :: c1, c2, rfl, (H.split F x _ w).2 ⟨v, c1, rfl, ?_, ?_⟩, RelN.relL h1 h2 l c2 bs' h5⟩
    · exact SlRel.stab (Nat.le_refl _) (fun b _ hb => ⟨rfl, h1 b hb⟩) (fun b _ hb => ⟨rfl, h2 b hb⟩) h3.sl
    · exact C.stab Fe F _ c1 w w (Nat.le_refl _) (fun b _ hb => ⟨rfl, h2 b hb⟩) h4
end

def DistO (bs : List (Option Nat)) : Prop := bs.Pairwise (fun a b => a ≠ none → a ≠ b)
theorem DistO.app {bs bt : List (Option Nat)} (h : DistO bs) (k : DistO bt) (hd : ∀ b, some b ∈ bs → some b ∉ bt) : DistO (bs ++ bt) :=
  List.pairwise_append.2 ⟨h, k, fun a ha b hb hn he => by
    cases a with
    | none => exact hn rfl
    | some x => subst he; exact hd x ha hb⟩
theorem DistO.left {bs bt : List (Option Nat)} (h : DistO (bs ++ bt)) : DistO bs := (List.pairwise_append.1 h).1
theorem DistO.right {bs bt : List (Option Nat)} (h : DistO (bs ++ bt)) : DistO bt := (List.pairwise_append.1 h).2.1
theorem DistO.apart {bs bt : List (Option Nat)} (h : DistO (bs ++ bt)) (b : Nat) (h1 : some b ∈ bs) : some b ∉ bt := fun h2 =>
  (List.pairwise_append.1 h).2.2 _ h1 _ h2 (by simp) rfl

/-! ### facts -/
section
variable {α β γ : Type} [R : Rp α] [B : Rp β] [C : Rp γ]
def Ow2Rel (H : HdS α β γ) (Fo Fr Fe : Nat → Prop) (e er : TypeId) (l : List α) (v : Value) (w : World) : Prop :=
  ∃ xs bs, w.ownsRow 0 e R.n v l.length xs ∧ RelN H Fr Fe er l xs bs w ∧ DistO bs ∧ ∀ b, v.ownBlock = some b → Fo b
theorem ownsRow_keep {e : TypeId} {n m : Nat} {v : Value} {xs : List Value} {w w' : World} (h : w.ownsRow 0 e n v m xs) (hk : ∀ b, v.ownBlock = some b → b < w.heap.size → w'.heap[b]? = w.heap[b]?) : w'.ownsRow 0 e n v m xs := by
  refine ⟨h.1, ?_⟩
  rcases h.2 with hn | ⟨b, cap, cur, hv, h0, hb, rest⟩
  · exact .inl hn
  · refine .inr ⟨b, cap, cur, hv, h0, ?_, rest⟩
    have hlt : b < w.heap.size := (Array.getElem?_eq_some_iff.1 hb).1
    rw [hk b (by rw [hv]; rfl) hlt]
    exact hb
theorem Ow2Rel.stab {H : HdS α β γ} {Fo Fr Fe Fo' Fr' Fe' : Nat → Prop} {e er : TypeId} {l : List α} {v : Value} {w w' : World} (hs : w.heap.size ≤ w'.heap.size)
    (hk0 : ∀ b, b < w.heap.size → Fo b → w'.heap[b]? = w.heap[b]? ∧ Fo' b) (hk : ∀ b, b < w.heap.size → Fr b → w'.heap[b]? = w.heap[b]? ∧ Fr' b) (hk' : ∀ b, b < w.heap.size → Fe b → w'.heap[b]? = w.heap[b]? ∧ Fe' b)
    (h : Ow2Rel H Fo Fr Fe e er l v w) : Ow2Rel H Fo' Fr' Fe' e er l v w' := by
  obtain ⟨xs, bs, h1, h2, h3, h4⟩ := h
  exact ⟨xs, bs, ownsRow_keep h1 (fun b hb hlt => (hk0 b hlt (h4 b hb)).1), RelN.stab hs hk' l xs bs (fun b _ => hk b) h2, h3, fun b hb => (hk0 b (h1.lt b hb).2 (h4 b hb)).2⟩

def Fact.ow2 (H : HdS α β γ) (T Tr te : List Nat) (e er : TypeId) (l : List α) : Fact where
  tags := T ++ (Tr ++ te)
  ids := []
  p := fun g v w => Ow2Rel H (fun b => g.om b ∈ T) (fun b => g.om b ∈ Tr) (fun b => g.om b ∈ te) e er l v w
  stab := fun g g' v w w' hk h => Ow2Rel.stab hk.size
    (fun b hb ht => ⟨(hk.block b hb (List.mem_append_left _ ht)).1, by rw [(hk.block b hb (List.mem_append_left _ ht)).2]; exact ht⟩)
    (fun b hb ht => ⟨(hk.block b hb (List.mem_append_right _ (List.mem_append_left _ ht))).1, by rw [(hk.block b hb (List.mem_append_right _ (List.mem_append_left _ ht))).2]; exact ht⟩)
    (fun b hb ht => ⟨(hk.block b hb (List.mem_append_right _ (List.mem_append_right _ ht))).1, by rw [(hk.block b hb (List.mem_append_right _ (List.mem_append_right _ ht))).2]; exact ht⟩) h
/-- The same, of a slice that has a name. -/
def Fact.own2 (H : HdS α β γ) (t : Nat) (Tr te : List Nat) (e er : TypeId) (l : List α) : Fact where
  tags := t :: (Tr ++ te)
  ids := [t]
  p := fun g _ w => Ow2Rel H (fun b => g.om b = t) (fun b => g.om b ∈ Tr) (fun b => g.om b ∈ te) e er l (g.ga t) w
  stab := fun g g' v w w' hk h => by
    show Ow2Rel H (fun b => g'.om b = t) (fun b => g'.om b ∈ Tr) (fun b => g'.om b ∈ te) e er l (g'.ga t) w'
    rw [hk.ids t (by simp)]
    exact Ow2Rel.stab hk.size
      (fun b hb ht => by have := hk.block b hb (by rw [ht]; simp); exact ⟨this.1, by rw [this.2]; exact ht⟩)
      (fun b hb ht => by have := hk.block b hb (List.mem_cons_of_mem _ (List.mem_append_left _ ht)); exact ⟨this.1, by rw [this.2]; exact ht⟩)
      (fun b hb ht => by have := hk.block b hb (List.mem_cons_of_mem _ (List.mem_append_right _ ht)); exact ⟨this.1, by rw [this.2]; exact ht⟩) h
end
section
variable {G : List It} {α β γ : Type} [R : Rp α] [B : Rp β] [C : Rp γ] {H : HdS α β γ} {T Tr te T' Tr' te' : List Nat} {e er : TypeId} {l : List α}
theorem Cv.ow2Ow : Cv G (Fact.ow2 H T Tr te e er l) (Fact.ow T (Tr ++ te) e l) := fun _ _ _ _ _ h => by
  obtain ⟨xs, bs, h1, h2, h3, h4⟩ := h
  exact ⟨xs, h1, RelN.relL (fun b hb => List.mem_append_left _ hb) (fun b hb => List.mem_append_right _ hb) l xs bs h2, h4⟩
theorem Cv.isvOw2 {t : Nat} (hrs : look G (rs t) = some (.own2 H t Tr te e er l)) : Cv G (.isv t) (Fact.ow2 H [t] Tr te e er l) := fun a w g v hf hv => by
  obtain ⟨xs, bs, h1, h2, h3, h4⟩ := hf _ _ hrs
  rw [show v = g.ga t from hv]
  exact ⟨xs, bs, h1, h2, h3, fun b hb => by simp [h4 b hb]⟩
theorem Cv.nilOw2 : Cv G .nilv (Fact.ow2 H T Tr te e er ([] : List α)) := fun _ w g v _ h => by
  rw [show v = .slice none 0 0 from h]
  exact ⟨[], [], World.ownsRow_nil w 0 e R.n, ⟨rfl, rfl⟩, List.Pairwise.nil, fun b hb => by cases hb⟩
theorem Cv.ow2M (h1 : subB T T' = true) (h2 : subB Tr Tr' = true) (h3 : subB te te' = true) : Cv G (Fact.ow2 H T Tr te e er l) (Fact.ow2 H T' Tr' te' e er l) := fun _ _ _ _ _ h =>
  Ow2Rel.stab (Nat.le_refl _) (fun _ _ hb => ⟨rfl, subB_spec h1 _ hb⟩) (fun _ _ hb => ⟨rfl, subB_spec h2 _ hb⟩) (fun _ _ hb => ⟨rfl, subB_spec h3 _ hb⟩) h
end

/-- Facts that stand where blocks of some tags turn, or get other tags, and some names get other values. -/
theorem facts_killR {G : List It} {g g' : Gh} {a : Act} {w w' : World} (K I : List Nat) (h : Facts G g a w) (hs : w.heap.size ≤ w'.heap.size)
    (hb : ∀ b, b < w.heap.size → g.om b ∉ K → w'.heap[b]? = w.heap[b]? ∧ g'.om b = g.om b) (hga : ∀ s, s ∉ I → g'.ga s = g.ga s) : Facts (killIds I (killTs K G)) g' a w' := fun s f hl => by
  obtain ⟨I', _, h2, h3⟩ := lookK_killIds I (killTs K G) [] [] s f hl
  obtain ⟨K', _, h5, h6⟩ := lookK_killTs K G [] I' s f h3
  have hd := lookK_disj G K' I' s f h6
  exact f.stab g g' _ w w' ⟨hs, fun b hbl ht => hb b hbl (fun hK => disj_spec hd.1 (h5 _ hK) ht), fun s' hs' => hga s' (fun he => disj_spec hd.2 (h2 _ he) hs')⟩ (h s f (lookK_sub G K' [] I' [] s f (by simp) (by simp) h6))
end
end GL

namespace GL
section
open Go

theorem all10_app {a b : List Nat} (h : all10 (a ++ b) = true) : all10 a = true ∧ all10 b = true := by
  induction a with
  | nil => exact ⟨rfl, h⟩
  | cons x a ih =>
    simp only [List.cons_append, all10, Bool.and_eq_true] at h ⊢
    exact ⟨⟨h.1, (ih h.2).1⟩, (ih h.2).2⟩

section
variable {X : Cx} {G : List It} {Q : Exit → Act → World → Prop} {ops : Array Oper} {rest : List Oper} {d : Nat} {dO : Option Nat} {ty : TypeId} {pos : String} {af : Array Edge} {gd : Option (Nat × Bool)}
variable {α β γ : Type} [R : Rp α] [B : Rp β] [C : Rp γ] {H : HdS α β γ}

theorem flds_split {g : Gh} {w : World} {T te : List Nat} {er : TypeId} {h : List β} {es : List Ent} {cs : List Value} (hr : FldRel g w ((false, 1, Fact.ow T te er h) :: entsL te es) cs) :
    ∃ v c, cs = v :: c ∧ OwRel (fun b => g.om b ∈ T) (fun b => g.om b ∈ te) er h v w ∧ EntsRel (fun b => g.om b ∈ te) es c w := by
  obtain ⟨c1, c2, rfl, h1, h2, h3, h4, h5⟩ := hr
  match c1, h1 with
  | [v], _ => exact ⟨v, c2, rfl, h4, (entsL_rel es c2).1 h5⟩

/-- []T{x}, one that holds a row of its own. -/
theorem Spec.lit2 {x : Operand} {y : α} {h : List β} {es : List Ent} {T te : List Nat} {ts e er : TypeId} {pt : Array (Nat × Operand)} (H : HdS α β γ) (t : Nat) (ht : Nat.ble 10 t = true) (hty : OwnTy X.P ts e α) (hpt : pt = #[(0, x)])
    (hsm : Nat.ble R.n 16777216 = true) (hh : H.hd y = h) (hes : ∀ F cs w, C.rel F (H.tl y) cs w ↔ EntsRel F es cs w) (hx : Has G x (.flds ((false, 1, .ow T te er h) :: entsL te es))) :
    Spec X G ⟨dO, .buildSlice ts 1 pt, ty, pos, af, gd⟩ (Fact.ow2 H [t] T te e er [y]) := fun a w g hs hfr hg hf => by
  subst hh
  have ht' : 10 ≤ t := by simpa using ht
  obtain ⟨cs, hv, hr⟩ := hx a w g hf
  obtain ⟨v, c, rfl, h1, h2⟩ := flds_split hr
  obtain ⟨i, zv, hi, hiz, hisz, hby, hzs⟩ := hty.info
  have hsm' : R.n ≤ 16777216 := by simpa using hsm
  have hn := H.n
  have hcl : c.length = C.n := C.len _ _ _ _ ((hes _ _ _).2 h2)
  have hone : ∀ u ∈ v :: c, u.oneCell' = true := fun u hu => by
    rcases List.mem_cons.1 hu with rfl | hu
    · exact h1.one
    · exact C.one _ _ _ _ ((hes _ _ _).2 h2) u hu
  have hrep : ∀ (i : Nat) (y : Raw R.n) (u : Value), [(⟨v :: c, by simp; omega, hone⟩ : Raw R.n)][i]? = some y → [a.eval x][i]? = some u → Rep (fun _ => True) y u w := fun i y u hy hu => by
    cases i with
    | zero =>
      simp only [List.getElem?_cons_zero, Option.some.injEq] at hy hu
      subst hy; subst hu
      exact ⟨v :: c, rfl, by rw [hv]; rfl⟩
    | succ i => simp at hy
  obtain ⟨es', hes', hfill⟩ := fill_seq (R := (inferInstance : Rp (Raw R.n))) (F := fun _ => True) (w := w) [(⟨v :: c, by simp; omega, hone⟩ : Raw R.n)] [a.eval x] 0 ((Array.range (1 * R.n)).map (zv.cells[· % zv.cells.size]!)) rfl hrep (by
    show ((Array.range (1 * R.n)).map (zv.cells[· % zv.cells.size]!)).size = (0 + 1) * R.n
    rw [Array.size_map, Array.size_range])
  have hes'' : es' = v :: c := by
    obtain ⟨d1, d2, rfl, k1, k2⟩ := hes'
    rw [show d1 = v :: c from k1, show d2 = [] from k2, List.append_nil]
  subst hes''
  simp only [Nat.zero_mul, List.take_zero, List.nil_append] at hfill
  have hnz : R.n ≠ 0 := by omega
  have hrun : (execOp a.eval ⟨dO, .buildSlice ts 1 pt, ty, pos, af, gd⟩).run X.P w = .ok (.value (.slice (some ⟨w.heap.size, 0, none⟩) 1 1)) (w.alloc (.cells (v :: c).toArray e)) := by
    unfold execOp
    simp only [hpt, Sem.run_bind]
    unfold Instr.buildSlice
    have hm : ((#[(0, x)] : Array (Nat × Operand)).map fun (i, x) => (i, a.eval x)).toList = [(0, a.eval x)] := by simp
    simp only [hm]
    have hno : ¬ (R.n > 2 ^ 24) := by omega
    have hf2 : Instr.fill (fun i => some (i * R.n, R.n)) (Array.map (fun x => zv.cells[x % zv.cells.size]!) (Array.range R.n)) [(0, a.eval x)] = some (v :: c).toArray := by
      have := hfill
      simp only [Nat.one_mul, List.zipIdx_cons, List.zipIdx_nil, List.map_cons, List.map_nil] at this
      exact this
    simp [run_underlying hty.und, rt_sizeOf hty.el, hno, hnz, zeroValue, typeInfo, hi, hiz, hf2, newRow]
  refine Yields.val hrun ⟨Fr.alloc w _, tagNew g w.heap.size t, hg.tagNew ht' (by simp) hfr.size, fun b hb => by simp [tagNew, hb], fun _ => rfl, ?_⟩
  refine ⟨v :: c, [v.ownBlock], ⟨by simp; omega, .inr ⟨w.heap.size, 1, (v :: c).toArray, rfl, Nat.zero_le _, heap_alloc_new w _, Nat.le_refl _, by simp [maxLen], by simp; omega, by show List.take (1 * R.n) (v :: c) = v :: c; exact List.take_of_length_le (by simp; omega)⟩⟩, ?_, ?_, ?_⟩
  · have h3 : RelN H (fun b => g.om b ∈ T) (fun b => g.om b ∈ te) er [y] (v :: c) [v.ownBlock] w := ⟨v, c, [], [], by simp, rfl, h1, (hes _ _ _).2 h2, rfl, rfl⟩
    refine RelN.stab (by simp) (fun b hb h => ⟨RowKit.Below.heap_alloc w _ b hb, by simp [tagNew, hb, h]⟩) _ _ _ (fun b _ hb h => ⟨RowKit.Below.heap_alloc w _ b hb, by simp [tagNew, hb, h]⟩) h3
  · exact List.pairwise_singleton _ _
  · intro b hb
    simp only [Value.ownBlock, Option.some.injEq] at hb
    simp [tagNew, ← hb]

/-- The ghost in which the blocks of some tags have another, and new ones a tag. -/
def ghTo (g : Gh) (n t : Nat) (K : List Nat) (r : Nat) : Gh := ⟨fun b => if b < n then (if K.elem (g.om b) then r else g.om b) else t, g.ga⟩
theorem ghTo_out {g : Gh} {n t : Nat} {K : List Nat} {r b : Nat} (hb : b < n) (h : g.om b ∉ K) : (ghTo g n t K r).om b = g.om b := by
  simp only [ghTo, if_pos hb]
  rw [if_neg]
  simpa using h
theorem ghTo_in {g : Gh} {n t : Nat} {K : List Nat} {r b : Nat} (hb : b < n) (h : g.om b ∈ K) : (ghTo g n t K r).om b = r := by
  simp only [ghTo, if_pos hb]
  rw [if_pos]
  simpa using h
theorem GhE.to {w w' : World} {g : Gh} (h : GhE X w g) {t r : Nat} {K : List Nat} (ht : 10 ≤ t) (hr : 10 ≤ r) (hK : all10 K = true) (h0 : X.w0.heap.size ≤ w.heap.size) : GhE X w' (ghTo g w.heap.size t K r) := by
  have ho : ∀ b, b < X.w0.heap.size → (ghTo g w.heap.size t K r).om b = g.om b := fun b hb => ghTo_out (by omega) (fun hm => by have := all10_spec hK hm; have := h.ok.old b hb; omega)
  refine ⟨⟨fun b hb => by rw [ho b hb]; exact h.ok.old b hb, fun b hb hb' => ?_⟩, fun b hb => by rw [ho b hb]; exact h.om b hb⟩
  by_cases hlt : b < w.heap.size
  · by_cases hm : g.om b ∈ K
    · rw [ghTo_in hlt hm]; exact hr
    · rw [ghTo_out hlt hm]; exact h.ok.new b hb hlt
  · simp only [ghTo]; rw [if_neg hlt]; exact ht

theorem Ow2Rel.raw {Fo Fr Fe : Nat → Prop} {e er : TypeId} {l : List α} {v : Value} {w : World} (h : Ow2Rel H Fo Fr Fe e er l v w) :
    ∃ xs bs, w.ownsRow 0 e R.n v l.length xs ∧ RelN H Fr Fe er l xs bs w ∧ DistO bs ∧ (∀ b, v.ownBlock = some b → Fo b) ∧ ∃ m : List (Raw R.n), m.length = l.length ∧ (∀ F w, RelL F m xs w) ∧ Rep Fo m v w := by
  obtain ⟨xs, bs, h1, h2, h3, h4⟩ := h
  obtain ⟨m, hm1, hm2⟩ := raw_of l.length xs h1.1 (RelN.one l xs bs h2)
  refine ⟨xs, bs, h1, h2, h3, h4, m, hm1, hm2, ?_⟩
  have : OwRel Fo Fo e m v w := ⟨xs, by rw [hm1]; exact h1, hm2 _ _, h4⟩
  exact SlRel.rep (fun _ hb => hb) (fun _ hb => hb) this.sl

/-- append of one's own to one's own: what is handed is used up. -/
theorem Step.append2 {s x : Operand} {T Tr te T' K te' teO : List Nat} {l m r : List α} (q : Nat) {ts e er : TypeId} (hr : app l m = some r) (hag : R.agg = true) (hT10 : all10 (T ++ K) = true) (hq10 : Nat.ble 10 q = true) (hT0 : T.isEmpty = false) (hq : Tr.elem q = true)
    (hd : Nat.blt d X.n = true) (hty : OwnTy X.P ts e α) (h1 : disj (Tr ++ (te ++ te')) (T ++ K) = true) (h2 : disj K T = true) (h3 : subB te teO = true) (h4 : subB te' teO = true)
    (hs : Has G s (.ow2 H T Tr te e er l)) (hx : Has G x (.ow2 H T' K te' e er m)) :
    Step X G ⟨some d, .call { callee := .builtin .append, args := #[s, x], argTypes := #[ts, ts] }, ty, pos, af, none⟩ (.fact d (.ow2 H T Tr teO e er r) :: killTs (T ++ K) []) := fun G' hsub a w env Kk Q hK => by
  have hd' : d < X.n := by simpa [Nat.blt_eq] using hd
  obtain ⟨g, hg, hf'⟩ := env.facts
  have hf := hsub a w g hf'
  obtain ⟨xs, bs, hown, hrel, hdis, htag⟩ := hs a w g hf
  obtain ⟨ys, bt, hown2, hrel2, hdis2, htag2, mr, hml, hmr, hmrep⟩ := (hx a w g hf).raw
  obtain ⟨hT10', hK10⟩ := all10_app hT10
  obtain ⟨t, ht⟩ : ∃ t, t ∈ T := by
    cases T with
    | nil => simp at hT0
    | cons t _ => exact ⟨t, by simp⟩
  have ht' : 10 ≤ t := all10_spec hT10' ht
  have hq' : 10 ≤ q := by simpa using hq10
  have hqm : q ∈ Tr := by simpa using hq
  have hTr : ∀ {b : Nat}, b ∈ Tr → b ∉ T ∧ b ∉ K := fun hb => ⟨fun h => disj_spec h1 (List.mem_append_left K h) (List.mem_append_left _ hb), fun h => disj_spec h1 (List.mem_append_right T h) (List.mem_append_left _ hb)⟩
  have hte : ∀ {b : Nat}, b ∈ te → b ∉ T ∧ b ∉ K := fun hb => ⟨fun h => disj_spec h1 (List.mem_append_left K h) (List.mem_append_right _ (List.mem_append_left _ hb)), fun h => disj_spec h1 (List.mem_append_right T h) (List.mem_append_right _ (List.mem_append_left _ hb))⟩
  have hte' : ∀ {b : Nat}, b ∈ te' → b ∉ T ∧ b ∉ K := fun hb => ⟨fun h => disj_spec h1 (List.mem_append_left K h) (List.mem_append_right _ (List.mem_append_right _ hb)), fun h => disj_spec h1 (List.mem_append_right T h) (List.mem_append_right _ (List.mem_append_right _ hb))⟩
  have hKT : ∀ {b : Nat}, b ∈ K → b ∉ T := fun hb h => disj_spec h2 h hb
  unfold app at hr
  split at hr
  case isFalse => cases hr
  rename_i hlen
  cases hr
  obtain ⟨v', w', news, hrun, hown', hgr, hnew, hblk⟩ := run_append (ty := ty) (hty.raw hag) (by rw [hml]; exact hlen) hown hmrep
  have hnews : news = ys := raw_eq (F' := fun _ => True) mr news ys hnew (hmr _ w)
  subst hnews
  have hrun' : (execOp a.eval ⟨some d, .call { callee := .builtin .append, args := #[s, x], argTypes := #[ts, ts] }, ty, pos, af, none⟩).run X.P w = .ok (.value v') w' := by
    unfold execOp
    simp [resolve, invoke, builtin, hrun]
  unfold Oper.wp
  rw [hrun']
  refine hK v' w' ?_
  rw [List.cons_append, killTs_app]
  have hb : ∀ b, b < w.heap.size → g.om b ∉ T → w'.heap[b]? = w.heap[b]? := fun b hb hne => hgr.block b hb (fun he => hne (htag b he.symm))
  refine ⟨by simp [Act.put, env.size], env.defers, Fr.owns env.fr hg hT10' hgr.os hgr.tape hgr.output hgr.size hb, ghTo g w.heap.size t K q, hg.to ht' hq' hK10 env.fr.size, ?_⟩
  refine Facts.put (by rw [env.size]; exact hd') ?_ ?_
  · exact facts_killR (T ++ K) [] hf' hgr.size (fun b hbl hn => ⟨hb b hbl (fun h => hn (List.mem_append_left _ h)), ghTo_out hbl (fun h => hn (List.mem_append_right _ h))⟩) (fun _ _ => rfl)
  · refine ⟨xs ++ news, bs ++ bt, by rw [List.length_append, ← hml]; exact hown', ?_, ?_, ?_⟩
    · refine RelN.app l m xs news bs bt ?_ ?_
      · exact RelN.stab hgr.size (fun b hbl h => ⟨hb b hbl (hte h).1, by rw [ghTo_out hbl (hte h).2]; exact subB_spec h3 _ h⟩) l xs bs (fun b _ hbl h => ⟨hb b hbl (hTr h).1, by rw [ghTo_out hbl (hTr h).2]; exact h⟩) hrel
      · exact RelN.stab hgr.size (fun b hbl h => ⟨hb b hbl (hte' h).1, by rw [ghTo_out hbl (hte' h).2]; exact subB_spec h4 _ h⟩) m news bt (fun b _ hbl h => ⟨hb b hbl (hKT h), by rw [ghTo_in hbl h]; exact hqm⟩) hrel2
    · exact DistO.app hdis hdis2 (fun b hb1 hb2 => (hTr (RelN.mem l xs bs hrel b hb1).1).2 (RelN.mem m news bt hrel2 b hb2).1)
    · intro b hb'
      rcases hblk b hb' with h5 | h5
      · have h6 := htag b h5
        have h7 := (hown.lt b h5).2
        rw [ghTo_out h7 (fun h => hKT h h6)]; exact h6
      · show (ghTo g w.heap.size t K q).om b ∈ T
        simp only [ghTo]
        rw [if_neg (by omega)]; exact ht

theorem Ad.ow2 {s : Nat} {f : Fact} {T Tr te : List Nat} {e er : TypeId} {l : List α} (t : Nat) (ht : Nat.ble 10 t = true) (hT : all10 T = true) (h1 : disj (Tr ++ te) T = true) (hs : look G s = some f) (hc : Cv G f (Fact.ow2 H T Tr te e er l)) :
    Ad X G (.fact s (.isv t) :: .fact (rs t) (.own2 H t Tr te e er l) :: .killId t :: killTs T G) := fun a w env => by
  obtain ⟨g, hg, hf⟩ := env.facts
  obtain ⟨xs, bs, h2, h3, h4, h5⟩ := hc a w g _ hf (hf s _ hs)
  have hga : (ghRe g t (a.tmps.getD s undef) (a.tmps.getD s undef).ownBlock).ga t = a.tmps.getD s undef := if_pos rfl
  have hout : ∀ b, g.om b ∉ T → (ghRe g t (a.tmps.getD s undef) (a.tmps.getD s undef).ownBlock).om b = g.om b := fun b hb => if_neg (fun he => hb (h5 b he))
  refine ⟨env.size, env.defers, env.fr, ghRe g t (a.tmps.getD s undef) (a.tmps.getD s undef).ownBlock, hg.re (by simpa using ht) (fun b hb => all10_spec hT (h5 b hb)), ?_⟩
  have hb : Facts (.fact (rs t) (.own2 H t Tr te e er l) :: .killId t :: killTs T G) (ghRe g t (a.tmps.getD s undef) (a.tmps.getD s undef).ownBlock) a w :=
    Facts.ghost (facts_retag hf hout (fun _ hs => if_neg hs)) (fun v => by
      show Ow2Rel H _ _ _ e er l ((ghRe g t (a.tmps.getD s undef) (a.tmps.getD s undef).ownBlock).ga t) w
      rw [hga]
      refine ⟨xs, bs, h2, ?_, h4, fun b hb => if_pos hb⟩
      exact RelN.stab (Nat.le_refl _) (fun b _ h => ⟨rfl, by rw [hout b (fun hT => disj_spec h1 hT (List.mem_append_right _ h))]; exact h⟩) l xs bs (fun b _ _ h => ⟨rfl, by rw [hout b (fun hT => disj_spec h1 hT (List.mem_append_left _ h))]; exact h⟩) h3)
  intro s' f' hl
  rcases lookK_nil_spec hl with ⟨rfl, rfl⟩ | ⟨_, hl⟩
  · exact hga.symm
  · exact hb s' f' hl
end
end
end GL

namespace GL
section
open Go

/-- The ghost in which some blocks have other tags, and some names other values. -/
def ghLend (g : Gh) (f : Nat → Option Nat) (u : Nat) (vs : List Value) : Gh := ⟨fun b => (f b).getD (g.om b), gaSet g.ga u vs⟩

theorem FldRel.app {g : Gh} {w : World} : ∀ (a b : Ls) (c1 c2 : List Value), FldRel g w a c1 → FldRel g w b c2 → FldRel g w (a ++ b) (c1 ++ c2)
  | [], b, c1, c2, h, k => by rw [show c1 = [] from h]; exact k
  | l :: a, b, c1, c2, h, k => by
    obtain ⟨d1, d2, rfl, h2, h3, h3', h4, h5⟩ := h
    exact ⟨d1, d2 ++ c2, by simp, h2, h3, h3', h4, FldRel.app a b d2 c2 h5 k⟩

section
variable {α β γ : Type} [R : Rp α] [B : Rp β] [C : Rp γ]
structure LentP (H : HdS α β γ) (g : Gh) (w : World) (t u : Nat) (Tr te : List Nat) (e er : TypeId) (k : Nat) (l : List α) (ps : Ps) (b cap : Nat) (cur : Array Value) (c1 c2 c3 cs : List Value) (b1 b3 : List (Option Nat)) : Prop where
  sl : g.ga t = .slice (some ⟨b, 0, none⟩) l.length cap
  pt : g.ga u = .pointer (some ⟨b, 0, none⟩)
  om : g.om b = u
  row : w.heap[b]? = some (.cells cur e (0, 0))
  lc : l.length ≤ cap
  cm : cap ≤ maxLen
  sz : cur.size = cap * R.n
  kl : k < l.length
  eq : cur.toList = c1 ++ (c2 ++ (c3 ++ cs))
  pr : PRel g (u + 1) ps c2
  n2 : c2.length = R.n
  r1 : RelN H (fun b => g.om b ∈ Tr) (fun b => g.om b ∈ te) er (l.take k) c1 b1 w
  r3 : RelN H (fun b => g.om b ∈ Tr) (fun b => g.om b ∈ te) er (l.drop (k + 1)) c3 b3 w
  di : DistO (b1 ++ b3)
theorem LentP.n1 {H : HdS α β γ} {g : Gh} {w : World} {t u : Nat} {Tr te : List Nat} {e er : TypeId} {k : Nat} {l : List α} {ps : Ps} {b cap : Nat} {cur : Array Value} {c1 c2 c3 cs : List Value} {b1 b3 : List (Option Nat)}
    (h : LentP H g w t u Tr te e er k l ps b cap cur c1 c2 c3 cs b1 b3) : c1.length = k * R.n := by
  have := (RelN.len _ _ _ h.r1).1
  rw [this, List.length_take, Nat.min_eq_left (Nat.le_of_lt h.kl)]
/-- A slice t of which element k is lent: it lies in the row of the variable u. -/
def Fact.lent (H : HdS α β γ) (t u : Nat) (Tr te : List Nat) (e er : TypeId) (k : Nat) (l : List α) (ps : Ps) : Fact where
  tags := u :: (Tr ++ te)
  ids := t :: u :: psIds (u + 1) ps
  p := fun g _ w => ∃ b cap cur c1 c2 c3 cs b1 b3, LentP H g w t u Tr te e er k l ps b cap cur c1 c2 c3 cs b1 b3
  stab := fun g g' v w w' hk h => by
    obtain ⟨b, cap, cur, c1, c2, c3, cs, b1, b3, h⟩ := h
    have hlt : b < w.heap.size := (Array.getElem?_eq_some_iff.1 h.row).1
    have hb := hk.block b hlt (by rw [h.om]; simp)
    have hTr : ∀ b, b < w.heap.size → g.om b ∈ Tr → w'.heap[b]? = w.heap[b]? ∧ g'.om b ∈ Tr := fun b hb ht => by
      have := hk.block b hb (List.mem_cons_of_mem _ (List.mem_append_left _ ht))
      exact ⟨this.1, by rw [this.2]; exact ht⟩
    have hte : ∀ b, b < w.heap.size → g.om b ∈ te → w'.heap[b]? = w.heap[b]? ∧ g'.om b ∈ te := fun b hb ht => by
      have := hk.block b hb (List.mem_cons_of_mem _ (List.mem_append_right _ ht))
      exact ⟨this.1, by rw [this.2]; exact ht⟩
    exact ⟨b, cap, cur, c1, c2, c3, cs, b1, b3, by rw [hk.ids t (by simp)]; exact h.sl, by rw [hk.ids u (by simp)]; exact h.pt, by rw [hb.2]; exact h.om, by rw [hb.1]; exact h.row, h.lc, h.cm, h.sz, h.kl, h.eq,
      h.pr.stab ps (u + 1) _ (fun s hs => hk.ids s (List.mem_cons_of_mem _ (List.mem_cons_of_mem _ hs))), h.n2, RelN.stab hk.size hte _ _ _ (fun b _ => hTr b) h.r1, RelN.stab hk.size hte _ _ _ (fun b _ => hTr b) h.r3, h.di⟩
end

section
variable {X : Cx} {G : List It} {Q : Exit → Act → World → Prop} {ops : Array Oper} {rest : List Oper} {d : Nat} {dO : Option Nat} {ty : TypeId} {pos : String} {af : Array Edge} {gd : Option (Nat × Bool)}
variable {α β γ : Type} [R : Rp α] [B : Rp β] [C : Rp γ] {H : HdS α β γ}

theorem Ad.lend {Tr te : List Nat} {e er : TypeId} {l : List α} {y : α} {h : List β} {k : Nat} {es : List Ent} {ps : Ps} (H : HdS α β γ) (t u R1 : Nat) (hrs : look G (rs t) = some (.own2 H t Tr te e er l)) (hy : l[k]? = some y) (hh : H.hd y = h)
    (hes : ∀ F cs w, C.rel F (H.tl y) cs w ↔ EntsRel F es cs w) (h10 : all10 (t :: u :: R1 :: Tr) = true) (h1 : disj (Tr ++ te) [t, u, R1] = true) (h2 : disj te Tr = true) (h3 : disj [R1] [t, u] = true) (h5 : (Nat.blt t u || Nat.blt (u + es.length + 1) t) = true)
    (hps : lsPs ((false, 1, Fact.ow [R1] te er h) :: entsL te es) = ps) :
    Ad X G (.fact (rs t) (.lent H t u Tr te e er k l ps) :: flI (u + 1) ((false, 1, Fact.ow [R1] te er h) :: entsL te es) (killIds (u :: psIds (u + 1) ps) (killTs (t :: Tr) G))) := fun a w env => by
  subst hh
  obtain ⟨g, hg, hf⟩ := env.facts
  obtain ⟨xs, bs, hown, hrel, hdis, htag⟩ := hf _ _ hrs
  have hkl : k < l.length := (List.getElem?_eq_some_iff.1 hy).1
  have hl : l = l.take k ++ y :: l.drop (k + 1) := by
    have := (List.take_append_drop k l).symm
    rw [List.drop_eq_getElem_cons hkl, (List.getElem?_eq_some_iff.1 hy).2] at this
    exact this
  rw [hl] at hrel
  obtain ⟨c1, c2, b1, b2, rfl, rfl, k1, k2⟩ := RelN.split _ _ _ _ hrel
  obtain ⟨v, ct, cs, b3, rfl, rfl, k3, k4, k5⟩ := k2
  have hct : ct.length = C.n := C.len _ _ _ _ k4
  have hn := H.n
  have hap := hdis.apart
  have hd1 := hdis.left
  have hd3 : DistO b3 := (List.pairwise_cons.1 hdis.right).2
  have hv3 : ∀ b, v.ownBlock = some b → some b ∉ b3 := fun b hb hb3 => (List.pairwise_cons.1 hdis.right).1 _ hb3 (by rw [hb]; simp) hb
  have hv1 : ∀ b, v.ownBlock = some b → some b ∉ b1 := fun b hb hb1 => hap b hb1 (by rw [hb]; simp)
  have h13 : ∀ b, some b ∈ b1 → some b ∉ b3 := fun b hb1 hb3 => hap b hb1 (by simp [hb3])
  simp only [all10, Bool.and_eq_true, Nat.ble_eq] at h10
  obtain ⟨t10, u10, r10, htr10⟩ := h10
  have hne : ∀ x, x ∈ Tr ++ te → x ≠ t ∧ x ≠ u ∧ x ≠ R1 := fun x hx => ⟨fun he => disj_spec h1 (show t ∈ [t, u, R1] by simp) (he ▸ hx), fun he => disj_spec h1 (show u ∈ [t, u, R1] by simp) (he ▸ hx), fun he => disj_spec h1 (show R1 ∈ [t, u, R1] by simp) (he ▸ hx)⟩
  have hteTr : ∀ x, x ∈ te → x ∉ Tr := fun x hx hx' => disj_spec h2 hx' hx
  rcases hown.2 with ⟨_, h0⟩ | ⟨b, cap, cur, hv, _, hb, hnc, hcm, hcs, htake⟩
  · omega
  have hbt : g.om b = t := htag b (by rw [hv]; rfl)
  have hblt : b < w.heap.size := (Array.getElem?_eq_some_iff.1 hb).1
  have hcur : cur.toList = c1 ++ ((v :: ct) ++ (cs ++ cur.toList.drop (l.length * R.n))) := by
    have : cur.toList = (c1 ++ (v :: (ct ++ cs))) ++ cur.toList.drop (l.length * R.n) := by rw [← htake, List.take_append_drop]
    conv => lhs; rw [this]
    simp
  -- the new ghost
  let fb : Nat → Option Nat := fun x => if x = b then some u else if v.ownBlock = some x then some R1 else none
  have hfb0 : ∀ x, x ≠ b → v.ownBlock ≠ some x → fb x = none := fun x e1 e2 => by simp only [fb]; rw [if_neg e1, if_neg e2]
  have hTrb : ∀ x, g.om x ∈ Tr → x ≠ b := fun x hx he => (hne t (by rw [← hbt, ← he]; exact List.mem_append_left _ hx)).1 rfl
  have hteb : ∀ x, g.om x ∈ te → fb x = none := fun x hx => hfb0 x (fun he => (hne t (by rw [← hbt, ← he]; exact List.mem_append_right _ hx)).1 rfl) (fun he => hteTr _ hx (k3.lt he).1)
  have hFld : FldRel g w ((false, 1, Fact.ow Tr te er (H.hd y)) :: entsL te es) (v :: ct) :=
    ⟨[v], ct, rfl, rfl, by simpa using k3.one, fun _ => rfl, k3, (entsL_rel es ct).2 ((hes _ _ _).1 k4)⟩
  obtain ⟨vs, hpv⟩ := hFld.pv _ _
  have hvl := PV.len _ _ _ hpv
  obtain ⟨vr, rfl⟩ : ∃ vr, vs = v :: vr := by
    obtain ⟨d1, d2, v', vr, e1, e2, e3, e4, e5, e6, e7, e8⟩ := hpv
    match d1, e3 with
    | [x], _ =>
      simp only [List.cons_append, List.nil_append, List.cons.injEq] at e1
      exact ⟨vr, by rw [e2, e6, e1.1]; rfl⟩
  have hpvt : PV g w (entsL te es) ct vr := by
    obtain ⟨d1, d2, v', vr', e1, e2, e3, e4, e5, e6, e7, e8⟩ := hpv
    match d1, e3 with
    | [x], _ =>
      simp only [List.cons_append, List.nil_append, List.cons.injEq] at e1 e2
      rw [e1.2, e2.2]; exact e8
  have hes_len : (entsL te es).length = es.length := by simp [entsL]
  have hvrl : vr.length = es.length := by simp [hes_len] at hvl; exact hvl
  have hpsl : ps.length = es.length + 1 := by rw [← hps]; simp [lsPs, hes_len]
  let g2 : Gh := ghLend g fb u (.pointer (some ⟨b, 0, none⟩) :: v :: vr)
  have hgu : g2.ga u = .pointer (some ⟨b, 0, none⟩) := by
    show gaSet g.ga u (.pointer (some ⟨b, 0, none⟩) :: v :: vr) (u + 0) = _
    exact gaSet_in g.ga u (.pointer (some ⟨b, 0, none⟩) :: v :: vr) 0 _ rfl
  have hgi : ∀ j x, (v :: vr)[j]? = some x → g2.ga (u + 1 + j) = x := fun j x hj => by
    have := gaSet_in g.ga u (.pointer (some ⟨b, 0, none⟩) :: v :: vr) (j + 1) x (by simpa using hj)
    rw [show u + 1 + j = u + (j + 1) by omega]; exact this
  have hgo : ∀ s, ¬(u ≤ s ∧ s < u + es.length + 2) → g2.ga s = g.ga s := fun s hs => gaSet_out _ _ _ _ (by simp [hvrl]; omega)
  have hgt : g2.ga t = g.ga t := hgo t (by
    simp only [Bool.or_eq_true, Nat.blt_eq] at h5
    omega)
  have homb : g2.om b = u := by show (fb b).getD _ = u; simp [fb]
  have homv : ∀ x, v.ownBlock = some x → g2.om x = R1 := fun x hx => by
    have : x ≠ b := hTrb x (k3.lt hx).1
    show (fb x).getD _ = R1
    simp only [fb]; rw [if_neg this, if_pos hx]; rfl
  have homo : ∀ x, fb x = none → g2.om x = g.om x := fun x hx => by show (fb x).getD _ = _; rw [hx]; rfl
  have hold : ∀ x, x < X.w0.heap.size → fb x = none := fun x hx => hfb0 x (fun he => by have := hg.ok.old x hx; rw [he, hbt] at this; omega) (fun he => by
    have h6 := hg.ok.old x hx
    have h7 := all10_spec htr10 (k3.lt he).1
    omega)
  refine ⟨env.size, env.defers, env.fr, g2, ⟨⟨fun x hx => by rw [homo x (hold x hx)]; exact hg.ok.old x hx, fun x hx hx' => ?_⟩, fun x hx => by rw [homo x (hold x hx)]; exact hg.om x hx⟩, ?_⟩
  · by_cases e1 : x = b
    · rw [e1, homb]; exact u10
    · by_cases e2 : v.ownBlock = some x
      · rw [homv x e2]; exact r10
      · rw [homo x (hfb0 x e1 e2)]; exact hg.ok.new x hx hx'
  have hkeepE : ∀ x, x < w.heap.size → g.om x ∈ te → w.heap[x]? = w.heap[x]? ∧ g2.om x ∈ te := fun x _ hx => ⟨rfl, by rw [homo x (hteb x hx)]; exact hx⟩
  refine Facts.ghost ?_ (fun _ => ⟨b, cap, cur, c1, v :: ct, cs, cur.toList.drop (l.length * R.n), b1, b3, by rw [hgt]; exact hv, hgu, homb, hb, hnc, hcm, hcs, hkl, hcur, ?_, by simp [hct, hn], ?_, ?_, ?_⟩)
  · refine facts_flI _ (u + 1) ?_ (fun j x hj => ?_)
    · refine facts_killR (t :: Tr) _ hf (Nat.le_refl _) (fun x _ hx => ⟨rfl, homo x (hfb0 x (fun he => hx (by rw [he, hbt]; simp)) (fun he => hx (List.mem_cons_of_mem _ (k3.lt he).1)))⟩) (fun s hs => hgo s (fun hx => hs ?_))
      simp only [List.mem_cons, psIds_mem, hpsl]
      omega
    · cases j with
      | zero =>
        simp only [List.getElem?_cons_zero, Option.some.injEq] at hj
        subst hj
        rw [hgi 0 v rfl]
        exact OwRel.stab1 (Nat.le_refl _) (fun x hx _ _ => ⟨rfl, by rw [homv x hx]; simp⟩) hkeepE k3
      | succ j =>
        have hj' : (entsL te es)[j]? = some x := by simpa using hj
        have hjl : j < es.length := by have := (List.getElem?_eq_some_iff.1 hj').1; omega
        have hvj : vr[j]? = some vr[j] := List.getElem?_eq_getElem (by omega)
        rw [hgi (j + 1) vr[j] (by simp)]
        obtain ⟨en, hen⟩ : ∃ en, es[j]? = some en := ⟨_, List.getElem?_eq_getElem hjl⟩
        have hxe : x = (en.R.agg, en.R.n, @Fact.rep en.α en.R te en.y) := by
          simp only [entsL, List.getElem?_map, hen, Option.map_some, Option.some.injEq] at hj'
          exact hj'.symm
        have hp : ∀ (ls : Ls) (cs vs : List Value) (j : Nat) (l : Bool × Nat × Fact) (v : Value), PV g w ls cs vs → ls[j]? = some l → vs[j]? = some v → l.2.2.p g v w := by
          intro ls
          induction ls with
          | nil => intro cs vs j l v _ hl; simp at hl
          | cons m ls ih =>
            intro cs vs j l v h hl hv
            obtain ⟨d1, d2, v', vr', e1, rfl, e3, e4, e5, e6, e7, e8⟩ := h
            cases j with
            | zero =>
              simp only [List.getElem?_cons_zero, Option.some.injEq] at hl hv
              rw [← hl, ← hv]; exact e7
            | succ j => exact ih d2 vr' j l v e8 (by simpa using hl) (by simpa using hv)
        have h8 := hp _ _ _ j x vr[j] hpvt hj' hvj
        rw [hxe] at h8 ⊢
        exact Rep.stab (R := en.R) (Nat.le_refl _) (fun b hb hF => hkeepE b hb hF) h8
  · rw [← hps]
    have hps2 : lsPs ((false, 1, Fact.ow [R1] te er (H.hd y)) :: entsL te es) = lsPs ((false, 1, Fact.ow Tr te er (H.hd y)) :: entsL te es) := rfl
    rw [hps2]
    exact PV.prel (g0 := g2) _ _ _ (u + 1) hpv hgi
  · exact RelN.stab (Nat.le_refl _) hkeepE _ _ _ (fun x hx _ hT => ⟨rfl, by rw [homo x (hfb0 x (hTrb x hT) (fun he => hv1 x he hx))]; exact hT⟩) k1
  · exact RelN.stab (Nat.le_refl _) hkeepE _ _ _ (fun x hx _ hT => ⟨rfl, by rw [homo x (hfb0 x (hTrb x hT) (fun he => hv3 x he hx))]; exact hT⟩) k5
  · exact DistO.app hd1 hd3 h13
end
end
end GL

namespace GL
section
open Go

section
variable {X : Cx} {G : List It} {Q : Exit → Act → World → Prop} {ops : Array Oper} {rest : List Oper} {d : Nat} {dO : Option Nat} {ty : TypeId} {pos : String} {af : Array Edge} {gd : Option (Nat × Bool)}
variable {α β γ : Type} [R : Rp α] [B : Rp β] [C : Rp γ] {H : HdS α β γ} {t u k : Nat} {Tr te : List Nat} {e er : TypeId} {l : List α} {ps : Ps}

theorem Spec.idxLent {x i : Operand} {T : List Nat} {n : Int} {ts : TypeId} (hk : bnd l.length n = some k) (hty : OwnTy X.P ts e α)
    (hx : Has G x (.isv t)) (hrs : look G (rs t) = some (.lent H t u Tr te e er k l ps)) (hi : Has G i (Fact.rep T n)) : Spec X G ⟨dO, .indexAddr ts x i, ty, pos, af, gd⟩ (Fact.pto u (k * R.n)) := by
  obtain ⟨h0, h1, rfl⟩ := bnd_some hk
  refine Spec.pure fun a w g hf => ?_
  have hv : a.eval x = g.ga t := hx a w g hf
  obtain ⟨b, cap, cur, c1, c2, c3, cs, b1, b3, h⟩ := hf _ _ hrs
  have h2 := rep_int.1 (hi a w g hf)
  refine ⟨.pointer (some ⟨b, n.toNat * R.n, none⟩), ?_, b, by rw [h.pt]; rfl, rfl⟩
  unfold execOp
  simp only [hv, h2, h.sl, Sem.run_bind, Sem.run_map]
  rw [run_indexAt (R := R) hty.und hty.el h0 h1]
  simp [Go.Addr.add_lit]

theorem Spec.nilCheckO {x : Operand} {u o : Nat} (hx : Has G x (.pto u o)) : Spec X G ⟨dO, .nilCheck x, ty, pos, af, gd⟩ (.pto u o) :=
  Spec.pure fun a w g hfa => by
    obtain ⟨b, hb, hv⟩ := hx a w g hfa
    refine ⟨.pointer (some ⟨b, o, none⟩), ?_, b, hb, rfl⟩
    unfold execOp
    simp [hv]

/-- The cells of a lent element. -/
theorem LentP.cells {g : Gh} {w : World} {b cap : Nat} {cur : Array Value} {c1 c2 c3 cs : List Value} {b1 b3 : List (Option Nat)} (h : LentP H g w t u Tr te e er k l ps b cap cur c1 c2 c3 cs b1 b3)
    {off : Nat} {c : List Value} (hc : ∀ j x, c[j]? = some x → c2[off + j]? = some x) : CellsAt w ⟨b, k * R.n + off, none⟩ c := fun j x hj => by
  rw [Go.Addr.add_lit]
  refine ⟨?_, frozen_of_row w b _ cur e h.row⟩
  rw [cell_of_row w b _ cur e (0, 0) h.row]
  have h1 := hc j x hj
  have h2 : off + j < c2.length := (List.getElem?_eq_some_iff.1 h1).1
  have h3 : cur.toList[k * R.n + off + j]? = some x := by
    rw [h.eq, List.getElem?_append_right (by rw [h.n1]; omega), h.n1, show k * R.n + off + j - k * R.n = off + j by omega, List.getElem?_append_left h2]
    exact h1
  simpa using h3

theorem Spec.loadFL {x : Operand} {e' : TypeId} {δ : Type} [D : Rp δ] {i off o' : Nat} {f : Fact} (H : HdS α β γ) (hty : Ty X.P e' δ) (hp : partAt ps i = some (off, D.agg, D.n)) (hx : Has G x (.pto u o')) (ho' : k * R.n + off = o')
    (ho : look G (rs t) = some (.lent H t u Tr te e er k l ps)) (hf : HasG G (u + 1 + i) f) : Spec X G ⟨dO, .load e' x, ty, pos, af, gd⟩ f :=
  Spec.pure fun a w g hfa => by
    subst ho'
    obtain ⟨b, hb, hv⟩ := hx a w g hfa
    obtain ⟨b', cap, cur, c1, c2, c3, cs, b1, b3, h⟩ := hfa _ _ ho
    rw [h.pt] at hb
    simp only [ownB, Option.some.injEq] at hb
    subst hb
    obtain ⟨c, k1, k2, k3, k4⟩ := h.pr.part ps (u + 1) _ i off _ _ hp
    refine ⟨mkV D.agg c, ?_, by rw [← k1]; exact hf a w g hfa⟩
    unfold execOp
    simp [hv, Instr.loadAt, Instr.sureAddr, run_loadVar_cells hty (h.cells k4) k2]

theorem Spec.loadPartsL {x : Operand} {ls : Ls} (H : HdS α β γ) (hty : Ty X.P e α) (hps : lsPs ls = ps) (hx : Has G x (.pto u (k * R.n)))
    (ho : look G (rs t) = some (.lent H t u Tr te e er k l ps)) (hf : HasGs G (u + 1) ls) : Spec X G ⟨dO, .load e x, ty, pos, af, gd⟩ (.flds ls) :=
  Spec.pure fun a w g hfa => by
    subst hps
    obtain ⟨b, hb, hv⟩ := hx a w g hfa
    obtain ⟨b', cap, cur, c1, c2, c3, cs, b1, b3, h⟩ := hfa _ _ ho
    rw [h.pt] at hb
    simp only [ownB, Option.some.injEq] at hb
    subst hb
    have h5 := h.pr.flds hfa ls _ _ hf
    refine ⟨mkV R.agg c2, ?_, c2, by rw [H.agg]; rfl, h5⟩
    have hc := h.cells (off := 0) (c := c2) (fun j x hj => by rw [Nat.zero_add]; exact hj)
    rw [Nat.add_zero] at hc
    unfold execOp
    simp [hv, Instr.loadAt, Instr.sureAddr, run_loadVar_cells hty hc h.n2]

theorem Step.storeFL {p x : Operand} {e' : TypeId} {δ : Type} [D : Rp δ] {y : δ} {T : List Nat} {i off o' : Nat} {f : Fact} (H : HdS α β γ) (hu : Nat.ble 10 u = true) (hty : Ty X.P e' δ) (hp : partAt ps i = some (off, D.agg, D.n)) (hpx : Has G p (.pto u o')) (ho' : k * R.n + off = o')
    (ho : look G (rs t) = some (.lent H t u Tr te e er k l ps)) (hr : Has G x (Fact.rep T y)) (hx : Has G x f) (hok : lsOk u (u + 1 + i) 1 [(D.agg, D.n, f)] = true) (htu : (Nat.blt t u || Nat.blt (u + 1 + i) t) = true) (hdj : disj (Tr ++ te) [u] = true) :
    Step X G ⟨none, .store e' p x, ty, pos, af, none⟩ [.fact (rs (u + 1 + i)) (.at (u + 1 + i) f), .fact (rs t) (.lent H t u Tr te e er k l ps), .kill u, .killId (u + 1 + i)] := fun G' hsub a w env K Q hK => by
    subst ho'
    have hu' : 10 ≤ u := by simpa using hu
    obtain ⟨g, hg, hf'⟩ := env.facts
    have hf := hsub a w g hf'
    obtain ⟨b, hb, hv⟩ := hpx a w g hf
    obtain ⟨b', cap, cur, c1, c2, c3, cs, b1, b3, h⟩ := hf _ _ ho
    rw [h.pt] at hb
    simp only [ownB, Option.some.injEq] at hb
    subst hb
    obtain ⟨c0, k1, k2, k3, k4⟩ := h.pr.part ps (u + 1) _ i off _ _ hp
    have hlen : cur.size = k * R.n + (c2.length + (c3.length + cs.length)) := by
      have := congrArg List.length h.eq
      simpa [h.n1] using this
    obtain ⟨es, hes, hre, hrun⟩ := run_storeVar (P := X.P) hty h.row (hr a w g hf) (show k * R.n + off + D.n ≤ cur.size by rw [hlen]; omega)
    have hl := D.len _ _ _ _ hre
    have h1 := D.one _ _ _ _ hre
    have hfx := hx a w g hf
    have hok' := lsOk_spec hok (l := (D.agg, D.n, f)) (by simp)
    have hrun' : (execOp a.eval ⟨none, .store e' p x, ty, pos, af, none⟩).run X.P w = .ok .skip (w.setRow b' (cur.toList.take (k * R.n + off) ++ es ++ cur.toList.drop (k * R.n + off + D.n)).toArray) := by
      unfold execOp
      simp only [hv, Instr.storeAt, Instr.sureAddr, Sem.run_bind, Sem.run_pure, Result.andThen_ok]
      rw [hrun]
      rfl
    unfold Oper.wp
    rw [hrun']
    refine hK undef _ ?_
    have hb : ∀ b, b < w.heap.size → g.om b ≠ u → (w.setRow b' (cur.toList.take (k * R.n + off) ++ es ++ cur.toList.drop (k * R.n + off + D.n)).toArray).heap[b]? = w.heap[b]? := fun b hb hne => setRow_other w b' b _ (fun he => hne (by rw [he]; exact h.om))
    have hsz : (w.setRow b' (cur.toList.take (k * R.n + off) ++ es ++ cur.toList.drop (k * R.n + off + D.n)).toArray).heap.size = w.heap.size := by simp
    let g2 : Gh := ⟨g.om, fun s => if s = u + 1 + i then a.eval x else g.ga s⟩
    have hgai : g2.ga (u + 1 + i) = a.eval x := if_pos rfl
    have hgao : ∀ s, s ≠ u + 1 + i → g2.ga s = g.ga s := fun s hs => if_neg hs
    have htu' : t ≠ u + 1 + i := by
      simp only [Bool.or_eq_true, Nat.blt_eq] at htu
      omega
    have hkeep : ∀ x, x ∈ Tr ++ te → x ≠ u := fun x hx he => disj_spec hdj (show u ∈ [u] by simp) (he ▸ hx)
    refine ⟨by simp [Act.put, env.size], env.defers, Fr.own env.fr hg hu' (.inr trivial) rfl rfl rfl (by rw [hsz]; exact Nat.le_refl _) hb, g2, ⟨⟨hg.ok.old, fun b h1 h2 => hg.ok.new b h1 (by rw [hsz] at h2; exact h2)⟩, hg.om⟩, ?_⟩
    show Facts _ g2 a _
    have hnew : (cur.toList.take (k * R.n + off) ++ es ++ cur.toList.drop (k * R.n + off + D.n)) = c1 ++ ((c2.take off ++ es ++ c2.drop (off + D.n)) ++ (c3 ++ cs)) := by
      rw [h.eq]
      rw [List.take_append, List.take_of_length_le (by rw [h.n1]; omega), h.n1, show k * R.n + off - k * R.n = off by omega, List.take_append_of_le_length (by omega)]
      rw [show k * R.n + off + D.n = c1.length + (off + D.n) by rw [h.n1]; omega, List.drop_append, List.drop_of_length_le (by omega), show c1.length + (off + D.n) - c1.length = off + D.n by omega, List.drop_append_of_le_length (by omega)]
      simp
    refine Facts.ghost (Facts.ghost ?_ (fun _ => ⟨b', cap, _, c1, c2.take off ++ es ++ c2.drop (off + D.n), c3, cs, b1, b3, by rw [hgao t htu']; exact h.sl, by rw [hgao u (by omega)]; exact h.pt, h.om, setRow_heap w b' cur _ e (0, 0) h.row, h.lc, h.cm, ?_, h.kl, ?_, ?_, ?_, ?_, ?_, h.di⟩)) (fun v => ?_)
    · exact facts_killIdsT [u + 1 + i] hf' (by rw [hsz]; exact Nat.le_refl _) hb (fun _ _ => rfl) (fun s hs => hgao s (by simpa using hs))
    · have := congrArg List.length hnew
      have h9 := congrArg List.length h.eq
      have h10 := h.sz
      simp only [List.length_append, List.length_take, List.length_drop, Array.length_toList] at this h9
      simp only [List.size_toArray, List.length_append, List.length_take, List.length_drop, Array.length_toList]
      omega
    · rw [← hnew]
    · have := PRel.set (g := g) (g' := g2) ps (u + 1) c2 es i off _ _ h.pr hp hl h1 (by rw [hgai]; exact hes) hgao
      exact this
    · simp only [List.length_append, List.length_take, List.length_drop]
      have := h.n2
      omega
    · exact RelN.stab (by rw [hsz]; exact Nat.le_refl _) (fun x hx hT => ⟨hb x hx (hkeep _ (List.mem_append_right _ hT)), hT⟩) _ _ _ (fun x _ hx hT => ⟨hb x hx (hkeep _ (List.mem_append_left _ hT)), hT⟩) h.r1
    · exact RelN.stab (by rw [hsz]; exact Nat.le_refl _) (fun x hx hT => ⟨hb x hx (hkeep _ (List.mem_append_right _ hT)), hT⟩) _ _ _ (fun x _ hx hT => ⟨hb x hx (hkeep _ (List.mem_append_left _ hT)), hT⟩) h.r3
    · show f.p g2 (g2.ga (u + 1 + i)) _
      rw [hgai]
      exact f.stab g g2 _ w _ ⟨by rw [hsz]; exact Nat.le_refl _, fun b hbl htg => ⟨hb b hbl (fun he => hok'.2 (he ▸ htg)), rfl⟩, fun s hs => hgao s (fun he => hok'.1 s hs (by omega))⟩ hfx

/-- The lent element is written whole, and taken back. -/
theorem Step.storeBack {p x : Operand} {y : α} {h : List β} {es : List Ent} {T0 te' : List Nat} {l' : List α} (H : HdS α β γ) (q : Nat) (hty : Ty X.P e α) (hpx : Has G p (.pto u (k * R.n))) (ho : look G (rs t) = some (.lent H t u Tr te e er k l ps))
    (hx : Has G x (.flds ((false, 1, .ow T0 te' er h) :: entsL te' es))) (hh : H.hd y = h) (hes : ∀ F cs w, C.rel F (H.tl y) cs w ↔ EntsRel F es cs w) (hl' : l' = l.set k y)
    (h10 : all10 (t :: u :: T0) = true) (hq10 : Nat.ble 10 q = true) (hq : Tr.elem q = true) (h1 : disj (Tr ++ te') (u :: T0) = true) (h2 : subB te te' = true) (h3 : T0.elem u = false) :
    Step X G ⟨none, .store e p x, ty, pos, af, none⟩ (.fact (rs t) (.own2 H t Tr te' e er l') :: killTs (u :: T0) []) := fun G' hsub a w env K Q hK => by
    subst hh hl'
    simp only [all10, Bool.and_eq_true, Nat.ble_eq] at h10
    obtain ⟨t10, u10, h010⟩ := h10
    have hq' : 10 ≤ q := by simpa using hq10
    have hqm : q ∈ Tr := by simpa using hq
    have hu0 : u ∉ T0 := by simpa using h3
    obtain ⟨g, hg, hf'⟩ := env.facts
    have hf := hsub a w g hf'
    obtain ⟨b, hb, hv⟩ := hpx a w g hf
    obtain ⟨b', cap, cur, c1, c2, c3, cs, b1, b3, hP⟩ := hf _ _ ho
    rw [hP.pt] at hb
    simp only [ownB, Option.some.injEq] at hb
    subst hb
    obtain ⟨cx, hxv, hxr⟩ := hx a w g hf
    obtain ⟨v, ct, rfl, k3, k4⟩ := flds_split hxr
    have hn := H.n
    have hct : ct.length = C.n := C.len _ _ _ _ ((hes _ _ _).2 k4)
    have hone : ∀ z ∈ v :: ct, z.oneCell' = true := fun z hz => by
      rcases List.mem_cons.1 hz with rfl | hz
      · exact k3.one
      · exact C.one _ _ _ _ ((hes _ _ _).2 k4) z hz
    have hlen : cur.size = k * R.n + (c2.length + (c3.length + cs.length)) := by
      have := congrArg List.length hP.eq
      simpa [hP.n1] using this
    have hrep : Rep (fun _ => True) (⟨v :: ct, by simp; omega, hone⟩ : Raw R.n) (a.eval x) w := ⟨v :: ct, rfl, by rw [hxv]; rfl⟩
    obtain ⟨es', hes', hre, hrun⟩ := run_storeVar (P := X.P) (hty.raw H.agg) hP.row hrep (show k * R.n + R.n ≤ cur.size by rw [hlen, hP.n2]; omega)
    obtain rfl : es' = v :: ct := hre
    have hrun' : (execOp a.eval ⟨none, .store e p x, ty, pos, af, none⟩).run X.P w = .ok .skip (w.setRow b' (cur.toList.take (k * R.n) ++ (v :: ct) ++ cur.toList.drop (k * R.n + R.n)).toArray) := by
      unfold execOp
      simp only [hv, Instr.storeAt, Instr.sureAddr, Sem.run_bind, Sem.run_pure, Result.andThen_ok]
      rw [hrun]
      rfl
    unfold Oper.wp
    rw [hrun']
    refine hK undef _ ?_
    rw [List.cons_append, killTs_app]
    have hnew : (cur.toList.take (k * R.n) ++ (v :: ct) ++ cur.toList.drop (k * R.n + R.n)) = (c1 ++ ((v :: ct) ++ c3)) ++ cs := by
      rw [hP.eq]
      rw [List.take_append_of_le_length (by rw [hP.n1]; omega), List.take_of_length_le (by rw [hP.n1]; omega)]
      rw [show k * R.n + R.n = c1.length + c2.length by rw [hP.n1, hP.n2], List.drop_append, List.drop_of_length_le (by omega), show c1.length + c2.length - c1.length = c2.length by omega, List.drop_left]
      simp
    rw [hnew]
    have hbw : ∀ b, b < w.heap.size → g.om b ≠ u → (w.setRow b' ((c1 ++ ((v :: ct) ++ c3)) ++ cs).toArray).heap[b]? = w.heap[b]? := fun b hb hne => setRow_other w b' b _ (fun he => hne (by rw [he]; exact hP.om))
    have hsz : (w.setRow b' ((c1 ++ ((v :: ct) ++ c3)) ++ cs).toArray).heap.size = w.heap.size := by simp
    let g2 : Gh := ⟨fun x => if x = b' then t else if T0.elem (g.om x) then q else g.om x, g.ga⟩
    have hTr : ∀ x, g.om x ∈ Tr ++ te' → g.om x ≠ u ∧ g.om x ∉ T0 := fun x hx => ⟨fun he => disj_spec h1 (show u ∈ u :: T0 by simp) (he ▸ hx), fun he => disj_spec h1 (List.mem_cons_of_mem u he) hx⟩
    have homb : g2.om b' = t := if_pos rfl
    have homo : ∀ x, g.om x ≠ u → g.om x ∉ T0 → g2.om x = g.om x := fun x e1 e2 => by
      have e3 : x ≠ b' := fun he => e1 (by rw [he]; exact hP.om)
      show (if x = b' then t else if T0.elem (g.om x) then q else g.om x) = _
      rw [if_neg e3, if_neg (by simpa using e2)]
    have homT : ∀ x, g.om x ∈ T0 → g2.om x = q := fun x e2 => by
      have e3 : x ≠ b' := fun he => hu0 (by rw [← hP.om, ← he]; exact e2)
      show (if x = b' then t else if T0.elem (g.om x) then q else g.om x) = _
      rw [if_neg e3, if_pos (by simpa using e2)]
    have hold : ∀ x, x < X.w0.heap.size → g.om x ≠ u ∧ g.om x ∉ T0 := fun x hx => ⟨fun he => by have := hg.ok.old x hx; omega, fun he => by have h6 := hg.ok.old x hx; have h7 := all10_spec h010 he; omega⟩
    refine ⟨by simp [Act.put, env.size], env.defers, Fr.own env.fr hg u10 (.inr trivial) rfl rfl rfl (by rw [hsz]; exact Nat.le_refl _) hbw, g2, ⟨⟨fun x hx => by rw [homo x (hold x hx).1 (hold x hx).2]; exact hg.ok.old x hx, fun x h8 h9 => ?_⟩, fun x hx => by rw [homo x (hold x hx).1 (hold x hx).2]; exact hg.om x hx⟩, ?_⟩
    · by_cases e1 : x = b'
      · rw [e1, homb]; exact t10
      · by_cases e2 : g.om x ∈ T0
        · rw [homT x e2]; exact hq'
        · by_cases e4 : g.om x = u
          · show 10 ≤ (if x = b' then t else if T0.elem (g.om x) then q else g.om x)
            rw [if_neg e1, if_neg (by simpa using e2), e4]; exact u10
          · rw [homo x e4 e2]; exact hg.ok.new x h8 (by rw [hsz] at h9; exact h9)
    show Facts _ g2 a _
    have hkE : ∀ x, x < w.heap.size → g.om x ∈ te' → (w.setRow b' ((c1 ++ ((v :: ct) ++ c3)) ++ cs).toArray).heap[x]? = w.heap[x]? ∧ g2.om x ∈ te' := fun x hx hT => by
      obtain ⟨e1, e2⟩ := hTr x (List.mem_append_right _ hT)
      exact ⟨hbw x hx e1, by rw [homo x e1 e2]; exact hT⟩
    have hkE0 : ∀ x, x < w.heap.size → g.om x ∈ te → (w.setRow b' ((c1 ++ ((v :: ct) ++ c3)) ++ cs).toArray).heap[x]? = w.heap[x]? ∧ g2.om x ∈ te' := fun x hx hT => hkE x hx (subB_spec h2 _ hT)
    have hkR : ∀ x, x < w.heap.size → g.om x ∈ Tr → (w.setRow b' ((c1 ++ ((v :: ct) ++ c3)) ++ cs).toArray).heap[x]? = w.heap[x]? ∧ g2.om x ∈ Tr := fun x hx hT => by
      obtain ⟨e1, e2⟩ := hTr x (List.mem_append_left _ hT)
      exact ⟨hbw x hx e1, by rw [homo x e1 e2]; exact hT⟩
    have hll : (l.set k y).length = l.length := List.length_set
    have hls : l.set k y = l.take k ++ (y :: l.drop (k + 1)) := by
      rw [List.set_eq_take_append_cons_drop, if_pos hP.kl]
    refine Facts.ghost (facts_killR (u :: T0) [] hf' (by rw [hsz]; exact Nat.le_refl _) (fun x hx hn => ⟨hbw x hx (fun he => hn (by rw [he]; simp)), homo x (fun he => hn (by rw [he]; simp)) (fun he => hn (List.mem_cons_of_mem _ he))⟩) (fun _ _ => rfl)) (fun _ => ?_)
    have hn3 := (RelN.len _ _ _ hP.r3).1
    have hxl : (c1 ++ ((v :: ct) ++ c3)).length = l.length * R.n := by
      have hkl := hP.kl
      have e1 : l.length = k + 1 + (l.length - (k + 1)) := by omega
      simp only [List.length_append, List.length_cons, hP.n1, hn3, List.length_drop, hct]
      conv => rhs; rw [e1]
      simp only [Nat.add_mul, Nat.one_mul]
      omega
    refine ⟨c1 ++ ((v :: ct) ++ c3), b1 ++ (v.ownBlock :: b3), ⟨by rw [hll]; exact hxl, .inr ⟨b', cap, _, by rw [hll]; exact hP.sl, Nat.zero_le _, setRow_heap w b' cur _ e (0, 0) hP.row, by rw [hll]; exact hP.lc, hP.cm, ?_, ?_⟩⟩, ?_, ?_, ?_⟩
    · have := hP.sz
      have h9 := hP.n2
      simp only [List.size_toArray, List.length_append, List.length_cons, hct]
      rw [hP.n1]
      omega
    · rw [hll, ← hxl]
      show List.take _ ((c1 ++ ((v :: ct) ++ c3)) ++ cs) = _
      rw [List.take_left]
    · rw [hls]
      refine RelN.app _ _ _ _ _ _ (RelN.stab (by rw [hsz]; exact Nat.le_refl _) hkE0 _ _ _ (fun x _ => hkR x) hP.r1) ⟨v, ct, c3, b3, rfl, rfl, ?_, ?_, RelN.stab (by rw [hsz]; exact Nat.le_refl _) hkE0 _ _ _ (fun x _ => hkR x) hP.r3⟩
      · exact OwRel.stab1 (by rw [hsz]; exact Nat.le_refl _) (fun x _ hx hT => ⟨hbw x hx (fun he => hu0 (he ▸ hT)), by rw [homT x hT]; exact hqm⟩) hkE k3
      · exact C.stab _ _ _ ct w _ (by rw [hsz]; exact Nat.le_refl _) hkE ((hes _ _ _).2 k4)
    · have hvx : ∀ x, some x = v.ownBlock → g.om x ∈ T0 := fun x hx => (k3.lt hx.symm).1
      refine DistO.app hP.di.left (List.pairwise_cons.2 ⟨fun o ho hne he => ?_, hP.di.right⟩) (fun x h8 h9 => ?_)
      · cases o with
        | none => exact hne he
        | some x => exact (hTr x (List.mem_append_left _ (RelN.mem _ _ _ hP.r3 x ho).1)).2 (hvx x he.symm)
      · rcases List.mem_cons.1 h9 with h9 | h9
        · exact (hTr x (List.mem_append_left _ (RelN.mem _ _ _ hP.r1 x h8).1)).2 (hvx x h9)
        · exact hP.di.apart x h8 h9
    · intro x hx
      show g2.om x = t
      rw [show g2.ga t = g.ga t from rfl, hP.sl] at hx
      simp only [Value.ownBlock, Option.some.injEq] at hx
      rw [← hx, homb]
end
end
end GL

