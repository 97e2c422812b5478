/- Own library, part 20: nil slices; what a nil slice becomes. -/
import Derived.Test.YtgjibgklailenaaCore19
import Derived.Laws.Cover3
namespace GL
open Go

def Fact.nilv : Fact where
  tags := []
  ids := []
  p := fun _ v _ => v = .slice none 0 0
  stab := fun _ _ _ _ _ _ h => h
theorem Has.nilv {G : List It} : Has G (.const (.slice none 0 0)) .nilv := fun _ _ _ _ => rfl
theorem Cv.nil {G : List It} {α : Type} [Rp α] {T : List Nat} : Cv G .nilv (Fact.rep T ([] : List α)) := fun _ _ _ v _ h => by
  rw [show v = .slice none 0 0 from h]; exact rep_nil
theorem FldRel.zn {g : Gh} {w : World} {ls : Ls} {cs : List Value} (k : FldRel g w ls cs) : FldRel g w ((false, 1, .nilv) :: ls) (.slice none 0 0 :: cs) :=
  ⟨[.slice none 0 0], cs, rfl, rfl, by simp [Value.oneCell'], fun _ => rfl, rfl, k⟩
theorem FldRel.zr {g : Gh} {w : World} {ls : Ls} {cs : List Value} {v : Value} {α : Type} [R : Rp α] {y : α} {T : List Nat} (h : ∀ F w, R.rel F y [v] w) (k : FldRel g w ls cs) (hag : R.agg = false := by rfl) : FldRel g w ((false, 1, Fact.rep T y) :: ls) (v :: cs) :=
  ⟨[v], cs, rfl, rfl, fun c hc => R.one _ _ _ w (h (fun _ => False) w) c hc, fun _ => rfl, ⟨[v], h _ w, by rw [hag]⟩, k⟩

section
variable {X : Cx} {G : List It} {Q : Exit → Act → World → Prop} {ops : Array Oper} {rest : List Oper}
theorem Walk.adoptNilF {α : Type} [R : Rp α] {i : Nat} (t e : Nat) (hs : look G (rs i) = some (.at i .nilv)) (hti : Nat.beq i t = false)
    (k : Walk X ops Q (.fact (rs i) (.at i (.isv t)) :: .fact (rs t) (.own t [] e ([] : List α)) :: .killId t :: G) rest) : Walk X ops Q G rest := fun a w env => by
  obtain ⟨g, hg, hf⟩ := env.facts
  have hti' : i ≠ t := fun h => by subst h; simp at hti
  have hr : g.ga i = .slice none 0 0 := hf (rs i) _ hs
  let g2 : Gh := ⟨g.om, fun u => if u = t then .slice none 0 0 else g.ga u⟩
  have hbase : Facts (.killId t :: G) g2 a w := facts_killedId hf (Nat.le_refl _) (fun _ _ => rfl) (fun _ _ => rfl) (fun s hs => if_neg hs)
  refine k a w ⟨env.size, env.defers, env.fr, g2, ⟨⟨hg.ok.old, hg.ok.new⟩, hg.om⟩, ?_⟩
  have h2 : g2.ga t = .slice none 0 0 := if_pos rfl
  refine Facts.ghost (Facts.ghost hbase (fun v => ⟨[], ?_, rfl, fun b hb => ?_⟩)) (fun v => ?_)
  · refine ⟨by simp, .inl ⟨h2, rfl⟩⟩
  · rw [h2] at hb; cases hb
  · show g2.ga i = g2.ga t
    rw [h2]; show (if i = t then _ else g.ga i) = _
    rw [if_neg hti', hr]
end

/-- Whether a list's slice is nil: if so, the list is empty. -/
def Fact.nilq {α : Type} (l : List α) : Fact where
  tags := []
  ids := []
  p := fun _ v _ => ∃ b : Bool, v = .bool b ∧ (b = true → l = [])
  stab := fun _ _ _ _ _ _ h => h
def scB.of (n : Int) : UInt8 := UInt8.ofNat (n % 256).toNat
def scW.of (n : Int) : UInt32 := UInt32.ofNat (n % 4294967296).toNat
section
variable {X : Cx} {G : List It} {Q : Exit → Act → World → Prop} {d : Option Nat} {ty : TypeId} {pos : String} {af : Array Edge} {gd : Option (Nat × Bool)}
theorem Spec.eqlNil {x : Operand} {α : Type} [Rp α] {T : List Nat} {l : List α} {t e t' : TypeId} (ht : X.P.underlying t = some (.slice e)) (hx : Has G x (Fact.rep T l)) :
    Spec X G ⟨d, .binOp .eql t x (.const (.slice none 0 0)) t', ty, pos, af, gd⟩ (.nilq l) :=
  Spec.pure fun a w g hf => by
    obtain ⟨ad, c, hv, _, hnil, _⟩ := rep_list (hx a w g hf)
    refine ⟨.bool ad.isNone, ?_, ad.isNone, rfl, fun h => ?_⟩
    · unfold execOp
      simp [hv, eval_const, eqGuard_at_slice, binOp, run_equal_slice_nil w t e _ _ _ ht]
    · cases ad with
      | none => exact (hnil rfl).1
      | some _ => cases h
theorem CWalk.condNil {t : Nat} {α : Type} {l : List α} {x y : Code} (hb : look G t = some (.nilq l)) (ht : l = [] → CWalk X G x Q) (hf : CWalk X G y Q) : CWalk X G (.cond (.tmp t) x y) Q := fun a w e => by
  obtain ⟨g, _, h2⟩ := e.facts
  obtain ⟨b, hv, hl⟩ := h2 t _ hb
  exact wpIn_cond_split (show a.eval (.tmp t) = .bool b from hv) (fun h => ht (hl h) a w e) (fun h => hf a w e)
theorem Spec.minI {x y : Operand} {T T' : List Nat} {m n : Int} {ts : Array TypeId} (hx : Has G x (Fact.rep T m)) (hy : Has G y (Fact.rep T' n)) :
    Spec X G ⟨d, .call { callee := .builtin .min, args := #[x, y], argTypes := ts }, ty, pos, af, gd⟩ (Fact.rep [] (min m n)) :=
  Spec.pure fun a w g hf => by
    have h1 := rep_int.1 (hx a w g hf)
    have h2 := rep_int.1 (hy a w g hf)
    refine ⟨.int .i64 (min m n), ?_, rep_int.2 rfl⟩
    unfold execOp
    have : (if n < m then n else m) = min m n := by omega
    simp [resolve, invoke, builtin, h1, h2, Builtin.min_, Builtin.min2, this]
theorem Leaf.nret {P : Program} {fn : Func} {R : Ending → World → Prop} {Y : Cx} (h : Leaf Y G (bodyPost P fn R) .ret) : Leaf Y G (bodyPost P fn R) .normal := h
end
end GL
