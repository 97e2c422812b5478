/- Own library, part 16: operations on structs and variables. -/
import Derived.Test.YtgjibgklailenaaCore15
namespace GL
open Go

structure FieldTy (P : Program) (s : TypeId) (i off n : Nat) : Prop where
  und : ∃ fs f inf, P.underlying s = some (.struct fs) ∧ fs[i]? = some f ∧ f.offset = off ∧ P.info? f.type = some inf ∧ inf.size = n
  pos : 0 < n

theorem run_loadVar_cells {P : Program} {t : TypeId} {α : Type} [R : Rp α] (h : Ty P t α) {w : World} {a : Addr} {cs : List Value}
    (hc : CellsAt w a cs) (hl : cs.length = R.n) : (loadVar t a).run P w = .ok (mkV R.agg cs) w := by
  unfold loadVar
  simp only [Sem.run_bind, run_isAgg h, Result.andThen_ok]
  cases ha : R.agg with
  | true =>
    have h2 := run_loadCells_list (P := P) w a cs (fun j v hj => (hc j v hj).1)
    rw [hl] at h2
    simp [rt_sizeOf h, h2, mkV]
  | false =>
    have h1 := R.na ha
    rw [h1] at hl
    match cs, hl with
    | [c], _ =>
      have := (hc 0 c rfl).1
      simp only [Go.Addr.add_zero'] at this
      simp [mkV, this]

theorem run_fieldAt {P : Program} {s : TypeId} {i off n : Nat} (h : FieldTy P s i off n) (a : Addr) (w : World) :
    (Instr.fieldAt s (.pointer (some a)) i).run P w = .ok (.pointer (some (a.add off))) w := by
  obtain ⟨fs, f, inf, h1, h2, h3, h4, h5⟩ := h.und
  have hp := h.pos
  unfold Instr.fieldAt
  simp only [Sem.run_bind, run_underlying h1, Result.andThen_ok, h2, Instr.sureAddr, Sem.run_pure]
  unfold fieldPlace
  simp only [Go.sizeOf, typeInfo, h4, Sem.run_bind]
  simp [h4, h5, h3, Nat.pos_iff_ne_zero.1 hp]

section
variable {X : Cx} {G : List It} {d : Option Nat} {ty : TypeId} {pos : String} {af : Array Edge} {gd : Option (Nat × Bool)}

theorem Cv.isvP {t : Nat} {ps : Ps} (ho : look G (rs t) = some (.obj t ps)) : Cv G (.isv t) (.pto t 0) := fun a w g v hf hv => by
  obtain ⟨b, ty, cs, h1, _⟩ := hf _ _ ho
  exact ⟨b, by rw [h1]; rfl, by rw [show v = g.ga t from hv, h1]⟩

theorem Spec.fieldAddrO {x : Operand} {s : TypeId} {i off n o t o' : Nat} (h : FieldTy X.P s i off n) (hx : Has G x (.pto t o)) (ho : o + off = o' := by rfl) : Spec X G ⟨d, .fieldAddr s x i, ty, pos, af, gd⟩ (.pto t o') :=
  Spec.pure fun a w g hf => by
    subst ho
    obtain ⟨b, hb, hv⟩ := hx a w g hf
    refine ⟨.pointer (some ⟨b, o + off, none⟩), ?_, b, hb, rfl⟩
    unfold execOp
    simp only [hv, Sem.run_bind, run_fieldAt h, Result.andThen_ok]
    rw [Go.Addr.add_lit]
    rfl

def entAt : List Ent → Nat → Option (Nat × Ent)
  | [], _ => none
  | e :: _, 0 => some (0, e)
  | e :: es, i + 1 => (entAt es i).map fun x => (x.1 + e.R.n, x.2)
theorem EntsRel.at {F : Nat → Prop} {w : World} : ∀ (es : List Ent) (cs : List Value) (i off : Nat) (e : Ent), EntsRel F es cs w → entAt es i = some (off, e) →
    ∃ c, e.R.rel F e.y c w ∧ (∀ j u, c[j]? = some u → cs[off + j]? = some u)
  | [], _, i, _, _, _, h => by simp [entAt] at h
  | l :: ls, cs, 0, off, e, hp, h => by
    obtain ⟨c1, c2, rfl, h1, _⟩ := hp
    simp only [entAt, Option.some.injEq, Prod.mk.injEq] at h
    obtain ⟨rfl, rfl⟩ := h
    refine ⟨c1, h1, fun j u hj => ?_⟩
    have hj2 : j < c1.length := (List.getElem?_eq_some_iff.1 hj).1
    rw [Nat.zero_add, List.getElem?_append_left hj2]; exact hj
  | l :: ls, cs, i + 1, off, e, hp, h => by
    obtain ⟨c1, c2, rfl, h1, h5⟩ := hp
    have hl := l.R.len _ _ _ _ h1
    simp only [entAt, Option.map_eq_some_iff] at h
    obtain ⟨⟨o, x⟩, h6, h7⟩ := h
    simp only [Prod.mk.injEq] at h7
    obtain ⟨rfl, rfl⟩ := h7
    obtain ⟨c, k1, k4⟩ := EntsRel.at ls c2 i o x h5 h6
    refine ⟨c, k1, fun j u hj => ?_⟩
    rw [List.getElem?_append_right (by omega)]
    rw [show o + l.R.n + j - c1.length = o + j by omega]
    exact k4 j u hj

theorem CellsAt.sub {w : World} {a : Addr} {cs c : List Value} {off : Nat} (h : CellsAt w a cs) (hc : ∀ j u, c[j]? = some u → cs[off + j]? = some u) : CellsAt w (a.add off) c := fun j u hj => by
  rw [Addr.add_add]
  exact h _ _ (hc j u hj)

theorem Spec.fieldAddrP {x : Operand} {s : TypeId} {i off n : Nat} {T : List Nat} {α β : Type} [R : Rp α] [R' : Rp β] {y : α} {z : β} {es : List Ent} (h : FieldTy X.P s i off n) (hc : Ch y es) (he : entAt es i = some (off, ⟨R', z⟩))
    (hx : Has G x (Fact.ptr T y)) : Spec X G ⟨d, .fieldAddr s x i, ty, pos, af, gd⟩ (Fact.ptr T z) :=
  Spec.pure fun a w g hf => by
    obtain ⟨ad, hv, ht, hlt, cs, hcs, hrel⟩ := hx a w g hf
    obtain ⟨c, hc1, hc2⟩ := EntsRel.at es cs i off _ ((hc.rel _ _ _).1 hrel) he
    refine ⟨.pointer (some (ad.add off)), ?_, ad.add off, rfl, by rw [Addr.add_block]; exact ht, by rw [Addr.add_block]; exact hlt, c, hcs.sub hc2, hc1⟩
    unfold execOp
    simp [hv, run_fieldAt h]

theorem obj_cells {g : Gh} {w : World} {t : Nat} {ps : Ps} {v : Value} (h : (Fact.obj t ps).p g v w) {i off n : Nat} {ag : Bool} (hp : partAt ps i = some (off, ag, n)) :
    ∃ b c, g.ga t = .pointer (some ⟨b, 0, none⟩) ∧ g.ga (t + 1 + i) = mkV ag c ∧ c.length = n ∧ CellsAt w ⟨b, off, none⟩ c := by
  obtain ⟨b, ty, cs, h1, h2, h3, h4⟩ := h
  obtain ⟨c, k1, k2, k3, k4⟩ := h4.part ps (t + 1) _ i off ag n hp
  refine ⟨b, c, h1, k1, k2, fun j u hj => ?_⟩
  rw [Go.Addr.add_lit]
  refine ⟨?_, frozen_of_row w b _ cs ty h2⟩
  rw [cell_of_row w b _ cs ty (0, 0) h2]
  have := k4 j u hj
  simpa using this

theorem Spec.loadF {x : Operand} {e : TypeId} {α : Type} [R : Rp α] {t i off : Nat} {ps : Ps} {f : Fact} (hty : Ty X.P e α) (hp : partAt ps i = some (off, R.agg, R.n)) (hx : Has G x (.pto t off))
    (ho : look G (rs t) = some (.obj t ps)) (hf : HasG G (t + 1 + i) f) : Spec X G ⟨d, .load e x, ty, pos, af, gd⟩ f :=
  Spec.pure fun a w g hfa => by
    obtain ⟨b, hb, hv⟩ := hx a w g hfa
    obtain ⟨b', c, h1, h2, h3, h4⟩ := obj_cells (hfa _ _ ho) hp
    rw [h1] at hb
    simp only [ownB, Option.some.injEq] at hb
    subst hb
    refine ⟨mkV R.agg c, ?_, by rw [← h2]; exact hf a w g hfa⟩
    unfold execOp
    simp [hv, Instr.loadAt, Instr.sureAddr, run_loadVar_cells hty h4 h3]

/-- All parts of a variable. -/
def HasGs (G : List It) (i : Nat) : Ls → Prop
  | [] => True
  | l :: ls => HasG G i l.2.2 ∧ HasGs G (i + 1) ls
theorem HasGs.nil {i : Nat} : HasGs G i [] := trivial
theorem HasGs.cons {i n : Nat} {ag : Bool} {f : Fact} {ls : Ls} (h : HasG G i f) (k : HasGs G (i + 1) ls) : HasGs G i ((ag, n, f) :: ls) := ⟨h, k⟩
def lsPs (ls : Ls) : Ps := ls.map fun l => (l.1, l.2.1)
theorem PRel.flds {g : Gh} {a : Act} {w : World} (hf : Facts G g a w) : ∀ (ls : Ls) (t : Nat) (cs : List Value), HasGs G t ls → PRel g t (lsPs ls) cs → FldRel g w ls cs
  | [], _, _, _, h => h
  | l :: ls, t, cs, hg, h => by
    obtain ⟨c1, c2, h1, h2, h3, h3', h4, h5⟩ := h
    exact ⟨c1, c2, h1, h2, h3, h3', by have := hg.1 a w g hf; rw [h4] at this; exact this, PRel.flds hf ls (t + 1) c2 hg.2 h5⟩

theorem Spec.loadObj {x : Operand} {e : TypeId} {α : Type} [R : Rp α] {t : Nat} {ls : Ls} (hty : Ty X.P e α) (hag : R.agg = true) (hn : lsN ls = R.n) (hx : Has G x (.isv t))
    (ho : look G (rs t) = some (.obj t (lsPs ls))) (hf : HasGs G (t + 1) ls) : Spec X G ⟨d, .load e x, ty, pos, af, gd⟩ (.flds ls) :=
  Spec.pure fun a w g hfa => by
    have hv : a.eval x = g.ga t := hx a w g hfa
    obtain ⟨b, ty', cs, h1, h2, h3, h4⟩ := hfa _ _ ho
    have h5 := h4.flds hfa ls _ _ hf
    have hl := h5.len
    refine ⟨mkV R.agg cs.toList, ?_, cs.toList, by rw [hag]; rfl, h5⟩
    unfold execOp
    have hc : CellsAt w ⟨b, 0, none⟩ cs.toList := fun j u hj => by
      rw [Go.Addr.add_lit]
      refine ⟨?_, frozen_of_row w b _ cs ty' h2⟩
      rw [cell_of_row w b _ cs ty' (0, 0) h2]
      simpa using hj
    simp [hv, h1, Instr.loadAt, Instr.sureAddr, run_loadVar_cells hty hc (by rw [hl, hn])]

theorem Spec.nilCheckI {x : Operand} {t : Nat} {ps : Ps} (hx : Has G x (.isv t)) (ho : look G (rs t) = some (.obj t ps)) : Spec X G ⟨d, .nilCheck x, ty, pos, af, gd⟩ (.isv t) :=
  Spec.pure fun a w g hfa => by
    have hv : a.eval x = g.ga t := hx a w g hfa
    obtain ⟨b, ty', cs, h1, _⟩ := hfa _ _ ho
    refine ⟨g.ga t, ?_, rfl⟩
    unfold execOp
    simp [hv, h1]

/-! ### structs' values -/
def fldAt : Ls → Nat → Option (Nat × Bool × Nat × Fact)
  | [], _ => none
  | l :: _, 0 => some (0, l)
  | l :: ls, i + 1 => (fldAt ls i).map fun x => (x.1 + l.2.1, x.2)
theorem FldRel.at {g : Gh} {w : World} : ∀ (ls : Ls) (cs : List Value) (i off : Nat) (ag : Bool) (n : Nat) (f : Fact), FldRel g w ls cs → fldAt ls i = some (off, ag, n, f) →
    ∃ c, c.length = n ∧ (ag = false → n = 1) ∧ f.p g (mkV ag c) w ∧ (cs.drop off).take n = c
  | [], _, i, _, _, _, _, _, h => by simp [fldAt] at h
  | l :: ls, cs, 0, off, ag, n, f, hp, h => by
    obtain ⟨c1, c2, rfl, h1, h2, h3, h4, h5⟩ := hp
    simp only [fldAt, Option.some.injEq, Prod.mk.injEq] at h
    obtain ⟨rfl, rfl⟩ := h
    have h1' : c1.length = n := h1
    exact ⟨c1, h1, h3, h4, by simp only [List.drop_zero]; rw [← h1', List.take_left]⟩
  | l :: ls, cs, i + 1, off, ag, n, f, hp, h => by
    obtain ⟨c1, c2, rfl, h1, h2, h3, h4, h5⟩ := hp
    simp only [fldAt, Option.map_eq_some_iff] at h
    obtain ⟨⟨o, x⟩, h6, h7⟩ := h
    simp only [Prod.mk.injEq] at h7
    obtain ⟨rfl, rfl⟩ := h7
    obtain ⟨c, k1, k2, k3, k4⟩ := FldRel.at ls c2 i o ag n f h5 h6
    refine ⟨c, k1, k2, k3, ?_⟩
    rw [show o + l.2.1 = c1.length + o by omega, List.drop_append, List.drop_of_length_le (by omega), List.nil_append, Nat.add_sub_cancel_left]
    exact k4

theorem Spec.field {x : Operand} {s ft : TypeId} {α : Type} [R : Rp α] {i off : Nat} {ls : Ls} {f : Fact} (hty : Ty X.P ft α) (hfs : ∃ fs fl, X.P.underlying s = some (.struct fs) ∧ fs[i]? = some fl ∧ fl.offset = off ∧ fl.type = ft)
    (hl : fldAt ls i = some (off, R.agg, R.n, f)) (hx : Has G x (.flds ls)) : Spec X G ⟨d, .field s x i, ty, pos, af, gd⟩ f :=
  Spec.pure fun a w g hfa => by
    obtain ⟨cs, hv, hr⟩ := hx a w g hfa
    obtain ⟨c, h1, h2, h3, h4⟩ := FldRel.at ls cs i off _ _ _ hr hl
    obtain ⟨fs, fl, k1, k2, k3, k4⟩ := hfs
    subst k3 k4
    refine ⟨mkV R.agg c, ?_, h3⟩
    unfold execOp
    simp only [hv, Instr.field, Sem.run_bind, run_underlying k1, Result.andThen_ok, k2, asAgg, Sem.run_pure, part, run_isAgg hty]
    cases hag : R.agg with
    | true =>
      simp only [if_true, Sem.run_bind, rt_sizeOf hty, Result.andThen_ok, Sem.run_pure, mkV, ← h4]
      congr 2
      simp [List.extract_eq_take_drop]
    | false =>
      have hn := R.na hag
      rw [hn] at h1 h4
      match c, h1 with
      | [u], _ =>
        have : cs[fl.offset]? = some u := by
          have := congrArg (fun l => l[0]?) h4
          simpa [List.getElem?_take, List.getElem?_drop] using this
        simp [this, mkV]
end
end GL
